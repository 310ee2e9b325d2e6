/- Own texts, merged: Base. -/
import Derived.Test.YtcldmpllpfojhaaDoorM0
import Derived.Calls
import Derived.Below
import Derived.Deep.Quiet
import Derived.OrdersHeld
import Derived.Laws.Tables
import Derived.KernelRfl
set_option linter.unusedVariables false
section
/- The ground of the walks: a weakest precondition that is computed from a function's code, with typed values, and its soundness over the model's own wp. No program is named here. -/
namespace Go.GX
open Go.RowKit

/-! ### Values by their kinds -/

structure Sl where
  a : Option Addr
  len : Nat
  cap : Nat

@[reducible] def Sl.v (s : Sl) : Value := .slice s.a s.len s.cap

inductive At where
  | int (k : IntKind) | bool | str | sl | ptr | mp | val

@[reducible] def At.T : At → Type
  | .int _ => Int
  | .bool => Bool
  | .str => ByteArray
  | .sl => Sl
  | .ptr => Addr
  | .mp => Nat
  | .val => Value

@[reducible] def At.v : (a : At) → a.T → Value
  | .int k, n => .int k n
  | .bool, b => .bool b
  | .str, s => .string s
  | .sl, s => .slice s.a s.len s.cap
  | .ptr, p => .pointer (some p)
  | .mp, r => .map (some r)
  | .val, v => v

def At.un : (a : At) → Value → Option a.T
  | .int k, .int k' n => match k, k' with
    | .i64, .i64 => some n
    | .u64, .u64 => some n
    | .u8, .u8 => some n
    | .i32, .i32 => some n
    | .u32, .u32 => some n
    | _, _ => none
  | .bool, .bool b => some b
  | .str, .string s => some s
  | .sl, .slice a l c => some ⟨a, l, c⟩
  | .ptr, .pointer (some p) => some p
  | .mp, .map (some r) => some r
  | .val, v => some v
  | _, _ => none

theorem At.v_un {a : At} {v : Value} {x : a.T} (h : a.un v = some x) : a.v x = v := by
  cases a with
  | int k => cases v <;> simp [At.un] at h; rename_i k' n; cases k <;> cases k' <;> simp at h <;> simp [At.v, h]
  | bool => cases v <;> simp [At.un] at h; simp [At.v, h]
  | str => cases v <;> simp [At.un] at h; simp [At.v, h]
  | sl => cases v <;> simp [At.un] at h; simp [At.v, ← h]
  | ptr =>
    cases v <;> simp [At.un] at h
    rename_i o; cases o <;> simp at h; simp [At.v, h]
  | mp =>
    cases v <;> simp [At.un] at h
    rename_i o; cases o <;> simp at h; simp [At.v, h]
  | val => simp [At.un] at h; simp [At.v, h]

@[reducible] def Cur (R : Type) : List At → Type
  | [] => R
  | a :: l => a.T → Cur R l

@[reducible] def cur {R : Type} : (l : List At) → (List Value → R) → Cur R l
  | [], K => K []
  | a :: l, K => fun x => cur l fun vs => K (a.v x :: vs)

def app {R : Type} (bot : R) : (l : List At) → Cur R l → List Value → R
  | [], K, [] => K
  | a :: l, K, v :: vs => match a.un v with
    | some x => app bot l (K x) vs
    | none => bot
  | _, _, _ => bot

theorem app_cur {l : List At} {K : List Value → Prop} {vs : List Value} (h : app False l (cur l K) vs) : K vs := by
  induction l generalizing vs K with
  | nil => cases vs with
    | nil => exact h
    | cons v vs => exact h.elim
  | cons a l ih =>
    cases vs with
    | nil => exact h.elim
    | cons v vs =>
      simp only [app] at h
      cases hu : a.un v with
      | none => rw [hu] at h; exact h.elim
      | some x =>
        rw [hu] at h
        have := ih h
        rwa [At.v_un hu] at this

def botW : World → Prop := fun _ => False

theorem app_curW {l : List At} {K : List Value → World → Prop} {vs : List Value} {w : World} (h : app botW l (cur l K) vs w) : K vs w := by
  induction l generalizing vs K with
  | nil => cases vs with
    | nil => exact h
    | cons v vs => exact h.elim
  | cons a l ih =>
    cases vs with
    | nil => exact h.elim
    | cons v vs =>
      simp only [app] at h
      cases hu : a.un v with
      | none => rw [hu] at h; exact h.elim
      | some x =>
        rw [hu] at h
        have := ih h
        rwa [At.v_un hu] at this

inductive Sh where
  | at (a : At)
  | agg (l : List At)

@[reducible] def Sh.ats : Sh → List At
  | .at a => [a]
  | .agg l => l

@[reducible] def Sh.mk : Sh → List Value → Value
  | .at _, v :: _ => v
  | .at _, [] => undef
  | .agg _, vs => .agg ⟨vs⟩

def Sh.cells : Sh → Value → Option (List Value)
  | .at _, v => some [v]
  | .agg _, .agg cs => some cs.toList
  | .agg _, _ => none

theorem Sh.mk_cells {s : Sh} {v : Value} {vs : List Value} (h : s.cells v = some vs) : s.mk vs = v := by
  cases s with
  | «at» a => simp [Sh.cells] at h; subst h; rfl
  | agg l => cases v <;> simp [Sh.cells] at h; subst h; rfl

@[reducible] def atsR : List Sh → List At
  | [] => []
  | s :: r => s.ats ++ atsR r

@[reducible] def mkL : List Sh → List Value → List Value
  | [], _ => []
  | s :: r, vs => s.mk (vs.take s.ats.length) :: mkL r (vs.drop s.ats.length)

@[reducible] def mkR : List Sh → List Value → Value
  | [s], vs => s.mk vs
  | r, vs => .tuple ⟨mkL r vs⟩

def unL : List Sh → List Value → Option (List Value)
  | [], [] => some []
  | s :: r, v :: vs => match s.cells v with
    | some cs => if cs.length = s.ats.length then (match unL r vs with
      | some ds => some (cs ++ ds)
      | none => none) else none
    | none => none
  | _, _ => none

def unR : List Sh → Value → Option (List Value)
  | [s], v => s.cells v
  | r, .tuple vs => unL r vs.toList
  | _, _ => none

theorem mkL_unL {r : List Sh} {vs cs : List Value} (h : unL r vs = some cs) : mkL r cs = vs := by
  induction r generalizing vs cs with
  | nil => cases vs with
    | nil => simp [unL] at h; subst h; rfl
    | cons _ _ => simp [unL] at h
  | cons s r ih =>
    cases vs with
    | nil => simp [unL] at h
    | cons v vs =>
      simp only [unL] at h
      cases hc : s.cells v with
      | none => simp [hc] at h
      | some as1 =>
        simp only [hc] at h
        by_cases hl : as1.length = s.ats.length
        · simp only [hl, if_true] at h
          cases hu : unL r vs with
          | none => simp [hu] at h
          | some ds =>
            simp only [hu, Option.some.injEq] at h
            subst h
            simp only [mkL]
            rw [List.take_append_of_le_length (by omega), List.take_of_length_le (by omega), List.drop_append_of_le_length (by omega), List.drop_of_length_le (by omega), List.nil_append, ih hu, Sh.mk_cells hc]
        · simp [hl] at h

theorem mkR_unR {r : List Sh} {v : Value} {cs : List Value} (h : unR r v = some cs) : mkR r cs = v := by
  match r, h with
  | [s], h => exact Sh.mk_cells (by simpa [unR] using h)
  | [], h => cases v <;> simp [unR] at h; rename_i vs; simp only [mkR]; rw [mkL_unL h]
  | s :: t :: r, h => cases v <;> simp [unR] at h; rename_i vs; simp only [mkR]; rw [mkL_unL h]

/-- What a call hands back, by kinds. -/
def Ret (rs : List Sh) (Q : Cur (World → Prop) (atsR rs)) : Ending → World → Prop
  | .returned v, w => match unR rs v with
    | some vs => app botW (atsR rs) Q vs w
    | none => False
  | _, _ => False

@[reducible] def CurLe : (l : List At) → Cur (World → Prop) l → Cur (World → Prop) l → Prop
  | [], Q, Q' => ∀ w, Q w → Q' w
  | _ :: l, Q, Q' => ∀ x, CurLe l (Q x) (Q' x)

theorem app_le {l : List At} {Q Q' : Cur (World → Prop) l} (h : CurLe l Q Q') {vs : List Value} {w : World} (hq : app botW l Q vs w) : app botW l Q' vs w := by
  induction l generalizing vs with
  | nil => cases vs with
    | nil => exact h w hq
    | cons _ _ => exact hq.elim
  | cons a l ih =>
    cases vs with
    | nil => exact hq.elim
    | cons v vs =>
      simp only [app] at hq ⊢
      cases hu : a.un v with
      | none => rw [hu] at hq; exact hq.elim
      | some x => rw [hu] at hq; exact ih (h x) hq

theorem call {P : Program} {f : FuncId} {args : Array Value} {w : World} {rs : List Sh} {Q Q' : Cur (World → Prop) (atsR rs)}
    (h : Calls P f args w (Ret rs Q)) (hk : CurLe (atsR rs) Q Q') : Calls P f args w (Ret rs Q') :=
  h.mono fun e w' hr => by
    cases e with
    | returned v =>
      simp only [Ret] at hr ⊢
      cases hu : unR rs v with
      | none => rw [hu] at hr; exact hr.elim
      | some vs => rw [hu] at hr; exact app_le hk hr
    | panicked _ => exact hr.elim
    | outgrown => exact hr.elim

abbrev Ext (w w' : World) : Prop := Below w.heap.size w w'

theorem Ext.refl (w : World) : Ext w w := Below.refl _ _
theorem Ext.trans {a b c : World} (h : Ext a b) (k : Ext b c) : Ext a c := Below.trans h (Below.mono k h.size)
theorem Ext.drawn {a b : World} (h : Ext a b) (n : Nat) : Ext a { b with drawn := n } := ⟨h.os, h.tape, h.output, h.size, h.block⟩

theorem Below.ext {n : Nat} {a b c : World} (h : Below n a b) (k : Ext b c) (hn : n ≤ a.heap.size) : Below n a c :=
  Below.trans h (Below.mono k (Nat.le_trans hn h.size))

/-- Of the blocks that were there only those in D may have changed. -/
structure Chg (w w' : World) (D : Nat → Prop) : Prop where
  os : w'.os = w.os
  tape : w'.tape = w.tape
  output : w'.output = w.output
  size : w.heap.size ≤ w'.heap.size
  block : ∀ k, k < w.heap.size → ¬ D k → w'.heap[k]? = w.heap[k]?

theorem Chg.refl (w : World) (D : Nat → Prop) : Chg w w D := ⟨rfl, rfl, rfl, Nat.le_refl _, fun _ _ _ => rfl⟩
/-! ### The single operations -/

def runV (P : Program) (s : Sem Value) (w : World) (K : Value → World → Prop) : Prop :=
  match s.run P w with
  | .ok v w' => K v w'
  | .halt _ _ => False

/-- A load: the cells that lie at an address. -/
def LD (l : List At) (a : Addr) (w : World) (K : Cur Prop l) : Prop :=
  ∃ cs : List Value, cs.length = l.length ∧ (∀ i v, cs[i]? = some v → w.cell? (a.add i) = some v) ∧ app False l K cs

/-- A store, cell by cell. -/
def ST (a : Addr) : Nat → List Value → World → (World → Prop) → Prop
  | _, [], w, K => K w
  | i, v :: r, w, K => v.oneCell' = true ∧ (∃ old, w.cell? (a.add i) = some old) ∧ w.frozen? (a.add i) = false ∧ ST a (i + 1) r (w.setCell (a.add i) v) K

/-- A new variable. -/
def NEW (t : TypeId) (cs : Array Value) (w : World) (K : Addr → World → Prop) : Prop :=
  K ⟨w.heap.size, 0, none⟩ { w with heap := w.heap.push (.cells cs t) }

/-- The address of an element. -/
def IX (s : Sl) (i : Int) (size : Nat) (K : Addr → Prop) : Prop :=
  ∃ a, s.a = some a ∧ 0 ≤ i ∧ i < s.len ∧ K (a.add (i.toNat * size))

/-- A byte of a string. -/
def SIX (s : ByteArray) (i : Int) (K : Int → Prop) : Prop := 0 ≤ i ∧ ∃ b, s.data.toList[i.toNat]? = some b ∧ K b.toNat

/-- A slice of a slice. -/
def SLC (s : Sl) (lo hi : Option Int) (size : Nat) (K : Sl → Prop) : Prop :=
  0 ≤ lo.getD 0 ∧ lo.getD 0 ≤ hi.getD s.len ∧ hi.getD s.len ≤ s.cap ∧
    K ⟨if s.cap = (lo.getD 0).toNat then s.a else s.a.map (·.add ((lo.getD 0).toNat * size)), (hi.getD s.len).toNat - (lo.getD 0).toNat, s.cap - (lo.getD 0).toNat⟩

/-- An operation of the model that hands back a value of a kind and may make memory. -/
def RUN (P : Program) (s : Sh) (x : Sem Value) (w : World) (K : Cur (World → Prop) s.ats) : Prop :=
  match x.run P w with
  | .ok v w' => (match s.cells v with
    | some cs => app botW s.ats K cs w'
    | none => False)
  | .halt _ _ => False

/-- .. that hands back several values. -/
def RUNR (P : Program) (rs : List Sh) (x : Sem Value) (w : World) (K : Cur (World → Prop) (atsR rs)) : Prop :=
  match x.run P w with
  | .ok v w' => (match unR rs v with
    | some cs => app botW (atsR rs) K cs w'
    | none => False)
  | .halt _ _ => False

/-- Two values of one struct type held against each other: whatever the world. -/
def AEQ (P : Program) (x : Sem Value) (K : Bool → Prop) : Prop := ∃ b, (∀ w, x.run P w = .ok (.bool b) w) ∧ K b

/-- Can this function be entered? -/
def callable (P : Program) (g : FuncId) : Bool :=
  match P.funcs[g]? with
  | some fn => fn.body.isSome && !(fn.name == "runtime.NumGoroutine")
  | none => false

/-- A call of a function value. -/
def CALLV (P : Program) (f : Value) (args : Array Value) (w : World) (R : Ending → World → Prop) : Prop :=
  ∃ g caps, f = .func (.func g) #[] ⟨caps⟩ ∧ callable P g = true ∧ Calls P g ⟨args.toList ++ caps⟩ w R

/-- A call in a region whose order is open: it hands back the same whenever it is made. -/
def QCALL (P : Program) (f : FuncId) (args : Array Value) (w : World) (rs : List Sh) (K : Cur Prop (atsR rs)) : Prop :=
  ∃ v vs, unR rs v = some vs ∧ (∀ w', Ext w w' → Calls P f args w' fun e w'' => e = .returned v ∧ Ext w' w'') ∧ app False (atsR rs) K vs

/-! ### Frames -/

abbrev Fr := Nat → Value

def ev (f : Fr) : Operand → Value
  | .tmp t => f t
  | .const v => v
  | .global g => .pointer (some ⟨g, 0, none⟩)
  | .func k => .func (.func k) #[] #[]

def st (f : Fr) (d : Nat) (v : Value) : Fr := fun t => bif Nat.beq t d then v else f t

def put (f : Fr) : Option Nat → Value → Fr
  | some d, v => st f d v
  | none, _ => f

abbrev Hint := TypeId → List Sh

def one : List Sh → Sh
  | s :: _ => s
  | [] => .at .val


def fieldOff (P : Program) (s : TypeId) (i : Nat) : Option Nat :=
  match P.underlying s with
  | some (.struct fs) => match fs.toList[i]? with
    | some f => match P.info? f.type with
      | some inf => bif Nat.beq inf.size 0 then none else some f.offset
      | none => none
    | none => none
  | _ => none

def elemSize (P : Program) (t : TypeId) : Option Nat :=
  match P.underlying t with
  | some (.slice e) => match P.info? e with
    | some inf => some inf.size
    | none => none
  | _ => none

def zeroCells (P : Program) (t : TypeId) : Option (Array Value) :=
  match P.info? t with
  | some inf => match inf.zero with
    | some z => some z.cells
    | none => none
  | none => none

def okShape (P : Program) (t : TypeId) (s : Sh) : Bool :=
  match P.underlying t, P.info? t, s with
  | some (.struct _), some i, .agg l => Nat.beq i.size l.length
  | some (.array _ _), some i, .agg l => Nat.beq i.size l.length
  | some (.struct _), some _, .at _ => false
  | some (.array _ _), some _, .at _ => false
  | some _, some _, .at _ => true
  | _, _, _ => false

def sizeIs (P : Program) (t : TypeId) (n : Nat) : Bool :=
  match P.info? t with
  | some i => Nat.beq n i.size
  | none => false

def isIfaceT (P : Program) (t : TypeId) : Bool := match P.underlying t with | some (.interface _) => true | none => true | _ => false
def isBoolT (P : Program) (t : TypeId) : Bool := match P.underlying t with | some .bool => true | _ => false
def isSliceT (P : Program) (t : TypeId) : Bool := match P.underlying t with | some (.slice _) => true | _ => false
def isStringT (P : Program) (t : TypeId) : Bool := match P.underlying t with | some .string => true | _ => false
def intKindT (P : Program) (t : TypeId) : Option IntKind := match P.underlying t with | some (.int k) => some k | _ => none

/-- Operations on digits. -/
def bitAnd (k : IntKind) (x y : Int) : Int := k.wrap (BitVec.ofInt k.bits x &&& BitVec.ofInt k.bits y).toNat
def bitOr (k : IntKind) (x y : Int) : Int := k.wrap (BitVec.ofInt k.bits x ||| BitVec.ofInt k.bits y).toNat
def bitXor (k : IntKind) (x y : Int) : Int := k.wrap (BitVec.ofInt k.bits x ^^^ BitVec.ofInt k.bits y).toNat
def bitAndNot (k : IntKind) (x y : Int) : Int := k.wrap (BitVec.ofInt k.bits x &&& ~~~BitVec.ofInt k.bits y).toNat
def shlI (k : IntKind) (x y : Int) : Int := k.wrap (x * 2 ^ (min y.toNat k.bits))
def shrI (k : IntKind) (x y : Int) : Int := x.fdiv (2 ^ (min y.toNat k.bits))
def ltS (a b : ByteArray) : Bool := Op.bytesLess a.toList b.toList
def kindEq (k k' : IntKind) : Bool := decide (k = k')

/-- Two operands, an operator. -/
def binC (P : Program) (op : BinOp) (t : TypeId) (ox oy : Operand) (x y : Value) (K : Value → Prop) (fb : Prop) : Prop :=
  match x, y with
  | .int .i64 a, .int .i64 b => match op with
    | .add => K (.int .i64 (IntKind.i64.wrap (a + b)))
    | .sub => K (.int .i64 (IntKind.i64.wrap (a - b)))
    | .mul => K (.int .i64 (IntKind.i64.wrap (a * b)))
    | .quo => b ≠ 0 ∧ K (.int .i64 (IntKind.i64.wrap (a.tdiv b)))
    | .rem => b ≠ 0 ∧ K (.int .i64 (a.tmod b))
    | .eql => K (.bool (a == b))
    | .neq => K (.bool (a != b))
    | .lss => K (.bool (decide (a < b)))
    | .leq => K (.bool (decide (a ≤ b)))
    | .gtr => K (.bool (decide (a > b)))
    | .geq => K (.bool (decide (a ≥ b)))
    | .and => K (.int .i64 (bitAnd .i64 a b))
    | .or => K (.int .i64 (bitOr .i64 a b))
    | .xor => K (.int .i64 (bitXor .i64 a b))
    | .andNot => K (.int .i64 (bitAndNot .i64 a b))
    | .shl => 0 ≤ b ∧ K (.int .i64 (shlI .i64 a b))
    | .shr => 0 ≤ b ∧ K (.int .i64 (shrI .i64 a b))
  | .int k a, .int k' b => match op with
    | .shl => 0 ≤ b ∧ K (.int k (shlI k a b))
    | .shr => 0 ≤ b ∧ K (.int k (shrI k a b))
    | .add => bif kindEq k k' then K (.int k (k.wrap (a + b))) else False
    | .sub => bif kindEq k k' then K (.int k (k.wrap (a - b))) else False
    | .mul => bif kindEq k k' then K (.int k (k.wrap (a * b))) else False
    | .quo => bif kindEq k k' then b ≠ 0 ∧ K (.int k (k.wrap (a.tdiv b))) else False
    | .rem => bif kindEq k k' then b ≠ 0 ∧ K (.int k (a.tmod b)) else False
    | .eql => bif kindEq k k' then K (.bool (a == b)) else False
    | .neq => bif kindEq k k' then K (.bool (a != b)) else False
    | .lss => bif kindEq k k' then K (.bool (decide (a < b))) else False
    | .leq => bif kindEq k k' then K (.bool (decide (a ≤ b))) else False
    | .gtr => bif kindEq k k' then K (.bool (decide (a > b))) else False
    | .geq => bif kindEq k k' then K (.bool (decide (a ≥ b))) else False
    | .and => bif kindEq k k' then K (.int k (bitAnd k a b)) else False
    | .or => bif kindEq k k' then K (.int k (bitOr k a b)) else False
    | .xor => bif kindEq k k' then K (.int k (bitXor k a b)) else False
    | .andNot => bif kindEq k k' then K (.int k (bitAndNot k a b)) else False
  | .bool a, .bool b => bif isBoolT P t then (match op with
    | .eql => K (.bool (a == b))
    | .neq => K (.bool (!(a == b)))
    | _ => False) else False
  | .agg _, .agg _ => AEQ P (do eqGuard op t ox oy x y; binOp op t x y) fun b => K (.bool b)
  | .slice a _ _, .slice none _ _ => bif isSliceT P t then (match op with
    | .eql => K (.bool a.isNone)
    | .neq => K (.bool (!a.isNone))
    | _ => False) else False
  | .string a, .string b => match op with
    | .eql => K (.bool (a.toList == b.toList))
    | .neq => K (.bool (!(a.toList == b.toList)))
    | .add => a.size + b.size ≤ 9223372036854775807 ∧ K (.string (a ++ b))
    | .lss => K (.bool (ltS a b))
    | .leq => K (.bool (ltS a b || a.toList == b.toList))
    | .gtr => K (.bool (!(ltS a b || a.toList == b.toList)))
    | .geq => K (.bool (!ltS a b))
    | _ => fb
  | _, _ => fb

/-- Two operands, an operator; a value held against a nil interface is asked of the model. -/
def binY (P : Program) (op : BinOp) (t : TypeId) (ox oy : Operand) (x y : Value) (K : Value → Prop) (fb : Prop) : Prop :=
  match oy with
  | .const .nilIface => AEQ P (do eqGuard op t ox (.const .nilIface) x y; binOp op t x y) fun b => K (.bool b)
  | oy => binC P op t ox oy x y K fb

def callC (P : Program) (rs : List Sh) (f : Fr) (g : Operand) (args : Array Value) (w : World) (K : Value → World → Prop) : Prop :=
  match g with
  | .func k => bif callable P k then Calls P k args w (Ret rs (cur (atsR rs) fun vs => K (mkR rs vs))) else False
  | g => CALLV P (ev f g) args w (Ret rs (cur (atsR rs) fun vs => K (mkR rs vs)))

def bsem (b : Builtin) (argTypes : Array TypeId) (type : TypeId) (args : Array Value) : Sem Value :=
  match b with
  | .append => Builtin.append_ argTypes type args
  | .cap => Builtin.cap_ argTypes type args
  | .clear => Builtin.clear_ argTypes type args
  | .copy => Builtin.copy_ argTypes type args
  | .delete => Builtin.delete_ argTypes type args
  | .len => Builtin.len_ argTypes type args
  | .max => Builtin.max_ argTypes type args
  | .min => Builtin.min_ argTypes type args
  | _ => stuck ""

def lenC (P : Program) (hint : Hint) (argTypes : Array TypeId) (type : TypeId) (args : Array Value) (w : World) (K : Value → World → Prop) : Prop :=
  match argTypes.toList, args.toList with
  | [t], [.slice _ n _] => bif isSliceT P t then K (.int .i64 n) w else False
  | [t], [.string s] => bif isStringT P t then K (.int .i64 s.size) w else False
  | _, _ => RUN P (one (hint type)) (bsem .len argTypes type args) w (cur _ fun vs => K ((one (hint type)).mk vs))

def optInt : Option Value → Option (Option Int)
  | none => some none
  | some (.int _ n) => some (some n)
  | some _ => none

/-- One operation. -/
def opC (P : Program) (hint : Hint) (o : Oper) (f : Fr) (w : World) (K : Value → World → Prop) : Prop :=
  match o.op with
  | .move x => K (ev f x) w
  | .assign x => K (ev f x) w
  | .pick c a b => match ev f c with
    | .bool t => cond t (K (ev f a) w) (K (ev f b) w)
    | _ => False
  | .load t x => match ev f x with
    | .pointer (some a) => bif okShape P t (one (hint t)) then LD (one (hint t)).ats a w (cur _ fun vs => K ((one (hint t)).mk vs) w) else False
    | _ => False
  | .store t x y => match ev f x with
    | .pointer (some a) => bif sizeIs P t (ev f y).cells.size then ST a 0 (ev f y).cells.toList w (K undef) else False
    | _ => False
  | .alloc t => match zeroCells P t with
    | some cs => NEW t cs w fun p w' => K (.pointer (some p)) w'
    | none => False
  | .box t x => NEW t (ev f x).cells w fun p w' => K (.pointer (some p)) w'
  | .build t parts => match P.built t (parts.toList.map fun q => (q.1, ev f q.2)) with
    | some cs => K (.agg cs) w
    | none => False
  | .buildSlice t n parts => RUN P (.at .sl) (Instr.buildSlice t n ⟨parts.toList.map fun q => (q.1, ev f q.2)⟩) w fun s w' => K s.v w'
  | .binOp op t x y _ => binY P op t x y (ev f x) (ev f y) (fun v => K v w) (runV P (do eqGuard op t x y (ev f x) (ev f y); binOp op t (ev f x) (ev f y)) w K)
  | .unOp op _ x => match op, ev f x with
    | .not, .bool b => K (.bool (!b)) w
    | .neg, .int k n => K (.int k (k.wrap (0 - n))) w
    | op, v => runV P (Op.unary op v) w K
  | .convert src dst x => match ev f x, intKindT P src, intKindT P dst with
    | .int _ n, some _, some k => K (.int k (k.wrap n)) w
    | v, _, _ => RUN P (one (hint dst)) (convert src dst v) w (cur _ fun vs => K ((one (hint dst)).mk vs))
  | .makeFunc fn first captured => K (.func fn ⟨first.toList.map (ev f)⟩ ⟨captured.toList.map (ev f)⟩) w
  | .makeInterface t x => bif isIfaceT P t then False else K (.iface t (ev f x)) w
  | .makeMap t r => RUN P (.at .mp) (Instr.makeMap t (r.map (ev f))) w fun m w' => K (.map (some m)) w'
  | .makeSlice t l c => RUN P (.at .sl) (Instr.makeSlice t (ev f l) (ev f c)) w fun s w' => K s.v w'
  | .slice t x lo hi mx => match ev f x, elemSize P t, optInt (lo.map (ev f)), optInt (hi.map (ev f)), mx with
    | .slice a l c, some size, some lo, some hi, none => SLC ⟨a, l, c⟩ lo hi size fun s => K s.v w
    | v, _, _, _, _ => RUN P (one (hint o.type)) (Instr.sliceAt t v (lo.map (ev f)) (hi.map (ev f)) (mx.map (ev f))) w (cur _ fun vs => K ((one (hint o.type)).mk vs))
  | .fieldAddr s x i => match fieldOff P s i, ev f x with
    | some off, .pointer (some p) => K (.pointer (some (p.add off))) w
    | _, _ => False
  | .field t x i => runV P (Instr.field t (ev f x) i) w K
  | .indexAddr t x i => match elemSize P t, ev f x, ev f i with
    | some size, .slice a l c, .int _ n => IX ⟨a, l, c⟩ n size fun p => K (.pointer (some p)) w
    | _, v, j => RUN P (.at .ptr) (Instr.indexAt t v j) w fun p w' => K (.pointer (some p)) w'
  | .index t x i => match isStringT P t, ev f x, ev f i with
    | true, .string s, .int _ n => SIX s n fun b => K (.int .u8 b) w
    | _, v, j => RUN P (one (hint o.type)) (Instr.index t v j) w (cur _ fun vs => K ((one (hint o.type)).mk vs))
  | .lookup t x i ok => match hint o.type with
    | [a, b] => RUNR P [a, b] (Instr.lookup t (ev f x) (ev f i) ok) w (cur _ fun vs => K (mkR [a, b] vs))
    | r => RUN P (one r) (Instr.lookup t (ev f x) (ev f i) ok) w (cur _ fun vs => K ((one r).mk vs))
  | .mapUpdate t m k x => RUN P (.at .val) (do Instr.mapUpdate t (ev f m) (ev f k) (ev f x); pure undef) w fun v w' => K v w'
  | .insert t m k x => RUN P (.at .val) (do Instr.mapUpdate t (ev f m) (ev f k) (ev f x); pure undef) w fun v w' => K v w'
  | .extract t i => match ev f t with
    | .tuple vs => match vs.toList[i]? with
      | some v => K v w
      | none => False
    | _ => False
  | .nilCheck x => match ev f x with
    | .pointer (some p) => K (.pointer (some p)) w
    | _ => False
  | .call c => match c.callee with
    | .value g => callC P (hint o.type) f g ⟨c.args.toList.map (ev f)⟩ w K
    | .builtin .len => lenC P hint c.argTypes o.type ⟨c.args.toList.map (ev f)⟩ w K
    | .builtin b => RUN P (one (hint o.type)) (bsem b c.argTypes o.type ⟨c.args.toList.map (ev f)⟩) w (cur _ fun vs => K ((one (hint o.type)).mk vs))
    | _ => False
  | _ => False

/-! ### Soundness of one operation -/

theorem runV_next {P : Program} {s : Sem Value} {w : World} {K : Value → World → Prop} (h : runV P s w K) : ∃ v w', s.run P w = .ok v w' ∧ K v w' := by
  unfold runV at h
  cases hr : s.run P w with
  | ok v w' => rw [hr] at h; exact ⟨v, w', rfl, h⟩
  | halt _ _ => rw [hr] at h; exact h.elim

theorem RUN_next {P : Program} {s : Sh} {x : Sem Value} {w : World} {K : List Value → World → Prop} (h : RUN P s x w (cur s.ats K)) : ∃ v w', x.run P w = .ok v w' ∧ ∃ vs, s.mk vs = v ∧ K vs w' := by
  unfold RUN at h
  cases hr : x.run P w with
  | ok v w' =>
    rw [hr] at h
    simp only at h
    cases hc : s.cells v with
    | none => rw [hc] at h; exact h.elim
    | some cs => rw [hc] at h; exact ⟨v, w', rfl, cs, Sh.mk_cells hc, app_curW h⟩
  | halt _ _ => rw [hr] at h; exact h.elim

theorem RUNR_next {P : Program} {rs : List Sh} {x : Sem Value} {w : World} {K : List Value → World → Prop} (h : RUNR P rs x w (cur (atsR rs) K)) : ∃ v w', x.run P w = .ok v w' ∧ ∃ vs, mkR rs vs = v ∧ K vs w' := by
  unfold RUNR at h
  cases hr : x.run P w with
  | ok v w' =>
    rw [hr] at h
    simp only at h
    cases hc : unR rs v with
    | none => rw [hc] at h; exact h.elim
    | some cs => rw [hc] at h; exact ⟨v, w', rfl, cs, mkR_unR hc, app_curW h⟩
  | halt _ _ => rw [hr] at h; exact h.elim

theorem underlying_run {P : Program} {t : TypeId} {d : TypeDesc} (h : P.underlying t = some d) (w : World) : (underlying t).run P w = .ok d w := by
  simp [underlying, program, Sem.run, h]

theorem sizeOf_run {P : Program} {t : TypeId} {i : TypeInfo} (h : P.info? t = some i) (w : World) : (sizeOf t).run P w = .ok i.size w := by
  simp [sizeOf, typeInfo, program, Sem.run, h]

theorem loadCellsFrom_run {P : Program} (a : Addr) (w : World) : ∀ (cs : List Value) (i : Nat) (acc : Array Value), (∀ j v, cs[j]? = some v → w.cell? (a.add (i + j)) = some v) →
    (loadCellsFrom a i cs.length acc).run P w = .ok (acc ++ ⟨cs⟩) w
  | [], i, acc, _ => by simp [loadCellsFrom]
  | c :: cs, i, acc, h => by
    have h0 := h 0 c rfl
    have ih := loadCellsFrom_run (P := P) a w cs (i + 1) (acc.push c) (fun j v hj => by have := h (j + 1) v (by simpa using hj); rwa [show i + 1 + j = i + (j + 1) by omega])
    simp only [Nat.add_zero] at h0
    simp only [List.length_cons, loadCellsFrom, Sem.run_bind, load, Sem.run, h0, Result.andThen_ok, ih]
    congr 1
    apply Array.ext'; simp

theorem load_run {P : Program} {t : TypeId} {s : Sh} (ho : okShape P t s = true) {a : Addr} {w : World} {cs : List Value} (hl : cs.length = s.ats.length)
    (hc : ∀ i v, cs[i]? = some v → w.cell? (a.add i) = some v) : (Instr.loadAt t (.pointer (some a))).run P w = .ok (s.mk cs) w := by
  unfold okShape at ho
  cases hu : P.underlying t with
  | none => simp [hu] at ho
  | some d =>
    cases hi : P.info? t with
    | none => rw [hu, hi] at ho; cases d <;> simp at ho
    | some inf =>
      rw [hu, hi] at ho
      have hcells : ∀ n, n = cs.length → (loadCells a n).run P w = .ok ⟨cs⟩ w := by
        rintro n rfl
        have := loadCellsFrom_run (P := P) a w cs 0 #[] (fun j v hj => by simpa using hc j v hj)
        simpa [loadCells] using this
      have hone : (∀ x, isAgg t = x → x = isAgg t) := fun _ h => h.symm
      cases s with
      | «at» at0 =>
        obtain ⟨v, rfl⟩ : ∃ v, cs = [v] := by
          match cs, hl with
          | [v], _ => exact ⟨v, rfl⟩
        have h0 := hc 0 v rfl
        simp only [Addr.add, if_true] at h0
        have hag : (isAgg t).run P w = .ok false w := by
          cases d <;> simp at ho <;> simp [isAgg, underlying_run hu]
        simp [Instr.loadAt, Instr.sureAddr, loadVar, hag, load, Sem.run, h0, Sh.mk]
      | agg l =>
        have hag : (isAgg t).run P w = .ok true w := by
          cases d <;> simp at ho <;> simp [isAgg, underlying_run hu]
        have hn : inf.size = cs.length := by
          cases d <;> simp at ho <;> (rw [hl]; exact ho)
        simp [Instr.loadAt, Instr.sureAddr, loadVar, hag, sizeOf_run hi, hcells _ hn, Sh.mk]

theorem ST_run {P : Program} {a : Addr} : ∀ {vs : List Value} {i : Nat} {w : World} {K : World → Prop}, ST a i vs w K → ∃ w', (storeCells a vs i).run P w = .ok () w' ∧ K w'
  | [], i, w, K, h => ⟨w, rfl, h⟩
  | v :: r, i, w, K, ⟨h1, ⟨old, h2⟩, h3, h4⟩ => by
    obtain ⟨w', hr, hk⟩ := ST_run (P := P) h4
    refine ⟨w', ?_, hk⟩
    simp only [storeCells, Sem.run_bind]
    rw [run_store P w _ v _ h1, h2]
    simp [h3, hr]

/-- What one operation comes to: a value and a world. -/
def Gives (P : Program) (o : Oper) (f : Fr) (w : World) (K : Value → World → Prop) : Prop :=
  (∃ v w', (execOp (ev f) o).run P w = .ok (.value v) w' ∧ K v w') ∨
  (∃ w', (execOp (ev f) o).run P w = .ok .skip w' ∧ K undef w') ∨
  (∃ g args, (execOp (ev f) o).run P w = .ok (.enter g args) w ∧ Calls P g args w fun e w' => ∃ v, e = .returned v ∧ K v w')

theorem gives_of_run {P : Program} {o : Oper} {f : Fr} {w : World} {K : Value → World → Prop} {s : Sem Value} {v : Value} {w' : World}
    (ho : execOp (ev f) o = (do pure (.value (← s)))) (hr : s.run P w = .ok v w') (hk : K v w') : Gives P o f w K :=
  .inl ⟨v, w', by rw [ho]; simp [hr], hk⟩

theorem Ret_of {rs : List Sh} {K : Value → World → Prop} {e : Ending} {w : World} (h : Ret rs (cur (atsR rs) fun vs => K (mkR rs vs)) e w) : ∃ v, e = .returned v ∧ K v w := by
  cases e with
  | returned v =>
    refine ⟨v, rfl, ?_⟩
    simp only [Ret] at h
    cases hu : unR rs v with
    | none => rw [hu] at h; exact h.elim
    | some vs =>
      rw [hu] at h
      have := app_curW h
      rwa [mkR_unR hu] at this
  | panicked _ => exact h.elim
  | outgrown => exact h.elim

theorem callable_spec {P : Program} {g : FuncId} (h : callable P g = true) : ∃ fn, P.funcs[g]? = some fn ∧ fn.body.isSome = true ∧ (fn.name == "runtime.NumGoroutine") = false := by
  unfold callable at h
  cases hf : P.funcs[g]? with
  | none => rw [hf] at h; cases h
  | some fn => rw [hf] at h; simp only [Bool.and_eq_true, Bool.not_eq_true'] at h; exact ⟨fn, rfl, h⟩

theorem run_callFunc {P : Program} {g : FuncId} (h : callable P g = true) (args : Array Value) (w : World) : (callFunc g args).run P w = .ok (.enter g args) w := by
  obtain ⟨fn, hf, hb, hn⟩ := callable_spec h
  have hb' : fn.body.isNone = false := by cases hx : fn.body <;> simp [hx] at hb ⊢
  have hn' : ¬ fn.name = "runtime.NumGoroutine" := by simpa using hn
  have hb2 : ¬ fn.body = none := by intro hx; simp [hx] at hb'
  simp [callFunc, program, Sem.run, hf, hn', hb2]

theorem arr_map {α β : Type} (a : Array α) (f : α → β) : a.map f = ⟨a.toList.map f⟩ := by
  apply Array.ext'; simp


theorem callC_gives {P : Program} {hint : Hint} {o : Oper} {f : Fr} {w : World} {K : Value → World → Prop} {c : Call} {g : Operand} (ho : o.op = .call c) (hc : c.callee = .value g)
    (h : callC P (hint o.type) f g ⟨c.args.toList.map (ev f)⟩ w K) : Gives P o f w K := by
  have key : ∀ (k : FuncId) (caps : List Value), ev f g = .func (.func k) #[] ⟨caps⟩ → callable P k = true → Calls P k ⟨(c.args.toList.map (ev f)) ++ caps⟩ w (Ret (hint o.type) (cur (atsR (hint o.type)) fun vs => K (mkR (hint o.type) vs))) → Gives P o f w K := by
    intro k caps hv hk hcall
    refine .inr (.inr ⟨k, ⟨(c.args.toList.map (ev f)) ++ caps⟩, ?_, hcall.mono fun e w' hr => Ret_of hr⟩)
    have ha : (c.args.map (ev f)) ++ (⟨caps⟩ : Array Value) = ⟨(c.args.toList.map (ev f)) ++ caps⟩ := by apply Array.ext'; simp
    simp [execOp, ho, resolve, hc, hv, Deferred.ofValue, invoke, run_callFunc hk, ha]
  unfold callC at h
  split at h
  · rename_i k
    cases hk : callable P k with
    | false => rw [hk] at h; exact h.elim
    | true => rw [hk] at h; exact key k [] rfl hk (by simpa using h)
  · obtain ⟨k, caps, hv, hk, hcall⟩ := h
    exact key k caps hv hk hcall

theorem optInt_spec {o : Option Value} {r : Option Int} (h : optInt o = some r) : (o = none ∧ r = none) ∨ ∃ k n, o = some (.int k n) ∧ r = some n := by
  unfold optInt at h
  split at h
  · left; simp at h; exact ⟨rfl, h.symm⟩
  · rename_i k n; right; simp at h; exact ⟨k, n, rfl, h.symm⟩
  · cases h

theorem slice_run {P : Program} {t e : TypeId} {inf : TypeInfo} (hu : P.underlying t = some (.slice e)) (hinf : P.info? e = some inf) {s : Sl} {vlo vhi : Option Value} {lo hi : Option Int}
    (hlo : optInt vlo = some lo) (hhi : optInt vhi = some hi) {w : World} {K : Sl → Prop} (h : SLC s lo hi inf.size K) :
    ∃ s' : Sl, (Instr.sliceAt t s.v vlo vhi none).run P w = .ok s'.v w ∧ K s' := by
  obtain ⟨h1, h2, h3, h4⟩ := h
  refine ⟨_, ?_, h4⟩
  have hsz : (sizeOf e).run P w = .ok inf.size w := sizeOf_run hinf w
  simp only [Instr.sliceAt, Sem.run_bind, underlying_run hu, Result.andThen_ok, Instr.slice, Instr.sliceBounds]
  rcases optInt_spec hlo with ⟨rfl, rfl⟩ | ⟨k, n, rfl, rfl⟩ <;> rcases optInt_spec hhi with ⟨rfl, rfl⟩ | ⟨k', m, rfl, rfl⟩
  · simp [hsz]
  · simp at h1 h2 h3
    have e1 : (0 ≤ m ∧ m ≤ (s.cap : Int)) := ⟨h2, h3⟩
    simp [hsz, Instr.sliceBound, asIntOf, e1.1, e1.2]
  · simp at h1 h2 h3
    have : n.toNat ≤ s.len := by omega
    simp [hsz, Instr.sliceBound, asIntOf, h1, h2]
  · simp at h1 h2 h3
    have e1 : 0 ≤ m := by omega
    have e2 : (n : Int) ≤ (m.toNat : Int) := by omega
    simp [hsz, Instr.sliceBound, asIntOf, h1, h2, h3, e1, Int.max_eq_left e1]

theorem run_equalIn_bool {P : Program} {t : TypeId} (hu : P.underlying t = some .bool) (d : Nat) (a b : Bool) (w : World) : (Op.equalIn (d + 1) t (.bool a) (.bool b)).run P w = .ok (a == b) w := by
  simp [Op.equalIn, underlying_run hu]

theorem run_equalIn_slice {P : Program} {t e : TypeId} (hu : P.underlying t = some (.slice e)) (d : Nat) (a : Option Addr) (l c l' c' : Nat) (w : World) : (Op.equalIn (d + 1) t (.slice a l c) (.slice none l' c')).run P w = .ok a.isNone w := by
  cases a <;> simp [Op.equalIn, underlying_run hu]

theorem run_eqGuard_int {P : Program} (op : BinOp) (t : TypeId) (ox oy : Operand) (a b : Int) (w : World) : (eqGuard op t ox oy (.int .i64 a) (.int .i64 b)).run P w = .ok () w := by cases op <;> rfl
theorem run_eqGuard_bool {P : Program} (op : BinOp) (t : TypeId) (ox oy : Operand) (a b : Bool) (w : World) : (eqGuard op t ox oy (.bool a) (.bool b)).run P w = .ok () w := by cases op <;> rfl
theorem run_eqGuard_slice {P : Program} (op : BinOp) (t : TypeId) (ox oy : Operand) (a b : Option Addr) (l c l' c' : Nat) (w : World) : (eqGuard op t ox oy (.slice a l c) (.slice b l' c')).run P w = .ok () w := by cases op <;> rfl
theorem run_eqGuard_string {P : Program} (op : BinOp) (t : TypeId) (ox oy : Operand) (a b : ByteArray) (w : World) : (eqGuard op t ox oy (.string a) (.string b)).run P w = .ok () w := by cases op <;> rfl

theorem isBoolT_spec {P : Program} {t : TypeId} (h : isBoolT P t = true) : P.underlying t = some .bool := by
  unfold isBoolT at h
  cases hh : P.underlying t with
  | none => simp [hh] at h
  | some d => cases d <;> simp [hh] at h; rfl

theorem isSliceT_spec {P : Program} {t : TypeId} (h : isSliceT P t = true) : ∃ e, P.underlying t = some (.slice e) := by
  unfold isSliceT at h
  cases hh : P.underlying t with
  | none => simp [hh] at h
  | some d => cases d <;> simp [hh] at h; exact ⟨_, rfl⟩

theorem isStringT_spec {P : Program} {t : TypeId} (h : isStringT P t = true) : P.underlying t = some .string := by
  unfold isStringT at h
  cases hh : P.underlying t with
  | none => simp [hh] at h
  | some d => cases d <;> simp [hh] at h; rfl

theorem binC_run {P : Program} {op : BinOp} {t : TypeId} {ox oy : Operand} {x y : Value} {K : Value → Prop} {fb : Prop} (h : binC P op t ox oy x y K fb) :
    (∃ v, (∀ w, ((do eqGuard op t ox oy x y; binOp op t x y) : Sem Value).run P w = .ok v w) ∧ K v) ∨ fb := by
  unfold binC at h
  split at h
  · rename_i a b
    have hg : ∀ w, (eqGuard op t ox oy (.int .i64 a) (.int .i64 b)).run P w = .ok () w := fun w => run_eqGuard_int _ _ _ _ _ _ _
    have hb : ∀ v, (∀ w, (binOp op t (.int .i64 a) (.int .i64 b)).run P w = .ok v w) → K v → (∃ v, (∀ w, ((do eqGuard op t ox oy (.int .i64 a) (.int .i64 b); binOp op t (.int .i64 a) (.int .i64 b)) : Sem Value).run P w = .ok v w) ∧ K v) ∨ fb :=
      fun v h1 h2 => .inl ⟨v, fun w => by simp [hg, h1], h2⟩
    cases op with
    | add => exact hb _ (fun _ => by simp [binOp, Op.intArith]) h
    | sub => exact hb _ (fun _ => by simp [binOp, Op.intArith]) h
    | mul => exact hb _ (fun _ => by simp [binOp, Op.intArith]) h
    | quo => exact hb _ (fun _ => by simp [binOp, Op.intDiv, h.1]) h.2
    | rem => exact hb _ (fun _ => by simp [binOp, Op.intDiv, h.1]) h.2
    | eql => exact hb _ (fun _ => by simp [binOp, Op.intCmp]) h
    | neq => exact hb _ (fun _ => by simp [binOp, Op.intCmp]) h
    | lss => exact hb _ (fun _ => by simp [binOp, Op.intCmp]) h
    | leq => exact hb _ (fun _ => by simp [binOp, Op.intCmp]) h
    | gtr => exact hb _ (fun _ => by simp [binOp, Op.intCmp]) h
    | geq => exact hb _ (fun _ => by simp [binOp, Op.intCmp]) h
    | and => exact hb _ (fun _ => by simp [binOp, Op.intBits, bitAnd]) h
    | or => exact hb _ (fun _ => by simp [binOp, Op.intBits, bitOr]) h
    | xor => exact hb _ (fun _ => by simp [binOp, Op.intBits, bitXor]) h
    | andNot => exact hb _ (fun _ => by simp [binOp, Op.intBits, bitAndNot]) h
    | shl => exact hb _ (fun _ => by simp [binOp, Op.shift, shlI, Int.not_lt.2 h.1]) h.2
    | shr => exact hb _ (fun _ => by simp [binOp, Op.shift, shrI, Int.not_lt.2 h.1]) h.2
  · rename_i k a k' b _
    have hg : ∀ w, (eqGuard op t ox oy (.int k a) (.int k' b)).run P w = .ok () w := fun w => by cases op <;> rfl
    have hb : ∀ v, (∀ w, (binOp op t (.int k a) (.int k' b)).run P w = .ok v w) → K v → (∃ v, (∀ w, ((do eqGuard op t ox oy (.int k a) (.int k' b); binOp op t (.int k a) (.int k' b)) : Sem Value).run P w = .ok v w) ∧ K v) ∨ fb :=
      fun v h1 h2 => .inl ⟨v, fun w => by simp [hg, h1], h2⟩
    by_cases hk : k = k'
    · subst hk
      simp only [kindEq, decide_true, cond_true] at h
      cases op with
      | add => exact hb _ (fun _ => by simp [binOp, Op.intArith]) h
      | sub => exact hb _ (fun _ => by simp [binOp, Op.intArith]) h
      | mul => exact hb _ (fun _ => by simp [binOp, Op.intArith]) h
      | quo => exact hb _ (fun _ => by simp [binOp, Op.intDiv, h.1]) h.2
      | rem => exact hb _ (fun _ => by simp [binOp, Op.intDiv, h.1]) h.2
      | eql => exact hb _ (fun _ => by simp [binOp, Op.intCmp]) h
      | neq => exact hb _ (fun _ => by simp [binOp, Op.intCmp]) h
      | lss => exact hb _ (fun _ => by simp [binOp, Op.intCmp]) h
      | leq => exact hb _ (fun _ => by simp [binOp, Op.intCmp]) h
      | gtr => exact hb _ (fun _ => by simp [binOp, Op.intCmp]) h
      | geq => exact hb _ (fun _ => by simp [binOp, Op.intCmp]) h
      | and => exact hb _ (fun _ => by simp [binOp, Op.intBits, bitAnd]) h
      | or => exact hb _ (fun _ => by simp [binOp, Op.intBits, bitOr]) h
      | xor => exact hb _ (fun _ => by simp [binOp, Op.intBits, bitXor]) h
      | andNot => exact hb _ (fun _ => by simp [binOp, Op.intBits, bitAndNot]) h
      | shl => exact hb _ (fun _ => by simp [binOp, Op.shift, shlI, Int.not_lt.2 h.1]) h.2
      | shr => exact hb _ (fun _ => by simp [binOp, Op.shift, shrI, Int.not_lt.2 h.1]) h.2
    · have hk' : kindEq k k' = false := by simp [kindEq, hk]
      simp only [hk', cond_false] at h
      cases op with
      | shl => exact hb _ (fun _ => by simp [binOp, Op.shift, shlI, Int.not_lt.2 h.1]) h.2
      | shr => exact hb _ (fun _ => by simp [binOp, Op.shift, shrI, Int.not_lt.2 h.1]) h.2
      | _ => exact h.elim
  · rename_i a b
    have hg : ∀ w, (eqGuard op t ox oy (.bool a) (.bool b)).run P w = .ok () w := fun w => run_eqGuard_bool _ _ _ _ _ _ _
    cases hbt : isBoolT P t with
    | false => simp [hbt] at h
    | true =>
      have hu := isBoolT_spec hbt
      simp only [hbt, cond_true] at h
      have he : ∀ w, (Op.equal t (.bool a) (.bool b)).run P w = .ok (a == b) w := fun w => run_equalIn_bool hu 9999 a b w
      cases op with
      | eql => exact .inl ⟨_, fun w => by simp [hg, binOp, he], h⟩
      | neq => exact .inl ⟨_, fun w => by simp [hg, binOp, he], h⟩
      | _ => exact h.elim
  · obtain ⟨b, h1, h2⟩ := h; exact .inl ⟨_, h1, h2⟩
  · rename_i a l c l' c'
    have hg : ∀ w, (eqGuard op t ox oy (.slice a l c) (.slice none l' c')).run P w = .ok () w := fun w => run_eqGuard_slice _ _ _ _ _ _ _ _ _ _ _
    cases hbt : isSliceT P t with
    | false => simp [hbt] at h
    | true =>
      obtain ⟨e, hu⟩ := isSliceT_spec hbt
      simp only [hbt, cond_true] at h
      have he : ∀ w, (Op.equal t (.slice a l c) (.slice none l' c')).run P w = .ok a.isNone w := fun w => run_equalIn_slice hu 9999 a l c l' c' w
      cases op with
      | eql => exact .inl ⟨_, fun w => by simp [hg, binOp, he], h⟩
      | neq => exact .inl ⟨_, fun w => by simp [hg, binOp, he], h⟩
      | _ => exact h.elim
  · rename_i a b
    have hg : ∀ w, (eqGuard op t ox oy (.string a) (.string b)).run P w = .ok () w := fun w => run_eqGuard_string _ _ _ _ _ _ _
    cases op with
    | eql => exact .inl ⟨_, fun w => by simp only [Sem.run_bind, hg, Result.andThen_ok]; rfl, h⟩
    | neq => exact .inl ⟨_, fun w => by simp only [Sem.run_bind, hg, Result.andThen_ok]; rfl, h⟩
    | add =>
      refine .inl ⟨_, fun w => ?_, h.2⟩
      have h1 : ¬ (((a.size + b.size : Nat) : Int) > IntKind.i64.max) := by
        have e : IntKind.i64.max = 9223372036854775807 := by decide
        rw [e]; omega
      simp only [Sem.run_bind, hg, Result.andThen_ok, binOp, Op.stringOp, if_neg h1]; rfl
    | lss => exact .inl ⟨_, fun w => by simp only [Sem.run_bind, hg, Result.andThen_ok]; rfl, h⟩
    | leq => exact .inl ⟨_, fun w => by simp only [Sem.run_bind, hg, Result.andThen_ok]; rfl, h⟩
    | gtr => exact .inl ⟨_, fun w => by simp only [Sem.run_bind, hg, Result.andThen_ok]; rfl, h⟩
    | geq => exact .inl ⟨_, fun w => by simp only [Sem.run_bind, hg, Result.andThen_ok]; rfl, h⟩
    | _ => exact .inr h
  · exact .inr h

theorem binY_run {P : Program} {op : BinOp} {t : TypeId} {ox oy : Operand} {x y : Value} {K : Value → Prop} {fb : Prop} (h : binY P op t ox oy x y K fb) :
    (∃ v, (∀ w, ((do eqGuard op t ox oy x y; binOp op t x y) : Sem Value).run P w = .ok v w) ∧ K v) ∨ fb := by
  unfold binY at h
  split at h
  · obtain ⟨b, h1, h2⟩ := h
    exact .inl ⟨_, h1, h2⟩
  · exact binC_run h

theorem opC_gives {P : Program} {hint : Hint} {o : Oper} {f : Fr} {w : World} {K : Value → World → Prop} (h : opC P hint o f w K) : Gives P o f w K := by
  unfold opC at h
  cases ho : o.op with
  | move x => simp only [ho] at h; exact .inl ⟨_, w, by simp [execOp, ho], h⟩
  | assign x => simp only [ho] at h; exact .inl ⟨_, w, by simp [execOp, ho], h⟩
  | pick c a b =>
    simp only [ho] at h
    cases hv : ev f c with
    | bool t => simp only [hv] at h; exact .inl ⟨if t then ev f a else ev f b, w, by simp [execOp, ho, hv, asBool], by cases t <;> exact h⟩
    | _ => simp [hv] at h
  | load t x =>
    simp only [ho] at h
    split at h
    · rename_i a hx
      cases hs : okShape P t (one (hint t)) with
      | false => simp [hs] at h
      | true =>
        simp only [hs, cond_true] at h
        obtain ⟨cs, hl, hc, hk⟩ := h
        exact gives_of_run (s := Instr.loadAt t (ev f x)) (by simp [execOp, ho]) (by rw [hx]; exact load_run hs hl hc) (app_cur hk)
    · exact h.elim
  | store t x y =>
    simp only [ho] at h
    split at h
    · rename_i a hx
      cases hs : sizeIs P t (ev f y).cells.size with
      | false => simp [hs] at h
      | true =>
        simp only [hs, cond_true] at h
        obtain ⟨w', hr, hk⟩ := ST_run (P := P) h
        have hz : ∃ inf, P.info? t = some inf ∧ (ev f y).cells.size = inf.size := by
          unfold sizeIs at hs
          cases hi : P.info? t with
          | none => simp [hi] at hs
          | some inf => rw [hi] at hs; exact ⟨inf, rfl, by simpa using hs⟩
        obtain ⟨inf, hi, hz⟩ := hz
        refine .inr (.inl ⟨w', ?_, hk⟩)
        simp [execOp, ho, Instr.storeAt, Instr.sureAddr, hx, storeVar, sizeOf_run hi, hz, hr]
    · exact h.elim
  | alloc t =>
    simp only [ho, zeroCells] at h
    cases hi : P.info? t with
    | none => simp [hi] at h
    | some inf =>
      cases hz : inf.zero with
      | none => simp [hi, hz] at h
      | some z =>
        simp only [hi, hz, NEW] at h
        exact gives_of_run (s := Instr.alloc t true (.tuple #[])) (by simp [execOp, ho]) (by simp [Instr.alloc, zeroValue, typeInfo, program, Sem.run, hi, hz, newVar, newRow, newObj]) h
  | box t x =>
    simp only [ho, NEW] at h
    exact gives_of_run (s := Instr.box t (ev f x)) (by simp [execOp, ho]) (by simp [Instr.box, newVar, newRow, newObj, Sem.run]) h
  | build t parts =>
    simp only [ho] at h
    cases hb : P.built t (parts.toList.map fun q => (q.1, ev f q.2)) with
    | none => simp [hb] at h
    | some cs =>
      simp only [hb] at h
      exact gives_of_run (s := Instr.build t (parts.map fun (i, x) => (i, ev f x))) (by simp [execOp, ho]) (run_build w t _ cs (by rw [← hb]; congr 1; simp)) h
  | buildSlice t n parts =>
    simp only [ho] at h
    obtain ⟨v, w', hr, vs, hv, hk⟩ := RUN_next (K := fun vs w' => K ((Sh.at At.sl).mk vs) w') (s := .at .sl) h
    simp only [hv] at hk
    exact gives_of_run (s := Instr.buildSlice t n (parts.map fun (i, x) => (i, ev f x))) (by simp [execOp, ho]) (by rw [arr_map]; exact hr) hk
  | binOp op t x y yt =>
    simp only [ho] at h
    rcases binY_run h with ⟨v, h1, h2⟩ | h
    · exact gives_of_run (s := do eqGuard op t x y (ev f x) (ev f y); binOp op t (ev f x) (ev f y)) (by simp [execOp, ho]) (h1 w) h2
    · obtain ⟨v, w', h1, h2⟩ := runV_next h
      exact gives_of_run (s := do eqGuard op t x y (ev f x) (ev f y); binOp op t (ev f x) (ev f y)) (by simp [execOp, ho]) h1 h2
  | unOp op t x =>
    simp only [ho] at h
    have hd : ∀ v w', (Op.unary op (ev f x)).run P w = .ok v w' → K v w' → Gives P o f w K := fun v w' hr hk => gives_of_run (s := Op.unary op (ev f x)) (by simp [execOp, ho]) hr hk
    split at h
    · rename_i b hx; rw [hx] at hd; exact hd _ _ (by simp [Op.unary]) h
    · rename_i k n hx; rw [hx] at hd; exact hd _ _ (by simp [Op.unary, Op.intArith]) h
    · obtain ⟨v, w', h1, h2⟩ := runV_next h; exact hd v w' h1 h2
  | convert src dst x =>
    simp only [ho] at h
    have hd : ∀ v w', (convert src dst (ev f x)).run P w = .ok v w' → K v w' → Gives P o f w K := fun v w' hr hk => gives_of_run (s := convert src dst (ev f x)) (by simp [execOp, ho]) hr hk
    split at h
    · rename_i k0 n k1 k hx hs hdst
      have hus : ∃ d, P.underlying src = some d := by
        unfold intKindT at hs
        cases hh : P.underlying src with
        | none => simp [hh] at hs
        | some d => exact ⟨d, rfl⟩
      obtain ⟨d, hus⟩ := hus
      have hud : P.underlying dst = some (.int k) := by
        unfold intKindT at hdst
        cases hh : P.underlying dst with
        | none => simp [hh] at hdst
        | some d => cases d <;> simp [hh] at hdst; subst hdst; rfl
      rw [hx] at hd
      exact hd _ _ (by simp [convert, underlying_run hus, underlying_run hud, Conv.intToInt]) h
    · obtain ⟨v, w', h1, vs, rfl, h2⟩ := RUN_next h; exact hd _ w' h1 h2
  | makeFunc fn first captured =>
    simp only [ho] at h
    exact gives_of_run (s := Instr.makeFunc fn (first.map (ev f)) (captured.map (ev f))) (by simp [execOp, ho]) (by simp [Instr.makeFunc, arr_map]) h
  | makeInterface t x =>
    simp only [ho] at h
    cases hi : isIfaceT P t with
    | true => simp [hi] at h
    | false =>
      simp only [hi, cond_false] at h
      refine gives_of_run (s := Instr.makeInterface t (ev f x)) (by simp [execOp, ho]) ?_ h
      unfold isIfaceT at hi
      cases hu : P.underlying t with
      | none => simp [hu] at hi
      | some d => cases d <;> simp [hu] at hi <;> simp [Instr.makeInterface, underlying_run hu]
  | makeMap t r =>
    simp only [ho] at h
    obtain ⟨v, w', hr, vs, hv, hk⟩ := RUN_next (K := fun vs w' => K ((Sh.at At.mp).mk vs) w') (s := .at .mp) h
    simp only [hv] at hk
    exact gives_of_run (s := Instr.makeMap t (r.map (ev f))) (by simp [execOp, ho]) hr hk
  | makeSlice t l c =>
    simp only [ho] at h
    obtain ⟨v, w', hr, vs, hv, hk⟩ := RUN_next (K := fun vs w' => K ((Sh.at At.sl).mk vs) w') (s := .at .sl) h
    simp only [hv] at hk
    exact gives_of_run (s := Instr.makeSlice t (ev f l) (ev f c)) (by simp [execOp, ho]) hr hk
  | slice t x lo hi mx =>
    simp only [ho] at h
    have hd : ∀ v w', (Instr.sliceAt t (ev f x) (lo.map (ev f)) (hi.map (ev f)) (mx.map (ev f))).run P w = .ok v w' → K v w' → Gives P o f w K := fun v w' hr hk =>
      gives_of_run (s := Instr.sliceAt t (ev f x) (lo.map (ev f)) (hi.map (ev f)) (mx.map (ev f))) (by simp [execOp, ho]) hr hk
    split at h
    · rename_i a l c size lo' hi' hx hsz hlo hhi
      unfold elemSize at hsz
      cases hu : P.underlying t with
      | none => simp [hu] at hsz
      | some d =>
        cases d with
        | slice e =>
          cases hi : P.info? e with
          | none => simp [hu, hi] at hsz
          | some inf =>
            simp only [hu, hi, Option.some.injEq] at hsz
            subst hsz
            obtain ⟨s', h1, h2⟩ := slice_run hu hi hlo hhi (w := w) h
            rw [hx] at hd
            exact hd _ _ h1 h2
        | _ => simp [hu] at hsz
    · obtain ⟨v, w', h1, vs, rfl, h2⟩ := RUN_next h; exact hd _ w' h1 h2
  | fieldAddr s x i =>
    simp only [ho] at h
    split at h
    · rename_i off p hoff hx
      unfold fieldOff at hoff
      cases hu : P.underlying s with
      | none => simp [hu] at hoff
      | some d =>
        cases d with
        | struct fs =>
          simp only [hu] at hoff
          cases hf : fs.toList[i]? with
          | none => simp [hf] at hoff
          | some fl =>
            simp only [hf] at hoff
            cases hi : P.info? fl.type with
            | none => simp [hi] at hoff
            | some inf =>
              simp only [hi] at hoff
              cases hz : Nat.beq inf.size 0 with
              | true => simp [hz] at hoff
              | false =>
                simp only [hz, cond_false, Option.some.injEq] at hoff
                subst hoff
                have hz' : inf.size ≠ 0 := by intro hh; rw [hh] at hz; simp at hz
                have hf' : fs[i]? = some fl := by rw [← hf]; simp
                exact gives_of_run (s := Instr.fieldAt s (ev f x) i) (by simp [execOp, ho]) (by simp [Instr.fieldAt, underlying_run hu, hf', hx, Instr.sureAddr, fieldPlace, sizeOf_run hi, hz']) h
        | _ => simp [hu] at hoff
    · exact h.elim
  | field t x i =>
    simp only [ho] at h
    obtain ⟨v, w', h1, h2⟩ := runV_next h
    exact gives_of_run (s := Instr.field t (ev f x) i) (by simp [execOp, ho]) h1 h2
  | indexAddr t x i =>
    simp only [ho] at h
    have hd : ∀ v w', (Instr.indexAt t (ev f x) (ev f i)).run P w = .ok v w' → K v w' → Gives P o f w K := fun v w' hr hk => gives_of_run (s := Instr.indexAt t (ev f x) (ev f i)) (by simp [execOp, ho]) hr hk
    split at h
    · rename_i size a l c k n hsz hx hi
      unfold elemSize at hsz
      cases hu : P.underlying t with
      | none => simp [hu] at hsz
      | some d =>
        cases d with
        | slice e =>
          cases hie : P.info? e with
          | none => simp [hu, hie] at hsz
          | some inf =>
            simp only [hu, hie, Option.some.injEq] at hsz
            subst hsz
            obtain ⟨b, hb, h1, h2, h3⟩ := h
            simp only at hb
            subst hb
            rw [hx, hi] at hd
            exact hd _ _ (by simp [Instr.indexAt, asIntOf, underlying_run hu, h1, h2, sizeOf_run hie]) h3
        | _ => simp [hu] at hsz
    · obtain ⟨v, w', h1, vs, hv, h2⟩ := RUN_next (K := fun vs w' => K ((Sh.at At.ptr).mk vs) w') (s := .at .ptr) h
      simp only [hv] at h2
      exact hd _ w' h1 h2
  | index t x i =>
    simp only [ho] at h
    split at h
    · rename_i s k n hst hx hi
      obtain ⟨h0, b, hb, hk⟩ := h
      have hu := isStringT_spec hst
      have hb' : s[n.toNat]? = some b := by
        obtain ⟨hlt, he⟩ := List.getElem?_eq_some_iff.1 hb
        have hlt' : n.toNat < s.size := by rw [Array.length_toList] at hlt; exact hlt
        rw [getElem?_pos s n.toNat hlt']
        exact congrArg some he
      exact gives_of_run (s := Instr.index t (ev f x) (ev f i)) (by simp [execOp, ho]) (by simp [Instr.index, hx, hi, asIntOf, underlying_run hu, h0, hb']) hk
    obtain ⟨v, w', h1, vs, rfl, h2⟩ := RUN_next h
    exact gives_of_run (s := Instr.index t (ev f x) (ev f i)) (by simp [execOp, ho]) h1 h2
  | lookup t x i ok =>
    simp only [ho] at h
    split at h
    · obtain ⟨v, w', h1, vs, rfl, h2⟩ := RUNR_next h
      exact gives_of_run (s := Instr.lookup t (ev f x) (ev f i) ok) (by simp [execOp, ho]) h1 h2
    obtain ⟨v, w', h1, vs, rfl, h2⟩ := RUN_next h
    exact gives_of_run (s := Instr.lookup t (ev f x) (ev f i) ok) (by simp [execOp, ho]) h1 h2
  | mapUpdate t m k x =>
    simp only [ho] at h
    obtain ⟨v, w', h1, vs, hv, h2⟩ := RUN_next (K := fun vs w' => K ((Sh.at At.val).mk vs) w') (s := .at .val) h
    simp only [hv] at h2
    simp only [Sem.run_bind] at h1
    cases hr : (Instr.mapUpdate t (ev f m) (ev f k) (ev f x)).run P w with
    | halt _ _ => simp [hr] at h1
    | ok u w1 =>
      simp [hr] at h1
      obtain ⟨rfl, rfl⟩ := h1
      exact .inr (.inl ⟨w1, by simp [execOp, ho, hr], h2⟩)
  | insert t m k x =>
    simp only [ho] at h
    obtain ⟨v, w', h1, vs, hv, h2⟩ := RUN_next (K := fun vs w' => K ((Sh.at At.val).mk vs) w') (s := .at .val) h
    simp only [hv] at h2
    simp only [Sem.run_bind] at h1
    cases hr : (Instr.mapUpdate t (ev f m) (ev f k) (ev f x)).run P w with
    | halt _ _ => simp [hr] at h1
    | ok u w1 =>
      simp [hr] at h1
      obtain ⟨rfl, rfl⟩ := h1
      exact .inr (.inl ⟨w1, by simp [execOp, ho, hr], h2⟩)
  | extract t i =>
    simp only [ho] at h
    cases hv : ev f t with
    | tuple vs =>
      simp only [hv] at h
      cases hx : vs.toList[i]? with
      | none => simp [hx] at h
      | some v =>
        simp only [hx] at h
        have hx' : vs[i]? = some v := by rw [← hx]; simp
        exact gives_of_run (s := Instr.extract (ev f t) i) (by simp [execOp, ho]) (by simp [Instr.extract, hv, hx']) h
    | _ => simp [hv] at h
  | nilCheck x =>
    simp only [ho] at h
    split at h
    · rename_i p hx; exact .inl ⟨_, w, by simp [execOp, ho, hx], h⟩
    · exact h.elim
  | call c =>
    simp only [ho] at h
    have hbl : ∀ b v w', c.callee = .builtin b → (∀ ct, builtin b c.argTypes o.type ct (c.args.map (ev f)) = (do pure (.value (← bsem b c.argTypes o.type (c.args.map (ev f)))))) → (bsem b c.argTypes o.type (c.args.map (ev f))).run P w = .ok v w' → K v w' → Gives P o f w K := by
      intro b v w' hc hb hr hk
      exact .inl ⟨v, w', by simp [execOp, ho, resolve, hc, invoke, hb, hr], hk⟩
    split at h
    · rename_i g hc; exact callC_gives ho hc h
    · rename_i hc
      unfold lenC at h
      split at h
      · rename_i t a n cp hat hag
        cases hs : isSliceT P t with
        | false => simp [hs] at h
        | true =>
          obtain ⟨e, hu⟩ : ∃ e, P.underlying t = some (.slice e) := by
            unfold isSliceT at hs
            cases hh : P.underlying t with
            | none => simp [hh] at hs
            | some d => cases d <;> simp [hh] at hs; exact ⟨_, rfl⟩
          simp only [hs, cond_true] at h
          have ha : c.argTypes = #[t] := by apply Array.ext'; simpa using hat
          refine hbl .len _ w hc (fun _ => rfl) ?_ h
          rw [show c.args.map (ev f) = #[_] from Array.ext' (by simpa using hag), ha]
          simp [bsem, Builtin.len_, underlying_run hu, goInt]
      · rename_i t s hat hag
        cases hs : isStringT P t with
        | false => simp [hs] at h
        | true =>
          have hu : P.underlying t = some .string := by
            unfold isStringT at hs
            cases hh : P.underlying t with
            | none => simp [hh] at hs
            | some d => cases d <;> simp [hh] at hs; rfl
          simp only [hs, cond_true] at h
          have ha : c.argTypes = #[t] := by apply Array.ext'; simpa using hat
          refine hbl .len _ w hc (fun _ => rfl) ?_ h
          rw [show c.args.map (ev f) = #[_] from Array.ext' (by simpa using hag), ha]
          simp [bsem, Builtin.len_, underlying_run hu, goInt]
      · obtain ⟨v, w', h1, vs, rfl, h2⟩ := RUN_next h
        exact hbl .len _ w' hc (fun _ => rfl) (by rw [arr_map]; exact h1) h2
    · rename_i b _ hc
      obtain ⟨v, w', h1, vs, rfl, h2⟩ := RUN_next h
      refine hbl b _ w' hc ?_ (by rw [arr_map]; exact h1) h2
      intro ct
      cases b <;> first | rfl | (exfalso; simp [bsem, stuck] at h1)
    · exact h.elim
  | _ => simp [ho] at h


/-! ### Regions -/

def slotOf (all : List Oper) (j : Nat) : Option Nat := match all[j]? with
  | some o => o.dst
  | none => none

def same : Bool → Bool → Bool
  | true, b => b
  | false, true => false
  | false, false => true

def opsC (P : Program) (hint : Hint) (all : List Oper) : List Oper → Fr → World → (Fr → World → Prop) → Prop
  | [], f, w, K => K f w
  | o :: rest, f, w, K => match o.guard with
    | none => opC P hint o f w fun v w' => opsC P hint all rest (put f o.dst v) w' K
    | some (j, want) => match slotOf all j with
      | none => False
      | some d => match f d with
        | .bool b => cond b
          (cond (same true want) (opC P hint o (st f d (.bool true)) w fun v w' => opsC P hint all rest (put (st f d (.bool true)) o.dst v) w' K) (opsC P hint all rest (put (st f d (.bool true)) o.dst undef) w K))
          (cond (same false want) (opC P hint o (st f d (.bool false)) w fun v w' => opsC P hint all rest (put (st f d (.bool false)) o.dst v) w' K) (opsC P hint all rest (put (st f d (.bool false)) o.dst undef) w K))
        | _ => opsC P hint all rest (put f o.dst undef) w K

/-- One operation of a region whose order is open. -/
def opQ (P : Program) (hint : Hint) (o : Oper) (f : Fr) (w : World) (K : Value → Prop) : Prop :=
  match o.op with
  | .move x => K (ev f x)
  | .assign x => K (ev f x)
  | .pick c a b => match ev f c with
    | .bool t => cond t (K (ev f a)) (K (ev f b))
    | _ => False
  | .load t x => match ev f x with
    | .pointer (some a) => bif okShape P t (one (hint t)) then LD (one (hint t)).ats a w (cur _ fun vs => K ((one (hint t)).mk vs)) else False
    | _ => False
  | .build t parts => match P.built t (parts.toList.map fun q => (q.1, ev f q.2)) with
    | some cs => K (.agg cs)
    | none => False
  | .binOp op t x y _ => binY P op t x y (ev f x) (ev f y) K False
  | .unOp op _ x => match op, ev f x with
    | .not, .bool b => K (.bool (!b))
    | .neg, .int k n => K (.int k (k.wrap (0 - n)))
    | _, _ => False
  | .makeFunc fn first captured => K (.func fn ⟨first.toList.map (ev f)⟩ ⟨captured.toList.map (ev f)⟩)
  | .slice t x lo hi mx => match ev f x, elemSize P t, optInt (lo.map (ev f)), optInt (hi.map (ev f)), mx with
    | .slice a l c, some size, some lo, some hi, none => SLC ⟨a, l, c⟩ lo hi size fun s => K s.v
    | _, _, _, _, _ => False
  | .fieldAddr s x i => match fieldOff P s i, ev f x with
    | some off, .pointer (some p) => K (.pointer (some (p.add off)))
    | _, _ => False
  | .indexAddr t x i => match elemSize P t, ev f x, ev f i with
    | some size, .slice a l c, .int _ n => IX ⟨a, l, c⟩ n size fun p => K (.pointer (some p))
    | _, _, _ => False
  | .index t x i => match isStringT P t, ev f x, ev f i with
    | true, .string s, .int _ n => SIX s n fun b => K (.int .u8 b)
    | _, _, _ => False
  | .extract t i => match ev f t with
    | .tuple vs => match vs.toList[i]? with
      | some v => K v
      | none => False
    | _ => False
  | .nilCheck x => match ev f x with
    | .pointer (some p) => K (.pointer (some p))
    | _ => False
  | .call c => match c.callee with
    | .value (.func k) => bif callable P k then QCALL P k ⟨c.args.toList.map (ev f)⟩ w (hint o.type) (cur _ fun vs => K (mkR (hint o.type) vs)) else False
    | .builtin .len => match c.argTypes.toList, c.args.toList.map (ev f) with
      | [t], [.slice _ n _] => bif isSliceT P t then K (.int .i64 n) else False
      | [t], [.string s] => bif isStringT P t then K (.int .i64 s.size) else False
      | _, _ => False
    | _ => False
  | _ => False

def opsQ (P : Program) (hint : Hint) (all : List Oper) (w : World) : List Oper → Fr → (Fr → Prop) → Prop
  | [], f, K => K f
  | o :: rest, f, K => match o.guard with
    | none => opQ P hint o f w fun v => opsQ P hint all w rest (put f o.dst v) K
    | some (j, want) => match slotOf all j with
      | none => False
      | some d => match f d with
        | .bool b => cond b
          (cond (same true want) (opQ P hint o (st f d (.bool true)) w fun v => opsQ P hint all w rest (put (st f d (.bool true)) o.dst v) K) (opsQ P hint all w rest (put (st f d (.bool true)) o.dst undef) K))
          (cond (same false want) (opQ P hint o (st f d (.bool false)) w fun v => opsQ P hint all w rest (put (st f d (.bool false)) o.dst v) K) (opsQ P hint all w rest (put (st f d (.bool false)) o.dst undef) K))
        | _ => opsQ P hint all w rest (put f o.dst undef) K

/-- What an operation of such a region comes to: one value, in every world that goes on from this one. -/
def GivesQ (P : Program) (o : Oper) (f : Fr) (w : World) (K : Value → Prop) : Prop :=
  (∃ v, (∀ w', Ext w w' → (execOp (ev f) o).run P w' = .ok (.value v) w') ∧ K v) ∨
  (∃ v g args, (∀ w', Ext w w' → (execOp (ev f) o).run P w' = .ok (.enter g args) w' ∧ Calls P g args w' fun e w'' => e = .returned v ∧ Ext w' w'') ∧ K v)

theorem Ext.cell {w w' : World} (h : Ext w w') {p : Addr} {v : Value} (hc : w.cell? p = some v) : w'.cell? p = some v := by
  have hp : p.block < w.heap.size := by
    unfold World.cell? at hc
    cases hh : w.heap[p.block]? with
    | none => rw [hh] at hc; cases hc
    | some o => exact (Array.getElem?_eq_some_iff.1 hh).1
  rw [Below.cell h hp]; exact hc

theorem opQ_gives {P : Program} {hint : Hint} {o : Oper} {f : Fr} {w : World} {K : Value → Prop} (h : opQ P hint o f w K) : GivesQ P o f w K := by
  unfold opQ at h
  cases ho : o.op with
  | move x => simp only [ho] at h; exact .inl ⟨_, fun w' _ => by simp [execOp, ho], h⟩
  | assign x => simp only [ho] at h; exact .inl ⟨_, fun w' _ => by simp [execOp, ho], h⟩
  | pick c a b =>
    simp only [ho] at h
    cases hv : ev f c with
    | bool t => simp only [hv] at h; exact .inl ⟨if t then ev f a else ev f b, fun w' _ => by simp [execOp, ho, hv, asBool], by cases t <;> exact h⟩
    | _ => simp [hv] at h
  | load t x =>
    simp only [ho] at h
    split at h
    · rename_i a hx
      cases hs : okShape P t (one (hint t)) with
      | false => simp [hs] at h
      | true =>
        simp only [hs, cond_true] at h
        obtain ⟨cs, hl, hc, hk⟩ := h
        refine .inl ⟨(one (hint t)).mk cs, fun w' hw => ?_, app_cur hk⟩
        simp [execOp, ho, hx, load_run hs hl (fun i v hi => hw.cell (hc i v hi))]
    · exact h.elim
  | build t parts =>
    simp only [ho] at h
    cases hb : P.built t (parts.toList.map fun q => (q.1, ev f q.2)) with
    | none => simp [hb] at h
    | some cs =>
      simp only [hb] at h
      refine .inl ⟨_, fun w' _ => ?_, h⟩
      have := run_build (P := P) w' t (parts.map fun (i, x) => (i, ev f x)) cs (by rw [← hb]; congr 1; simp)
      simp [execOp, ho, this]
  | binOp op t x y yt =>
    simp only [ho] at h
    rcases binY_run h with ⟨v, h1, h2⟩ | h
    · refine .inl ⟨v, fun w' _ => ?_, h2⟩
      have := h1 w'
      simp only [execOp, ho]
      rw [Sem.run_bind, this]; rfl
    · exact h.elim
  | unOp op t x =>
    simp only [ho] at h
    split at h
    · rename_i b hx; exact .inl ⟨_, fun w' _ => by simp [execOp, ho, hx, Op.unary], h⟩
    · rename_i k n hx; exact .inl ⟨_, fun w' _ => by simp [execOp, ho, hx, Op.unary, Op.intArith], h⟩
    · exact h.elim
  | makeFunc fn first captured =>
    simp only [ho] at h
    exact .inl ⟨_, fun w' _ => by simp [execOp, ho, Instr.makeFunc, arr_map], h⟩
  | slice t x lo hi mx =>
    simp only [ho] at h
    split at h
    · rename_i a l c size lo' hi' hx hsz hlo hhi
      unfold elemSize at hsz
      cases hu : P.underlying t with
      | none => simp [hu] at hsz
      | some d =>
        cases d with
        | slice e =>
          cases hi : P.info? e with
          | none => simp [hu, hi] at hsz
          | some inf =>
            simp only [hu, hi, Option.some.injEq] at hsz
            subst hsz
            obtain ⟨h1, h2, h3, h4⟩ := h
            refine .inl ⟨_, fun w' _ => ?_, h4⟩
            obtain ⟨s', hr, rfl⟩ := slice_run (K := fun s' => s' = _) hu hi hlo hhi (w := w') ⟨h1, h2, h3, rfl⟩
            simp [execOp, ho, hx, hr]
        | _ => simp [hu] at hsz
    · exact h.elim
  | fieldAddr s x i =>
    simp only [ho] at h
    split at h
    · rename_i off p hoff hx
      have hc : ∀ w' (K' : Value → World → Prop), K' (.pointer (some (p.add off))) w' → opC P hint o f w' K' := fun w' K' hk => by unfold opC; simp only [ho, hoff, hx]; exact hk
      refine .inl ⟨_, fun w' _ => ?_, h⟩
      rcases opC_gives (hc w' (fun v u => v = .pointer (some (p.add off)) ∧ u = w') ⟨rfl, rfl⟩) with ⟨u, w2, h1, rfl, rfl⟩ | ⟨w2, h1, h2⟩ | ⟨g, args, h1, _⟩
      · exact h1
      · cases h2.1
      · simp only [execOp, ho] at h1
        rw [Sem.run_bind] at h1
        cases hq : (Instr.fieldAt s (ev f x) i).run P w' with
        | ok v w3 => rw [hq] at h1; cases h1
        | halt _ _ => rw [hq] at h1; cases h1
    · exact h.elim
  | indexAddr t x i =>
    simp only [ho] at h
    split at h
    · rename_i size a l c k n hsz hx hi
      unfold elemSize at hsz
      cases hu : P.underlying t with
      | none => simp [hu] at hsz
      | some d =>
        cases d with
        | slice e =>
          cases hie : P.info? e with
          | none => simp [hu, hie] at hsz
          | some inf =>
            simp only [hu, hie, Option.some.injEq] at hsz
            subst hsz
            obtain ⟨b, hb, h1, h2, h3⟩ := h
            simp only at hb
            subst hb
            exact .inl ⟨_, fun w' _ => by simp [execOp, ho, hx, hi, Instr.indexAt, asIntOf, underlying_run hu, h1, h2, sizeOf_run hie], h3⟩
        | _ => simp [hu] at hsz
    · exact h.elim
  | index t x i =>
    simp only [ho] at h
    split at h
    · rename_i s k n hst hx hi
      obtain ⟨h0, b, hb, hk⟩ := h
      have hu := isStringT_spec hst
      have hb' : s[n.toNat]? = some b := by
        obtain ⟨hlt, he⟩ := List.getElem?_eq_some_iff.1 hb
        have hlt' : n.toNat < s.size := by rw [Array.length_toList] at hlt; exact hlt
        rw [getElem?_pos s n.toNat hlt']
        exact congrArg some he
      exact .inl ⟨_, fun w' _ => by simp [execOp, ho, Instr.index, hx, hi, asIntOf, underlying_run hu, h0, hb'], hk⟩
    · exact h.elim
  | extract t i =>
    simp only [ho] at h
    cases hv : ev f t with
    | tuple vs =>
      simp only [hv] at h
      cases hx : vs.toList[i]? with
      | none => simp [hx] at h
      | some v =>
        simp only [hx] at h
        have hx' : vs[i]? = some v := by rw [← hx]; simp
        exact .inl ⟨_, fun w' _ => by simp [execOp, ho, Instr.extract, hv, hx'], h⟩
    | _ => simp [hv] at h
  | nilCheck x =>
    simp only [ho] at h
    split at h
    · rename_i p hx; exact .inl ⟨_, fun w' _ => by simp [execOp, ho, hx], h⟩
    · exact h.elim
  | call c =>
    simp only [ho] at h
    split at h
    · rename_i k hc
      cases hk : callable P k with
      | false => simp [hk] at h
      | true =>
        simp only [hk, cond_true] at h
        obtain ⟨v, vs, hu, hcall, hK⟩ := h
        refine .inr ⟨v, k, ⟨c.args.toList.map (ev f)⟩, fun w' hw => ⟨?_, hcall w' hw⟩, ?_⟩
        · have ha : c.args.map (ev f) = ⟨c.args.toList.map (ev f)⟩ := arr_map _ _
          simp [execOp, ho, resolve, hc, ev, Deferred.ofValue, invoke, run_callFunc hk, ha]
        · have := app_cur hK
          rwa [mkR_unR hu] at this
    · rename_i hc
      split at h
      · rename_i t a n cp hat hag
        cases hs : isSliceT P t with
        | false => simp [hs] at h
        | true =>
          obtain ⟨e, hu⟩ := isSliceT_spec hs
          simp only [hs, cond_true] at h
          have ha : c.argTypes = #[t] := by apply Array.ext'; simpa using hat
          have hg : c.args.map (ev f) = #[.slice a n cp] := Array.ext' (by simpa using hag)
          exact .inl ⟨_, fun w' _ => by simp only [execOp, ho, resolve, hc, hg, ha]; simp [invoke, builtin, Builtin.len_, underlying_run hu, goInt], h⟩
      · rename_i t s hat hag
        cases hs : isStringT P t with
        | false => simp [hs] at h
        | true =>
          have hu := isStringT_spec hs
          simp only [hs, cond_true] at h
          have ha : c.argTypes = #[t] := by apply Array.ext'; simpa using hat
          have hg : c.args.map (ev f) = #[.string s] := Array.ext' (by simpa using hag)
          exact .inl ⟨_, fun w' _ => by simp only [execOp, ho, resolve, hc, hg, ha]; simp [invoke, builtin, Builtin.len_, underlying_run hu, goInt], h⟩
      · exact h.elim
    · exact h.elim
  | _ => simp [ho] at h


/-! ### A region whose order is open, with operations that make memory: those that only look may come up at any time, the others in the text's order -/

/-- An operation that only looks. -/
def quietKind : Op → Bool
  | .move _ | .assign _ | .pick .. | .load .. | .build .. | .binOp .. | .unOp .. | .makeFunc .. | .slice .. | .fieldAddr .. | .indexAddr .. | .index .. | .extract .. | .nilCheck .. => true
  | .call c => match c.callee with
    | .builtin .len => true
    | _ => false
  | _ => false

/-- Only this one may come up now. -/
def onlyReady (ops : Array Oper) (listed : Array Bool) (k : Nat) : Bool := decide (Region.ready .any ops listed = [k])

def setL (l : Array Bool) (k : Nat) : Array Bool := l.setIfInBounds k true

/-- Is operation k taken as a looking one? -/
def isQ (ops : Array Oper) (l : Array Bool) (k : Nat) : Bool := (match ops[k]? with
  | some o => quietKind o.op
  | none => false) && !onlyReady ops l k

/-- The operation that is taken next: the only one that may come up, else the first looking one. -/
def nextM (ops : Array Oper) (l : Array Bool) : Option Nat := match Region.ready .any ops l with
  | [] => none
  | [k] => some k
  | r => r.find? fun k => match ops[k]? with
    | some o => quietKind o.op
    | none => false

def ordM (ops : Array Oper) : Nat → Array Bool → List Nat
  | 0, _ => []
  | m + 1, l => match nextM ops l with
    | none => []
    | some k => k :: ordM ops m (setL l k)

/-- The order in which the operations of a region are taken. -/
def ordA (ops : Array Oper) : List Nat := ordM ops ops.size (Array.replicate ops.size false)

/-- The numbers of the operations that are taken as looking ones. -/
def qsOf (ops : Array Oper) : List Nat → Array Bool → List Nat
  | [], _ => []
  | k :: r, l => bif isQ ops l k then k :: qsOf ops r (setL l k) else qsOf ops r (setL l k)

def lexM (ops : Array Oper) : List Nat → Array Bool → Bool
  | [], l => decide (Region.ready .any ops l = [])
  | k :: r, l => !r.contains k && ((bif isQ ops l k then (Region.ready .any ops l).contains k && Region.free .any ops l k else onlyReady ops l k) && lexM ops r (setL l k))

/-- Does operation j wait for operation i by an edge of its own? -/
def waitsOn (es : List Edge) (i : Nat) : Bool := match es with
  | [] => false
  | e :: r => (Region.binds .any e && Nat.beq e.on i) || waitsOn r i

/-- May a looking operation come up behind number j? -/
def needS (ops : Array Oper) (j : Nat) : List Nat → Bool
  | [] => false
  | i :: r => (!Nat.beq i j && !(match ops[j]? with
    | some o => waitsOn o.after.toList i
    | none => false)) || needS ops j r

def opsM (P : Program) (hint : Hint) (ops : Array Oper) (qs : List Nat) (w0 : World) : List Nat → Array Bool → Fr → World → (Fr → World → Prop) → Prop
  | [], _, f, u, K => K f u
  | k :: rest, l, f, u, K => match ops[k]? with
    | none => False
    | some o => match o.guard with
      | none =>
        bif isQ ops l k then opQ P hint o f w0 fun v => opsM P hint ops qs w0 rest (setL l k) (put f o.dst v) u K
        else opC P hint o f u fun v u' => bif needS ops k qs then Ext w0 u' ∧ opsM P hint ops qs w0 rest (setL l k) (put f o.dst v) u' K else opsM P hint ops qs w0 rest (setL l k) (put f o.dst v) u' K
      | some _ => False

/-- A looking operation of a region in which the blocks of D may be written. -/
def opQD (P : Program) (hint : Hint) (o : Oper) (f : Fr) (w : World) (D : Nat → Prop) (K : Value → Prop) : Prop :=
  match o.op with
  | .load t x => match ev f x with
    | .pointer (some a) => bif okShape P t (one (hint t)) then ¬ D a.block ∧ LD (one (hint t)).ats a w (cur _ fun vs => K ((one (hint t)).mk vs)) else False
    | _ => False
  | _ => opQ P hint o f w K

def opsD (P : Program) (hint : Hint) (ops : Array Oper) (qs : List Nat) (D : Nat → Prop) (w0 : World) : List Nat → Array Bool → Fr → World → (Fr → World → Prop) → Prop
  | [], _, f, u, K => K f u
  | k :: rest, l, f, u, K => match ops[k]? with
    | none => False
    | some o => match o.guard with
      | none =>
        bif isQ ops l k then opQD P hint o f w0 D fun v => opsD P hint ops qs D w0 rest (setL l k) (put f o.dst v) u K
        else opC P hint o f u fun v u' => bif needS ops k qs then Chg w0 u' D ∧ opsD P hint ops qs D w0 rest (setL l k) (put f o.dst v) u' K else opsD P hint ops qs D w0 rest (setL l k) (put f o.dst v) u' K
      | some _ => False

def hasStore : List Oper → Bool
  | [] => false
  | o :: r => (match o.op with
    | .store .. => true
    | .mapUpdate .. => true
    | .insert .. => true
    | .call c => (match c.callee with
      | .builtin .copy => true
      | .builtin .clear => true
      | .builtin .delete => true
      | _ => false)
    | _ => false) || hasStore r

def isAppend : Op → Bool
  | .call c => (match c.callee with
    | .builtin .append => true
    | _ => false)
  | _ => false

/-- Is there an append behind which a looking operation may come up? -/
def appNeeds (ops : Array Oper) (qs : List Nat) : List Nat → Bool
  | [] => false
  | k :: r => (match ops[k]? with
    | some o => isAppend o.op && needS ops k qs
    | none => false) || appNeeds ops qs r

/-- Kinds of values that no world can change. -/
def scalarAt : At → Bool
  | .int _ => true
  | .bool => true
  | .str => true
  | _ => false

def scalarAts : List At → Bool
  | [] => true
  | a :: r => scalarAt a && scalarAts r

/-- All operations look, or are calls that hand back numbers. -/
def useQ (hint : Hint) : List Oper → Bool
  | [] => true
  | o :: r => (quietKind o.op || (match o.op with
    | .call c => (match c.callee with
      | .value (.func _) => scalarAts (atsR (hint o.type))
      | _ => false)
    | _ => false)) && useQ hint r

/-! ### A region whose order is open, with several operations that make memory at once: each order -/

def pickA (ops : Array Oper) (l : Array Bool) : List Nat → Option Nat
  | [] => none
  | k :: r => bif (match ops[k]? with
    | some o => quietKind o.op
    | none => false) && Region.free .any ops l k then some k else pickA ops l r

/-- A looking operation that is taken at once; none where only one may come up. -/
def pick2 (ops : Array Oper) (l : Array Bool) : List Nat → Option Nat
  | [] => none
  | [_] => none
  | r => pickA ops l r

def allA : List Nat → (Nat → Prop) → Prop
  | [], _ => True
  | [k], F => F k
  | k :: r, F => F k ∧ allA r F

/-- One operation, by its guard. -/
def oneA (ops : Array Oper) (run : Oper → Fr → World → (Fr → World → Prop) → Prop) (k : Nat) (f : Fr) (u : World) (next : Fr → World → Prop) : Prop :=
  match ops[k]? with
  | none => False
  | some o => match o.guard with
    | none => run o f u next
    | some (j, want) => match slotOf ops.toList j with
      | none => False
      | some d => match f d with
        | .bool b => cond b
          (cond (same true want) (run o (st f d (.bool true)) u next) (next (put (st f d (.bool true)) o.dst undef) u))
          (cond (same false want) (run o (st f d (.bool false)) u next) (next (put (st f d (.bool false)) o.dst undef) u))
        | _ => next (put f o.dst undef) u

/-- As pick2; but not a load. -/
def pickPA (ops : Array Oper) (l : Array Bool) : List Nat → Option Nat
  | [] => none
  | k :: r => bif (match ops[k]? with
    | some o => quietKind o.op && !(match o.op with
      | .load .. => true
      | _ => false)
    | none => false) && Region.free .any ops l k then some k else pickPA ops l r
def pickP (ops : Array Oper) (l : Array Bool) : List Nat → Option Nat
  | [] => none
  | [_] => none
  | r => pickPA ops l r

def opsA (ops : Array Oper) (sel : Array Bool → List Nat → Option Nat) (runQ runC : Oper → Fr → World → (Fr → World → Prop) → Prop) : Nat → Array Bool → Fr → World → (Fr → World → Prop) → Prop
  | 0, l, f, u, K => match Region.ready .any ops l with
    | [] => K f u
    | _ :: _ => False
  | m + 1, l, f, u, K => match Region.ready .any ops l with
    | [] => K f u
    | k :: r => match sel l (k :: r) with
      | some i => oneA ops runQ i f u fun f' u' => opsA ops sel runQ runC m (setL l i) f' u' K
      | none => allA (k :: r) fun i => oneA ops runC i f u fun f' u' => opsA ops sel runQ runC m (setL l i) f' u' K

def runQE (P : Program) (hint : Hint) (o : Oper) (f : Fr) (u : World) (next : Fr → World → Prop) : Prop := opQ P hint o f u fun v => next (put f o.dst v) u
def runCE (P : Program) (hint : Hint) (o : Oper) (f : Fr) (u : World) (next : Fr → World → Prop) : Prop := opC P hint o f u fun v u' => Ext u u' ∧ next (put f o.dst v) u'
def runQD (P : Program) (hint : Hint) (w0 : World) (D : Nat → Prop) (o : Oper) (f : Fr) (u : World) (next : Fr → World → Prop) : Prop := opQD P hint o f w0 D fun v => next (put f o.dst v) u
def runCD (P : Program) (hint : Hint) (w0 : World) (D : Nat → Prop) (o : Oper) (f : Fr) (u : World) (next : Fr → World → Prop) : Prop := opC P hint o f u fun v u' => Chg w0 u' D ∧ next (put f o.dst v) u'

def noGuard : List Oper → Bool
  | [] => true
  | o :: r => o.guard.isNone && noGuard r

/-- Is there an append in the region? -/
def hasAppend : List Oper → Bool
  | [] => false
  | o :: r => isAppend o.op || hasAppend r

/-- Is it a load? -/
def isLoad (ops : Array Oper) (k : Nat) : Bool := match ops[k]? with
  | some o => (match o.op with
    | .load .. => true
    | _ => false)
  | none => false

def loadsIn (ops : Array Oper) : List Nat → List Nat
  | [] => []
  | k :: r => bif isLoad ops k then k :: loadsIn ops r else loadsIn ops r

/-- The looking operations that do not even look at memory, first. -/
def nextL (ops : Array Oper) (l : Array Bool) : Option Nat := match Region.ready .any ops l with
  | [] => none
  | [k] => some k
  | r => match r.find? fun k => (match ops[k]? with | some o => quietKind o.op | none => false) && !isLoad ops k with
    | some k => some k
    | none => r.find? fun k => match ops[k]? with
      | some o => quietKind o.op
      | none => false

def ordL (ops : Array Oper) : Nat → Array Bool → List Nat
  | 0, _ => []
  | m + 1, l => match nextL ops l with
    | none => []
    | some k => k :: ordL ops m (setL l k)

def ordB (ops : Array Oper) : List Nat := ordL ops ops.size (Array.replicate ops.size false)

/-- Those among them that come up in an open order. -/
def psOf (ops : Array Oper) : List Nat → Array Bool → List Nat
  | [], _ => []
  | k :: r, l => bif isQ ops l k && !isLoad ops k then k :: psOf ops r (setL l k) else psOf ops r (setL l k)

/-- Each of these is done, or waits for number i. -/
def waitAll (ops : Array Oper) (l : Array Bool) (i : Nat) : List Nat → Bool
  | [] => true
  | j :: r => (Nat.beq j i || l.getD j true || (match ops[j]? with | some o => waitsOn o.after.toList i | none => false)) && waitAll ops l i r

def inN (n : Nat) : List Nat → Bool
  | [] => false
  | m :: r => bif Nat.beq n m then true else inN n r

def lexL (ops : Array Oper) (ps : List Nat) : List Nat → Array Bool → Bool
  | [], l => decide (Region.ready .any ops l = [])
  | k :: r, l => !r.contains k && ((bif isQ ops l k then (Region.ready .any ops l).contains k && (Region.free .any ops l k && (bif isLoad ops k then waitAll ops l k ps else true)) else onlyReady ops l k) && lexL ops ps r (setL l k))

def opsL (P : Program) (hint : Hint) (ops : Array Oper) (qs : List Nat) (D : Nat → Prop) (w0 : World) : List Nat → Array Bool → Fr → World → (Fr → World → Prop) → Prop
  | [], _, f, u, K => K f u
  | k :: rest, l, f, u, K => match ops[k]? with
    | none => False
    | some o => match o.guard with
      | none =>
        bif isQ ops l k then opQD P hint o f w0 D fun v => opsL P hint ops qs D w0 rest (setL l k) (put f o.dst v) u K
        else opC P hint o f u fun v u' => bif needS ops k qs then Chg w0 u' D ∧ opsL P hint ops qs D w0 rest (setL l k) (put f o.dst v) u' K else opsL P hint ops qs D w0 rest (setL l k) (put f o.dst v) u' K
      | some _ => False

/-- A region that is told by a note at its number: of its looking operations only the loads ask for what the world keeps. -/
def noted (a : Nat → List Nat) (id : Nat) : Bool := match a (id + 500000) with
  | [] => false
  | _ => true

/-- Does operation j wait for operation i? -/
def waitsK (ops : Array Oper) (j i : Nat) : Bool := match ops[j]? with
  | some o => waitsOn o.after.toList i
  | none => false
def loadsAll (ops : Array Oper) : List Nat := loadsIn ops (List.range ops.size)
/-- May a load come up before and behind number j? -/
def needB (ops : Array Oper) (j : Nat) : List Nat → Bool
  | [] => false
  | i :: r => (!Nat.beq i j && (!waitsK ops j i && !waitsK ops i j)) || needB ops j r
def pendL (l : Array Bool) : List Nat → Bool
  | [] => false
  | i :: r => !l.getD i true || pendL l r

/-- As opsA; what the world keeps is asked for only where a load may still come up. -/
def opsB (ops : Array Oper) (sel : Array Bool → List Nat → Option Nat) (runQ : Oper → Fr → World → (Fr → World → Prop) → Prop) (runC : Bool → Oper → Fr → World → (Fr → World → Prop) → Prop) : Nat → Array Bool → Fr → World → (Fr → World → Prop) → Prop
  | 0, l, f, u, K => match Region.ready .any ops l with
    | [] => K f u
    | _ :: _ => False
  | m + 1, l, f, u, K => match Region.ready .any ops l with
    | [] => K f u
    | k :: r => match sel l (k :: r) with
      | some i => oneA ops runQ i f u fun f' u' => opsB ops sel runQ runC m (setL l i) f' u' K
      | none => allA (k :: r) fun i => oneA ops (runC (needB ops i (loadsAll ops) || pendL l (loadsAll ops))) i f u fun f' u' => opsB ops sel runQ runC m (setL l i) f' u' K

def runCB (P : Program) (hint : Hint) (w0 : World) (D : Nat → Prop) (b : Bool) (o : Oper) (f : Fr) (u : World) (next : Fr → World → Prop) : Prop := opC P hint o f u fun v u' => bif b then Chg w0 u' D ∧ next (put f o.dst v) u' else next (put f o.dst v) u'

/-- A region that is told so, by a note at its number. -/
def needN (a : Nat → List Nat) (id : Nat) : Bool := match a (id + 1100000) with
  | [] => false
  | _ => true

/-- What the cells outside D hold is kept. -/
def Kept (w w' : World) (D : Addr → Prop) : Prop := ∀ a v, ¬ D a → w.cell? a = some v → w'.cell? a = some v

/-- A looking operation of a region in which the cells of D may be written. -/
def opQS (P : Program) (hint : Hint) (o : Oper) (f : Fr) (w : World) (D : Addr → Prop) (K : Value → Prop) : Prop :=
  match o.op with
  | .load t x => match ev f x with
    | .pointer (some a) => bif okShape P t (one (hint t)) then (∀ i : Nat, i < (one (hint t)).ats.length → ¬ D (a.add i)) ∧ LD (one (hint t)).ats a w (cur _ fun vs => K ((one (hint t)).mk vs)) else False
    | _ => False
  | _ => opQ P hint o f w K

def runQS (P : Program) (hint : Hint) (w0 : World) (D : Addr → Prop) (o : Oper) (f : Fr) (u : World) (next : Fr → World → Prop) : Prop := opQS P hint o f w0 D fun v => next (put f o.dst v) u
def runCS (P : Program) (hint : Hint) (w0 : World) (D : Addr → Prop) (o : Oper) (f : Fr) (u : World) (next : Fr → World → Prop) : Prop := opC P hint o f u fun v u' => Kept w0 u' D ∧ next (put f o.dst v) u'

def runQP (P : Program) (hint : Hint) (o : Oper) (f : Fr) (u : World) (next : Fr → World → Prop) : Prop := opQ P hint o f u fun v => next (put f o.dst v) u
def runCP (P : Program) (hint : Hint) (o : Oper) (f : Fr) (u : World) (next : Fr → World → Prop) : Prop := opC P hint o f u fun v u' => next (put f o.dst v) u'

/-- A region that is told, by a note at its number, in each order of the operations that know of memory. -/
def plainN (a : Nat → List Nat) (id : Nat) : Bool := match a (id + 600000) with
  | [] => false
  | _ => true

/-- A region that is told, by a note at its number, in each order, with the cells that are kept. -/
def keptN (a : Nat → List Nat) (id : Nat) : Bool := match a (id + 700000) with
  | [] => false
  | _ => true

/-- A region that is told, by a note at its number, in each order of the operations that make memory; what there was is kept. -/
def extN (a : Nat → List Nat) (id : Nat) : Bool := match a (id + 800000) with
  | [] => false
  | _ => true

/-! ### Code -/

inductive Ex where
  | normal | exit (id : Nat) | ret

/-- What is told of a loop: the slots that are alive at its head, with their kinds; those that are not. -/
structure Ann where
  live : List (Nat × At)
  dead : List Nat

def firstRegion : Code → Nat
  | .region id _ _ => id
  | .seq a _ => firstRegion a
  | .block _ c => firstRegion c
  | .loop c => firstRegion c
  | .cond _ a _ => firstRegion a
  | .scope c => firstRegion c
  | _ => 1000000

def dstsL : List Oper → List Nat
  | [] => []
  | o :: r => match o.dst with
    | some d => d :: dstsL r
    | none => dstsL r

/-- The slots that a piece of code writes; the slots at which a guard looks, too. -/
def dsts : Code → List Nat
  | .region _ ops _ => dstsL ops.toList
  | .seq a b => dsts a ++ dsts b
  | .cond _ a b => dsts a ++ dsts b
  | .block _ c => dsts c
  | .loop c => dsts c
  | .scope c => dsts c
  | _ => []

def memN (n : Nat) : List Nat → Bool
  | [] => false
  | m :: r => bif Nat.beq n m then true else memN n r

def subN : List Nat → List Nat → Bool
  | [], _ => true
  | n :: r, l => bif memN n l then subN r l else false

def slotsOf : List (Nat × At) → List Nat
  | [] => []
  | x :: r => x.1 :: slotsOf r

def kindsOf : List (Nat × At) → List At
  | [] => []
  | x :: r => x.2 :: kindsOf r

def atSlots (f : Fr) : List (Nat × At) → List Value
  | [] => []
  | x :: r => f x.1 :: atSlots f r

/-- For whatever values of the slots that are alive: with the invariant at hand. -/
def allLive : (l : List (Nat × At)) → Fr → Cur (World → Prop) (kindsOf l) → Cur (World → Nat) (kindsOf l) → (Fr → World → Nat → Prop) → Prop
  | [], f, I, μ, K => ∀ w, I w → K f w (μ w)
  | x :: r, f, I, μ, K => ∀ v : x.2.T, allLive r (st f x.1 (x.2.v v)) (I v) (μ v) K

def allDead : List Nat → Fr → (Fr → Prop) → Prop
  | [], f, K => K f
  | d :: r, f, K => ∀ v : Value, allDead r (st f d v) K

def thenE (next : Fr → World → Prop) (Q : Ex → Fr → World → Prop) : Ex → Fr → World → Prop
  | .normal, f, w => next f w
  | .exit id, f, w => Q (.exit id) f w
  | .ret, f, w => Q .ret f w

def inBlockE (id : Nat) (Q : Ex → Fr → World → Prop) : Ex → Fr → World → Prop
  | .normal, f, w => Q .normal f w
  | .exit id', f, w => bif Nat.beq id' id then Q .normal f w else Q (.exit id') f w
  | .ret, f, w => Q .ret f w

/-- Is the code behind a piece told once, by what holds between, by a note at the piece's first number? -/
def cutN (a : Nat → List Nat) (id : Nat) : Bool := match a (id + 900000) with
  | [] => false
  | _ => true

/-- No measure. -/
def noMeas : (l : List At) → Cur (World → Nat) l
  | [] => fun _ => 0
  | _ :: r => fun _ => noMeas r

def wpc (P : Program) (hint : Hint) (ann : Nat → Ann) : Code → (Ex → Fr → World → Prop) → Fr → World → Prop
  | .skip, Q, f, w => Q .normal f w
  | .region _ ops false, Q, f, w => opsC P hint ops.toList ops.toList f w fun f' w' => Q .normal f' w'
  | .region id ops true, Q, f, w => bif useQ hint ops.toList && !plainN (fun i => (ann i).dead) id then
      (bif (P.follows .mixedOrders && Region.lexB .any ops) then opsQ P hint ops.toList w ops.toList f (fun f' => ∀ w', Ext w w' → Q .normal f' w') else False)
    else bif noted (fun i => (ann i).dead) id then
      (bif (P.follows .mixedOrders && (Region.noSelect ops && (Nat.beq (ordB ops).length ops.size && lexL ops (psOf ops (ordB ops) (Array.replicate ops.size false)) (ordB ops) (Array.replicate ops.size false)))) then
        ∀ w', Ext w w' → w'.heap = w.heap → ∃ D : Nat → Prop, opsL P hint ops (loadsIn ops (qsOf ops (ordB ops) (Array.replicate ops.size false))) D w' (ordB ops) (Array.replicate ops.size false) f w' (fun f' u => Q .normal f' u)
      else False)
    else bif plainN (fun i => (ann i).dead) id then
      (bif (P.follows .mixedOrders && Region.noSelect ops) then
        ∀ w', Ext w w' → w'.heap = w.heap → opsA ops (pickP ops) (runQP P hint) (runCP P hint) ops.size (Array.replicate ops.size false) f w' (fun f' u => Q .normal f' u)
      else False)
    else bif keptN (fun i => (ann i).dead) id then
      (bif (P.follows .mixedOrders && Region.noSelect ops) then
        ∀ w', Ext w w' → w'.heap = w.heap → ∃ D : Addr → Prop, opsA ops (pick2 ops) (runQS P hint w' D) (runCS P hint w' D) ops.size (Array.replicate ops.size false) f w' (fun f' u => Q .normal f' u)
      else False)
    else bif needN (fun i => (ann i).dead) id then
      (bif (P.follows .mixedOrders && (Region.noSelect ops && noGuard ops.toList)) then
        ∀ w', Ext w w' → w'.heap = w.heap → ∃ D : Nat → Prop, opsB ops (pick2 ops) (runQD P hint w' D) (runCB P hint w' D) ops.size (Array.replicate ops.size false) f w' (fun f' u => Q .normal f' u)
      else False)
    else bif extN (fun i => (ann i).dead) id then
      (bif (P.follows .mixedOrders && Region.noSelect ops) then
        ∀ w', Ext w w' → w'.heap = w.heap → opsA ops (pick2 ops) (runQE P hint) (runCE P hint) ops.size (Array.replicate ops.size false) f w' (fun f' u => Q .normal f' u)
      else False)
    else
      (bif (P.follows .mixedOrders && (Region.noSelect ops && (Nat.beq (ordA ops).length ops.size && (noGuard ops.toList && lexM ops (ordA ops) (Array.replicate ops.size false))))) then
        (bif (hasStore ops.toList || appNeeds ops (qsOf ops (ordA ops) (Array.replicate ops.size false)) (ordA ops)) then
          ∀ w', Ext w w' → w'.heap = w.heap → ∃ D : Nat → Prop, opsD P hint ops (qsOf ops (ordA ops) (Array.replicate ops.size false)) D w' (ordA ops) (Array.replicate ops.size false) f w' (fun f' u => Q .normal f' u)
        else
          ∀ w', Ext w w' → w'.heap = w.heap → opsM P hint ops (qsOf ops (ordA ops) (Array.replicate ops.size false)) w' (ordA ops) (Array.replicate ops.size false) f w' (fun f' u => Q .normal f' u)) else
        (bif (P.follows .mixedOrders && Region.noSelect ops) then
          (bif (hasStore ops.toList || hasAppend ops.toList) then
            ∀ w', Ext w w' → w'.heap = w.heap → ∃ D : Nat → Prop, opsA ops (pick2 ops) (runQD P hint w' D) (runCD P hint w' D) ops.size (Array.replicate ops.size false) f w' (fun f' u => Q .normal f' u)
          else
            ∀ w', Ext w w' → w'.heap = w.heap → opsA ops (pick2 ops) (runQE P hint) (runCE P hint) ops.size (Array.replicate ops.size false) f w' (fun f' u => Q .normal f' u)) else False))
  | .seq a b, Q, f, w => bif cutN (fun i => (ann i).dead) (firstRegion a) then
      (bif subN (dsts a) (slotsOf (ann (firstRegion a + 900000)).live ++ (ann (firstRegion a + 900000)).dead) then
        ∃ I : Cur (World → Prop) (kindsOf (ann (firstRegion a + 900000)).live),
          wpc P hint ann a (thenE (fun f' w' => app botW _ I (atSlots f' (ann (firstRegion a + 900000)).live) w') Q) f w ∧
          allLive (ann (firstRegion a + 900000)).live f I (noMeas _) fun g w' _ => allDead (ann (firstRegion a + 900000)).dead g fun h => wpc P hint ann b Q h w'
      else False)
    else wpc P hint ann a (thenE (fun f' w' => wpc P hint ann b Q f' w') Q) f w
  | .cond c a b, Q, f, w => match ev f c with
    | .bool t => cond t (wpc P hint ann a Q f w) (wpc P hint ann b Q f w)
    | _ => False
  | .block id c, Q, f, w => wpc P hint ann c (inBlockE id Q) f w
  | .loop c, Q, f, w =>
    bif subN (dsts c) (slotsOf (ann (firstRegion c)).live ++ (ann (firstRegion c)).dead) then
      ∃ (I : Cur (World → Prop) (kindsOf (ann (firstRegion c)).live)) (μ : Cur (World → Nat) (kindsOf (ann (firstRegion c)).live)),
        app botW _ I (atSlots f (ann (firstRegion c)).live) w ∧
        allLive (ann (firstRegion c)).live f I μ fun g w' m => allDead (ann (firstRegion c)).dead g fun h =>
          wpc P hint ann c (thenE (fun f' w'' => app botW _ I (atSlots f' (ann (firstRegion c)).live) w'' ∧ app (fun _ => 0) _ μ (atSlots f' (ann (firstRegion c)).live) w'' < m) Q) h w'
    else False
  | .exit id, Q, f, w => Q (.exit id) f w
  | .ret, Q, f, w => Q .ret f w
  | _, _, _, _ => False

/-! ### Soundness of code -/

/-- The model's frame and ours. -/
structure Rel (n : Nat) (a : Act) (f : Fr) : Prop where
  size : a.tmps.size = n
  defers : a.defers = []
  get : ∀ t, a.tmps.getD t undef = f t

theorem Rel.eval {n : Nat} {a : Act} {f : Fr} (h : Rel n a f) : a.eval = ev f := by
  funext x
  cases x <;> simp [Act.eval, ev]
  have := h.get; simp at this; exact this _

theorem nbeq_false {a b : Nat} : Nat.beq a b = false ↔ a ≠ b := by
  constructor
  · intro h e; subst e; rw [Nat.beq_refl] at h; cases h
  · intro h
    cases hb : Nat.beq a b with
    | false => rfl
    | true => exact absurd (Nat.eq_of_beq_eq_true hb) h

theorem st_same (f : Fr) (d : Nat) (v : Value) : st f d v d = v := by simp [st]
theorem st_ne (f : Fr) {d t : Nat} (v : Value) (h : t ≠ d) : st f d v t = f t := by
  have : Nat.beq t d = false := nbeq_false.2 h
  simp [st, this]

theorem Rel.put {n : Nat} {a : Act} {f : Fr} (h : Rel n a f) {d : Option Nat} (hd : ∀ k, d = some k → k < n) (v : Value) : Rel n (a.put d v) (put f d v) := by
  cases d with
  | none => exact h
  | some k =>
    have hk := hd k rfl
    refine ⟨by simp [Act.put, h.size], h.defers, fun t => ?_⟩
    simp only [Act.put, GX.put]
    by_cases ht : t = k
    · subst ht; rw [st_same]; simp [Array.getD, h.size, hk]
    · rw [st_ne _ _ ht, ← h.get t]
      simp only [Array.getD_eq_getD_getElem?]
      rw [Array.getElem?_setIfInBounds_ne (fun e => ht e.symm)]

/-- A slot that holds what it holds. -/
theorem st_self {f : Fr} {d : Nat} {v : Value} (h : f d = v) : st f d v = f := by
  funext t
  by_cases ht : t = d
  · subst ht; rw [st_same, h]
  · rw [st_ne _ _ ht]

def Agree (l : List Nat) (f g : Fr) : Prop := ∀ t, memN t l = false → g t = f t

theorem Agree.refl (l : List Nat) (f : Fr) : Agree l f f := fun _ _ => rfl

theorem memN_append (n : Nat) (l m : List Nat) : memN n (l ++ m) = (memN n l || memN n m) := by
  induction l with
  | nil => simp [memN]
  | cons x r ih => simp only [List.cons_append, memN]; cases Nat.beq n x <;> simp [ih]

theorem Agree.trans_append {l m : List Nat} {f g h : Fr} (h1 : Agree l f g) (h2 : Agree m g h) : Agree (l ++ m) f h := fun t ht => by
  rw [memN_append, Bool.or_eq_false_iff] at ht
  rw [h2 t ht.2, h1 t ht.1]

theorem Agree.left {l m : List Nat} {f g : Fr} (h1 : Agree l f g) : Agree (l ++ m) f g := fun t ht => by
  rw [memN_append, Bool.or_eq_false_iff] at ht
  exact h1 t ht.1

theorem Agree.right {l m : List Nat} {f g : Fr} (h1 : Agree m f g) : Agree (l ++ m) f g := fun t ht => by
  rw [memN_append, Bool.or_eq_false_iff] at ht
  exact h1 t ht.2

theorem Agree.put_dstsL {o : Oper} {r : List Oper} {f g : Fr} {v : Value} (h : Agree (dstsL r) (put f o.dst v) g) : Agree (dstsL (o :: r)) f g := fun t ht => by
  simp only [dstsL] at ht
  cases hd : o.dst with
  | none => rw [hd] at ht h; exact h t ht
  | some d =>
    rw [hd] at ht h
    simp only [memN] at ht
    cases hb : Nat.beq t d with
    | true => simp [hb] at ht
    | false =>
      simp only [hb, cond_false] at ht
      rw [h t ht]
      exact st_ne _ _ (nbeq_false.1 hb)

theorem wanted_of {n : Nat} {a : Act} {f : Fr} (h : Rel n a f) {ops : Array Oper} {o : Oper} {j : Nat} {want : Bool} (hg : o.guard = some (j, want)) {d : Nat} (hs : slotOf ops.toList j = some d) (hd : d < n) :
    Region.wanted o (yielded ops a.tmps) = (match f d with | .bool b => (some b == some want) | _ => (none == some want)) := by
  have h1 : (ops[j]?).bind (·.dst) = some d := by
    unfold slotOf at hs
    cases hj : ops.toList[j]? with
    | none => rw [hj] at hs; cases hs
    | some x =>
      rw [hj] at hs
      have : ops[j]? = some x := by rw [← hj]; simp
      rw [this]; exact hs
  have h2 : a.tmps[d]? = some (f d) := by
    have := h.get d
    have hlt : d < a.tmps.size := by rw [h.size]; exact hd
    simp only [Array.getD_eq_getD_getElem?, Array.getElem?_eq_getElem hlt, Option.getD_some] at this
    rw [Array.getElem?_eq_getElem hlt, this]
  simp only [Region.wanted, hg, yielded, h1, Option.bind_some, h2]
  cases f d <;> rfl

theorem same_eq (a b : Bool) : same a b = (some a == some b) := by cases a <;> cases b <;> rfl


theorem dstsL_mem {l : List Oper} {o : Oper} {d : Nat} (h : o ∈ l) (hd : o.dst = some d) : d ∈ dstsL l := by
  induction l with
  | nil => cases h
  | cons y r ih =>
    simp only [List.mem_cons] at h
    unfold dstsL
    rcases h with rfl | h
    · rw [hd]; simp
    · cases y.dst <;> simp [ih h]

theorem slotOf_mem {l : List Oper} {j d : Nat} (h : slotOf l j = some d) : d ∈ dstsL l := by
  unfold slotOf at h
  cases hj : l[j]? with
  | none => rw [hj] at h; cases h
  | some x => rw [hj] at h; exact dstsL_mem (List.mem_of_getElem? hj) h

/-- An operation carried out in the model: the next one's turn. -/
theorem wp_of_gives {P : Program} {n : Nat} {o : Oper} {a : Act} {f : Fr} {w : World} {K : Value → World → Prop} {next : Act → World → Prop} {Q : Exit → Act → World → Prop}
    (hr : Rel n a f) (h : Gives P o f w K) (hk : ∀ v w', K v w' → next (a.put o.dst v) w') : o.wp P a w next Q := by
  unfold Oper.wp
  rw [hr.eval]
  rcases h with ⟨v, w', h1, h2⟩ | ⟨w', h1, h2⟩ | ⟨g, args, h1, h2⟩
  · rw [h1]; exact hk v w' h2
  · rw [h1]; exact hk undef w' h2
  · rw [h1]
    refine Calls.mono h2 fun e w' he => ?_
    obtain ⟨v, rfl, hv⟩ := he
    exact hk v w' hv

theorem opsC_sound {P : Program} {hint : Hint} {n : Nat} {ops : Array Oper} (hall : ∀ d ∈ dstsL ops.toList, d < n) : ∀ (l : List Oper) (_ : ∀ d ∈ dstsL l, d < n) {f : Fr} {a : Act} {w : World} {K : Fr → World → Prop} {Q : Exit → Act → World → Prop},
    Rel n a f → opsC P hint ops.toList l f w K → (∀ f' a' w', Rel n a' f' → Agree (dstsL l) f f' → K f' w' → Q .normal a' w') → wpList P ops Q l a w
  | [], _, f, a, w, K, Q, hr, h, hk => hk f a w hr (Agree.refl _ _) h
  | o :: rest, hd, f, a, w, K, Q, hr, h, hk => by
    have hdo : ∀ k, o.dst = some k → k < n := fun k hk => hd k (by simp [dstsL, hk])
    have hdr : ∀ d ∈ dstsL rest, d < n := fun d hm => hd d (by unfold dstsL; cases o.dst <;> simp [hm])
    have go : ∀ v w', opsC P hint ops.toList rest (put f o.dst v) w' K → wpList P ops Q rest (a.put o.dst v) w' := fun v w' hv =>
      opsC_sound hall rest hdr (hr.put hdo v) hv fun f' a' w'' h1 h2 h3 => hk f' a' w'' h1 h2.put_dstsL h3
    simp only [opsC] at h
    cases hg : o.guard with
    | none =>
      rw [hg] at h
      simp only [wpList, Region.wanted, hg, if_true]
      exact .inl (wp_of_gives hr (opC_gives h) go)
    | some jw =>
      obtain ⟨j, want⟩ := jw
      rw [hg] at h
      simp only at h
      cases hs : slotOf ops.toList j with
      | none => rw [hs] at h; exact h.elim
      | some d =>
        rw [hs] at h
        simp only at h
        have hdn : d < n := hall d (slotOf_mem hs)
        simp only [wpList]
        rw [wanted_of hr hg hs hdn]
        cases hf : f d with
        | bool b =>
          rw [hf] at h
          simp only at h
          have hst : ∀ c, c = b → st f d (.bool c) = f := fun c hc => st_self (by rw [hf, hc])
          cases b with
          | true =>
            simp only [cond_true, hst true rfl, same_eq] at h
            cases hw : (some true == some want) with
            | true => simp only [hw, cond_true] at h; simp only [hw, if_true]; exact .inl (wp_of_gives hr (opC_gives h) go)
            | false => simp only [hw, cond_false] at h; simp only [hw, Bool.false_eq_true, if_false]; exact go _ _ h
          | false =>
            simp only [cond_false, hst false rfl, same_eq] at h
            cases hw : (some false == some want) with
            | true => simp only [hw, cond_true] at h; simp only [hw, if_true]; exact .inl (wp_of_gives hr (opC_gives h) go)
            | false => simp only [hw, cond_false] at h; simp only [hw, Bool.false_eq_true, if_false]; exact go _ _ h
        | _ =>
          rw [hf] at h
          simp only at h
          have hw : ((none : Option Bool) == some want) = false := by cases want <;> rfl
          simp only [hw, Bool.false_eq_true, if_false]
          exact go _ _ h

theorem quiet_of_gives {P : Program} {n : Nat} {o : Oper} {a : Act} {f : Fr} {w : World} {K : Value → Prop} {next : Act → Prop}
    (hr : Rel n a f) (h : GivesQ P o f w K) (hk : ∀ v, K v → next (a.put o.dst v)) : o.quiet P a (fun w' => Ext w w') next := by
  rcases h with ⟨v, h1, h2⟩ | ⟨v, g, args, h1, h2⟩
  · refine ⟨v, fun w' hw => ?_, hk v h2⟩
    unfold Oper.quietAt
    rw [hr.eval, h1 w' hw]
    exact ⟨rfl, rfl⟩
  · refine ⟨v, fun w' hw => ?_, hk v h2⟩
    unfold Oper.quietAt
    rw [hr.eval, (h1 w' hw).1]
    exact ⟨rfl, (h1 w' hw).2.mono fun e w'' he => ⟨he.1, hw.trans he.2⟩⟩

theorem opsQ_sound {P : Program} {hint : Hint} {n : Nat} {ops : Array Oper} {w : World} (hall : ∀ d ∈ dstsL ops.toList, d < n) : ∀ (l : List Oper) (_ : ∀ d ∈ dstsL l, d < n) {f : Fr} {a : Act} {K : Fr → Prop} {Q : Act → Prop},
    Rel n a f → opsQ P hint ops.toList w l f K → (∀ f' a', Rel n a' f' → Agree (dstsL l) f f' → K f' → Q a') → wpQuiet P ops (fun w' => Ext w w') Q l a
  | [], _, f, a, K, Q, hr, h, hk => hk f a hr (Agree.refl _ _) h
  | o :: rest, hd, f, a, K, Q, hr, h, hk => by
    have hdo : ∀ k, o.dst = some k → k < n := fun k hk => hd k (by simp [dstsL, hk])
    have hdr : ∀ d ∈ dstsL rest, d < n := fun d hm => hd d (by unfold dstsL; cases o.dst <;> simp [hm])
    have go : ∀ v, opsQ P hint ops.toList w rest (put f o.dst v) K → wpQuiet P ops (fun w' => Ext w w') Q rest (a.put o.dst v) := fun v hv =>
      opsQ_sound hall rest hdr (hr.put hdo v) hv fun f' a' h1 h2 h3 => hk f' a' h1 h2.put_dstsL h3
    simp only [opsQ] at h
    cases hg : o.guard with
    | none =>
      rw [hg] at h
      simp only [wpQuiet, Region.wanted, hg, if_true]
      exact quiet_of_gives hr (opQ_gives h) go
    | some jw =>
      obtain ⟨j, want⟩ := jw
      rw [hg] at h
      simp only at h
      cases hs : slotOf ops.toList j with
      | none => rw [hs] at h; exact h.elim
      | some d =>
        rw [hs] at h
        simp only at h
        have hdn : d < n := hall d (slotOf_mem hs)
        simp only [wpQuiet]
        rw [wanted_of hr hg hs hdn]
        cases hf : f d with
        | bool b =>
          rw [hf] at h
          simp only at h
          have hst : ∀ c, c = b → st f d (.bool c) = f := fun c hc => st_self (by rw [hf, hc])
          cases b with
          | true =>
            simp only [cond_true, hst true rfl, same_eq] at h
            cases hw : (some true == some want) with
            | true => simp only [hw, cond_true] at h; simp only [hw, if_true]; exact quiet_of_gives hr (opQ_gives h) go
            | false => simp only [hw, cond_false] at h; simp only [hw, Bool.false_eq_true, if_false]; exact go _ h
          | false =>
            simp only [cond_false, hst false rfl, same_eq] at h
            cases hw : (some false == some want) with
            | true => simp only [hw, cond_true] at h; simp only [hw, if_true]; exact quiet_of_gives hr (opQ_gives h) go
            | false => simp only [hw, cond_false] at h; simp only [hw, Bool.false_eq_true, if_false]; exact go _ h
        | _ =>
          rw [hf] at h
          simp only at h
          have hw : ((none : Option Bool) == some want) = false := by cases want <;> rfl
          simp only [hw, Bool.false_eq_true, if_false]
          exact go _ h

/-- What holds of our exits, said of the model's. -/
def toE (n : Nat) (l : List Nat) (f : Fr) (Q : Ex → Fr → World → Prop) : Exit → Act → World → Prop
  | .normal, a, w => ∃ f', Rel n a f' ∧ Agree l f f' ∧ Q .normal f' w
  | .exit id, a, w => ∃ f', Rel n a f' ∧ Agree l f f' ∧ Q (.exit id) f' w
  | .ret, a, w => ∃ f', Rel n a f' ∧ Agree l f f' ∧ Q .ret f' w
  | _, _, _ => False

theorem allDead_at : ∀ (l : List Nat) (f g : Fr) (K : Fr → Prop), allDead l f K → (∃ h, K h ∧ ∀ t, h t = bif memN t l then g t else f t)
  | [], f, g, K, h => ⟨f, h, fun t => by simp [memN]⟩
  | d :: r, f, g, K, h => by
    obtain ⟨h', hk, he⟩ := allDead_at r (st f d (g d)) g K (h (g d))
    refine ⟨h', hk, fun t => ?_⟩
    rw [he t]
    simp only [memN]
    cases hb : Nat.beq t d with
    | true =>
      have : t = d := Nat.eq_of_beq_eq_true hb
      subst this
      cases memN t r <;> simp [st_same]
    | false =>
      cases memN t r <;> simp [st_ne _ _ (nbeq_false.1 hb)]

theorem allLive_at : ∀ (l : List (Nat × At)) (f g : Fr) (I : Cur (World → Prop) (kindsOf l)) (μ : Cur (World → Nat) (kindsOf l)) (K : Fr → World → Nat → Prop) (w : World),
    allLive l f I μ K → app botW _ I (atSlots g l) w → ∃ h, K h w (app (fun _ => 0) _ μ (atSlots g l) w) ∧ ∀ t, h t = bif memN t (slotsOf l) then g t else f t
  | [], f, g, I, μ, K, w, h, hI => ⟨f, h w hI, fun t => by simp [slotsOf, memN]⟩
  | x :: r, f, g, I, μ, K, w, h, hI => by
    simp only [atSlots, kindsOf, app] at hI
    cases hu : x.2.un (g x.1) with
    | none => rw [hu] at hI; exact hI.elim
    | some v =>
      rw [hu] at hI
      obtain ⟨h', hk, he⟩ := allLive_at r (st f x.1 (x.2.v v)) g (I v) (μ v) K w (h v) hI
      refine ⟨h', ?_, fun t => ?_⟩
      · simp only [atSlots, kindsOf, app, hu]; exact hk
      · rw [he t]
        simp only [slotsOf, memN]
        cases hb : Nat.beq t x.1 with
        | true =>
          have : t = x.1 := Nat.eq_of_beq_eq_true hb
          subst this
          cases memN x.1 (slotsOf r) <;> simp [st_same, At.v_un hu]
        | false => cases memN t (slotsOf r) <;> simp [st_ne _ _ (nbeq_false.1 hb)]

theorem subN_spec {l m : List Nat} (h : subN l m = true) {t : Nat} (ht : memN t m = false) : memN t l = false := by
  induction l with
  | nil => rfl
  | cons x r ih =>
    simp only [subN] at h
    cases hx : memN x m with
    | false => rw [hx] at h; cases h
    | true =>
      rw [hx] at h
      simp only [memN]
      cases hb : Nat.beq t x with
      | true => have := Nat.eq_of_beq_eq_true hb; subst this; rw [hx] at ht; cases ht
      | false => exact ih h

/-! ### Soundness of the mixed regions -/

section mixed
variable {P : Program} {ops : Array Oper} {Q : Exit → Act → World → Prop} {S : World → Prop} {qs : List Nat}

/-- Whatever order is picked from here on; behind an operation that a looking one may follow, the world meets S. -/
def wpG (P : Program) (ops : Array Oper) (Q : Exit → Act → World → Prop) (S : World → Prop) (qs : List Nat) : Nat → Array Bool → Act → World → Prop
  | 0, l, a, w => Region.ready .any ops l = [] ∧ Q .normal a w
  | n + 1, l, a, w => (Region.ready .any ops l = [] → Q .normal a w) ∧
    ∀ i ∈ Region.ready .any ops l, wpOp P ops Q i (fun a' w' => (needS ops i qs = true → S w') ∧ wpG P ops Q S qs n (l.setIfInBounds i true) a' w') a w

theorem wpAny_of_wpG : ∀ (n : Nat) (l : Array Bool) (a : Act) (w : World), wpG P ops Q S qs n l a w → wpAny P .any ops Q n l a w
  | 0, _, _, _, h => h
  | n + 1, _, _, _, h => ⟨h.1, fun i hi => wpOp_mono (fun a' w' h' => wpAny_of_wpG n _ a' w' h'.2) (h.2 i hi)⟩

theorem waitsOn_false {es : List Edge} {i : Nat} (h : ∀ e ∈ es, Region.binds .any e = true → e.on ≠ i) : waitsOn es i = false := by
  induction es with
  | nil => rfl
  | cons e r ih =>
    simp only [waitsOn]
    rw [ih fun e he => h e (List.mem_cons_of_mem _ he)]
    cases hb : Region.binds .any e with
    | false => rfl
    | true => simp [nbeq_false.2 (h e (List.mem_cons_self ..) hb)]

theorem needS_true {i j : Nat} {oj : Oper} (hi : i ∈ qs) (hij : i ≠ j) (hj : ops[j]? = some oj) (h : ∀ e ∈ oj.after, Region.binds .any e = true → e.on ≠ i) : needS ops j qs = true := by
  induction qs with
  | nil => cases hi
  | cons q r ih =>
    simp only [needS]
    rcases List.mem_cons.1 hi with rfl | hi
    · simp only [hj]
      rw [waitsOn_false (es := oj.after.toList) (fun e he => h e (by simpa using he)), nbeq_false.2 hij]
      rfl
    · rw [ih hi]; simp

theorem wpG_first {i : Nat} {oi : Oper} {v : Value} (hi : ops[i]? = some oi) (hsel : ∀ (j : Nat) (o : Oper) cs b, ops[j]? = some o → o.op ≠ .select cs b)
    (hQ : ∀ c a w, ¬ Q (.panic c) a w) (hiq : i ∈ qs) :
    ∀ (n : Nat) (l : Array Bool) (a : Act) (w : World),
      (∀ j oj, ops[j]? = some oj → j ≠ i → l.getD j true = false → (∀ e ∈ oj.after, Region.binds .any e = true → e.on ≠ i) → oi.apart ops oj = true) →
      i ∈ Region.ready .any ops l → YieldsIf P ops S oi v a → S w →
      wpG P ops Q S qs n (l.setIfInBounds i true) (a.put oi.dst v) w → wpG P ops Q S qs (n + 1) l a w := by
  intro n
  induction n with
  | zero =>
    intro l a w _ hr hy hS H
    refine ⟨fun h => (by rw [h] at hr; cases hr), fun j hj => ?_⟩
    by_cases hji : j = i
    · subst hji; exact hy.wpOp hi hS ⟨fun _ => hS, H⟩
    · have := ready_mono hj hji
      rw [H.1] at this
      cases this
  | succ n ih =>
    intro l a w hfree hr hy hS H
    refine ⟨fun h => (by rw [h] at hr; cases hr), fun j hj => ?_⟩
    by_cases hji : j = i
    · subst hji; exact hy.wpOp hi hS ⟨fun _ => hS, H⟩
    · have h1 := H.2 j (ready_mono hj hji)
      obtain ⟨hjun, oj, hoj, hall⟩ := mem_ready.1 hj
      have hiun := (mem_ready.1 hr).1
      have hnot : ∀ e ∈ oj.after, Region.binds .any e = true → e.on ≠ i := fun e he hb heq => by
        have h1 := hall e he hb
        rw [heq] at h1
        rcases Nat.lt_or_ge i l.size with h' | h'
        · simp [h'] at hiun h1; rw [hiun] at h1; cases h1
        · simp [Array.getElem?_eq_none h'] at h1
      have h2 := wpOp_putIf hoj (hfree j oj hoj hji hjun hnot) (fun cs b => hsel i oi cs b hi) (fun cs b => hsel j oj cs b hoj) (fun c a w h => absurd h (hQ c _ w)) hy h1
      have hfree' : ∀ k ok, ops[k]? = some ok → k ≠ i → (l.setIfInBounds j true).getD k true = false →
          (∀ e ∈ ok.after, Region.binds .any e = true → e.on ≠ i) → oi.apart ops ok = true := fun k ok hk hki hun hno => by
        refine hfree k ok hk hki ?_ hno
        by_cases hjk : j = k
        · subst hjk; exact hjun
        · rw [getD_set_ne true hjk] at hun; exact hun
      have hneed := needS_true (ops := ops) hiq (Ne.symm hji) hoj hnot
      refine wpOp_mono (fun a' w' h3 => ?_) h2
      obtain ⟨h3a, h3b, h3c⟩ := h3
      refine ⟨h3b, ih (l.setIfInBounds j true) a' w' hfree' (ready_mono hr (Ne.symm hji)) h3a (h3b hneed) ?_⟩
      rw [Array.setIfInBounds_comm _ _ hji]
      exact h3c
end mixed

theorem value_not_enter {P : Program} {s : Sem Value} {w w' : World} {g : FuncId} {args : Array Value} : ((do pure (Next.value (← s))) : Sem Next).run P w ≠ .ok (.enter g args) w' := by
  rw [Sem.run_bind]
  cases s.run P w <;> simp

theorem quiet_not_enter {P : Program} {o : Oper} (hq : quietKind o.op = true) (hnn : ∀ x, o.op = .nilCheck x → False) {ρ : Operand → Value} {w w' : World} {g : FuncId} {args : Array Value} : (execOp ρ o).run P w ≠ .ok (.enter g args) w' := by
  cases ho : o.op with
  | move x => simp [execOp, ho]
  | assign x => simp [execOp, ho]
  | pick c a b =>
    simp only [execOp, ho, Sem.run_bind]
    cases (asBool (ρ c)).run P w <;> simp
  | load t a => simp only [execOp, ho]; exact value_not_enter
  | build t a => simp only [execOp, ho]; exact value_not_enter
  | binOp _ _ _ _ _ => simp only [execOp, ho]; exact value_not_enter
  | unOp _ _ _ => simp only [execOp, ho]; exact value_not_enter
  | makeFunc _ _ _ => simp only [execOp, ho]; exact value_not_enter
  | slice _ _ _ _ _ => simp only [execOp, ho]; exact value_not_enter
  | fieldAddr _ _ _ => simp only [execOp, ho]; exact value_not_enter
  | indexAddr _ _ _ => simp only [execOp, ho]; exact value_not_enter
  | index _ _ _ => simp only [execOp, ho]; exact value_not_enter
  | extract _ _ => simp only [execOp, ho]; exact value_not_enter
  | nilCheck x => exact (hnn x ho).elim
  | call c =>
    simp only [quietKind, ho] at hq
    split at hq
    · rename_i hc
      simp only [execOp, ho, resolve, hc, pure_bind, invoke, builtin]
      exact value_not_enter
    · cases hq
  | _ => simp [quietKind, ho] at hq

theorem opQ_val {P : Program} {hint : Hint} {o : Oper} {f : Fr} {w : World} {K : Value → Prop} (hq : quietKind o.op = true) (h : opQ P hint o f w K) :
    ∃ v, (∀ w', Ext w w' → (execOp (ev f) o).run P w' = .ok (.value v) w') ∧ K v := by
  by_cases hn : ∃ x, o.op = .nilCheck x
  · obtain ⟨x, ho⟩ := hn
    unfold opQ at h
    simp only [ho] at h
    split at h
    · rename_i p hx; exact ⟨_, fun w' _ => by simp [execOp, ho, hx], h⟩
    · exact h.elim
  rcases opQ_gives h with h | ⟨v, g, args, h1, _⟩
  · exact h
  · exact absurd (h1 w (Ext.refl w)).1 (quiet_not_enter hq fun x hx => hn ⟨x, hx⟩)

theorem opQ_all {P : Program} {hint : Hint} {o : Oper} {f : Fr} {w : World} {K : Value → Prop} (hq : quietKind o.op = true) (hnl : ∀ t x, o.op = .load t x → False) (h : opQ P hint o f w K) :
    ∃ v, (∀ w', (execOp (ev f) o).run P w' = .ok (.value v) w') ∧ K v := by
  unfold opQ at h
  cases ho : o.op with
  | move x => simp only [ho] at h; exact ⟨_, fun w' => by simp [execOp, ho], h⟩
  | assign x => simp only [ho] at h; exact ⟨_, fun w' => by simp [execOp, ho], h⟩
  | pick c a b =>
    simp only [ho] at h
    cases hv : ev f c with
    | bool t => simp only [hv] at h; exact ⟨if t then ev f a else ev f b, fun w' => by simp [execOp, ho, hv, asBool], by cases t <;> exact h⟩
    | _ => simp [hv] at h
  | load t x => exact (hnl t x ho).elim
  | build t parts =>
    simp only [ho] at h
    cases hb : P.built t (parts.toList.map fun q => (q.1, ev f q.2)) with
    | none => simp [hb] at h
    | some cs =>
      simp only [hb] at h
      refine ⟨_, fun w' => ?_, h⟩
      have := run_build (P := P) w' t (parts.map fun (i, x) => (i, ev f x)) cs (by rw [← hb]; congr 1; simp)
      simp [execOp, ho, this]
  | binOp op t x y yt =>
    simp only [ho] at h
    rcases binY_run h with ⟨v, h1, h2⟩ | h
    · refine ⟨v, fun w' => ?_, h2⟩
      have := h1 w'
      simp only [execOp, ho]
      rw [Sem.run_bind, this]; rfl
    · exact h.elim
  | unOp op t x =>
    simp only [ho] at h
    split at h
    · rename_i b hx; exact ⟨_, fun w' => by simp [execOp, ho, hx, Op.unary], h⟩
    · rename_i k n hx; exact ⟨_, fun w' => by simp [execOp, ho, hx, Op.unary, Op.intArith], h⟩
    · exact h.elim
  | makeFunc fn first captured =>
    simp only [ho] at h
    exact ⟨_, fun w' => by simp [execOp, ho, Instr.makeFunc, arr_map], h⟩
  | slice t x lo hi mx =>
    simp only [ho] at h
    split at h
    · rename_i a l c size lo' hi' hx hsz hlo hhi
      unfold elemSize at hsz
      cases hu : P.underlying t with
      | none => simp [hu] at hsz
      | some d =>
        cases d with
        | slice e =>
          cases hi : P.info? e with
          | none => simp [hu, hi] at hsz
          | some inf =>
            simp only [hu, hi, Option.some.injEq] at hsz
            subst hsz
            obtain ⟨h1, h2, h3, h4⟩ := h
            refine ⟨_, fun w' => ?_, h4⟩
            obtain ⟨s', hr, rfl⟩ := slice_run (K := fun s' => s' = _) hu hi hlo hhi (w := w') ⟨h1, h2, h3, rfl⟩
            simp [execOp, ho, hx, hr]
        | _ => simp [hu] at hsz
    · exact h.elim
  | fieldAddr s x i =>
    simp only [ho] at h
    split at h
    · rename_i off p hoff hx
      have hc : ∀ w' (K' : Value → World → Prop), K' (.pointer (some (p.add off))) w' → opC P hint o f w' K' := fun w' K' hk => by unfold opC; simp only [ho, hoff, hx]; exact hk
      refine ⟨_, fun w' => ?_, h⟩
      rcases opC_gives (hc w' (fun v u => v = .pointer (some (p.add off)) ∧ u = w') ⟨rfl, rfl⟩) with ⟨u, w2, h1, rfl, rfl⟩ | ⟨w2, h1, h2⟩ | ⟨g, args, h1, _⟩
      · exact h1
      · cases h2.1
      · simp only [execOp, ho] at h1
        rw [Sem.run_bind] at h1
        cases hq : (Instr.fieldAt s (ev f x) i).run P w' with
        | ok v w3 => rw [hq] at h1; cases h1
        | halt _ _ => rw [hq] at h1; cases h1
    · exact h.elim
  | indexAddr t x i =>
    simp only [ho] at h
    split at h
    · rename_i size a l c k n hsz hx hi
      unfold elemSize at hsz
      cases hu : P.underlying t with
      | none => simp [hu] at hsz
      | some d =>
        cases d with
        | slice e =>
          cases hie : P.info? e with
          | none => simp [hu, hie] at hsz
          | some inf =>
            simp only [hu, hie, Option.some.injEq] at hsz
            subst hsz
            obtain ⟨b, hb, h1, h2, h3⟩ := h
            simp only at hb
            subst hb
            exact ⟨_, fun w' => by simp [execOp, ho, hx, hi, Instr.indexAt, asIntOf, underlying_run hu, h1, h2, sizeOf_run hie], h3⟩
        | _ => simp [hu] at hsz
    · exact h.elim
  | index t x i =>
    simp only [ho] at h
    split at h
    · rename_i s k n hst hx hi
      obtain ⟨h0, b, hb, hk⟩ := h
      have hu := isStringT_spec hst
      have hb' : s[n.toNat]? = some b := by
        obtain ⟨hlt, he⟩ := List.getElem?_eq_some_iff.1 hb
        have hlt' : n.toNat < s.size := by rw [Array.length_toList] at hlt; exact hlt
        rw [getElem?_pos s n.toNat hlt']
        exact congrArg some he
      exact ⟨_, fun w' => by simp [execOp, ho, Instr.index, hx, hi, asIntOf, underlying_run hu, h0, hb'], hk⟩
    · exact h.elim
  | extract t i =>
    simp only [ho] at h
    cases hv : ev f t with
    | tuple vs =>
      simp only [hv] at h
      cases hx : vs.toList[i]? with
      | none => simp [hx] at h
      | some v =>
        simp only [hx] at h
        have hx' : vs[i]? = some v := by rw [← hx]; simp
        exact ⟨_, fun w' => by simp [execOp, ho, Instr.extract, hv, hx'], h⟩
    | _ => simp [hv] at h
  | nilCheck x =>
    simp only [ho] at h
    split at h
    · rename_i p hx; exact ⟨_, fun w' => by simp [execOp, ho, hx], h⟩
    · exact h.elim
  | call c =>
    simp only [ho] at h
    split at h
    · rename_i k hc
      simp only [quietKind, ho, hc] at hq
      cases hq
    · rename_i hc
      split at h
      · rename_i t a n cp hat hag
        cases hs : isSliceT P t with
        | false => simp [hs] at h
        | true =>
          obtain ⟨e, hu⟩ := isSliceT_spec hs
          simp only [hs, cond_true] at h
          have ha : c.argTypes = #[t] := by apply Array.ext'; simpa using hat
          have hg : c.args.map (ev f) = #[.slice a n cp] := Array.ext' (by simpa using hag)
          exact ⟨_, fun w' => by simp only [execOp, ho, resolve, hc, hg, ha]; simp [invoke, builtin, Builtin.len_, underlying_run hu, goInt], h⟩
      · rename_i t s hat hag
        cases hs : isStringT P t with
        | false => simp [hs] at h
        | true =>
          have hu := isStringT_spec hs
          simp only [hs, cond_true] at h
          have ha : c.argTypes = #[t] := by apply Array.ext'; simpa using hat
          have hg : c.args.map (ev f) = #[.string s] := Array.ext' (by simpa using hag)
          exact ⟨_, fun w' => by simp only [execOp, ho, resolve, hc, hg, ha]; simp [invoke, builtin, Builtin.len_, underlying_run hu, goInt], h⟩
      · exact h.elim
    · exact h.elim
  | _ => simp [ho] at h

theorem Chg.cell {w w' : World} {D : Nat → Prop} (h : Chg w w' D) {p : Addr} (hD : ¬ D p.block) {v : Value} (hc : w.cell? p = some v) : w'.cell? p = some v := by
  have hp : p.block < w.heap.size := by
    unfold World.cell? at hc
    cases hh : w.heap[p.block]? with
    | none => rw [hh] at hc; cases hc
    | some o => exact (Array.getElem?_eq_some_iff.1 hh).1
  unfold World.cell? at hc ⊢
  rw [h.block _ hp hD]; exact hc

theorem opQD_val {P : Program} {hint : Hint} {o : Oper} {f : Fr} {w : World} {D : Nat → Prop} {K : Value → Prop} (hq : quietKind o.op = true) (h : opQD P hint o f w D K) :
    ∃ v, (∀ w', Chg w w' D → (execOp (ev f) o).run P w' = .ok (.value v) w') ∧ K v := by
  unfold opQD at h
  split at h
  · rename_i t x ho
    split at h
    · rename_i a hx
      cases hs : okShape P t (one (hint t)) with
      | false => simp [hs] at h
      | true =>
        simp only [hs, cond_true] at h
        obtain ⟨hD, cs, hl, hc, hk⟩ := h
        refine ⟨(one (hint t)).mk cs, fun w' hw => ?_, app_cur hk⟩
        have hb : ∀ i, (a.add i).block = a.block := fun i => by unfold Addr.add; split <;> rfl
        simp [execOp, ho, hx, load_run hs hl (fun i v hi => hw.cell (by rw [hb]; exact hD) (hc i v hi))]
    · exact h.elim
  · rename_i hno
    obtain ⟨v, h1, h2⟩ := opQ_all hq (fun t x ho => hno t x ho) h
    exact ⟨v, fun w' _ => h1 w', h2⟩

theorem opQS_val {P : Program} {hint : Hint} {o : Oper} {f : Fr} {w : World} {D : Addr → Prop} {K : Value → Prop} (hq : quietKind o.op = true) (h : opQS P hint o f w D K) :
    ∃ v, (∀ w', Kept w w' D → (execOp (ev f) o).run P w' = .ok (.value v) w') ∧ K v := by
  unfold opQS at h
  split at h
  · rename_i t x ho
    split at h
    · rename_i a hx
      cases hs : okShape P t (one (hint t)) with
      | false => simp [hs] at h
      | true =>
        simp only [hs, cond_true] at h
        obtain ⟨hD, cs, hl, hc, hk⟩ := h
        refine ⟨(one (hint t)).mk cs, fun w' hw => ?_, app_cur hk⟩
        simp [execOp, ho, hx, load_run hs hl (fun i v hi => hw _ _ (hD i (by rw [← hl]; exact (List.getElem?_eq_some_iff.1 hi).1)) (hc i v hi))]
    · exact h.elim
  · rename_i hno
    obtain ⟨v, h1, h2⟩ := opQ_all hq (fun t x ho => hno t x ho) h
    exact ⟨v, fun w' _ => h1 w', h2⟩

theorem getD_replicate_false' (m j : Nat) : (Array.replicate m false).getD j false = false := by
  simp only [Array.getD_eq_getD_getElem?, Array.getElem?_replicate]
  split <;> rfl

theorem qsOf_sub {ops : Array Oper} : ∀ (l : List Nat) (listed : Array Bool), ∀ i ∈ qsOf ops l listed, i ∈ l
  | [], _, i, hi => by cases hi
  | k :: r, listed, i, hi => by
    simp only [qsOf] at hi
    cases hm : isQ ops listed k with
    | true =>
      rw [hm] at hi
      rcases List.mem_cons.1 hi with rfl | hi
      · simp
      · exact List.mem_cons_of_mem _ (qsOf_sub r _ i hi)
    | false => rw [hm] at hi; exact List.mem_cons_of_mem _ (qsOf_sub r _ i hi)

theorem memN_of_mem {d : Nat} : ∀ {l : List Nat}, d ∈ l → memN d l = true
  | x :: r, h => by
    rcases List.mem_cons.1 h with rfl | h
    · simp [memN]
    · simp only [memN, memN_of_mem h]
      cases Nat.beq d x <;> rfl

theorem Agree.put_mem {D : List Nat} {o : Oper} {f g : Fr} {v : Value} (hD : ∀ d, o.dst = some d → d ∈ D) (h : Agree D (put f o.dst v) g) : Agree D f g := fun t ht => by
  rw [h t ht]
  cases hd : o.dst with
  | none => rfl
  | some d =>
    refine st_ne _ _ fun he => ?_
    subst he
    rw [memN_of_mem (hD _ hd)] at ht
    cases ht

theorem opsM_sound {P : Program} {hint : Hint} {n : Nat} {ops : Array Oper} {w0 : World} {Q : Exit → Act → World → Prop} (hsel : Region.noSelect ops = true) (hQ : ∀ c a w, ¬ Q (.panic c) a w) (qs : List Nat) (hd : ∀ d ∈ dstsL ops.toList, d < n) :
    ∀ (l : List Nat) (listed : Array Bool) (_ : ∀ i ∈ qsOf ops l listed, i ∈ qs) (_ : ∀ j ∈ l, listed.getD j false = false) {f : Fr} {a : Act} {u : World} {K : Fr → World → Prop},
      lexM ops l listed = true → Rel n a f → ((∃ i ∈ qsOf ops l listed, True) → Ext w0 u) → opsM P hint ops qs w0 l listed f u K →
      (∀ f' a' w', Rel n a' f' → Agree (dstsL ops.toList) f f' → K f' w' → Q .normal a' w') → wpG P ops Q (fun w' => Ext w0 w') qs l.length listed a u
  | [], listed, _, _, f, a, u, K, hB, hr, _, h, hk => ⟨by simpa [lexM] using hB, hk f a u hr (Agree.refl _ _) h⟩
  | k :: rest, listed, hqs, hun, f, a, u, K, hB, hr, hS, h, hk => by
    simp only [lexM, Bool.and_eq_true] at hB
    have hnot : k ∉ rest := by simpa using hB.1
    replace hB := hB.2
    have hun' : ∀ j ∈ rest, (setL listed k).getD j false = false := fun j hj => by
      have hjk : j ≠ k := fun he => hnot (he ▸ hj)
      unfold setL; rw [getD_set_ne false (by omega)]; exact hun j (List.mem_cons_of_mem _ hj)
    simp only [opsM] at h
    cases h0 : ops[k]? with
    | none => rw [h0] at h; exact h.elim
    | some o =>
      rw [h0] at h
      simp only at h
      have hmem : o ∈ ops.toList := by
        have := Array.mem_of_getElem? h0
        simpa using this
      have hdo : ∀ j, o.dst = some j → j < n := fun j hj => hd j (dstsL_mem hmem hj)
      have hdm : ∀ j, o.dst = some j → j ∈ dstsL ops.toList := fun j hj => dstsL_mem hmem hj
      cases hg : o.guard with
      | some g => rw [hg] at h; exact h.elim
      | none =>
        rw [hg] at h
        simp only at h
        have hwant : Region.wanted o (yielded ops a.tmps) = true := by simp [Region.wanted, hg]
        cases hm : isQ ops listed k with
        | true =>
          rw [hm] at h
          simp only [hm, cond_true, Bool.and_eq_true] at hB
          simp only [cond_true] at h
          have hquiet : quietKind o.op = true := by simp only [isQ, h0, Bool.and_eq_true] at hm; exact hm.1
          have hqin : k ∈ qsOf ops (k :: rest) listed := by simp [qsOf, hm]
          have hExt : Ext w0 u := hS ⟨k, hqin, trivial⟩
          obtain ⟨v, hv, hK⟩ := opQ_val hquiet h
          have hy : YieldsIf P ops (fun w' => Ext w0 w') o v a := .inl ⟨hwant, fun w' hw' => by rw [hr.eval]; exact hv w' hw'⟩
          refine wpG_first h0 (Region.noSelect_spec hsel) hQ (hqs k hqin) rest.length listed a u (Region.free_spec h0 hB.1.2) (by simpa using hB.1.1) hy hExt ?_
          refine opsM_sound hsel hQ qs hd rest (setL listed k) (fun i hi => hqs i (by simp [qsOf, hm, hi])) hun' hB.2 (hr.put hdo v) (fun _ => hExt) hK ?_
          intro f' a' w' h1 h2 h3
          exact hk f' a' w' h1 (h2.put_mem hdm) h3
        | false =>
          rw [hm] at h
          simp only [hm, cond_false] at hB
          simp only [cond_false] at h
          have honly : Region.ready .any ops listed = [k] := of_decide_eq_true hB.1
          refine ⟨fun he => (by rw [honly] at he; cases he), fun i hi => ?_⟩
          rw [honly] at hi
          obtain rfl : i = k := by simpa using hi
          unfold wpOp
          simp only [h0, hwant, if_true]
          refine .inl (wp_of_gives hr (opC_gives h) fun v u' hv => ?_)
          have go : (needS ops i qs = true → Ext w0 u') → opsM P hint ops qs w0 rest (setL listed i) (put f o.dst v) u' K → (needS ops i qs = true → Ext w0 u') ∧ wpG P ops Q (fun w' => Ext w0 w') qs rest.length (listed.setIfInBounds i true) (a.put o.dst v) u' := by
            intro hneed hnext
            refine ⟨hneed, opsM_sound hsel hQ qs hd rest (setL listed i) (fun j hj => hqs j (by simp [qsOf, hm, hj])) hun' hB.2 (hr.put hdo v) (fun ⟨j, hj, _⟩ => ?_) hnext ?_⟩
            · -- a looking one is still to come: it may come up behind this one
              refine hneed ?_
              have hjr := qsOf_sub rest (setL listed i) j hj
              have hji : j ≠ i := fun he => hnot (he ▸ hjr)
              refine needS_true (hqs j (by simp [qsOf, hm, hj])) (by omega) h0 fun e he hb heq => ?_
              have hrd : i ∈ Region.ready .any ops listed := by rw [honly]; simp
              obtain ⟨_, oj, hoj, hall⟩ := mem_ready.1 hrd
              rw [h0] at hoj
              cases hoj
              have := hall e he hb
              rw [heq, hun j (List.mem_cons_of_mem _ hjr)] at this
              cases this
            · intro f' a' w' h1 h2 h3
              exact hk f' a' w' h1 (h2.put_mem hdm) h3
          cases hn : needS ops i qs with
          | true => rw [hn] at hv; simp only [cond_true] at hv; rw [hn] at go; exact go (fun _ => hv.1) hv.2
          | false => rw [hn] at hv; simp only [cond_false] at hv; rw [hn] at go; exact go (fun h => by cases h) hv

theorem opsD_sound {P : Program} {hint : Hint} {n : Nat} {ops : Array Oper} {w0 : World} {D : Nat → Prop} {Q : Exit → Act → World → Prop} (hsel : Region.noSelect ops = true) (hQ : ∀ c a w, ¬ Q (.panic c) a w) (qs : List Nat) (hd : ∀ d ∈ dstsL ops.toList, d < n) :
    ∀ (l : List Nat) (listed : Array Bool) (_ : ∀ i ∈ qsOf ops l listed, i ∈ qs) (_ : ∀ j ∈ l, listed.getD j false = false) {f : Fr} {a : Act} {u : World} {K : Fr → World → Prop},
      lexM ops l listed = true → Rel n a f → ((∃ i ∈ qsOf ops l listed, True) → Chg w0 u D) → opsD P hint ops qs D w0 l listed f u K →
      (∀ f' a' w', Rel n a' f' → Agree (dstsL ops.toList) f f' → K f' w' → Q .normal a' w') → wpG P ops Q (fun w' => Chg w0 w' D) qs l.length listed a u
  | [], listed, _, _, f, a, u, K, hB, hr, _, h, hk => ⟨by simpa [lexM] using hB, hk f a u hr (Agree.refl _ _) h⟩
  | k :: rest, listed, hqs, hun, f, a, u, K, hB, hr, hS, h, hk => by
    simp only [lexM, Bool.and_eq_true] at hB
    have hnot : k ∉ rest := by simpa using hB.1
    replace hB := hB.2
    have hun' : ∀ j ∈ rest, (setL listed k).getD j false = false := fun j hj => by
      have hjk : j ≠ k := fun he => hnot (he ▸ hj)
      unfold setL; rw [getD_set_ne false (by omega)]; exact hun j (List.mem_cons_of_mem _ hj)
    simp only [opsD] at h
    cases h0 : ops[k]? with
    | none => rw [h0] at h; exact h.elim
    | some o =>
      rw [h0] at h
      simp only at h
      have hmem : o ∈ ops.toList := by
        have := Array.mem_of_getElem? h0
        simpa using this
      have hdo : ∀ j, o.dst = some j → j < n := fun j hj => hd j (dstsL_mem hmem hj)
      have hdm : ∀ j, o.dst = some j → j ∈ dstsL ops.toList := fun j hj => dstsL_mem hmem hj
      cases hg : o.guard with
      | some g => rw [hg] at h; exact h.elim
      | none =>
        rw [hg] at h
        simp only at h
        have hwant : Region.wanted o (yielded ops a.tmps) = true := by simp [Region.wanted, hg]
        cases hm : isQ ops listed k with
        | true =>
          rw [hm] at h
          simp only [hm, cond_true, Bool.and_eq_true] at hB
          simp only [cond_true] at h
          have hquiet : quietKind o.op = true := by simp only [isQ, h0, Bool.and_eq_true] at hm; exact hm.1
          have hqin : k ∈ qsOf ops (k :: rest) listed := by simp [qsOf, hm]
          have hExt : Chg w0 u D := hS ⟨k, hqin, trivial⟩
          obtain ⟨v, hv, hK⟩ := opQD_val hquiet h
          have hy : YieldsIf P ops (fun w' => Chg w0 w' D) o v a := .inl ⟨hwant, fun w' hw' => by rw [hr.eval]; exact hv w' hw'⟩
          refine wpG_first h0 (Region.noSelect_spec hsel) hQ (hqs k hqin) rest.length listed a u (Region.free_spec h0 hB.1.2) (by simpa using hB.1.1) hy hExt ?_
          refine opsD_sound hsel hQ qs hd rest (setL listed k) (fun i hi => hqs i (by simp [qsOf, hm, hi])) hun' hB.2 (hr.put hdo v) (fun _ => hExt) hK ?_
          intro f' a' w' h1 h2 h3
          exact hk f' a' w' h1 (h2.put_mem hdm) h3
        | false =>
          rw [hm] at h
          simp only [hm, cond_false] at hB
          simp only [cond_false] at h
          have honly : Region.ready .any ops listed = [k] := of_decide_eq_true hB.1
          refine ⟨fun he => (by rw [honly] at he; cases he), fun i hi => ?_⟩
          rw [honly] at hi
          obtain rfl : i = k := by simpa using hi
          unfold wpOp
          simp only [h0, hwant, if_true]
          refine .inl (wp_of_gives hr (opC_gives h) fun v u' hv => ?_)
          have go : (needS ops i qs = true → Chg w0 u' D) → opsD P hint ops qs D w0 rest (setL listed i) (put f o.dst v) u' K → (needS ops i qs = true → Chg w0 u' D) ∧ wpG P ops Q (fun w' => Chg w0 w' D) qs rest.length (listed.setIfInBounds i true) (a.put o.dst v) u' := by
            intro hneed hnext
            refine ⟨hneed, opsD_sound hsel hQ qs hd rest (setL listed i) (fun j hj => hqs j (by simp [qsOf, hm, hj])) hun' hB.2 (hr.put hdo v) (fun ⟨j, hj, _⟩ => ?_) hnext ?_⟩
            · -- a looking one is still to come: it may come up behind this one
              refine hneed ?_
              have hjr := qsOf_sub rest (setL listed i) j hj
              have hji : j ≠ i := fun he => hnot (he ▸ hjr)
              refine needS_true (hqs j (by simp [qsOf, hm, hj])) (by omega) h0 fun e he hb heq => ?_
              have hrd : i ∈ Region.ready .any ops listed := by rw [honly]; simp
              obtain ⟨_, oj, hoj, hall⟩ := mem_ready.1 hrd
              rw [h0] at hoj
              cases hoj
              have := hall e he hb
              rw [heq, hun j (List.mem_cons_of_mem _ hjr)] at this
              cases this
            · intro f' a' w' h1 h2 h3
              exact hk f' a' w' h1 (h2.put_mem hdm) h3
          cases hn : needS ops i qs with
          | true => rw [hn] at hv; simp only [cond_true] at hv; rw [hn] at go; exact go (fun _ => hv.1) hv.2
          | false => rw [hn] at hv; simp only [cond_false] at hv; rw [hn] at go; exact go (fun h => by cases h) hv

/-! ### Soundness of the regions in each order -/

section orders
variable {P : Program} {ops : Array Oper} {Q : Exit → Act → World → Prop} {T : World → World → Prop} {Y : World → World → Prop}

def wpT (P : Program) (ops : Array Oper) (Q : Exit → Act → World → Prop) (T : World → World → Prop) : Nat → Array Bool → Act → World → Prop
  | 0, l, a, w => Region.ready .any ops l = [] ∧ Q .normal a w
  | n + 1, l, a, w => (Region.ready .any ops l = [] → Q .normal a w) ∧
    ∀ i ∈ Region.ready .any ops l, wpOp P ops Q i (fun a' w' => T w w' ∧ wpT P ops Q T n (l.setIfInBounds i true) a' w') a w

theorem wpAny_of_wpT : ∀ (n : Nat) (l : Array Bool) (a : Act) (w : World), wpT P ops Q T n l a w → wpAny P .any ops Q n l a w
  | 0, _, _, _, h => h
  | n + 1, _, _, _, h => ⟨h.1, fun i hi => wpOp_mono (fun a' w' h' => wpAny_of_wpT n _ a' w' h'.2) (h.2 i hi)⟩

theorem yieldsIf_sub {S S' : World → Prop} {o : Oper} {v : Value} {a : Act} (hy : YieldsIf P ops S o v a) (h : ∀ x, S' x → S x) : YieldsIf P ops S' o v a :=
  hy.imp (fun ⟨h1, h2⟩ => ⟨h1, fun x hx => h2 x (h x hx)⟩) id

theorem wpT_first {i : Nat} {oi : Oper} {v : Value} (hi : ops[i]? = some oi) (hsel : ∀ (j : Nat) (o : Oper) cs b, ops[j]? = some o → o.op ≠ .select cs b)
    (hQ : ∀ c a w, ¬ Q (.panic c) a w) (hT0 : ∀ w, Y w w → T w w) (hT1 : ∀ w w', T w w' → Y w w → Y w' w' ∧ ∀ x, Y w' x → Y w x) :
    ∀ (n : Nat) (l : Array Bool) (a : Act) (w : World),
      (∀ j oj, ops[j]? = some oj → j ≠ i → l.getD j true = false → (∀ e ∈ oj.after, Region.binds .any e = true → e.on ≠ i) → oi.apart ops oj = true) →
      i ∈ Region.ready .any ops l → YieldsIf P ops (Y w) oi v a → Y w w →
      wpT P ops Q T n (l.setIfInBounds i true) (a.put oi.dst v) w → wpT P ops Q T (n + 1) l a w := by
  intro n
  induction n with
  | zero =>
    intro l a w _ hr hy hS H
    refine ⟨fun h => (by rw [h] at hr; cases hr), fun j hj => ?_⟩
    by_cases hji : j = i
    · subst hji; exact hy.wpOp hi hS ⟨hT0 w hS, H⟩
    · have := ready_mono hj hji
      rw [H.1] at this
      cases this
  | succ n ih =>
    intro l a w hfree hr hy hS H
    refine ⟨fun h => (by rw [h] at hr; cases hr), fun j hj => ?_⟩
    by_cases hji : j = i
    · subst hji; exact hy.wpOp hi hS ⟨hT0 w hS, H⟩
    · have h1 := H.2 j (ready_mono hj hji)
      obtain ⟨hjun, oj, hoj, hall⟩ := mem_ready.1 hj
      have hiun := (mem_ready.1 hr).1
      have hnot : ∀ e ∈ oj.after, Region.binds .any e = true → e.on ≠ i := fun e he hb heq => by
        have h1 := hall e he hb
        rw [heq] at h1
        rcases Nat.lt_or_ge i l.size with h' | h'
        · simp [h'] at hiun h1; rw [hiun] at h1; cases h1
        · simp [Array.getElem?_eq_none h'] at h1
      have h2 := wpOp_putIf hoj (hfree j oj hoj hji hjun hnot) (fun cs b => hsel i oi cs b hi) (fun cs b => hsel j oj cs b hoj) (fun c a w h => absurd h (hQ c _ w)) hy h1
      have hfree' : ∀ k ok, ops[k]? = some ok → k ≠ i → (l.setIfInBounds j true).getD k true = false →
          (∀ e ∈ ok.after, Region.binds .any e = true → e.on ≠ i) → oi.apart ops ok = true := fun k ok hk hki hun hno => by
        refine hfree k ok hk hki ?_ hno
        by_cases hjk : j = k
        · subst hjk; exact hjun
        · rw [getD_set_ne true hjk] at hun; exact hun
      refine wpOp_mono (fun a' w' h3 => ?_) h2
      obtain ⟨h3a, h3b, h3c⟩ := h3
      obtain ⟨h4, h5⟩ := hT1 w w' h3b hS
      refine ⟨h3b, ih (l.setIfInBounds j true) a' w' hfree' (ready_mono hr (Ne.symm hji)) (yieldsIf_sub h3a h5) h4 ?_⟩
      rw [Array.setIfInBounds_comm _ _ hji]
      exact h3c

theorem allA_spec {F : Nat → Prop} : ∀ {l : List Nat}, allA l F → ∀ i ∈ l, F i
  | [], _, i, hi => by cases hi
  | [k], h, i, hi => by rw [List.mem_singleton.1 hi]; exact h
  | k :: k' :: r, h, i, hi => by
    rcases List.mem_cons.1 hi with rfl | hi
    · exact h.1
    · exact allA_spec (l := k' :: r) h.2 i hi

theorem pickA_spec {l : Array Bool} {i : Nat} : ∀ {r : List Nat}, pickA ops l r = some i → i ∈ r ∧ (∃ o, ops[i]? = some o ∧ quietKind o.op = true) ∧ Region.free .any ops l i = true
  | [], h => by cases h
  | k :: r, h => by
    simp only [pickA] at h
    cases hb : ((match ops[k]? with | some o => quietKind o.op | none => false) && Region.free .any ops l k) with
    | true =>
      rw [hb] at h
      simp only [cond_true, Option.some.injEq] at h
      subst h
      simp only [Bool.and_eq_true] at hb
      refine ⟨by simp, ?_, hb.2⟩
      cases hk : ops[k]? with
      | none => rw [hk] at hb; cases hb.1
      | some o => rw [hk] at hb; exact ⟨o, rfl, hb.1⟩
    | false =>
      rw [hb] at h
      simp only [cond_false] at h
      obtain ⟨h1, h2, h3⟩ := pickA_spec h
      exact ⟨List.mem_cons_of_mem _ h1, h2, h3⟩

theorem pick2_spec {l : Array Bool} {i : Nat} {r : List Nat} (h : pick2 ops l r = some i) : i ∈ r ∧ (∃ o, ops[i]? = some o ∧ quietKind o.op = true) ∧ Region.free .any ops l i = true := by
  match r, h with
  | [], h => cases h
  | [_], h => cases h
  | _ :: _ :: _, h => exact pickA_spec h

theorem pickPA_spec {l : Array Bool} {i : Nat} : ∀ {r : List Nat}, pickPA ops l r = some i → i ∈ r ∧ (∃ o, ops[i]? = some o ∧ quietKind o.op = true ∧ ∀ t x, o.op = .load t x → False) ∧ Region.free .any ops l i = true
  | [], h => by cases h
  | k :: r, h => by
    simp only [pickPA] at h
    cases hk : ops[k]? with
    | none =>
      rw [hk] at h
      simp only [Bool.false_and, cond_false] at h
      obtain ⟨h1, h2, h3⟩ := pickPA_spec h
      exact ⟨List.mem_cons_of_mem _ h1, h2, h3⟩
    | some o =>
      rw [hk] at h
      simp only at h
      cases hb : ((quietKind o.op && !(match o.op with | .load .. => true | _ => false)) && Region.free .any ops l k) with
      | true =>
        rw [hb] at h
        simp only [cond_true, Option.some.injEq] at h
        subst h
        simp only [Bool.and_eq_true] at hb
        refine ⟨by simp, ⟨o, hk, hb.1.1, fun t x ho => ?_⟩, hb.2⟩
        have := hb.1.2
        rw [ho] at this
        simp at this
      | false =>
        rw [hb] at h
        simp only [cond_false] at h
        obtain ⟨h1, h2, h3⟩ := pickPA_spec h
        exact ⟨List.mem_cons_of_mem _ h1, h2, h3⟩

theorem pickP_spec {l : Array Bool} {r : List Nat} {i : Nat} (h : pickP ops l r = some i) : i ∈ r ∧ (∃ o, ops[i]? = some o ∧ (quietKind o.op = true ∧ ∀ t x, o.op = .load t x → False)) ∧ Region.free .any ops l i = true := by
  match r, h with
  | [], h => cases h
  | [_], h => cases h
  | _ :: _ :: _, h => exact pickPA_spec h

theorem opsA_sound {n : Nat} {sel : Array Bool → List Nat → Option Nat} {G : Oper → Prop} (hpick : ∀ {l r i}, sel l r = some i → i ∈ r ∧ (∃ o, ops[i]? = some o ∧ G o) ∧ Region.free .any ops l i = true) {runQ runC : Oper → Fr → World → (Fr → World → Prop) → Prop} (hsel : Region.noSelect ops = true) (hQ : ∀ c a w, ¬ Q (.panic c) a w) (hd : ∀ d ∈ dstsL ops.toList, d < n)
    (hT0 : ∀ w, Y w w → T w w) (hT1 : ∀ w w', T w w' → Y w w → Y w' w' ∧ ∀ x, Y w' x → Y w x)
    (hq : ∀ o f u next, G o → runQ o f u next → Y u u → ∃ v, (∀ w', Y u w' → (execOp (ev f) o).run P w' = .ok (.value v) w') ∧ next (put f o.dst v) u)
    (hc : ∀ o f u next, runC o f u next → Gives P o f u (fun v u' => T u u' ∧ next (put f o.dst v) u')) :
    ∀ (m : Nat) (l : Array Bool) {f : Fr} {a : Act} {u : World} {K : Fr → World → Prop}, Rel n a f → Y u u → opsA ops sel runQ runC m l f u K →
      (∀ f' a' w', Rel n a' f' → Agree (dstsL ops.toList) f f' → K f' w' → Q .normal a' w') → wpT P ops Q T m l a u
  | 0, l, f, a, u, K, hr, _, h, hk => by
    simp only [opsA] at h
    cases hre : Region.ready .any ops l with
    | nil => rw [hre] at h; exact ⟨hre, hk f a u hr (Agree.refl _ _) h⟩
    | cons k r => rw [hre] at h; exact h.elim
  | m + 1, l, f, a, u, K, hr, hY, h, hk => by
    simp only [opsA] at h
    cases hre : Region.ready .any ops l with
    | nil => rw [hre] at h; exact ⟨fun _ => hk f a u hr (Agree.refl _ _) h, fun i hi => by rw [hre] at hi; cases hi⟩
    | cons k r =>
      rw [hre] at h
      simp only at h
      have hmemo : ∀ {i : Nat} {o : Oper}, ops[i]? = some o → o ∈ ops.toList := fun h0 => by
        have := Array.mem_of_getElem? h0
        simpa using this
      have hnext : ∀ {i : Nat} {o : Oper} (_ : ops[i]? = some o) {f1 : Fr} (_ : f1 = f) (v : Value) (u' : World), Y u' u' → opsA ops sel runQ runC m (setL l i) (put f1 o.dst v) u' K → wpT P ops Q T m (l.setIfInBounds i true) (a.put o.dst v) u' := by
        intro i o h0 f1 hf1 v u' hY' hA
        subst hf1
        have hdo : ∀ j, o.dst = some j → j < n := fun j hj => hd j (dstsL_mem (hmemo h0) hj)
        refine opsA_sound hpick hsel hQ hd hT0 hT1 hq hc m (setL l i) (hr.put hdo v) hY' hA ?_
        intro f' a' w' h1 h2 h3
        exact hk f' a' w' h1 (h2.put_mem fun j hj => dstsL_mem (hmemo h0) hj) h3
      cases hp : sel l (k :: r) with
      | some i =>
        rw [hp] at h
        simp only at h
        obtain ⟨hmem, ⟨o, h0, hqk⟩, hfree⟩ := hpick hp
        have hrd : i ∈ Region.ready .any ops l := by rw [hre]; exact hmem
        have fin : ∀ v, YieldsIf P ops (Y u) o v a → (∃ f1, f1 = f ∧ opsA ops sel runQ runC m (setL l i) (put f1 o.dst v) u K) → wpT P ops Q T (m + 1) l a u := fun v hy ⟨f1, hf1, hA⟩ =>
          wpT_first h0 (Region.noSelect_spec hsel) hQ hT0 hT1 m l a u (Region.free_spec h0 hfree) hrd hy hY (hnext h0 hf1 v u hY hA)
        have finQ : Region.wanted o (yielded ops a.tmps) = true → ∀ f1, f1 = f → runQ o f1 u (fun f' u' => opsA ops sel runQ runC m (setL l i) f' u' K) → wpT P ops Q T (m + 1) l a u := fun hwant f1 hf1 hrun => by
          obtain ⟨v, hv, hA⟩ := hq o f1 u _ hqk hrun hY
          exact fin v (.inl ⟨hwant, fun w' hw' => by rw [hr.eval, ← hf1]; exact hv w' hw'⟩) ⟨f1, hf1, hA⟩
        simp only [oneA, h0] at h
        cases hg : o.guard with
        | none =>
          rw [hg] at h
          exact finQ (by simp [Region.wanted, hg]) f rfl h
        | some jw =>
          obtain ⟨j, want⟩ := jw
          rw [hg] at h
          simp only at h
          cases hs : slotOf ops.toList j with
          | none => rw [hs] at h; exact h.elim
          | some d =>
            rw [hs] at h
            simp only at h
            have hdn : d < n := hd d (slotOf_mem hs)
            have hw0 := wanted_of hr hg hs hdn
            cases hf : f d with
            | bool b =>
              rw [hf] at h hw0
              simp only at h hw0
              have hst : ∀ c, c = b → st f d (.bool c) = f := fun c hc => st_self (by rw [hf, hc])
              cases b with
              | true =>
                simp only [cond_true, same_eq] at h
                cases hw : (some true == some want) with
                | true => simp only [hw, cond_true] at h; exact finQ (hw0.trans hw) _ (hst true rfl) h
                | false => simp only [hw, cond_false] at h; exact fin undef (.inr ⟨hw0.trans hw, rfl⟩) ⟨_, hst true rfl, h⟩
              | false =>
                simp only [cond_false, same_eq] at h
                cases hw : (some false == some want) with
                | true => simp only [hw, cond_true] at h; exact finQ (hw0.trans hw) _ (hst false rfl) h
                | false => simp only [hw, cond_false] at h; exact fin undef (.inr ⟨hw0.trans hw, rfl⟩) ⟨_, hst false rfl, h⟩
            | _ =>
              rw [hf] at h hw0
              simp only at h hw0
              have hw : ((none : Option Bool) == some want) = false := by cases want <;> rfl
              exact fin undef (.inr ⟨hw0.trans hw, rfl⟩) ⟨f, rfl, h⟩
      | none =>
        rw [hp] at h
        simp only at h
        refine ⟨fun he => (by rw [hre] at he; cases he), fun i hi => ?_⟩
        rw [hre] at hi
        have h := allA_spec h i hi
        simp only [oneA] at h
        cases h0 : ops[i]? with
        | none => rw [h0] at h; exact h.elim
        | some o =>
          rw [h0] at h
          simp only at h
          have fin : Region.wanted o (yielded ops a.tmps) = false → (∃ f1, f1 = f ∧ opsA ops sel runQ runC m (setL l i) (put f1 o.dst undef) u K) → wpOp P ops Q i (fun a' w' => T u w' ∧ wpT P ops Q T m (l.setIfInBounds i true) a' w') a u := fun hwant ⟨f1, hf1, hA⟩ => by
            unfold wpOp
            simp only [h0, hwant, Bool.false_eq_true, if_false]
            exact ⟨hT0 u hY, hnext h0 hf1 undef u hY hA⟩
          have finC : Region.wanted o (yielded ops a.tmps) = true → ∀ f1, f1 = f → runC o f1 u (fun f' u' => opsA ops sel runQ runC m (setL l i) f' u' K) → wpOp P ops Q i (fun a' w' => T u w' ∧ wpT P ops Q T m (l.setIfInBounds i true) a' w') a u := fun hwant f1 hf1 hrun => by
            subst hf1
            unfold wpOp
            simp only [h0, hwant, if_true]
            refine .inl (wp_of_gives hr (hc o _ u _ hrun) fun v u' hv => ⟨hv.1, ?_⟩)
            exact hnext h0 rfl v u' (hT1 u u' hv.1 hY).1 hv.2
          cases hg : o.guard with
          | none =>
            rw [hg] at h
            exact finC (by simp [Region.wanted, hg]) f rfl h
          | some jw =>
            obtain ⟨j, want⟩ := jw
            rw [hg] at h
            simp only at h
            cases hs : slotOf ops.toList j with
            | none => rw [hs] at h; exact h.elim
            | some d =>
              rw [hs] at h
              simp only at h
              have hdn : d < n := hd d (slotOf_mem hs)
              have hw0 := wanted_of hr hg hs hdn
              cases hf : f d with
              | bool b =>
                rw [hf] at h hw0
                simp only at h hw0
                have hst : ∀ c, c = b → st f d (.bool c) = f := fun c hc => st_self (by rw [hf, hc])
                cases b with
                | true =>
                  simp only [cond_true, same_eq] at h
                  cases hw : (some true == some want) with
                  | true => simp only [hw, cond_true] at h; exact finC (hw0.trans hw) _ (hst true rfl) h
                  | false => simp only [hw, cond_false] at h; exact fin (hw0.trans hw) ⟨_, hst true rfl, h⟩
                | false =>
                  simp only [cond_false, same_eq] at h
                  cases hw : (some false == some want) with
                  | true => simp only [hw, cond_true] at h; exact finC (hw0.trans hw) _ (hst false rfl) h
                  | false => simp only [hw, cond_false] at h; exact fin (hw0.trans hw) ⟨_, hst false rfl, h⟩
              | _ =>
                rw [hf] at h hw0
                simp only at h hw0
                have hw : ((none : Option Bool) == some want) = false := by cases want <;> rfl
                exact fin (hw0.trans hw) ⟨f, rfl, h⟩
end orders

theorem Gives.mono {P : Program} {o : Oper} {f : Fr} {w : World} {K K' : Value → World → Prop} (h : Gives P o f w K) (hk : ∀ v w', K v w' → K' v w') : Gives P o f w K' := by
  rcases h with ⟨v, w', h1, h2⟩ | ⟨w', h1, h2⟩ | ⟨g, args, h1, h2⟩
  · exact .inl ⟨v, w', h1, hk _ _ h2⟩
  · exact .inr (.inl ⟨w', h1, hk _ _ h2⟩)
  · exact .inr (.inr ⟨g, args, h1, h2.mono fun e w' ⟨v, hv, hK⟩ => ⟨v, hv, hk _ _ hK⟩⟩)

/-! ### Soundness of the noted regions -/

section noted
variable {P : Program} {ops : Array Oper} {Q : Exit → Act → World → Prop} {S : World → Prop} {chk : Nat → Bool}

def wpN (P : Program) (ops : Array Oper) (Q : Exit → Act → World → Prop) (S : World → Prop) (chk : Nat → Bool) : Nat → Array Bool → Act → World → Prop
  | 0, l, a, w => Region.ready .any ops l = [] ∧ Q .normal a w
  | n + 1, l, a, w => (Region.ready .any ops l = [] → Q .normal a w) ∧
    ∀ i ∈ Region.ready .any ops l, wpOp P ops Q i (fun a' w' => (chk i = true → S w') ∧ wpN P ops Q S chk n (l.setIfInBounds i true) a' w') a w

theorem wpAny_of_wpN : ∀ (n : Nat) (l : Array Bool) (a : Act) (w : World), wpN P ops Q S chk n l a w → wpAny P .any ops Q n l a w
  | 0, _, _, _, h => h
  | n + 1, _, _, _, h => ⟨h.1, fun i hi => wpOp_mono (fun a' w' h' => wpAny_of_wpN n _ a' w' h'.2) (h.2 i hi)⟩

/-- A looking operation taken first: one that does not look at memory (Y: whatever the world), or a load (Y: S). -/
theorem wpN_first {i : Nat} {oi : Oper} {v : Value} {Y : World → Prop} {ld : Bool} (hi : ops[i]? = some oi) (hsel : ∀ (j : Nat) (o : Oper) cs b, ops[j]? = some o → o.op ≠ .select cs b)
    (hQ : ∀ c a w, ¬ Q (.panic c) a w) (hY : (ld = false ∧ (∀ w, Y w) ∧ chk i = false) ∨ (ld = true ∧ Y = S)) :
    ∀ (n : Nat) (l : Array Bool) (a : Act) (w : World),
      (ld = true → ∀ j oj, ops[j]? = some oj → j ≠ i → l.getD j true = false → (∀ e ∈ oj.after, Region.binds .any e = true → e.on ≠ i) → chk j = true) →
      (∀ j oj, ops[j]? = some oj → j ≠ i → l.getD j true = false → (∀ e ∈ oj.after, Region.binds .any e = true → e.on ≠ i) → oi.apart ops oj = true) →
      i ∈ Region.ready .any ops l → YieldsIf P ops Y oi v a → (ld = true → S w) →
      wpN P ops Q S chk n (l.setIfInBounds i true) (a.put oi.dst v) w → wpN P ops Q S chk (n + 1) l a w := by
  have hYw : ∀ w, (ld = true → S w) → Y w := fun w h => by
    rcases hY with ⟨_, h1, _⟩ | ⟨h1, rfl⟩
    · exact h1 w
    · exact h h1
  have hci : ∀ w, (ld = true → S w) → chk i = true → S w := fun w h hc => by
    rcases hY with ⟨_, _, h2⟩ | ⟨h1, _⟩
    · rw [h2] at hc; cases hc
    · exact h h1
  intro n
  induction n with
  | zero =>
    intro l a w _ _ hr hy hS H
    refine ⟨fun h => (by rw [h] at hr; cases hr), fun j hj => ?_⟩
    by_cases hji : j = i
    · subst hji; exact hy.wpOp hi (hYw w hS) ⟨hci w hS, H⟩
    · have := ready_mono hj hji
      rw [H.1] at this
      cases this
  | succ n ih =>
    intro l a w hchk hfree hr hy hS H
    refine ⟨fun h => (by rw [h] at hr; cases hr), fun j hj => ?_⟩
    by_cases hji : j = i
    · subst hji; exact hy.wpOp hi (hYw w hS) ⟨hci w hS, H⟩
    · have h1 := H.2 j (ready_mono hj hji)
      obtain ⟨hjun, oj, hoj, hall⟩ := mem_ready.1 hj
      have hiun := (mem_ready.1 hr).1
      have hnot : ∀ e ∈ oj.after, Region.binds .any e = true → e.on ≠ i := fun e he hb heq => by
        have h1 := hall e he hb
        rw [heq] at h1
        rcases Nat.lt_or_ge i l.size with h' | h'
        · simp [h'] at hiun h1; rw [hiun] at h1; cases h1
        · simp [Array.getElem?_eq_none h'] at h1
      have h2 := wpOp_putIf hoj (hfree j oj hoj hji hjun hnot) (fun cs b => hsel i oi cs b hi) (fun cs b => hsel j oj cs b hoj) (fun c a w h => absurd h (hQ c _ w)) hy h1
      have hun' : ∀ k, k ≠ i → (l.setIfInBounds j true).getD k true = false → l.getD k true = false := fun k _ hun => by
        by_cases hjk : j = k
        · subst hjk; exact hjun
        · rw [getD_set_ne true hjk] at hun; exact hun
      have hfree' : ∀ k ok, ops[k]? = some ok → k ≠ i → (l.setIfInBounds j true).getD k true = false →
          (∀ e ∈ ok.after, Region.binds .any e = true → e.on ≠ i) → oi.apart ops ok = true := fun k ok hk hki hun hno => hfree k ok hk hki (hun' k hki hun) hno
      refine wpOp_mono (fun a' w' h3 => ?_) h2
      obtain ⟨h3a, h3b, h3c⟩ := h3
      refine ⟨h3b, ih (l.setIfInBounds j true) a' w' (fun hys k ok hk hki hun hno => hchk hys k ok hk hki (hun' k hki hun) hno) hfree' (ready_mono hr (Ne.symm hji)) h3a (fun hys => h3b (hchk hys j oj hoj hji hjun hnot)) ?_⟩
      rw [Array.setIfInBounds_comm _ _ hji]
      exact h3c
end noted

theorem inN_spec {n : Nat} : ∀ {l : List Nat}, inN n l = true ↔ n ∈ l
  | [] => by simp [inN]
  | m :: r => by
    unfold inN
    cases hb : Nat.beq n m with
    | true => have := Nat.eq_of_beq_eq_true hb; simp [this]
    | false =>
      have := nbeq_false.1 hb
      simp only [cond_false, List.mem_cons, this, false_or]
      exact inN_spec

theorem loadsIn_spec {ops : Array Oper} {i : Nat} : ∀ {l : List Nat}, i ∈ loadsIn ops l ↔ i ∈ l ∧ isLoad ops i = true
  | [] => by simp [loadsIn]
  | m :: r => by
    unfold loadsIn
    cases hb : isLoad ops m with
    | true =>
      simp only [cond_true, List.mem_cons, loadsIn_spec (l := r)]
      constructor
      · rintro (rfl | ⟨h1, h2⟩)
        · exact ⟨.inl rfl, hb⟩
        · exact ⟨.inr h1, h2⟩
      · rintro ⟨rfl | h1, h2⟩
        · exact .inl rfl
        · exact .inr ⟨h1, h2⟩
    | false =>
      simp only [cond_false, List.mem_cons, loadsIn_spec (l := r)]
      constructor
      · rintro ⟨h1, h2⟩; exact ⟨.inr h1, h2⟩
      · rintro ⟨rfl | h1, h2⟩
        · rw [hb] at h2; cases h2
        · exact ⟨h1, h2⟩

theorem waitAll_spec {ops : Array Oper} {l : Array Bool} {i : Nat} : ∀ {ps : List Nat}, waitAll ops l i ps = true → ∀ j ∈ ps, j = i ∨ l.getD j true = true ∨ ∃ oj, ops[j]? = some oj ∧ waitsOn oj.after.toList i = true
  | [], _, j, hj => by cases hj
  | m :: r, h, j, hj => by
    simp only [waitAll, Bool.and_eq_true, Bool.or_eq_true] at h
    rcases List.mem_cons.1 hj with rfl | hj
    · rcases h.1 with (h1 | h1) | h1
      · exact .inl (Nat.eq_of_beq_eq_true h1)
      · exact .inr (.inl h1)
      · right; right
        cases ho : ops[j]? with
        | none => rw [ho] at h1; cases h1
        | some oj => rw [ho] at h1; exact ⟨oj, rfl, h1⟩
    · exact waitAll_spec h.2 j hj

theorem psOf_spec {ops : Array Oper} {i : Nat} : ∀ {l : List Nat} {listed : Array Bool}, i ∈ qsOf ops l listed → isLoad ops i = false → i ∈ psOf ops l listed
  | [], _, h, _ => by cases h
  | k :: r, listed, h, hl => by
    simp only [qsOf] at h
    simp only [psOf]
    cases hm : isQ ops listed k with
    | true =>
      rw [hm] at h
      simp only [cond_true] at h
      rcases List.mem_cons.1 h with rfl | h
      · simp [hl]
      · have := psOf_spec h hl
        cases hld : isLoad ops k <;> simp [this]
    | false =>
      rw [hm] at h
      simp only [cond_false] at h
      simp only [Bool.false_and, cond_false]
      exact psOf_spec h hl

theorem opQD_pure {P : Program} {hint : Hint} {ops : Array Oper} {k : Nat} {o : Oper} {f : Fr} {w : World} {D : Nat → Prop} {K : Value → Prop} (h0 : ops[k]? = some o) (hl : isLoad ops k = false) (hq : quietKind o.op = true) (h : opQD P hint o f w D K) :
    ∃ v, (∀ w', (execOp (ev f) o).run P w' = .ok (.value v) w') ∧ K v := by
  have hnl : ∀ t x, o.op = .load t x → False := fun t x he => by simp [isLoad, h0, he] at hl
  unfold opQD at h
  split at h
  · rename_i t x ho; exact (hnl t x ho).elim
  · exact opQ_all hq hnl h

theorem opsL_sound {P : Program} {hint : Hint} {n : Nat} {ops : Array Oper} {w0 : World} {D : Nat → Prop} {Q : Exit → Act → World → Prop} (hsel : Region.noSelect ops = true) (hQ : ∀ c a w, ¬ Q (.panic c) a w) (qs ps : List Nat) (hd : ∀ d ∈ dstsL ops.toList, d < n) :
    ∀ (l : List Nat) (listed : Array Bool) (_ : ∀ i ∈ qsOf ops l listed, isLoad ops i = true → i ∈ qs) (_ : ∀ i ∈ qsOf ops l listed, isLoad ops i = false → i ∈ ps) (_ : ∀ j ∈ l, listed.getD j false = false) {f : Fr} {a : Act} {u : World} {K : Fr → World → Prop},
      lexL ops ps l listed = true → Rel n a f → ((∃ i ∈ qsOf ops l listed, isLoad ops i = true) → Chg w0 u D) → opsL P hint ops qs D w0 l listed f u K →
      (∀ f' a' w', Rel n a' f' → Agree (dstsL ops.toList) f f' → K f' w' → Q .normal a' w') → wpN P ops Q (fun w' => Chg w0 w' D) (fun j => needS ops j qs && !inN j ps) l.length listed a u
  | [], listed, _, _, _, f, a, u, K, hB, hr, _, h, hk => ⟨by simpa [lexL] using hB, hk f a u hr (Agree.refl _ _) h⟩
  | k :: rest, listed, hqs, hps, hun, f, a, u, K, hB, hr, hS, h, hk => by
    simp only [lexL, Bool.and_eq_true] at hB
    have hnot : k ∉ rest := by simpa using hB.1
    replace hB := hB.2
    have hun' : ∀ j ∈ rest, (setL listed k).getD j false = false := fun j hj => by
      have hjk : j ≠ k := fun he => hnot (he ▸ hj)
      unfold setL; rw [getD_set_ne false (by omega)]; exact hun j (List.mem_cons_of_mem _ hj)
    simp only [opsL] at h
    cases h0 : ops[k]? with
    | none => rw [h0] at h; exact h.elim
    | some o =>
      rw [h0] at h
      simp only at h
      have hmem : o ∈ ops.toList := by
        have := Array.mem_of_getElem? h0
        simpa using this
      have hdo : ∀ j, o.dst = some j → j < n := fun j hj => hd j (dstsL_mem hmem hj)
      have hdm : ∀ j, o.dst = some j → j ∈ dstsL ops.toList := fun j hj => dstsL_mem hmem hj
      cases hg : o.guard with
      | some g => rw [hg] at h; exact h.elim
      | none =>
        rw [hg] at h
        simp only at h
        have hwant : Region.wanted o (yielded ops a.tmps) = true := by simp [Region.wanted, hg]
        cases hm : isQ ops listed k with
        | true =>
          rw [hm] at h
          simp only [hm, cond_true, Bool.and_eq_true] at hB
          simp only [cond_true] at h
          have hquiet : quietKind o.op = true := by simp only [isQ, h0, Bool.and_eq_true] at hm; exact hm.1
          have hqin : k ∈ qsOf ops (k :: rest) listed := by simp [qsOf, hm]
          have next : ∀ v, ((∃ i ∈ qsOf ops rest (setL listed k), isLoad ops i = true) → Chg w0 u D) → opsL P hint ops qs D w0 rest (setL listed k) (put f o.dst v) u K → wpN P ops Q (fun w' => Chg w0 w' D) (fun j => needS ops j qs && !inN j ps) rest.length (listed.setIfInBounds k true) (a.put o.dst v) u := fun v hS' hK => by
            refine opsL_sound hsel hQ qs ps hd rest (setL listed k) (fun i hi => hqs i (by simp [qsOf, hm, hi])) (fun i hi => hps i (by simp [qsOf, hm, hi])) hun' hB.2 (hr.put hdo v) hS' hK ?_
            intro f' a' w' h1 h2 h3
            exact hk f' a' w' h1 (h2.put_mem hdm) h3
          cases hld : isLoad ops k with
          | true =>
            have hExt : Chg w0 u D := hS ⟨k, hqin, hld⟩
            obtain ⟨v, hv, hK⟩ := opQD_val hquiet h
            have hy : YieldsIf P ops (fun w' => Chg w0 w' D) o v a := .inl ⟨hwant, fun w' hw' => by rw [hr.eval]; exact hv w' hw'⟩
            rw [hld] at hB
            simp only [cond_true] at hB
            refine wpN_first (Y := fun w' => Chg w0 w' D) (ld := true) h0 (Region.noSelect_spec hsel) hQ (.inr ⟨rfl, rfl⟩) rest.length listed a u (fun _ j oj hoj hji hjun hno => ?_) (Region.free_spec h0 hB.1.2.1) (by simpa using hB.1.1) hy (fun _ => hExt) (next v (fun _ => hExt) hK)
            rw [Bool.and_eq_true]
            refine ⟨needS_true (hqs k hqin hld) (Ne.symm hji) hoj hno, ?_⟩
            rw [Bool.not_eq_true', ← Bool.not_eq_true]
            intro hin
            rcases waitAll_spec hB.1.2.2 j (inN_spec.1 hin) with h1 | h1 | ⟨oj', h1, h2⟩
            · exact hji h1
            · rw [hjun] at h1; cases h1
            · rw [hoj] at h1
              cases h1
              rw [waitsOn_false (es := oj.after.toList) (fun e he => hno e (by simpa using he))] at h2
              cases h2
          | false =>
            obtain ⟨v, hv, hK⟩ := opQD_pure h0 hld hquiet h
            have hy : YieldsIf P ops (fun _ => True) o v a := .inl ⟨hwant, fun w' _ => by rw [hr.eval]; exact hv w'⟩
            have hin : inN k ps = true := inN_spec.2 (hps k hqin hld)
            have hS' : (∃ i ∈ qsOf ops rest (setL listed k), isLoad ops i = true) → Chg w0 u D := fun ⟨i, hi, hl⟩ => hS ⟨i, by simp [qsOf, hm, hi], hl⟩
            refine wpN_first (Y := fun _ => True) (ld := false) h0 (Region.noSelect_spec hsel) hQ (.inl ⟨rfl, fun _ => trivial, by simp [hin]⟩) rest.length listed a u (fun h => by cases h) (Region.free_spec h0 hB.1.2.1) (by simpa using hB.1.1) hy (fun h => by cases h) (next v hS' hK)
        | false =>
          rw [hm] at h
          simp only [hm, cond_false] at hB
          simp only [cond_false] at h
          have honly : Region.ready .any ops listed = [k] := of_decide_eq_true hB.1
          refine ⟨fun he => (by rw [honly] at he; cases he), fun i hi => ?_⟩
          rw [honly] at hi
          obtain rfl : i = k := by simpa using hi
          unfold wpOp
          simp only [h0, hwant, if_true]
          refine .inl (wp_of_gives hr (opC_gives h) fun v u' hv => ?_)
          have go : (needS ops i qs = true → Chg w0 u' D) → opsL P hint ops qs D w0 rest (setL listed i) (put f o.dst v) u' K → ((needS ops i qs && !inN i ps) = true → Chg w0 u' D) ∧ wpN P ops Q (fun w' => Chg w0 w' D) (fun j => needS ops j qs && !inN j ps) rest.length (listed.setIfInBounds i true) (a.put o.dst v) u' := by
            intro hneed hnext
            refine ⟨fun hc => hneed (by rw [Bool.and_eq_true] at hc; exact hc.1), opsL_sound hsel hQ qs ps hd rest (setL listed i) (fun j hj => hqs j (by simp [qsOf, hm, hj])) (fun j hj => hps j (by simp [qsOf, hm, hj])) hun' hB.2 (hr.put hdo v) (fun ⟨j, hj, hlj⟩ => ?_) hnext ?_⟩
            · -- a load is still to come: it may come up behind this one
              refine hneed ?_
              have hjr := qsOf_sub rest (setL listed i) j hj
              have hji : j ≠ i := fun he => hnot (he ▸ hjr)
              refine needS_true (hqs j (by simp [qsOf, hm, hj]) hlj) (by omega) h0 fun e he hb heq => ?_
              have hrd : i ∈ Region.ready .any ops listed := by rw [honly]; simp
              obtain ⟨_, oj, hoj, hall⟩ := mem_ready.1 hrd
              rw [h0] at hoj
              cases hoj
              have := hall e he hb
              rw [heq, hun j (List.mem_cons_of_mem _ hjr)] at this
              cases this
            · intro f' a' w' h1 h2 h3
              exact hk f' a' w' h1 (h2.put_mem hdm) h3
          cases hn : needS ops i qs with
          | true => rw [hn] at hv; simp only [cond_true] at hv; rw [hn] at go; exact go (fun _ => hv.1) hv.2
          | false => rw [hn] at hv; simp only [cond_false] at hv; rw [hn] at go; exact go (fun h => by cases h) hv

section orders2
variable {P : Program} {ops : Array Oper} {Q : Exit → Act → World → Prop} {T : Nat → World → World → Prop} {Y : World → World → Prop}

def wpU (P : Program) (ops : Array Oper) (Q : Exit → Act → World → Prop) (T : Nat → World → World → Prop) : Nat → Array Bool → Act → World → Prop
  | 0, l, a, w => Region.ready .any ops l = [] ∧ Q .normal a w
  | n + 1, l, a, w => (Region.ready .any ops l = [] → Q .normal a w) ∧
    ∀ i ∈ Region.ready .any ops l, wpOp P ops Q i (fun a' w' => T i w w' ∧ wpU P ops Q T n (l.setIfInBounds i true) a' w') a w

theorem wpAny_of_wpU : ∀ (n : Nat) (l : Array Bool) (a : Act) (w : World), wpU P ops Q T n l a w → wpAny P .any ops Q n l a w
  | 0, _, _, _, h => h
  | n + 1, _, _, _, h => ⟨h.1, fun i hi => wpOp_mono (fun a' w' h' => wpAny_of_wpU n _ a' w' h'.2) (h.2 i hi)⟩

theorem wpU_first {i : Nat} {oi : Oper} {v : Value} (hi : ops[i]? = some oi) (hsel : ∀ (j : Nat) (o : Oper) cs b, ops[j]? = some o → o.op ≠ .select cs b)
    (hQ : ∀ c a w, ¬ Q (.panic c) a w) (hT0 : ∀ w, Y w w → T i w w)
    (hT1 : ∀ (j : Nat) (oj : Oper), ops[j]? = some oj → j ≠ i → (∀ e ∈ oj.after, Region.binds .any e = true → e.on ≠ i) → (∀ e ∈ oi.after, Region.binds .any e = true → e.on ≠ j) → ∀ w w', T j w w' → Y w w → Y w' w' ∧ ∀ x, Y w' x → Y w x) :
    ∀ (n : Nat) (l : Array Bool) (a : Act) (w : World),
      (∀ j oj, ops[j]? = some oj → j ≠ i → l.getD j true = false → (∀ e ∈ oj.after, Region.binds .any e = true → e.on ≠ i) → oi.apart ops oj = true) →
      i ∈ Region.ready .any ops l → YieldsIf P ops (Y w) oi v a → Y w w →
      wpU P ops Q T n (l.setIfInBounds i true) (a.put oi.dst v) w → wpU P ops Q T (n + 1) l a w := by
  intro n
  induction n with
  | zero =>
    intro l a w _ hr hy hS H
    refine ⟨fun h => (by rw [h] at hr; cases hr), fun j hj => ?_⟩
    by_cases hji : j = i
    · subst hji; exact hy.wpOp hi hS ⟨hT0 w hS, H⟩
    · have := ready_mono hj hji
      rw [H.1] at this
      cases this
  | succ n ih =>
    intro l a w hfree hr hy hS H
    refine ⟨fun h => (by rw [h] at hr; cases hr), fun j hj => ?_⟩
    by_cases hji : j = i
    · subst hji; exact hy.wpOp hi hS ⟨hT0 w hS, H⟩
    · have h1 := H.2 j (ready_mono hj hji)
      obtain ⟨hjun, oj, hoj, hall⟩ := mem_ready.1 hj
      obtain ⟨hiun, oi', hoi', halli⟩ := mem_ready.1 hr
      rw [hi] at hoi'
      cases hoi'
      have hne : ∀ {k m : Nat}, l.getD k true = false → (l.getD m true = true ∨ l.getD m false = true) → m = k → False := fun {k m} h1 h2 he => by
        subst he
        rcases Nat.lt_or_ge m l.size with h' | h'
        · simp [h'] at h1 h2; rw [h1] at h2; cases h2
        · simp [Array.getElem?_eq_none h'] at h1
      have hnot : ∀ e ∈ oj.after, Region.binds .any e = true → e.on ≠ i := fun e he hb heq => by
        have h1 := hall e he hb
        rw [heq] at h1
        rcases Nat.lt_or_ge i l.size with h' | h'
        · simp [h'] at hiun h1; rw [hiun] at h1; cases h1
        · simp [Array.getElem?_eq_none h'] at h1
      have hnot2 : ∀ e ∈ oi.after, Region.binds .any e = true → e.on ≠ j := fun e he hb heq => by
        have h1 := halli e he hb
        rw [heq] at h1
        rcases Nat.lt_or_ge j l.size with h' | h'
        · simp [h'] at hjun h1; rw [hjun] at h1; cases h1
        · simp [Array.getElem?_eq_none h'] at h1
      have h2 := wpOp_putIf hoj (hfree j oj hoj hji hjun hnot) (fun cs b => hsel i oi cs b hi) (fun cs b => hsel j oj cs b hoj) (fun c a w h => absurd h (hQ c _ w)) hy h1
      have hfree' : ∀ k ok, ops[k]? = some ok → k ≠ i → (l.setIfInBounds j true).getD k true = false →
          (∀ e ∈ ok.after, Region.binds .any e = true → e.on ≠ i) → oi.apart ops ok = true := fun k ok hk hki hun hno => by
        refine hfree k ok hk hki ?_ hno
        by_cases hjk : j = k
        · subst hjk; exact hjun
        · rw [getD_set_ne true hjk] at hun; exact hun
      refine wpOp_mono (fun a' w' h3 => ?_) h2
      obtain ⟨h3a, h3b, h3c⟩ := h3
      obtain ⟨h4, h5⟩ := hT1 j oj hoj hji hnot hnot2 w w' h3b hS
      refine ⟨h3b, ih (l.setIfInBounds j true) a' w' hfree' (ready_mono hr (Ne.symm hji)) (yieldsIf_sub h3a h5) h4 ?_⟩
      rw [Array.setIfInBounds_comm _ _ hji]
      exact h3c

theorem waitsOn_none {i : Nat} : ∀ {es : List Edge}, (∀ e ∈ es, Region.binds .any e = true → e.on ≠ i) → waitsOn es i = false
  | [], _ => rfl
  | e :: r, h => by
    unfold waitsOn
    rw [waitsOn_none fun e' he' => h e' (List.mem_cons_of_mem _ he')]
    cases hb : Region.binds .any e with
    | false => rfl
    | true =>
      have hne := h e (by simp) hb
      have : Nat.beq e.on i = false := by
        cases hbe : Nat.beq e.on i with
        | false => rfl
        | true => exact absurd (Nat.eq_of_beq_eq_true hbe) hne
      rw [this]; rfl

theorem needB_of {j i : Nat} {oj oi : Oper} (hj : ops[j]? = some oj) (hi : ops[i]? = some oi) (hji : j ≠ i) (h1 : ∀ e ∈ oj.after, Region.binds .any e = true → e.on ≠ i) (h2 : ∀ e ∈ oi.after, Region.binds .any e = true → e.on ≠ j) : ∀ {l : List Nat}, i ∈ l → needB ops j l = true
  | [], h => by cases h
  | k :: r, h => by
    unfold needB
    rcases List.mem_cons.1 h with rfl | h
    · have e1 : Nat.beq i j = false := by
        cases hbe : Nat.beq i j with
        | false => rfl
        | true => exact absurd (Nat.eq_of_beq_eq_true hbe).symm hji
      have e2 : waitsK ops j i = false := by unfold waitsK; rw [hj]; exact waitsOn_none fun e he => h1 e (by simpa using he)
      have e3 : waitsK ops i j = false := by unfold waitsK; rw [hi]; exact waitsOn_none fun e he => h2 e (by simpa using he)
      rw [e1, e2, e3]; rfl
    · rw [needB_of hj hi hji h1 h2 h, Bool.or_true]

theorem pendL_of {l : Array Bool} {i : Nat} (h : l.getD i true = false) : ∀ {q : List Nat}, i ∈ q → pendL l q = true
  | [], hm => by cases hm
  | k :: r, hm => by
    unfold pendL
    rcases List.mem_cons.1 hm with rfl | hm
    · rw [h]; rfl
    · rw [pendL_of h hm, Bool.or_true]
theorem pendL_set {l : Array Bool} {k : Nat} : ∀ {q : List Nat}, pendL (setL l k) q = true → pendL l q = true
  | [], h => h
  | i :: r, h => by
    unfold pendL at h ⊢
    rcases Bool.or_eq_true_iff.1 h with h | h
    · have : l.getD i true = false := by
        have h' : (setL l k).getD i true = false := by simpa using h
        unfold setL at h'
        by_cases hk : k = i
        · subst hk
          rcases Nat.lt_or_ge k l.size with h2 | h2
          · simp [h2] at h'
          · simp [Array.getElem?_eq_none h2] at h'
        · rw [getD_set_ne true hk] at h'; exact h'
      rw [this]; rfl
    · rw [pendL_set h, Bool.or_true]

theorem noGuard_spec : ∀ {l : List Oper}, noGuard l = true → ∀ o ∈ l, o.guard = none
  | [], _, o, h => by cases h
  | x :: r, hg, o, h => by
    simp only [noGuard, Bool.and_eq_true, Option.isNone_iff_eq_none] at hg
    rcases List.mem_cons.1 h with rfl | h
    · exact hg.1
    · exact noGuard_spec hg.2 o h

theorem opsB_sound {n : Nat} {hint : Hint} {w0 : World} {D : Nat → Prop} (hsel : Region.noSelect ops = true) (hng : noGuard ops.toList = true) (hQ : ∀ c a w, ¬ Q (.panic c) a w) (hd : ∀ d ∈ dstsL ops.toList, d < n) :
    ∀ (m : Nat) (l : Array Bool) {f : Fr} {a : Act} {u : World} {K : Fr → World → Prop}, Rel n a f → (pendL l (loadsAll ops) = true → Chg w0 u D) → opsB ops (pick2 ops) (runQD P hint w0 D) (runCB P hint w0 D) m l f u K →
      (∀ f' a' w', Rel n a' f' → Agree (dstsL ops.toList) f f' → K f' w' → Q .normal a' w') → wpU P ops Q (fun j w w' => w' = w ∨ (needB ops j (loadsAll ops) = true → Chg w0 w' D)) m l a u
  | 0, l, f, a, u, K, hr, _, h, hk => by
    simp only [opsB] at h
    cases hre : Region.ready .any ops l with
    | nil => rw [hre] at h; exact ⟨hre, hk f a u hr (Agree.refl _ _) h⟩
    | cons k r => rw [hre] at h; exact h.elim
  | m + 1, l, f, a, u, K, hr, hY, h, hk => by
    simp only [opsB] at h
    cases hre : Region.ready .any ops l with
    | nil => rw [hre] at h; exact ⟨fun _ => hk f a u hr (Agree.refl _ _) h, fun i hi => by rw [hre] at hi; cases hi⟩
    | cons k r =>
      rw [hre] at h
      simp only at h
      have hmemo : ∀ {i : Nat} {o : Oper}, ops[i]? = some o → o ∈ ops.toList := fun h0 => by
        have := Array.mem_of_getElem? h0
        simpa using this
      have hload : ∀ {i : Nat} {o : Oper}, ops[i]? = some o → isLoad ops i = true → i ∈ loadsAll ops := fun {i o} h0 hl => loadsIn_spec.2 ⟨List.mem_range.2 (by rcases Nat.lt_or_ge i ops.size with h' | h'; exact h'; rw [Array.getElem?_eq_none h'] at h0; cases h0), hl⟩
      have hnext : ∀ {i : Nat} {o : Oper} (_ : ops[i]? = some o) (v : Value) (u' : World), (pendL (setL l i) (loadsAll ops) = true → Chg w0 u' D) → opsB ops (pick2 ops) (runQD P hint w0 D) (runCB P hint w0 D) m (setL l i) (put f o.dst v) u' K → wpU P ops Q (fun j w w' => w' = w ∨ (needB ops j (loadsAll ops) = true → Chg w0 w' D)) m (l.setIfInBounds i true) (a.put o.dst v) u' := by
        intro i o h0 v u' hY' hA
        have hdo : ∀ j, o.dst = some j → j < n := fun j hj => hd j (dstsL_mem (hmemo h0) hj)
        refine opsB_sound hsel hng hQ hd m (setL l i) (hr.put hdo v) hY' hA ?_
        intro f' a' w' h1 h2 h3
        exact hk f' a' w' h1 (h2.put_mem fun j hj => dstsL_mem (hmemo h0) hj) h3
      cases hp : pick2 ops l (k :: r) with
      | some i =>
        rw [hp] at h
        simp only at h
        obtain ⟨hmem, ⟨o, h0, hqk⟩, hfree⟩ := pick2_spec hp
        have hrd : i ∈ Region.ready .any ops l := by rw [hre]; exact hmem
        have hg := noGuard_spec hng o (hmemo h0)
        simp only [oneA, h0, hg] at h
        have hwant : Region.wanted o (yielded ops a.tmps) = true := by simp [Region.wanted, hg]
        have hun := (mem_ready.1 hrd).1
        cases hl : isLoad ops i with
        | false =>
          obtain ⟨v, hv, hA⟩ := opQD_pure h0 hl hqk h
          exact wpU_first (Y := fun _ _ => True) (v := v) h0 (Region.noSelect_spec hsel) hQ (fun _ _ => .inl rfl) (fun _ _ _ _ _ _ _ _ _ _ => ⟨trivial, fun _ _ => trivial⟩) m l a u (Region.free_spec h0 hfree) hrd (.inl ⟨hwant, fun w' _ => by rw [hr.eval]; exact hv w'⟩) trivial (hnext h0 v u (fun hh => hY (pendL_set hh)) hA)
        | true =>
          have hC : Chg w0 u D := hY (pendL_of hun (hload h0 hl))
          obtain ⟨v, hv, hA⟩ := opQD_val hqk h
          refine wpU_first (Y := fun _ x => Chg w0 x D) (v := v) h0 (Region.noSelect_spec hsel) hQ (fun _ _ => .inl rfl) (fun j oj hj hji h1 h2 w w' hT hw => ⟨by rcases hT with rfl | hT; exact hw; exact hT (needB_of hj h0 hji h1 h2 (hload h0 hl)), fun x hx => hx⟩) m l a u (Region.free_spec h0 hfree) hrd (.inl ⟨hwant, fun w' hw' => by rw [hr.eval]; exact hv w' hw'⟩) hC (hnext h0 v u (fun _ => hC) hA)
      | none =>
        rw [hp] at h
        simp only at h
        refine ⟨fun he => (by rw [hre] at he; cases he), fun i hi => ?_⟩
        rw [hre] at hi
        have h := allA_spec h i hi
        simp only [oneA] at h
        cases h0 : ops[i]? with
        | none => rw [h0] at h; exact h.elim
        | some o =>
          rw [h0] at h
          have hg := noGuard_spec hng o (hmemo h0)
          simp only [hg] at h
          unfold wpOp
          have hwant : Region.wanted o (yielded ops a.tmps) = true := by simp [Region.wanted, hg]
          simp only [h0, hwant, if_true]
          refine .inl (wp_of_gives hr (opC_gives h) fun v u' hv => ?_)
          cases hb : (needB ops i (loadsAll ops) || pendL l (loadsAll ops)) with
          | true =>
            rw [hb] at hv
            simp only [cond_true] at hv
            exact ⟨.inr fun _ => hv.1, hnext h0 v u' (fun _ => hv.1) hv.2⟩
          | false =>
            rw [hb] at hv
            simp only [cond_false] at hv
            rw [Bool.or_eq_false_iff] at hb
            exact ⟨.inr fun hh => (by rw [hb.1] at hh; cases hh), hnext h0 v u' (fun hh => (by rw [pendL_set hh] at hb; cases hb.2)) hv⟩
end orders2

theorem wpc_sound {P : Program} {hint : Hint} {ann : Nat → Ann} {n : Nat} : ∀ (c : Code) (_ : ∀ d ∈ dsts c, d < n) {Q : Ex → Fr → World → Prop} {f : Fr} {a : Act} {w : World},
    Rel n a f → wpc P hint ann c Q f w → c.wp P (toE n (dsts c) f Q) a w
  | .skip, _, Q, f, a, w, hr, h => wp_skip ⟨f, hr, Agree.refl _ _, h⟩
  | .region id ops false, hd, Q, f, a, w, hr, h => by
    refine wp_region_list (opsC_sound (n := n) hd ops.toList hd hr h ?_)
    intro f' a' w' h1 h2 h3
    exact ⟨f', h1, h2, h3⟩
  | .region id ops true, hd, Q, f, a, w, hr, h => by
    simp only [wpc] at h
    cases hu : (useQ hint ops.toList && !plainN (fun i => (ann i).dead) id) with
    | true =>
      rw [hu] at h
      simp only [cond_true] at h
      cases hb : (P.follows .mixedOrders && Region.lexB .any ops) with
      | false => rw [hb] at h; exact h.elim
      | true =>
        rw [hb] at h
        rw [Bool.and_eq_true] at hb
        refine wp_region_quiet (C := fun w' => Ext w w') hb.1 hb.2 ((Ext.refl w).drawn _) ?_
        refine opsQ_sound (n := n) hd ops.toList hd hr h ?_
        intro f' a' h1 h2 h3 w' hw'
        exact ⟨f', h1, h2, h3 w' hw'⟩
    | false =>
      rw [hu] at h
      simp only [cond_false] at h
      cases hno : noted (fun i => (ann i).dead) id with
      | true =>
        rw [hno] at h
        simp only [cond_true] at h
        cases hb : (P.follows .mixedOrders && (Region.noSelect ops && (Nat.beq (ordB ops).length ops.size && lexL ops (psOf ops (ordB ops) (Array.replicate ops.size false)) (ordB ops) (Array.replicate ops.size false)))) with
        | false => rw [hb] at h; exact h.elim
        | true =>
          rw [hb] at h
          simp only [cond_true] at h
          simp only [Bool.and_eq_true] at hb
          refine wp_region_any hb.1 ?_
          obtain ⟨D, hm⟩ := h { w with drawn := w.drawn + 1 } ((Ext.refl w).drawn _) rfl
          have := opsL_sound (n := n) (Q := toE n (dsts (.region id ops true)) f Q) (w0 := { w with drawn := w.drawn + 1 }) hb.2.1 (fun c a w h => h) (loadsIn ops (qsOf ops (ordB ops) (Array.replicate ops.size false))) (psOf ops (ordB ops) (Array.replicate ops.size false)) hd (ordB ops) (Array.replicate ops.size false)
            (fun i hi hl => loadsIn_spec.2 ⟨hi, hl⟩) (fun i hi hl => psOf_spec hi hl) (fun j _ => getD_replicate_false' _ j) hb.2.2.2 hr (fun _ => Chg.refl _ _) hm (fun f' a' w' h1 h2 h3 => ⟨f', h1, h2, h3⟩)
          rw [Nat.eq_of_beq_eq_true hb.2.2.1] at this
          have := wpAny_of_wpN _ _ _ _ this
          simpa using this
      | false =>
      rw [hno] at h
      simp only [cond_false] at h
      cases hpn : plainN (fun i => (ann i).dead) id with
      | true =>
        rw [hpn] at h
        simp only [cond_true] at h
        cases hb2 : (P.follows .mixedOrders && Region.noSelect ops) with
        | false => rw [hb2] at h; exact h.elim
        | true =>
          rw [hb2] at h
          simp only [cond_true] at h
          simp only [Bool.and_eq_true] at hb2
          refine wp_region_any hb2.1 ?_
          have hm := h { w with drawn := w.drawn + 1 } ((Ext.refl w).drawn _) rfl
          have := opsA_sound (n := n) (G := fun o => quietKind o.op = true ∧ ∀ t x, o.op = .load t x → False) pickP_spec (Q := toE n (dsts (.region id ops true)) f Q) (T := fun _ _ => True) (Y := fun _ _ => True) hb2.2 (fun c a w h => h) hd (fun w h => h) (fun w w' h _ => ⟨h, fun x hx => hx⟩)
            (fun o f u next hq hrun _ => by
              obtain ⟨v, h1, h2⟩ := opQ_all hq.1 hq.2 hrun
              exact ⟨v, fun w' _ => h1 w', h2⟩) (fun o f u next hrun => (opC_gives hrun).mono fun v u' h => ⟨trivial, h⟩) ops.size (Array.replicate ops.size false) hr trivial hm (fun f' a' w' h1 h2 h3 => ⟨f', h1, h2, h3⟩)
          have := wpAny_of_wpT _ _ _ _ this
          simpa using this
      | false =>
      rw [hpn] at h
      simp only [cond_false] at h
      cases hkn : keptN (fun i => (ann i).dead) id with
      | true =>
        rw [hkn] at h
        simp only [cond_true] at h
        cases hb2 : (P.follows .mixedOrders && Region.noSelect ops) with
        | false => rw [hb2] at h; exact h.elim
        | true =>
          rw [hb2] at h
          simp only [cond_true] at h
          simp only [Bool.and_eq_true] at hb2
          refine wp_region_any hb2.1 ?_
          obtain ⟨D, hm⟩ := h { w with drawn := w.drawn + 1 } ((Ext.refl w).drawn _) rfl
          have := opsA_sound (n := n) (G := fun o => quietKind o.op = true) pick2_spec (Q := toE n (dsts (.region id ops true)) f Q) (T := fun _ w' => Kept { w with drawn := w.drawn + 1 } w' D) (Y := fun _ w' => Kept { w with drawn := w.drawn + 1 } w' D) hb2.2 (fun c a w h => h) hd (fun w h => h) (fun w w' h _ => ⟨h, fun x hx => hx⟩)
            (fun o f u next hq hrun _ => opQS_val hq hrun) (fun o f u next hrun => opC_gives hrun) ops.size (Array.replicate ops.size false) hr (fun _ _ _ hc => hc) hm (fun f' a' w' h1 h2 h3 => ⟨f', h1, h2, h3⟩)
          have := wpAny_of_wpT _ _ _ _ this
          simpa using this
      | false =>
      rw [hkn] at h
      simp only [cond_false] at h
      cases hne : needN (fun i => (ann i).dead) id with
      | true =>
        rw [hne] at h
        simp only [cond_true] at h
        cases hb2 : (P.follows .mixedOrders && (Region.noSelect ops && noGuard ops.toList)) with
        | false => rw [hb2] at h; exact h.elim
        | true =>
          rw [hb2] at h
          simp only [cond_true] at h
          simp only [Bool.and_eq_true] at hb2
          refine wp_region_any hb2.1 ?_
          obtain ⟨D, hm⟩ := h { w with drawn := w.drawn + 1 } ((Ext.refl w).drawn _) rfl
          have := opsB_sound (n := n) (Q := toE n (dsts (.region id ops true)) f Q) (w0 := { w with drawn := w.drawn + 1 }) (D := D) hb2.2.1 hb2.2.2 (fun c a w h => h) hd ops.size (Array.replicate ops.size false) hr (fun _ => Chg.refl _ _) hm (fun f' a' w' h1 h2 h3 => ⟨f', h1, h2, h3⟩)
          have := wpAny_of_wpU _ _ _ _ this
          simpa using this
      | false =>
      rw [hne] at h
      simp only [cond_false] at h
      cases hen : extN (fun i => (ann i).dead) id with
      | true =>
        rw [hen] at h
        simp only [cond_true] at h
        cases hb2 : (P.follows .mixedOrders && Region.noSelect ops) with
        | false => rw [hb2] at h; exact h.elim
        | true =>
          rw [hb2] at h
          simp only [cond_true] at h
          simp only [Bool.and_eq_true] at hb2
          refine wp_region_any hb2.1 ?_
          have hm := h { w with drawn := w.drawn + 1 } ((Ext.refl w).drawn _) rfl
          have := opsA_sound (n := n) (G := fun o => quietKind o.op = true) pick2_spec (Q := toE n (dsts (.region id ops true)) f Q) (T := Ext) (Y := Ext) hb2.2 (fun c a w h => h) hd (fun w _ => Ext.refl w) (fun w w' h _ => ⟨Ext.refl _, fun x hx => h.trans hx⟩)
            (fun o f u next hq hrun _ => opQ_val hq hrun) (fun o f u next hrun => opC_gives hrun) ops.size (Array.replicate ops.size false) hr (Ext.refl _) hm (fun f' a' w' h1 h2 h3 => ⟨f', h1, h2, h3⟩)
          have := wpAny_of_wpT _ _ _ _ this
          simpa using this
      | false =>
      rw [hen] at h
      simp only [cond_false] at h
      cases hb : (P.follows .mixedOrders && (Region.noSelect ops && (Nat.beq (ordA ops).length ops.size && (noGuard ops.toList && lexM ops (ordA ops) (Array.replicate ops.size false))))) with
      | false =>
        rw [hb] at h
        simp only [cond_false] at h
        cases hb2 : (P.follows .mixedOrders && Region.noSelect ops) with
        | false => rw [hb2] at h; exact h.elim
        | true =>
          rw [hb2] at h
          simp only [Bool.and_eq_true] at hb2
          refine wp_region_any hb2.1 ?_
          cases hst : (hasStore ops.toList || hasAppend ops.toList) with
          | false =>
            rw [hst] at h
            simp only [cond_true, cond_false] at h
            have hm := h { w with drawn := w.drawn + 1 } ((Ext.refl w).drawn _) rfl
            have := opsA_sound (n := n) (G := fun o => quietKind o.op = true) pick2_spec (Q := toE n (dsts (.region id ops true)) f Q) (T := Ext) (Y := Ext) hb2.2 (fun c a w h => h) hd (fun w _ => Ext.refl w) (fun w w' h _ => ⟨Ext.refl _, fun x hx => h.trans hx⟩)
              (fun o f u next hq hrun _ => opQ_val hq hrun) (fun o f u next hrun => opC_gives hrun) ops.size (Array.replicate ops.size false) hr (Ext.refl _) hm (fun f' a' w' h1 h2 h3 => ⟨f', h1, h2, h3⟩)
            have := wpAny_of_wpT _ _ _ _ this
            simpa using this
          | true =>
            rw [hst] at h
            simp only [cond_true] at h
            obtain ⟨D, hm⟩ := h { w with drawn := w.drawn + 1 } ((Ext.refl w).drawn _) rfl
            have := opsA_sound (n := n) (G := fun o => quietKind o.op = true) pick2_spec (Q := toE n (dsts (.region id ops true)) f Q) (T := fun _ w' => Chg { w with drawn := w.drawn + 1 } w' D) (Y := fun _ w' => Chg { w with drawn := w.drawn + 1 } w' D) hb2.2 (fun c a w h => h) hd (fun w h => h) (fun w w' h _ => ⟨h, fun x hx => hx⟩)
              (fun o f u next hq hrun _ => opQD_val hq hrun) (fun o f u next hrun => opC_gives hrun) ops.size (Array.replicate ops.size false) hr (Chg.refl _ _) hm (fun f' a' w' h1 h2 h3 => ⟨f', h1, h2, h3⟩)
            have := wpAny_of_wpT _ _ _ _ this
            simpa using this
      | true =>
        rw [hb] at h
        simp only [Bool.and_eq_true] at hb
        refine wp_region_any hb.1 ?_
        cases hst : (hasStore ops.toList || appNeeds ops (qsOf ops (ordA ops) (Array.replicate ops.size false)) (ordA ops)) with
        | false =>
          rw [hst] at h
          simp only [cond_true, cond_false] at h
          have hm := h { w with drawn := w.drawn + 1 } ((Ext.refl w).drawn _) rfl
          have := opsM_sound (n := n) (Q := toE n (dsts (.region id ops true)) f Q) (w0 := { w with drawn := w.drawn + 1 }) hb.2.1 (fun c a w h => h) (qsOf ops (ordA ops) (Array.replicate ops.size false)) hd (ordA ops) (Array.replicate ops.size false) (fun i hi => hi) (fun j _ => getD_replicate_false' _ j) hb.2.2.2.2 hr (fun _ => Ext.refl _) hm (fun f' a' w' h1 h2 h3 => ⟨f', h1, h2, h3⟩)
          rw [Nat.eq_of_beq_eq_true hb.2.2.1] at this
          have := wpAny_of_wpG _ _ _ _ this
          simpa using this
        | true =>
          rw [hst] at h
          simp only [cond_true] at h
          obtain ⟨D, hm⟩ := h { w with drawn := w.drawn + 1 } ((Ext.refl w).drawn _) rfl
          have := opsD_sound (n := n) (Q := toE n (dsts (.region id ops true)) f Q) (w0 := { w with drawn := w.drawn + 1 }) hb.2.1 (fun c a w h => h) (qsOf ops (ordA ops) (Array.replicate ops.size false)) hd (ordA ops) (Array.replicate ops.size false) (fun i hi => hi) (fun j _ => getD_replicate_false' _ j) hb.2.2.2.2 hr (fun _ => Chg.refl _ _) hm (fun f' a' w' h1 h2 h3 => ⟨f', h1, h2, h3⟩)
          rw [Nat.eq_of_beq_eq_true hb.2.2.1] at this
          have := wpAny_of_wpG _ _ _ _ this
          simpa using this
  | .seq x y, hd, Q, f, a, w, hr, h => by
    have hx : ∀ d ∈ dsts x, d < n := fun d hm => hd d (by simp [dsts, hm])
    have hy : ∀ d ∈ dsts y, d < n := fun d hm => hd d (by simp [dsts, hm])
    simp only [wpc] at h
    cases hcut : cutN (fun i => (ann i).dead) (firstRegion x) with
    | true =>
      rw [hcut] at h
      simp only [cond_true] at h
      generalize hA : ann (firstRegion x + 900000) = A at h
      cases hb : subN (dsts x) (slotsOf A.live ++ A.dead) with
      | false => rw [hb] at h; exact h.elim
      | true =>
        rw [hb] at h
        obtain ⟨I, h0, h1⟩ := h
        refine wp_seq (wp_mono (wpc_sound x hx hr h0) ?_)
        intro e a' w' he
        cases e with
        | normal =>
          obtain ⟨g, hg, hag, hI⟩ := he
          obtain ⟨h', hk, he⟩ := allLive_at A.live f g I (noMeas _) _ w' h1 hI
          obtain ⟨h'', hk2, he2⟩ := allDead_at A.dead h' g _ hk
          have hgg : h'' = g := by
            funext t
            rw [he2 t, he t]
            cases hd1 : memN t A.dead with
            | true => rfl
            | false =>
              cases hl1 : memN t (slotsOf A.live) with
              | true => rfl
              | false =>
                simp only [cond_false]
                exact (hag t (subN_spec hb (by rw [memN_append, hl1, hd1]; rfl))).symm
          subst hgg
          refine wp_mono (wpc_sound y hy hg hk2) ?_
          intro e a'' w'' he
          cases e with
          | normal => obtain ⟨f'', k1, k2, k3⟩ := he; exact ⟨f'', k1, hag.trans_append k2, k3⟩
          | exit id => obtain ⟨f'', k1, k2, k3⟩ := he; exact ⟨f'', k1, hag.trans_append k2, k3⟩
          | ret => obtain ⟨f'', k1, k2, k3⟩ := he; exact ⟨f'', k1, hag.trans_append k2, k3⟩
          | goto _ => exact he.elim
          | panic _ => exact he.elim
          | outgrown => exact he.elim
        | exit id => obtain ⟨f', h1, h2, h3⟩ := he; exact ⟨f', h1, h2.left, h3⟩
        | ret => obtain ⟨f', h1, h2, h3⟩ := he; exact ⟨f', h1, h2.left, h3⟩
        | goto _ => exact he.elim
        | panic _ => exact he.elim
        | outgrown => exact he.elim
    | false =>
    rw [hcut] at h
    simp only [cond_false] at h
    refine wp_seq (wp_mono (wpc_sound x hx hr h) ?_)
    intro e a' w' he
    cases e with
    | normal =>
      obtain ⟨f', h1, h2, h3⟩ := he
      refine wp_mono (wpc_sound y hy h1 h3) ?_
      intro e a'' w'' he
      cases e with
      | normal => obtain ⟨f'', k1, k2, k3⟩ := he; exact ⟨f'', k1, h2.trans_append k2, k3⟩
      | exit id => obtain ⟨f'', k1, k2, k3⟩ := he; exact ⟨f'', k1, h2.trans_append k2, k3⟩
      | ret => obtain ⟨f'', k1, k2, k3⟩ := he; exact ⟨f'', k1, h2.trans_append k2, k3⟩
      | goto _ => exact he.elim
      | panic _ => exact he.elim
      | outgrown => exact he.elim
    | exit id => obtain ⟨f', h1, h2, h3⟩ := he; exact ⟨f', h1, h2.left, h3⟩
    | ret => obtain ⟨f', h1, h2, h3⟩ := he; exact ⟨f', h1, h2.left, h3⟩
    | goto _ => exact he.elim
    | panic _ => exact he.elim
    | outgrown => exact he.elim
  | .cond c x y, hd, Q, f, a, w, hr, h => by
    have hx : ∀ d ∈ dsts x, d < n := fun d hm => hd d (by simp [dsts, hm])
    have hy : ∀ d ∈ dsts y, d < n := fun d hm => hd d (by simp [dsts, hm])
    simp only [wpc] at h
    cases hv : ev f c with
    | bool t =>
      rw [hv] at h
      have hev : a.eval c = .bool t := by rw [hr.eval, hv]
      cases t with
      | true =>
        refine wp_cond_true hev (wp_mono (wpc_sound x hx hr h) ?_)
        intro e a' w' he
        cases e with
        | normal => obtain ⟨f', h1, h2, h3⟩ := he; exact ⟨f', h1, h2.left, h3⟩
        | exit id => obtain ⟨f', h1, h2, h3⟩ := he; exact ⟨f', h1, h2.left, h3⟩
        | ret => obtain ⟨f', h1, h2, h3⟩ := he; exact ⟨f', h1, h2.left, h3⟩
        | goto _ => exact he.elim
        | panic _ => exact he.elim
        | outgrown => exact he.elim
      | false =>
        refine wp_cond_false hev (wp_mono (wpc_sound y hy hr h) ?_)
        intro e a' w' he
        cases e with
        | normal => obtain ⟨f', h1, h2, h3⟩ := he; exact ⟨f', h1, h2.right, h3⟩
        | exit id => obtain ⟨f', h1, h2, h3⟩ := he; exact ⟨f', h1, h2.right, h3⟩
        | ret => obtain ⟨f', h1, h2, h3⟩ := he; exact ⟨f', h1, h2.right, h3⟩
        | goto _ => exact he.elim
        | panic _ => exact he.elim
        | outgrown => exact he.elim
    | _ => rw [hv] at h; exact h.elim
  | .block id c, hd, Q, f, a, w, hr, h => by
    refine wp_block (wp_mono (wpc_sound c hd hr h) ?_)
    intro e a' w' he
    cases e with
    | normal => exact he
    | exit id' =>
      obtain ⟨f', h1, h2, h3⟩ := he
      simp only [inBlockE] at h3
      simp only [Exit.inBlock]
      cases hb : Nat.beq id' id with
      | true =>
        have := Nat.eq_of_beq_eq_true hb
        subst this
        rw [hb] at h3
        simp only [if_true]
        exact ⟨f', h1, h2, h3⟩
      | false =>
        rw [hb] at h3
        rw [if_neg (nbeq_false.1 hb)]
        exact ⟨f', h1, h2, h3⟩
    | ret => exact he
    | goto _ => exact he.elim
    | panic _ => exact he.elim
    | outgrown => exact he.elim
  | .loop c, hd, Q, f, a, w, hr, h => by
    simp only [wpc] at h
    generalize hA : ann (firstRegion c) = A at h
    cases hb : subN (dsts c) (slotsOf A.live ++ A.dead) with
    | false => rw [hb] at h; exact h.elim
    | true =>
      rw [hb] at h
      obtain ⟨I, μ, h0, h1⟩ := h
      refine wp_loop (fun a' w' => ∃ g, Rel n a' g ∧ Agree (dsts c) f g ∧ app botW _ I (atSlots g A.live) w')
        (fun a' w' => app (fun _ => 0) _ μ (atSlots (fun t => a'.tmps.getD t undef) A.live) w') ⟨f, hr, Agree.refl _ _, h0⟩ ?_
      rintro a' w' ⟨g, hg, hag, hI⟩
      obtain ⟨h', hk, he⟩ := allLive_at A.live f g I μ _ w' h1 hI
      obtain ⟨h'', hk2, he2⟩ := allDead_at A.dead h' g _ hk
      have hgg : h'' = g := by
        funext t
        rw [he2 t, he t]
        cases hd1 : memN t A.dead with
        | true => rfl
        | false =>
          cases hl1 : memN t (slotsOf A.live) with
          | true => rfl
          | false =>
            simp only [cond_false]
            exact (hag t (subN_spec hb (by rw [memN_append, hl1, hd1]; rfl))).symm
      subst hgg
      refine wp_mono (wpc_sound c hd hg hk2) ?_
      have hfun : (fun t => a'.tmps.getD t undef) = h'' := funext hg.get
      intro e a'' w'' he'
      cases e with
      | normal =>
        obtain ⟨f', k1, k2, k3, k4⟩ := he'
        have hfun' : (fun t => a''.tmps.getD t undef) = f' := funext k1.get
        refine ⟨⟨f', k1, fun t ht => (k2 t ht).trans (hag t ht), k3⟩, ?_⟩
        simp only [hfun, hfun']
        exact k4
      | exit id => obtain ⟨f', k1, k2, k3⟩ := he'; exact ⟨f', k1, fun t ht => (k2 t ht).trans (hag t ht), k3⟩
      | ret => obtain ⟨f', k1, k2, k3⟩ := he'; exact ⟨f', k1, fun t ht => (k2 t ht).trans (hag t ht), k3⟩
      | goto _ => exact he'.elim
      | panic _ => exact he'.elim
      | outgrown => exact he'.elim
  | .exit id, _, Q, f, a, w, hr, h => wp_exit ⟨f, hr, Agree.refl _ _, h⟩
  | .ret, _, Q, f, a, w, hr, h => wp_ret ⟨f, hr, Agree.refl _ _, h⟩
  | .rangeFunc _ _ _ _, _, _, _, _, _, _, h => h.elim
  | .scope _, _, _, _, _, _, _, h => h.elim
  | .label _, _, _, _, _, _, _, h => h.elim
  | .goto _, _, _, _, _, _, _, h => h.elim
  | .refuse _, _, _, _, _, _, _, h => h.elim

/-! ### A function -/

/-- The results, out of their slots or cells. -/
def retC (P : Program) (hint : Hint) : List ResultVar → Fr → World → (List Value → Prop) → Prop
  | [], _, _, K => K []
  | .tmp t :: r, f, w, K => retC P hint r f w fun vs => K (f t :: vs)
  | .cell a t :: r, f, w, K => match f a with
    | .pointer (some p) => bif okShape P t (one (hint t)) then LD (one (hint t)).ats p w (cur _ fun cs => retC P hint r f w fun vs => K ((one (hint t)).mk cs :: vs)) else False
    | _ => False

/-- The results by their kinds. -/
def appL (rs : List Sh) (Q : Cur (World → Prop) (atsR rs)) (vs : List Value) (w : World) : Prop :=
  match unL rs vs with
  | some cs => app botW (atsR rs) Q cs w
  | none => False

def initF (args : List Value) : Fr := fun t => args.getD t undef

def ltAll : List Nat → Nat → Bool
  | [], _ => true
  | d :: r, n => bif Nat.blt d n then ltAll r n else false

def bodyQ (P : Program) (hint : Hint) (fn : Func) (rs : List Sh) (Q : Cur (World → Prop) (atsR rs)) : Ex → Fr → World → Prop
  | .normal, f, w => retC P hint fn.results.toList f w fun vs => appL rs Q vs w
  | .ret, f, w => retC P hint fn.results.toList f w fun vs => appL rs Q vs w
  | .exit _, _, _ => False

def resOf (tmps : Array Value) : ResultVar → Sem Value
  | .tmp t => pure (tmps.getD t undef)
  | .cell a t => do loadVar t (← asAddr (tmps.getD a undef))

theorem retC_run {P : Program} {hint : Hint} {n : Nat} {a : Act} {f : Fr} (hr : Rel n a f) {w : World} : ∀ (l : List ResultVar) {K : List Value → Prop}, retC P hint l f w K →
    ∃ vs, (l.mapM (resOf a.tmps)).run P w = .ok vs w ∧ K vs
  | [], K, h => ⟨[], by simp, h⟩
  | .tmp t :: r, K, h => by
    obtain ⟨vs, h1, h2⟩ := retC_run hr r h
    exact ⟨f t :: vs, by simp only [List.mapM_cons, resOf, hr.get, Sem.run_bind, Sem.run_pure, Result.andThen_ok, h1], h2⟩
  | .cell c t :: r, K, h => by
    simp only [retC] at h
    split at h
    · rename_i p hp
      cases hs : okShape P t (one (hint t)) with
      | false => rw [hs] at h; exact h.elim
      | true =>
        rw [hs] at h
        obtain ⟨cs, hl, hc, hk⟩ := h
        obtain ⟨vs, h1, h2⟩ := retC_run hr r (app_cur hk)
        refine ⟨_, ?_, h2⟩
        have hload := load_run (P := P) hs hl hc
        simp only [Instr.loadAt, Instr.sureAddr, Sem.run_bind, Sem.run_pure, Result.andThen_ok] at hload
        simp only [List.mapM_cons, Sem.run_bind, resOf, hr.get, hp, asAddr, Sem.run_pure, Result.andThen_ok, hload, h1]
    · exact h.elim

theorem unL_length {r : List Sh} {vs cs : List Value} (h : unL r vs = some cs) : vs.length = r.length := by
  induction r generalizing vs cs with
  | nil => cases vs with
    | nil => rfl
    | cons _ _ => simp [unL] at h
  | cons s r ih =>
    cases vs with
    | nil => simp [unL] at h
    | cons v vs =>
      simp only [unL] at h
      cases hc : s.cells v with
      | none => simp [hc] at h
      | some as1 =>
        simp only [hc] at h
        by_cases hl : as1.length = s.ats.length
        · simp only [hl, if_true] at h
          cases hu : unL r vs with
          | none => simp [hu] at h
          | some ds => simp [ih hu]
        · simp [hl] at h

theorem unR_of_unL {r : List Sh} {vs cs : List Value} (h : unL r vs = some cs) : unR r (if h : (⟨vs⟩ : Array Value).size = 1 then (⟨vs⟩ : Array Value)[0] else .tuple ⟨vs⟩) = some cs := by
  have hl := unL_length h
  match r, vs, h, hl with
  | [], [], h, _ => simpa [unR] using h
  | [s], [v], h, _ =>
    simp only [unL] at h
    simp only [List.size_toArray, List.length_singleton, dite_true, unR]
    cases hc : s.cells v with
    | none => simp [hc] at h
    | some as1 =>
      simp only [hc] at h
      by_cases hl : as1.length = s.ats.length
      · simp [hl] at h; simp [hc, h]
      · simp [hl] at h
  | s :: s2 :: r, v :: v2 :: vs, h, _ => simpa [unR] using h

theorem results_run {P : Program} {fn : Func} {tmps : Array Value} {w : World} {vs : List Value} (h : (fn.results.toList.mapM (resOf tmps)).run P w = .ok vs w) :
    (results fn tmps).run P w = .ok (if h : (⟨vs⟩ : Array Value).size = 1 then (⟨vs⟩ : Array Value)[0] else .tuple ⟨vs⟩) w := by
  have e : results fn tmps = (fn.results.mapM (resOf tmps) >>= fun vs => pure (if h : vs.size = 1 then vs[0] else .tuple vs)) := by
    unfold results
    congr 2
  rw [e, Array.mapM_eq_mapM_toList]
  simp [h]

theorem ltAll_spec {l : List Nat} {n : Nat} (h : ltAll l n = true) : ∀ d ∈ l, d < n := by
  induction l with
  | nil => intro d hd; cases hd
  | cons x r ih =>
    simp only [ltAll] at h
    cases hb : Nat.blt x n with
    | false => rw [hb] at h; cases h
    | true =>
      rw [hb] at h
      intro d hd
      rcases List.mem_cons.1 hd with rfl | hd
      · have : d + 1 ≤ n := by simpa [Nat.blt] using hb
        omega
      · exact ih h d hd

/-- The check of a function, by computation. -/
def okFn (fn : Func) (c : Code) (nargs : Nat) (rs : List Sh) : Bool :=
  Nat.beq fn.results.toList.length rs.length && (Nat.ble nargs fn.ntmps && ltAll (dsts c) fn.ntmps)

theorem calls_of_wpc {P : Program} {hint : Hint} {ann : Nat → Ann} {k : FuncId} {fn : Func} {c : Code} {args : List Value} {w : World} {rs : List Sh} {Q : Cur (World → Prop) (atsR rs)}
    (hf : P.funcs[k]? = some fn) (hb : fn.body = some c) (hok : okFn fn c args.length rs = true)
    (h : wpc P hint ann c (bodyQ P hint fn rs Q) (initF args) w) : Calls P k ⟨args⟩ w (Ret rs Q) := by
  simp only [okFn, Bool.and_eq_true] at hok
  obtain ⟨hlen, hna, hlt⟩ := hok
  have hlen' : fn.results.toList.length = rs.length := Nat.eq_of_beq_eq_true hlen
  have hna' : args.length ≤ fn.ntmps := Nat.le_of_ble_eq_true hna
  refine calls_of_wp hf hb ?_
  have hrel : Rel fn.ntmps { tmps := (⟨args⟩ : Array Value) ++ Array.replicate (fn.ntmps - (⟨args⟩ : Array Value).size) undef, defers := [] } (initF args) := by
    refine ⟨by simp; omega, rfl, fun t => ?_⟩
    simp only [initF, Array.getD_eq_getD_getElem?, List.getD_eq_getElem?_getD, Array.getElem?_append]
    by_cases ht : t < args.length
    · simp [ht]
    · simp only [List.size_toArray, ht, if_false, Array.getElem?_replicate]
      rw [List.getElem?_eq_none (by omega)]
      split <;> rfl
  refine wp_mono (wpc_sound c (ltAll_spec hlt) hrel h) ?_
  have fin : ∀ (a' : Act) (f' : Fr) (w' : World), Rel fn.ntmps a' f' → retC P hint fn.results.toList f' w' (fun vs => appL rs Q vs w') →
      a'.defers = [] ∧ ∃ v, (results fn a'.tmps).run P w' = .ok v w' ∧ Ret rs Q (.returned v) w' := by
    intro a' f' w' h1 h2
    refine ⟨h1.defers, ?_⟩
    obtain ⟨vs, hv, hq⟩ := retC_run h1 _ h2
    simp only [appL] at hq
    cases hu : unL rs vs with
    | none => rw [hu] at hq; exact hq.elim
    | some cs =>
      rw [hu] at hq
      refine ⟨_, results_run hv, ?_⟩
      simp only [Ret, unR_of_unL hu]
      exact hq
  intro e a' w' he
  cases e with
  | normal => obtain ⟨f', k1, _, k3⟩ := he; exact fin a' f' w' k1 k3
  | ret => obtain ⟨f', k1, _, k3⟩ := he; exact fin a' f' w' k1 k3
  | exit id => obtain ⟨f', k1, _, k3⟩ := he; exact k3.elim
  | goto _ => exact he.elim
  | panic _ => exact he.elim
  | outgrown => exact he.elim


def bodyOf (fn : Func) : Code := match fn.body with
  | some c => c
  | none => .skip

def okAll (fn : Func) (nargs : Nat) (rs : List Sh) : Bool := fn.body.isSome && okFn fn (bodyOf fn) nargs rs

/-- A call, by the proposition that a function's code computes to. -/
theorem mkC {P : Program} {hint : Hint} {ann : Nat → Ann} {k : FuncId} {fn : Func} {args : List Value} {w : World} {rs : List Sh} {Q : Cur (World → Prop) (atsR rs)} {V : Prop}
    (hf : P.funcs[k]? = some fn) (hok : okAll fn args.length rs = true) (hV : V = wpc P hint ann (bodyOf fn) (bodyQ P hint fn rs Q) (initF args) w) (h : V) : Calls P k ⟨args⟩ w (Ret rs Q) := by
  simp only [okAll, Bool.and_eq_true] at hok
  have hb : fn.body = some (bodyOf fn) := by
    unfold bodyOf
    cases hx : fn.body with
    | none => rw [hx] at hok; exact absurd hok.1 (by simp)
    | some c => rfl
  exact calls_of_wpc (hint := hint) (ann := ann) hf hb hok.2 (hV ▸ h)

/-- Annotations of loops, by the loop's first region. -/
def annOf : List (Nat × Ann) → Nat → Ann
  | [], _ => ⟨[], []⟩
  | x :: r, n => bif Nat.beq x.1 n then x.2 else annOf r n

def hintOf (l : List (List (List Sh))) (t : TypeId) : List Sh := match l[t / 16]? with
  | some r => match r[t % 16]? with
    | some s => s
    | none => [.at .val]
  | none => [.at .val]

end Go.GX
end
