/- Own texts, merged: Rules, TxtPure, Txt, Names, V0, V1, V2, V3, VCmp, VStable, AllV, Leaf, Net, Sort, Coll, Copy, Lib, TxtRead. -/
import Derived.Test.YtnhidomgpbohiaaGreatDoorM0
import Derived.Laws.OwnMore
import Derived.Great.BuildSlice
import Derived.Laws.StructEq
import Derived.Lib.Split
import Derived.Lib.ItoaNum
import Derived.Lib.Atoi
import Derived.Lib.Join
import Derived.Lib.Strings
import Derived.Laws.Strings
import Derived.Laws.Strings2
import Derived.Laws.Slices
import Derived.Laws.BytesString
import Derived.Laws.IdiomStrings
import Derived.Test.YtnhidomgpbohiaaGreatDoorProg
import Derived.Shelf.Sort.Plain
import Derived.Ground.Names2Prog
import Derived.Shelf.Slices.In.SortNone
import Derived.Ground.SlgnProg
import Derived.Sort.OwnSortedInts
import Derived.Laws.IdiomCopy
set_option linter.unusedVariables false
section
/- Rules for proving the propositions that functions compute to: memory read as lists, loops over indexes, calls. No program is named here. -/
namespace Go.GX
open Go.RowKit

/-! ### Numbers -/

def I64 (n : Int) : Prop := -9223372036854775808 ≤ n ∧ n ≤ 9223372036854775807

theorem wrap_of {n : Int} (h1 : -9223372036854775808 ≤ n) (h2 : n ≤ 9223372036854775807) : IntKind.i64.wrap n = n := by
  have e1 : (2 : Int) ^ 64 = 18446744073709551616 := rfl
  have e2 : (2 : Int) ^ 63 = 9223372036854775808 := rfl
  simp only [IntKind.wrap, IntKind.bits, IntKind.signed, Bool.true_and, decide_eq_true_eq, Nat.reduceSub, e1, e2]
  by_cases h : 0 ≤ n
  · have : n % 18446744073709551616 = n := Int.emod_eq_of_lt h (by omega)
    rw [this, if_neg (by omega)]
  · have : n % 18446744073709551616 = n + 18446744073709551616 := by omega
    rw [this, if_pos (by omega)]; omega

theorem add_zero' (a : Addr) : a.add 0 = a := rfl
theorem add_add (a : Addr) (m n : Nat) : (a.add m).add n = a.add (m + n) := by
  unfold Addr.add
  by_cases hm : m = 0
  · subst hm; simp
  · by_cases hn : n = 0
    · subst hn; simp [hm]
    · simp [hm, hn, Nat.add_assoc]


/-! ### Worlds -/

theorem Ext.size_le {w w' : World} (h : Ext w w') : w.heap.size ≤ w'.heap.size := h.size

theorem Ext.same {w w' : World} (h : Ext w w') {b : Nat} (hb : b < w.heap.size) : w'.heap[b]? = w.heap[b]? := h.block b hb

theorem cell_lt {w : World} {a : Addr} {v : Value} (h : w.cell? a = some v) : a.block < w.heap.size := World.block_lt_of_cell? w a h

theorem ext_push (w : World) (o : Obj) : Ext w { w with heap := w.heap.push o } :=
  ⟨rfl, rfl, rfl, by simp, fun k hk => by simp [Array.getElem?_push, Nat.ne_of_lt hk]⟩

theorem ext_setCell {w0 w : World} (h : Ext w0 w) {a : Addr} (ha : w0.heap.size ≤ a.block) (v : Value) : Ext w0 (w.setCell a v) := Below.setCell h ha v

/-- A block that the call itself has made: its cells, not frozen. -/
def Box (w : World) (p : Addr) (t : TypeId) (cs : List Value) : Prop := p.off = 0 ∧ p.spot = none ∧ w.heap[p.block]? = some (.cells ⟨cs⟩ t (0, 0))

theorem Box.cell {w : World} {p : Addr} {t : TypeId} {cs : List Value} (h : Box w p t cs) {i : Nat} {v : Value} (hi : cs[i]? = some v) : w.cell? (p.add i) = some v := by
  obtain ⟨h1, h2, h3⟩ := h
  unfold Addr.add
  by_cases h0 : i = 0
  · subst h0; simp [World.cell?, h3, h2, h1, hi]
  · simp [World.cell?, h3, h0, h1, hi]

theorem Box.frozen {w : World} {p : Addr} {t : TypeId} {cs : List Value} (h : Box w p t cs) (i : Nat) : w.frozen? (p.add i) = false := by
  obtain ⟨h1, h2, h3⟩ := h
  have : (p.add i).block = p.block := by unfold Addr.add; split <;> rfl
  simp [World.frozen?, this, h3]

theorem Box.lt {w : World} {p : Addr} {t : TypeId} {cs : List Value} (h : Box w p t cs) : p.block < w.heap.size := (Array.getElem?_eq_some_iff.1 h.2.2).1

theorem Box.ext {w w' : World} {p : Addr} {t : TypeId} {cs : List Value} (h : Box w p t cs) (hE : Ext w w') : Box w' p t cs :=
  ⟨h.1, h.2.1, (hE.same h.lt).trans h.2.2⟩

theorem Box.of_block {w w' : World} {p : Addr} {t : TypeId} {cs : List Value} (h : Box w p t cs) (hE : w'.heap[p.block]? = w.heap[p.block]?) : Box w' p t cs :=
  ⟨h.1, h.2.1, hE.trans h.2.2⟩

theorem add_block (p : Addr) (i : Nat) : (p.add i).block = p.block := by unfold Addr.add; split <;> rfl

theorem Box.set {w : World} {p : Addr} {t : TypeId} {cs : List Value} (h : Box w p t cs) (i : Nat) (v : Value) : Box (w.setCell (p.add i) v) p t (cs.set i v) := by
  obtain ⟨h1, h2, h3⟩ := h
  refine ⟨h1, h2, ?_⟩
  have hb : (p.add i).block = p.block := add_block p i
  have ho : (p.add i).off = i := by unfold Addr.add; split <;> simp_all
  have hs : (p.add i).spot = none := by unfold Addr.add; split <;> simp_all
  have hlt := (Array.getElem?_eq_some_iff.1 h3).1
  have hv := (Array.getElem?_eq_some_iff.1 h3).2
  simp only [World.setCell, Array.getElem?_modify, hb, ho, hs]
  simp [h3]

/-- A new variable: its block is the next one. -/
theorem NEW_intro {t : TypeId} {cs : List Value} {w : World} {K : Addr → World → Prop}
    (h : ∀ p w', p.block = w.heap.size → w'.heap.size = w.heap.size + 1 → Ext w w' → Box w' p t cs → K p w') : NEW t ⟨cs⟩ w K :=
  h _ _ rfl (by simp) (ext_push w _) ⟨rfl, rfl, by simp⟩

theorem setCell_size (w : World) (a : Addr) (v : Value) : (w.setCell a v).heap.size = w.heap.size := by simp [World.setCell]

theorem setCell_other (w : World) (a : Addr) (v : Value) {b : Nat} (h : b ≠ a.block) : (w.setCell a v).heap[b]? = w.heap[b]? := Below.heap_setCell w a v b h

/-- A store of one cell into a block of the call's own. -/
theorem ST_box1 {w : World} {p : Addr} {t : TypeId} {cs : List Value} {i : Nat} {v : Value} {K : World → Prop} (h : Box w p t cs) (hi : i < cs.length) (h1 : v.oneCell' = true)
    (hk : ∀ w', w'.heap.size = w.heap.size → (∀ b, b ≠ p.block → w'.heap[b]? = w.heap[b]?) → (∀ w0, Ext w0 w → w0.heap.size ≤ p.block → Ext w0 w') → Box w' p t (cs.set i v) → K w') : ST (p.add i) 0 [v] w K := by
  refine ⟨h1, ⟨cs[i], ?_⟩, ?_, hk _ (setCell_size _ _ _) (fun b hb => setCell_other _ _ _ (by rw [add_add, add_block]; exact hb)) (fun w0 h0 hle => ext_setCell h0 (by rw [add_add, add_block]; exact hle) v) (by rw [add_add]; exact h.set _ v)⟩
  · rw [add_add]; exact h.cell (by simp [hi])
  · rw [add_add]; exact h.frozen _

/-! ### Loads -/

section
variable {w : World} {a : Addr}

theorem LD_sl {K : Sl → Prop} {s : Sl} (hc : w.cell? a = some s.v) (hk : K s) : LD [.sl] a w K :=
  ⟨[s.v], rfl, fun i v hi => by match i, hi with | 0, hi => simp at hi; subst hi; exact hc, hk⟩
theorem LD_int {K : Int → Prop} {n : Int} (hc : w.cell? a = some (.int .i64 n)) (hk : K n) : LD [.int .i64] a w K :=
  ⟨[.int .i64 n], rfl, fun i v hi => by match i, hi with | 0, hi => simp at hi; subst hi; exact hc, hk⟩
end

/-! ### Memory read as data -/

class Rep (α : Type) where
  sz : Nat
  rep : (Nat → Prop) → World → List Value → α → Prop
  len : ∀ {D w cs a}, rep D w cs a → cs.length = sz
  agr : ∀ {D : Nat → Prop} {w w' : World} {cs a}, (∀ b, D b → w'.heap[b]? = w.heap[b]?) → rep D w cs a → rep D w' cs a
  weak : ∀ {D D' : Nat → Prop} {w cs a}, (∀ b, D b → b < w.heap.size → D' b) → rep D w cs a → rep D' w cs a

/-- The slice s reads as the list l, by blocks in D. -/
def SlR {α : Type} [Rep α] (D : Nat → Prop) (w : World) (s : Sl) (l : List α) : Prop :=
  s.len = l.length ∧ (s.len ≤ s.cap ∧ s.cap ≤ 9223372036854775807) ∧ ∀ i x, l[i]? = some x → ∃ a cs, s.a = some a ∧ D a.block ∧ Rep.rep D w cs x ∧ ∀ j v, cs[j]? = some v → w.cell? (a.add (i * Rep.sz α + j)) = some v

instance : Rep Int where
  sz := 1
  rep _ _ cs n := cs = [.int .i64 n] ∧ I64 n
  len h := by rw [h.1]; rfl
  agr _ h := h
  weak _ h := h

instance : Rep Bool where
  sz := 1
  rep _ _ cs n := cs = [.bool n]
  len h := by rw [h]; rfl
  agr _ h := h
  weak _ h := h

instance : Rep (Int × Int) where
  sz := 2
  rep _ _ cs n := cs = [.int .i64 n.1, .int .i64 n.2] ∧ I64 n.1 ∧ I64 n.2
  len h := by rw [h.1]; rfl
  agr _ h := h
  weak _ h := h

instance : Rep (Int × Int × Int × Int) where
  sz := 4
  rep _ _ cs n := cs = [.int .i64 n.1, .int .i64 n.2.1, .int .i64 n.2.2.1, .int .i64 n.2.2.2] ∧ I64 n.1 ∧ I64 n.2.1 ∧ I64 n.2.2.1 ∧ I64 n.2.2.2
  len h := by rw [h.1]; rfl
  agr _ h := h
  weak _ h := h

section
variable {α : Type} [Rep α] {D D' : Nat → Prop} {w w' : World} {s : Sl} {l : List α}

theorem SlR.agr (hE : ∀ b, D b → w'.heap[b]? = w.heap[b]?) (h : SlR D w s l) : SlR D w' s l :=
  ⟨h.1, h.2.1, fun i x hx => by
    obtain ⟨a, cs, h1, h2, h3, h4⟩ := h.2.2 i x hx
    exact ⟨a, cs, h1, h2, Rep.agr hE h3, fun j v hj => by
      have hb : w'.heap[(a.add (i * Rep.sz α + j)).block]? = w.heap[(a.add (i * Rep.sz α + j)).block]? := by rw [add_block]; exact hE _ h2
      rw [World.cell?_of_block hb]; exact h4 j v hj⟩⟩

theorem SlR.weak (hD : ∀ b, D b → b < w.heap.size → D' b) (h : SlR D w s l) (hsz : 0 < Rep.sz α) : SlR D' w s l :=
  ⟨h.1, h.2.1, fun i x hx => by
    obtain ⟨a, cs, h1, h2, h3, h4⟩ := h.2.2 i x hx
    have hl : cs.length = Rep.sz α := Rep.len h3
    have hlt : a.block < w.heap.size := by
      have := cell_lt (h4 0 cs[0] (by simp))
      rwa [add_block] at this
    exact ⟨a, cs, h1, hD _ h2 hlt, Rep.weak hD h3, h4⟩⟩
end

class RepP (α : Type) extends Rep α where
  pos : 0 < sz

instance : RepP Int := ⟨by decide⟩
instance : RepP Bool := ⟨by decide⟩
instance : RepP (Int × Int) := ⟨by decide⟩
instance : RepP (Int × Int × Int × Int) := ⟨by decide⟩

instance {α : Type} [RepP α] : Rep (List α) where
  sz := 1
  rep D w cs l := ∃ s : Sl, cs = [s.v] ∧ SlR D w s l
  len h := by obtain ⟨s, rfl, _⟩ := h; rfl
  agr hE h := by obtain ⟨s, rfl, h⟩ := h; exact ⟨s, rfl, h.agr hE⟩
  weak hD h := by obtain ⟨s, rfl, h⟩ := h; exact ⟨s, rfl, h.weak hD RepP.pos⟩

instance {α : Type} [RepP α] : RepP (List α) := ⟨by show 0 < 1; decide⟩

abbrev R {α : Type} [Rep α] (w : World) (s : Sl) (l : List α) : Prop := SlR (fun _ => True) w s l

section
variable {α : Type} [RepP α] {D : Nat → Prop} {w w' : World} {s : Sl} {l : List α}

theorem SlR.any (h : SlR D w s l) : R w s l := h.weak (fun _ _ _ => trivial) RepP.pos
theorem SlR.below (h : SlR D w s l) : SlR (fun b => D b ∧ b < w.heap.size) w s l := h.weak (fun _ h1 h2 => ⟨h1, h2⟩) RepP.pos
theorem SlR.ext (hE : Ext w w') (h : SlR D w s l) : SlR D w' s l := by
  have h1 := h.below.agr (w' := w') fun b hb => hE.same hb.2
  exact h1.weak (fun _ h2 _ => h2.1) RepP.pos
theorem SlR.len (h : SlR D w s l) : s.len = l.length := h.1
theorem SlR.le (h : SlR D w s l) : l.length ≤ 9223372036854775807 := by have := h.1; have := h.2.1; omega
end

/-- The element of a slice: its address, and what lies there. -/
theorem SlR.ix {α : Type} [RepP α] {D : Nat → Prop} {w : World} {s : Sl} {l : List α} (h : SlR D w s l) {i : Int} {n : Nat} (hn : n = Rep.sz α) (h0 : 0 ≤ i) (hi : i < l.length) {K : Addr → Prop}
    (hk : ∀ p cs, Rep.rep D w cs (l[i.toNat]'(by omega)) → (∀ j v, cs[j]? = some v → w.cell? (p.add j) = some v) → K p) : IX s i n K := by
  obtain ⟨a, cs, h1, h2, h3, h4⟩ := h.2.2 i.toNat (l[i.toNat]'(by omega)) (by simp)
  refine ⟨a, h1, h0, by rw [h.1]; exact hi, hk _ cs h3 fun j v hj => ?_⟩
  subst hn
  rw [add_add]
  exact h4 j v hj

theorem SlR.ixI {D : Nat → Prop} {w : World} {s : Sl} {l : List Int} (h : SlR D w s l) {i : Nat} (hi : i < l.length) {K : Addr → Prop}
    (hk : ∀ p, I64 l[i] → w.cell? p = some (.int .i64 l[i]) → K p) : IX s i 1 K :=
  h.ix rfl (by omega) (by omega) fun p cs hr hc => by
    obtain ⟨rfl, h64⟩ := hr
    exact hk p h64 (hc 0 _ rfl)

theorem SlR.ixL {α : Type} [RepP α] {D : Nat → Prop} {w : World} {s : Sl} {l : List (List α)} (h : SlR D w s l) {i : Nat} (hi : i < l.length) {K : Addr → Prop}
    (hk : ∀ p (s' : Sl), SlR D w s' l[i] → w.cell? p = some s'.v → K p) : IX s i 1 K :=
  h.ix rfl (by omega) (by omega) fun p cs hr hc => by
    obtain ⟨s', rfl, hs⟩ := hr
    exact hk p s' hs (hc 0 _ rfl)

/-! ### Loops over an index -/

def IN (N : Nat) (I : Nat → World → Prop) (x : Int) (w : World) : Prop := ∃ i : Nat, x = i ∧ i ≤ N ∧ I i w
def MN (N : Nat) (x : Int) (_ : World) : Nat := N - x.toNat

theorem IN_zero {N : Nat} {I : Nat → World → Prop} {w : World} (h : I 0 w) : IN N I 0 w := ⟨0, rfl, Nat.zero_le _, h⟩

theorem IN_next {N i : Nat} {I : Nat → World → Prop} {w w' : World} (hN : N ≤ 9223372036854775807) (hi : i < N) (h : I (i + 1) w) :
    IN N I (IntKind.i64.wrap ((i : Int) + 1)) w ∧ MN N (IntKind.i64.wrap ((i : Int) + 1)) w < MN N i w' := by
  rw [wrap_of (by omega) (by omega)]
  exact ⟨⟨i + 1, by omega, hi, h⟩, by unfold MN; omega⟩

/-- A call that only computes, or that makes memory, in a region whose order is open. -/
theorem QCALL_bool {P : Program} {f : FuncId} {args : Array Value} {w : World} {K : Bool → Prop} (b : Bool)
    (h : ∀ w', Ext w w' → Calls P f args w' (Ret [.at .bool] fun (c : Bool) w'' => c = b ∧ Ext w' w'')) (hk : K b) : QCALL P f args w [.at .bool] K :=
  ⟨.bool b, [.bool b], rfl, fun w' hw => (h w' hw).mono fun e w'' he => by
    cases e with
    | returned v =>
      simp only [Ret] at he
      cases v <;> simp [unR, Sh.cells, app, At.un, atsR, botW] at he
      obtain ⟨rfl, h2⟩ := he
      exact ⟨rfl, h2⟩
    | panicked _ => exact he.elim
    | outgrown => exact he.elim, hk⟩

theorem CALLV_mk {P : Program} {g : FuncId} {caps : List Value} {args : Array Value} {w : World} {R : Ending → World → Prop} (hc : callable P g = true) (h : Calls P g ⟨args.toList ++ caps⟩ w R) : CALLV P (.func (.func g) #[] ⟨caps⟩) args w R :=
  ⟨g, caps, rfl, hc, h⟩


/-! ### Branches -/

section
variable {X Y : Prop}
theorem cond_t {b : Bool} (h : b = true) (hx : X) : cond b X Y := by subst h; exact hx
theorem cond_f {b : Bool} (h : b = false) (hy : Y) : cond b X Y := by subst h; exact hy
theorem cond_b {b : Bool} (ht : b = true → X) (hf : b = false → Y) : cond b X Y := by cases b; exact hf rfl; exact ht rfl
theorem cond_not {b : Bool} (hf : b = false → X) (ht : b = true → Y) : cond (!b) X Y := by cases b; exact hf rfl; exact ht rfl
theorem cond_dec {p : Prop} [Decidable p] (ht : p → X) (hf : ¬ p → Y) : cond (decide p) X Y := by
  by_cases h : p
  · rw [decide_eq_true h]; exact ht h
  · rw [decide_eq_false h]; exact hf h
theorem cond_df {p : Prop} [Decidable p] (h : ¬ p) (hy : Y) : cond (decide p) X Y := by rw [decide_eq_false h]; exact hy
theorem cond_eq {a b : Int} (ht : a = b → X) (hf : a ≠ b → Y) : cond (a == b) X Y := by
  by_cases h : a = b
  · rw [beq_iff_eq.2 h]; exact ht h
  · rw [beq_eq_false_iff_ne.2 h]; exact hf h
theorem cond_ne {a b : Int} (ht : a ≠ b → X) (hf : a = b → Y) : cond (a != b) X Y := by
  by_cases h : a = b
  · rw [bne_eq_false_iff_eq.2 h]; exact hf h
  · rw [bne_iff_ne.2 h]; exact ht h
end

/-! ### Small builtins -/

theorem Ret_bool {Q : Bool → World → Prop} {e : Ending} {w : World} (h : Ret [.at .bool] Q e w) : ∃ b, e = .returned (.bool b) ∧ Q b w := by
  cases e with
  | returned v =>
    simp only [Ret] at h
    cases v <;> simp [unR, Sh.cells, app, At.un, atsR, botW] at h
    exact ⟨_, rfl, h⟩
  | panicked _ => exact h.elim
  | outgrown => exact h.elim


/-! ### Slices of the call's own -/

/-- What is asked of a slice type: its elements' type, their cells and bytes, their zero value. -/
structure SlT (P : Program) (t e : TypeId) (size bytes : Nat) (z : Value) : Prop where
  under : P.underlying t = some (.slice e)
  info : (P.info? e).map (fun i => (i.zero, i.size, i.bytes)) = some (some z, size, bytes)
  zs : z.cells.size = size
  pos : 0 < size

theorem SlT.parts {P : Program} {t e : TypeId} {size bytes : Nat} {z : Value} (h : SlT P t e size bytes z) : ∃ i, P.info? e = some i ∧ i.zero = some z ∧ i.size = size ∧ i.bytes = bytes := by
  have := h.info
  cases hi : P.info? e with
  | none => rw [hi] at this; cases this
  | some i => rw [hi] at this; simp at this; exact ⟨i, rfl, this.1, this.2.1, this.2.2⟩

/-- The slice s is the call's own: its cells. -/
def Own (w : World) (base : Nat) (e : TypeId) (size : Nat) (s : Sl) (xs : List Value) : Prop := w.ownsRow base e size s.v s.len xs

theorem Own.nil (w : World) (base : Nat) (e : TypeId) (size : Nat) : Own w base e size ⟨none, 0, 0⟩ [] := World.ownsRow_nil w base e size

theorem Own.length {w : World} {base : Nat} {e : TypeId} {size : Nat} {s : Sl} {xs : List Value} (h : Own w base e size s xs) : xs.length = s.len * size := h.1

/-- What is behind a step that may write to one block of the call's own, and may make blocks. -/
structure Step (w w' : World) (g : Option Nat) : Prop where
  os : w'.os = w.os
  tape : w'.tape = w.tape
  output : w'.output = w.output
  size : w.heap.size ≤ w'.heap.size
  block : ∀ k, k < w.heap.size → some k ≠ g → w'.heap[k]? = w.heap[k]?

theorem Step.of_grown {w w' : World} {g : Option Nat} (h : w.grownBy w' g) : Step w w' g := ⟨h.os, h.tape, h.output, h.size, h.block⟩
theorem Step.ext {w w' : World} (h : Step w w' none) : Ext w w' := ⟨h.os, h.tape, h.output, h.size, fun k hk => h.block k hk (by simp)⟩
theorem Step.of_ext {w w' : World} (h : Ext w w') (g : Option Nat) : Step w w' g := ⟨h.os, h.tape, h.output, h.size, fun k hk _ => h.block k hk⟩
theorem Step.ext0 {w0 w w' : World} {g : Option Nat} (h : Step w w' g) (hE : Ext w0 w) (hg : ∀ k, g = some k → w0.heap.size ≤ k) : Ext w0 w' :=
  ⟨h.os.trans hE.os, h.tape.trans hE.tape, h.output.trans hE.output, Nat.le_trans hE.size h.size, fun k hk => (h.block k (Nat.lt_of_lt_of_le hk hE.size) (fun e => by have := hg k e.symm; omega)).trans (hE.block k hk)⟩

theorem Step.trans {a b c : World} {g : Option Nat} (h : Step a b g) (k : Step b c g) : Step a c g :=
  ⟨k.os.trans h.os, k.tape.trans h.tape, k.output.trans h.output, Nat.le_trans h.size k.size, fun b hb hne => (k.block b (Nat.lt_of_lt_of_le hb h.size) hne).trans (h.block b hb hne)⟩

theorem Step.refl (w : World) (g : Option Nat) : Step w w g := ⟨rfl, rfl, rfl, Nat.le_refl _, fun _ _ _ => rfl⟩

theorem Own.blk {w : World} {base : Nat} {e : TypeId} {size : Nat} {s : Sl} {xs : List Value} (h : Own w base e size s xs) : ∀ k, s.v.ownBlock = some k → base ≤ k ∧ k < w.heap.size := World.ownsRow.lt h

theorem Own.keep {w w' : World} {base : Nat} {e : TypeId} {size : Nat} {s : Sl} {xs : List Value} (h : Own w base e size s xs) (hb : ∀ k, s.v.ownBlock = some k → w'.heap[k]? = w.heap[k]?) : Own w' base e size s xs := by
  refine ⟨h.1, ?_⟩
  rcases h.2 with hn | ⟨g, cap, cur, hv, hb', hg, rest⟩
  · exact .inl hn
  · refine .inr ⟨g, cap, cur, hv, hb', ?_, rest⟩
    rw [hb g (by rw [hv]; rfl)]; exact hg

theorem Own.ext {w w' : World} {base : Nat} {e : TypeId} {size : Nat} {s : Sl} {xs : List Value} (h : Own w base e size s xs) (hE : Ext w w') : Own w' base e size s xs :=
  h.keep fun k hk => hE.same (h.blk k hk).2

class Flat (α : Type) extends RepP α where
  cells : α → List Value
  ok : α → Prop
  size : ∀ a, (cells a).length = sz
  one : ∀ a, ∀ v ∈ cells a, v.oneCell' = true
  repOk : ∀ {D w a}, ok a → rep D w (cells a) a
  ofRep : ∀ {D w cs a}, rep D w cs a → cs = cells a ∧ ok a

instance : Flat Int where
  cells n := [.int .i64 n]
  ok n := I64 n
  size _ := rfl
  one _ v hv := by simp at hv; subst hv; rfl
  repOk h := ⟨rfl, h⟩
  ofRep h := ⟨h.1, h.2⟩

instance : Flat Bool where
  cells n := [.bool n]
  ok _ := True
  size _ := rfl
  one _ v hv := by simp at hv; subst hv; rfl
  repOk _ := rfl
  ofRep h := ⟨h, trivial⟩

instance : Flat (Int × Int) where
  cells n := [.int .i64 n.1, .int .i64 n.2]
  ok n := I64 n.1 ∧ I64 n.2
  size _ := rfl
  one _ v hv := by simp at hv; rcases hv with rfl | rfl <;> rfl
  repOk h := ⟨rfl, h⟩
  ofRep h := ⟨h.1, h.2⟩

instance : Flat (Int × Int × Int × Int) where
  cells n := [.int .i64 n.1, .int .i64 n.2.1, .int .i64 n.2.2.1, .int .i64 n.2.2.2]
  ok n := I64 n.1 ∧ I64 n.2.1 ∧ I64 n.2.2.1 ∧ I64 n.2.2.2
  size _ := rfl
  one _ v hv := by simp at hv; rcases hv with rfl | rfl | rfl | rfl <;> rfl
  repOk h := ⟨rfl, h⟩
  ofRep h := ⟨h.1, h.2⟩

/-- The call's own slice s holds the list l. -/
def OwnL {α : Type} [Flat α] (w : World) (base : Nat) (e : TypeId) (s : Sl) (l : List α) : Prop :=
  s.len = l.length ∧ Own w base e (Rep.sz α) s (l.flatMap Flat.cells)

section
variable {α : Type} [Flat α] {w w' : World} {base : Nat} {e : TypeId} {s : Sl} {l : List α}

theorem flat_get (l : List α) {i j : Nat} {x : α} {v : Value} (hx : l[i]? = some x) (hv : (Flat.cells x)[j]? = some v) : (l.flatMap Flat.cells)[i * Rep.sz α + j]? = some v := by
  induction l generalizing i with
  | nil => cases hx
  | cons y r ih =>
    simp only [List.flatMap_cons]
    cases i with
    | zero =>
      simp at hx; subst hx
      have hlt := (List.getElem?_eq_some_iff.1 hv).1
      rw [List.getElem?_append_left (by simpa using hlt)]
      simpa using hv
    | succ i =>
      have hl : (Flat.cells y).length = Rep.sz α := Flat.size y
      rw [List.getElem?_append_right (by rw [hl, Nat.succ_mul]; omega), hl, show (i + 1) * Rep.sz α + j - Rep.sz α = i * Rep.sz α + j by rw [Nat.succ_mul]; omega]
      exact ih (by simpa using hx)

theorem OwnL.ext (h : OwnL w base e s l) (hE : Ext w w') : OwnL w' base e s l := ⟨h.1, h.2.ext hE⟩
theorem OwnL.keep (h : OwnL w base e s l) (hb : ∀ k, s.v.ownBlock = some k → w'.heap[k]? = w.heap[k]?) : OwnL w' base e s l := ⟨h.1, h.2.keep hb⟩
theorem OwnL.blk (h : OwnL w base e s l) : ∀ k, s.v.ownBlock = some k → base ≤ k ∧ k < w.heap.size := h.2.blk
theorem OwnL.nil (w : World) (base : Nat) (e : TypeId) : OwnL w base e ⟨none, 0, 0⟩ ([] : List α) := ⟨rfl, Own.nil _ _ _ _⟩

/-- What is owned reads as a list. -/
theorem OwnL.rep (h : OwnL w base e s l) (hok : ∀ x ∈ l, Flat.ok x) : SlR (fun b => base ≤ b) w s l := by
  obtain ⟨h1, h2⟩ := h
  refine ⟨h1, ?_, fun i x hx => ?_⟩
  · rcases h2.2 with ⟨hv, h0⟩ | ⟨g, cap, cur, hv, _, _, hle, hmx, _⟩
    · simp [Sl.v] at hv; omega
    · simp [Sl.v] at hv; obtain ⟨_, rfl⟩ := hv; exact ⟨hle, hmx⟩
  · rcases h2.2 with ⟨hv, h0⟩ | ⟨g, cap, cur, hv, hb, hg, hle, _, hsz, htake⟩
    · rw [h0] at h1; have : l = [] := by cases l; rfl; simp at h1
      subst this; cases hx
    · simp [Sl.v] at hv
      obtain ⟨ha, rfl⟩ := hv
      refine ⟨⟨g, 0, none⟩, Flat.cells x, ha, hb, Flat.repOk (hok x (List.mem_of_getElem? hx)), fun j v hj => ?_⟩
      have hown : w.ownsRow base e (Rep.sz α) s.v s.len (l.flatMap Flat.cells) := h2
      exact World.ownsRow.cells hown (g := g) (by simp [Sl.v, ha, Value.ownBlock]) _ v (flat_get l hx hj)

/-- The place of an element. -/
def Plc (s : Sl) (i size : Nat) (p : Addr) : Prop := ∃ a, s.a = some a ∧ p = a.add (i * size)

theorem IX_own (h : OwnL w base e s l) {i : Nat} (hi : i < l.length) {n : Nat} (hn : n = Rep.sz α) {K : Addr → Prop} (hk : ∀ p, Plc s i (Rep.sz α) p → K p) : IX s i n K := by
  subst hn
  rcases h.2.2 with ⟨hv, h0⟩ | ⟨g, cap, cur, hv, _⟩
  · rw [h.1] at h0; omega
  · simp [Sl.v] at hv
    exact ⟨_, hv.1, by omega, by rw [h.1]; omega, hk _ ⟨_, hv.1, by simp⟩⟩

end

theorem setMany_own {base : Nat} {e : TypeId} {size : Nat} {g n cap : Nat} : ∀ (vs : List Value) (i : Nat) (xs : List Value) (w : World) (K : World → Prop),
    w.ownsRow base e size (.slice (some ⟨g, 0, none⟩) n cap) n xs → (∀ v ∈ vs, v.oneCell' = true) → i + vs.length ≤ xs.length →
    (∀ w', w'.ownsRow base e size (.slice (some ⟨g, 0, none⟩) n cap) n (xs.take i ++ vs ++ xs.drop (i + vs.length)) → Step w w' (some g) → K w') → ∀ (a : Addr) (k : Nat), a.add k = ⟨g, i, none⟩ → ST a k vs w K
  | [], i, xs, w, K, h, _, hl, hk, a, k, _ => by
    refine hk w (by simpa using h) ⟨rfl, rfl, rfl, Nat.le_refl _, fun _ _ _ => rfl⟩
  | v :: vs, i, xs, w, K, h, h1, hl, hk, a, k, ha => by
    have hil : i < xs.length := by simp at hl; omega
    have hin : i < n * size := by rw [← h.1]; exact hil
    refine ⟨h1 v (by simp), ⟨xs[i], ?_⟩, ?_, ?_⟩
    · rw [ha, h.cellAt i hin]; simp [hil]
    · rw [ha]; exact h.frozenAt i
    · rw [ha]
      obtain ⟨hst, hgr⟩ := h.stored i v
      have hak : a.add (k + 1) = ⟨g, i + 1, none⟩ := by rw [← add_add, ha]; rfl
      refine setMany_own vs (i + 1) (xs.set i v) _ K hst (fun u hu => h1 u (by simp [hu])) (by simp at hl ⊢; omega) (fun w' hw' hs' => hk w' ?_ ?_) a (k + 1) hak
      · have e1 : (xs.set i v).take (i + 1) ++ vs ++ (xs.set i v).drop (i + 1 + vs.length) = xs.take i ++ v :: vs ++ xs.drop (i + (v :: vs).length) := by
          rw [List.drop_set_of_lt (by omega), List.take_set, List.take_succ_eq_append_getElem hil, List.set_append_right _ _ (by simp; omega)]
          simp [Nat.min_eq_left (Nat.le_of_lt hil), Nat.add_assoc, Nat.add_comm 1]
        rw [← e1]; exact hw'
      · refine ⟨hs'.os.trans hgr.os, hs'.tape.trans hgr.tape, hs'.output.trans hgr.output, Nat.le_trans hgr.size hs'.size, fun b hb hne => ?_⟩
        rw [hs'.block b (Nat.lt_of_lt_of_le hb hgr.size) hne, hgr.block b hb hne]

theorem flat_set {α : Type} [Flat α] (l : List α) {i : Nat} (hi : i < l.length) (x : α) :
    (l.set i x).flatMap Flat.cells = (l.flatMap Flat.cells).take (i * Rep.sz α) ++ Flat.cells x ++ (l.flatMap Flat.cells).drop (i * Rep.sz α + (Flat.cells x).length) := by
  have hl : ∀ y : α, (Flat.cells y).length = Rep.sz α := Flat.size
  induction l generalizing i with
  | nil => simp at hi
  | cons y r ih =>
    cases i with
    | zero => simp [hl]
    | succ i =>
      have := ih (i := i) (by simpa using hi)
      simp only [List.set_cons_succ, List.flatMap_cons, this, hl]
      rw [show (i + 1) * Rep.sz α = Rep.sz α + i * Rep.sz α by rw [Nat.succ_mul, Nat.add_comm]]
      have e1 : (Flat.cells y ++ List.flatMap Flat.cells r).take (Rep.sz α + i * Rep.sz α) = Flat.cells y ++ (List.flatMap Flat.cells r).take (i * Rep.sz α) := by
        rw [← hl y, List.take_length_add_append]
      have e2 : (Flat.cells y ++ List.flatMap Flat.cells r).drop (Rep.sz α + i * Rep.sz α + Rep.sz α) = (List.flatMap Flat.cells r).drop (i * Rep.sz α + Rep.sz α) := by
        rw [Nat.add_assoc, ← hl y, List.drop_length_add_append]
      rw [e1, e2]
      simp

section
variable {α : Type} [Flat α] {w w' : World} {base : Nat} {e : TypeId} {s : Sl} {l : List α}

/-- A store into the call's own slice. -/
theorem ST_own (h : OwnL w base e s l) {i : Nat} (hi : i < l.length) {p : Addr} (hp : Plc s i (Rep.sz α) p) (x : α) {vs : List Value} (hvs : vs = Flat.cells x) {K : World → Prop}
    (hk : ∀ w', OwnL w' base e s (l.set i x) → Step w w' s.v.ownBlock → K w') : ST p 0 vs w K := by
  subst hvs
  obtain ⟨a, ha, rfl⟩ := hp
  rcases h.2.2 with ⟨hv, h0⟩ | ⟨g, cap, cur, hv, _⟩
  · rw [h.1] at h0; omega
  · have hv' := hv
    simp [Sl.v] at hv
    obtain ⟨hsa, rfl⟩ := hv
    rw [hsa] at ha; cases ha
    have hown : w.ownsRow base e (Rep.sz α) (.slice (some ⟨g, 0, none⟩) s.len s.cap) s.len (l.flatMap Flat.cells) := by
      have := h.2; unfold Own at this; rw [hv'] at this; exact this
    have hlen : (l.flatMap Flat.cells).length = l.length * Rep.sz α := by have := h.2.length; rwa [h.1] at this
    have hcl : (Flat.cells x).length = Rep.sz α := Flat.size x
    refine setMany_own (Flat.cells x) (i * Rep.sz α) _ w K hown (Flat.one x) ?_ (fun w' hw' hs => hk w' ⟨by simp [h.1], ?_⟩ (by rw [hv']; exact hs)) _ 0 (by rw [add_zero']; simp only [Addr.add]; split <;> simp_all)
    · rw [hlen, hcl]
      have : (i + 1) * Rep.sz α ≤ l.length * Rep.sz α := Nat.mul_le_mul_right _ hi
      rw [Nat.succ_mul] at this; omega
    · unfold Own
      rw [hv', flat_set l hi x]
      exact hw'
end

/-! ### Literals and append -/

theorem foldl_sets : ∀ (l : List Value) (k : Nat) (ys : List Value), k + l.length ≤ ys.length →
    (l.zipIdx k).foldl (fun (cs : List Value) x => cs.set (0 + x.2) x.1) ys = ys.take k ++ l ++ ys.drop (k + l.length)
  | [], k, ys, h => by simp
  | v :: l, k, ys, h => by
    have hk : k < ys.length := by simp at h; omega
    simp only [List.zipIdx_cons, List.foldl_cons]
    rw [foldl_sets l (k + 1) _ (by simp at h ⊢; omega)]
    rw [Nat.zero_add, List.drop_set_of_lt (by omega), List.take_set, List.take_succ_eq_append_getElem hk, List.set_append_right _ _ (by simp; omega)]
    simp [Nat.min_eq_left (Nat.le_of_lt hk), Nat.add_assoc, Nat.add_comm 1]

theorem fill_one (arr : Array Value) (v : Value) (sz : Nat) (h1 : arr.size = sz) (h2 : v.cells.size = sz) : Instr.fill (fun i => some (i * sz, sz)) arr [(0, v)] = some v.cells := by
  simp only [Instr.fill, Nat.zero_mul]
  rw [if_neg (by simp [h1, h2])]
  congr 1
  apply Array.ext'
  rw [← Array.foldl_toList]
  have : ∀ (l : List (Value × Nat)) (a : Array Value), (l.foldl (fun (cs : Array Value) x => cs.setIfInBounds (0 + x.2) x.1) a).toList = l.foldl (fun (cs : List Value) x => cs.set (0 + x.2) x.1) a.toList := by
    intro l
    induction l with
    | nil => intro a; rfl
    | cons x r ih => intro a; simp only [List.foldl_cons]; rw [ih]; simp
  have e : v.cells.zipIdx.toList = v.cells.toList.zipIdx 0 := by simp
  rw [e, this, foldl_sets _ _ _ (by simp; omega)]
  simp
  omega

/-- A literal of one element: []T{x}. -/
theorem RUN_lit1 {α : Type} [Flat α] {P : Program} {t e : TypeId} {bytes : Nat} {z v : Value} (hT : SlT P t e (Rep.sz α) bytes z) (x : α) (hv : v.cells.toList = Flat.cells x) (hs : Rep.sz α ≤ 1000) {w : World} {K : Sl → World → Prop}
    (hk : ∀ s w', Ext w w' → OwnL w' w.heap.size e s [x] → K s w') : RUN P (.at .sl) (Instr.buildSlice t 1 #[(0, v)]) w K := by
  obtain ⟨i, hi, hz0, hsz, hby⟩ := hT.parts
  have hvs : v.cells.size = Rep.sz α := by rw [← Array.length_toList, hv, Flat.size]
  have hr := run_buildSlice (P := P) w t e 1 #[(0, v)] v.cells i z hT.under hi hz0 (by rw [hsz]; omega) (by rw [hsz]; have := hT.pos; omega) (by rw [hsz]; exact fill_one _ v _ (by simp) hvs)
  unfold RUN
  rw [hr]
  refine hk ⟨some ⟨w.heap.size, 0, none⟩, 1, 1⟩ _ (ext_push w _) ⟨rfl, ?_⟩
  have := World.ownsRow_lit (base := w.heap.size) (e := e) (size := Rep.sz α) w v.cells 1 (Nat.le_refl _) (by unfold maxLen; omega) (by rw [hvs]; omega)
  unfold Own
  simpa [hv] using this

/-- The cells of a slice that reads as a list. -/
theorem SlR.flat {α : Type} [Flat α] {D : Nat → Prop} {w : World} {y : Sl} {m : List α} (h : SlR D w y m) {a : Addr} (ha : y.a = some a) : ∀ j u, (m.flatMap Flat.cells)[j]? = some u → w.cell? (a.add j) = some u := by
  intro j u hu
  have hpos : 0 < Rep.sz α := RepP.pos
  have hlen : (m.flatMap Flat.cells).length = m.length * Rep.sz α := by
    clear hu h
    induction m with
    | nil => simp
    | cons x r ih => rw [List.flatMap_cons, List.length_append, ih, Flat.size x, List.length_cons, Nat.succ_mul, Nat.add_comm]
  have hj : j < m.length * Rep.sz α := by rw [← hlen]; exact (List.getElem?_eq_some_iff.1 hu).1
  have hi : j / Rep.sz α < m.length := (Nat.div_lt_iff_lt_mul hpos).2 hj
  obtain ⟨a', cs, ha', _, hr, hc⟩ := h.2.2 (j / Rep.sz α) m[j / Rep.sz α] (by simp [hi])
  rw [ha] at ha'; cases ha'
  obtain ⟨rfl, _⟩ := Flat.ofRep hr
  have hmod : j % Rep.sz α < (Flat.cells m[j / Rep.sz α]).length := by rw [Flat.size]; exact Nat.mod_lt _ hpos
  have h2 : (Flat.cells m[j / Rep.sz α])[j % Rep.sz α]? = some (Flat.cells m[j / Rep.sz α])[j % Rep.sz α] := by simp [hmod]
  have h3 := flat_get m (i := j / Rep.sz α) (by simp [hi]) h2
  rw [Nat.div_add_mod' j (Rep.sz α), hu] at h3
  cases h3
  have := hc _ _ h2
  rwa [Nat.div_add_mod' j (Rep.sz α)] at this

theorem SlR.oks {α : Type} [Flat α] {D : Nat → Prop} {w : World} {y : Sl} {m : List α} (h : SlR D w y m) : ∀ x ∈ m, Flat.ok x := fun x hx => by
  obtain ⟨i, hi, rfl⟩ := List.mem_iff_getElem.1 hx
  obtain ⟨_, _, _, _, hr, _⟩ := h.2.2 i m[i] (by simp [hi])
  exact (Flat.ofRep hr).2

/-- What a slice became by appending lies in the same block or in a new one. -/
def NewOr (w : World) (s s' : Sl) : Prop := s'.v.ownBlock = s.v.ownBlock ∨ ∀ k, s'.v.ownBlock = some k → w.heap.size ≤ k

/-- append(s, y...) on a slice of the call's own; what is appended reads as a list. -/
theorem RUN_appendF {α : Type} [Flat α] {P : Program} {t e : TypeId} {bytes : Nat} {z : Value} (hT : SlT P t e (Rep.sz α) bytes z) {w : World} {base : Nat} {s y : Sl} {l m : List α} (h : OwnL w base e s l) (hbase : base ≤ w.heap.size)
    {D : Nat → Prop} (hy : SlR D w y m) (hlen : (l.length + m.length) * bytes ≤ 140737488355328) (hmax : l.length + m.length ≤ maxLen) {K : Sl → World → Prop}
    (hk : ∀ s' w', OwnL w' base e s' (l ++ m) → Step w w' s.v.ownBlock → NewOr w s s' → K s' w') : RUN P (.at .sl) (bsem .append #[t, t] t #[s.v, y.v]) w K := by
  obtain ⟨i, hi, hz0, hsz, hby⟩ := hT.parts
  have hyl : (m.flatMap Flat.cells).length = m.length * Rep.sz α := by
    clear hy hlen hmax hk
    induction m with
    | nil => simp
    | cons x r ih => rw [List.flatMap_cons, List.length_append, ih, Flat.size x, List.length_cons, Nat.succ_mul, Nat.add_comm]
  have hone : ∀ u ∈ m.flatMap Flat.cells, u.oneCell' = true := by
    intro u hu
    obtain ⟨x, _, hx⟩ := List.mem_flatMap.1 hu
    exact Flat.one x u hx
  have hown : w.ownsRow base e (Rep.sz α) s.v l.length (l.flatMap Flat.cells) := by have := h.2; unfold Own at this; rwa [h.1] at this
  have fin : ∀ v' w', (Builtin.append_ #[t, t] t #[s.v, y.v]).run P w = .ok v' w' → w'.ownsRow base e (Rep.sz α) v' (l.length + m.length) (l.flatMap Flat.cells ++ m.flatMap Flat.cells) → Step w w' s.v.ownBlock → (v'.ownBlock = s.v.ownBlock ∨ ∀ k, v'.ownBlock = some k → w.heap.size ≤ k) → RUN P (.at .sl) (bsem .append #[t, t] t #[s.v, y.v]) w K := by
    intro v' w' hr ho hst hnw
    have hsl : ∃ s' : Sl, v' = s'.v ∧ s'.len = l.length + m.length := by
      rcases ho.2 with ⟨rfl, h0⟩ | ⟨g', cap', cur', rfl, _⟩
      · exact ⟨⟨none, 0, 0⟩, rfl, h0.symm⟩
      · exact ⟨⟨some ⟨g', 0, none⟩, l.length + m.length, cap'⟩, rfl, rfl⟩
    obtain ⟨s', rfl, hs'⟩ := hsl
    unfold RUN
    show (match (Builtin.append_ #[t, t] t #[s.v, y.v]).run P w with | .ok v w' => _ | .halt _ _ => False)
    rw [hr]
    refine hk s' w' ⟨by simp [hs'], ?_⟩ hst hnw
    unfold Own
    rw [hs', List.flatMap_append]
    exact ho
  cases hya : y.a with
  | none =>
    have hm : m = [] := by
      cases m with
      | nil => rfl
      | cons x r => obtain ⟨a, _, ha, _⟩ := hy.2.2 0 x rfl; rw [hya] at ha; cases ha
    subst hm
    have hyv : y.v = .slice none 0 y.cap := by have := hy.1; simp at this; simp [Sl.v, hya, this]
    refine fin s.v w ?_ (by simpa using hown) (Step.refl _ _) (.inl rfl)
    rw [hyv]
    obtain ⟨sa, sl, sc⟩ := s
    have hle : sl ≤ sc := by
      rcases hown.2 with ⟨h0, h1⟩ | ⟨g, cap, cur, h0, _, _, h1, _⟩
      · simp [Sl.v] at h0; omega
      · simp [Sl.v] at h0; omega
    cases sa <;> simp [Builtin.append_, underlying_run hT.under, sizeOf_run hi, Builtin.lenOf, hle, Builtin.firstCells, storeCells]
  | some a =>
    have hyv : y.v = .slice (some a) m.length y.cap := by rw [← hy.1]; simp [Sl.v, hya]
    obtain ⟨v', w', hr, ho, hg, _⟩ := run_append_own (P := P) w base t t e i z (Rep.sz α) bytes hT.under hi hz0 hsz hby hT.zs hT.pos s.v l.length _ hown a m.length y.cap (m.flatMap Flat.cells) hyl (hy.flat hya) hone hmax hlen hbase
    refine fin v' w' (by rw [hyv]; exact hr) ho (Step.of_grown hg) ?_
    rcases hown.2 with ⟨h0, h1⟩ | ⟨g, cap, cur, h0, hbg, hgg, hnc, hcm, hcs, htake⟩
    · right
      have hown' : w.ownsRow w.heap.size e (Rep.sz α) s.v l.length (l.flatMap Flat.cells) := ⟨hown.1, .inl ⟨h0, h1⟩⟩
      obtain ⟨v2, w2, hr2, ho2, _⟩ := run_append_own (P := P) w w.heap.size t t e i z (Rep.sz α) bytes hT.under hi hz0 hsz hby hT.zs hT.pos s.v l.length _ hown' a m.length y.cap (m.flatMap Flat.cells) hyl (hy.flat hya) hone hmax hlen (Nat.le_refl _)
      rw [hr] at hr2
      cases hr2
      exact fun k hk => (World.ownsRow.lt ho2 k hk).1
    · have hyl' : (m.flatMap Flat.cells).length = m.length * i.size := by rw [hsz]; exact hyl
      have hol' : (l.flatMap Flat.cells).length = l.length * i.size := by rw [hsz]; exact hown.1
      subst hby
      rw [h0] at hr ⊢
      by_cases hroom : l.length + m.length ≤ cap
      · left
        have hr2 := run_append_room (P := P) w t t e i hT.under hi g l.length cap cur hgg a m.length y.cap (m.flatMap Flat.cells) hyl' (hy.flat hya) hone hroom (by rw [hyl, hcs, hsz, ← Nat.add_mul]; exact Nat.mul_le_mul_right _ hroom)
        rw [hr] at hr2
        cases hr2
        rfl
      · right
        have hr2 := run_append_grow (P := P) w t t e i z hT.under hi hz0 ⟨g, 0, none⟩ l.length cap (l.flatMap Flat.cells) hol' (hown.cells (g := g) (by rw [h0]; rfl)) a m.length y.cap (m.flatMap Flat.cells) hyl' (hy.flat hya) (by omega) (by simp only [maxLen] at hmax; omega) (growslice_fits (by simp only [maxLen] at hmax; omega) hlen)
        rw [hr] at hr2
        cases hr2
        intro k hk
        simp [Value.ownBlock] at hk
        omega

theorem RUN_append {α : Type} [Flat α] {P : Program} {t e : TypeId} {bytes : Nat} {z : Value} (hT : SlT P t e (Rep.sz α) bytes z) {w : World} {base : Nat} {s y : Sl} {l m : List α} (h : OwnL w base e s l) (hbase : base ≤ w.heap.size)
    {D : Nat → Prop} (hy : SlR D w y m) (hlen : (l.length + m.length) * bytes ≤ 140737488355328) (hmax : l.length + m.length ≤ maxLen) {K : Sl → World → Prop}
    (hk : ∀ s' w', OwnL w' base e s' (l ++ m) → Step w w' s.v.ownBlock → K s' w') : RUN P (.at .sl) (bsem .append #[t, t] t #[s.v, y.v]) w K :=
  RUN_appendF hT h hbase hy hlen hmax fun s' w' h1 h2 _ => hk s' w' h1 h2

/-- An empty literal: []T{}. -/
theorem RUN_lit0 {α : Type} [Flat α] {P : Program} {t e : TypeId} {bytes : Nat} {z : Value} (hT : SlT P t e (Rep.sz α) bytes z) {w : World} {K : Sl → World → Prop}
    (hk : ∀ s w', Ext w w' → OwnL w' w.heap.size e s ([] : List α) → K s w') : RUN P (.at .sl) (Instr.buildSlice t 0 #[]) w K := by
  obtain ⟨i, hi, hz0, hsz, hby⟩ := hT.parts
  have hr : (Instr.buildSlice t 0 #[]).run P w = .ok (.slice (some ⟨w.heap.size, 0, none⟩) 0 0) { w with heap := w.heap.push (.cells #[] e) } := by
    simp [Instr.buildSlice, underlying_run hT.under, sizeOf_run hi, Instr.fill, newRow, newObj, Sem.run]
    have : (Array.range 0) = #[] := rfl
    rw [this]; simp
  unfold RUN
  rw [hr]
  refine hk ⟨some ⟨w.heap.size, 0, none⟩, 0, 0⟩ _ (ext_push w _) ⟨rfl, ?_⟩
  have := World.ownsRow_lit (base := w.heap.size) (e := e) (size := Rep.sz α) w #[] 0 (Nat.le_refl _) (by unfold maxLen; omega) (by simp)
  unfold Own
  simpa using this

/-- A slice's first elements. -/
theorem SlR.take {α : Type} [RepP α] {D : Nat → Prop} {w : World} {s : Sl} {l : List α} (h : SlR D w s l) {i : Nat} (hi : i ≤ l.length) {sz : Nat} (_ : sz = Rep.sz α) {K : Sl → Prop} (hk : ∀ s', SlR D w s' (l.take i) → K s') : SLC s none (some (i : Int)) sz K := by
  have h1 := h.1
  have h2 := h.2.1
  refine ⟨by simp, by simp, by simp; omega, hk _ ⟨by simp; omega, by simp; omega, fun j x hx => ?_⟩⟩
  rw [List.getElem?_take] at hx
  split at hx
  · obtain ⟨a, cs, ha, hb, hr, hc⟩ := h.2.2 j x hx
    refine ⟨a, cs, ?_, hb, hr, hc⟩
    simp [ha, add_zero']
  · cases hx

/-- Slices as elements. -/
instance : Rep Sl where
  sz := 1
  rep _ _ cs s := cs = [s.v]
  len h := by rw [h]; rfl
  agr _ h := h
  weak _ h := h
instance : RepP Sl := ⟨by decide⟩
instance : Flat Sl where
  cells s := [s.v]
  ok _ := True
  size _ := rfl
  one _ v hv := by simp at hv; subst hv; rfl
  repOk _ := rfl
  ofRep h := ⟨h, trivial⟩

/-- The call's own slice of slices reads as a list of lists. -/
theorem OwnL.rows {α : Type} [RepP α] {D : Nat → Prop} {w : World} {base : Nat} {e : TypeId} {s : Sl} {ss : List Sl} {l : List (List α)} (h : OwnL w base e s ss) (hlen : ss.length = l.length)
    (hr : ∀ i (h1 : i < ss.length) (h2 : i < l.length), SlR D w ss[i] l[i]) (hD : ∀ b, base ≤ b → D b) : SlR D w s l := by
  have h0 := h.rep (fun _ _ => trivial)
  refine ⟨by rw [h0.1, hlen], h0.2.1, fun i x hx => ?_⟩
  obtain ⟨h2, rfl⟩ := List.getElem?_eq_some_iff.1 hx
  have h1 : i < ss.length := by omega
  obtain ⟨a, cs, ha, hb, hcs, hc⟩ := h0.2.2 i ss[i] (by simp [h1])
  have hcs' : cs = [ss[i].v] := hcs
  subst hcs'
  exact ⟨a, _, ha, hD _ hb, ⟨ss[i], rfl, hr i h1 h2⟩, hc⟩


/-! ### Boxes -/

section
variable {w : World} {p : Addr} {t : TypeId}

theorem LD_bs2 {x : Sl} {v0 v1 : Value} {r : List Value} {K : Sl → Prop} (hb : Box w p t (v0 :: v1 :: x.v :: r)) (hk : K x) : LD [.sl] (p.add 2) w K := LD_sl (hb.cell (i := 2) rfl) hk
theorem LD_bi {x : Int} {r : List Value} {K : Int → Prop} (hb : Box w p t (.int .i64 x :: r)) (hk : K x) : LD [.int .i64] p w K := LD_int (hb.cell (i := 0) rfl) hk
theorem LD_bi0 {x : Int} {r : List Value} {K : Int → Prop} (hb : Box w p t (.int .i64 x :: r)) (hk : K x) : LD [.int .i64] (p.add 0) w K := LD_int (hb.cell (i := 0) rfl) hk
theorem LD_bi1 {x : Int} {v0 : Value} {r : List Value} {K : Int → Prop} (hb : Box w p t (v0 :: .int .i64 x :: r)) (hk : K x) : LD [.int .i64] (p.add 1) w K := LD_int (hb.cell (i := 1) rfl) hk
end

theorem ST_box {p : Addr} {t : TypeId} : ∀ (vs : List Value) (i : Nat) (cs : List Value) (w : World) (K : World → Prop), Box w p t cs → (∀ v ∈ vs, v.oneCell' = true) → i + vs.length ≤ cs.length →
    (∀ w', Step w w' (some p.block) → w'.heap.size = w.heap.size → Box w' p t (cs.take i ++ vs ++ cs.drop (i + vs.length)) → K w') → ST p i vs w K
  | [], i, cs, w, K, hb, _, _, hk => hk w (Step.refl _ _) rfl (by simpa using hb)
  | v :: vs, i, cs, w, K, hb, h1, hl, hk => by
    have hi : i < cs.length := by simp at hl; omega
    refine ⟨h1 v (by simp), ⟨cs[i], hb.cell (by simp [hi])⟩, hb.frozen i, ?_⟩
    refine ST_box vs (i + 1) (cs.set i v) _ K (hb.set i v) (fun u hu => h1 u (by simp [hu])) (by simp at hl ⊢; omega) fun w' hs hsz hb' => hk w' ?_ ?_ ?_
    · have h0 : Step w (w.setCell (p.add i) v) (some p.block) := ⟨rfl, rfl, rfl, by rw [setCell_size]; exact Nat.le_refl _, fun k _ hne => setCell_other _ _ _ (by rw [add_block]; intro he; exact hne (by rw [he]))⟩
      exact h0.trans hs
    · rw [hsz, setCell_size]
    · have e1 : (cs.set i v).take (i + 1) ++ vs ++ (cs.set i v).drop (i + 1 + vs.length) = cs.take i ++ v :: vs ++ cs.drop (i + (v :: vs).length) := by
        rw [List.drop_set_of_lt (by omega), List.take_set, List.take_succ_eq_append_getElem hi, List.set_append_right _ _ (by simp; omega)]
        simp [Nat.min_eq_left (Nat.le_of_lt hi), Nat.add_assoc, Nat.add_comm 1]
      rw [← e1]; exact hb'

/-- All cells of a box. -/
theorem ST_all {w : World} {p : Addr} {t : TypeId} {cs vs : List Value} {K : World → Prop} (hb : Box w p t cs) (h1 : ∀ v ∈ vs, v.oneCell' = true) (hl : vs.length = cs.length)
    (hk : ∀ w', Step w w' (some p.block) → w'.heap.size = w.heap.size → Box w' p t vs → K w') : ST p 0 vs w K :=
  ST_box vs 0 cs w K hb h1 (by omega) fun w' h2 h3 h4 => hk w' h2 h3 (by simpa [List.drop_of_length_le (Nat.le_of_eq hl.symm)] using h4)

/-- A new variable that is filled at once. -/
theorem NEW_ST {t : TypeId} {zs vs : List Value} {w : World} {K : Addr → World → Prop} (h1 : ∀ v ∈ vs, v.oneCell' = true) (hl : vs.length = zs.length)
    (hk : ∀ p w', p.block = w.heap.size → Ext w w' → Box w' p t vs → K p w') : NEW t ⟨zs⟩ w fun p w1 => ST p 0 vs w1 fun w2 => K p w2 :=
  NEW_intro fun p w1 hp hsz hE hb => ST_all hb h1 hl fun w2 hs _ hb2 => hk p w2 hp (hs.ext0 hE (fun k hk => by cases hk; omega)) hb2

/-! ### Structs of numbers compared -/

/-! ### Loops with an accumulator ahead of the index -/

def IN2 {α : Type} (N : Nat) (I : Nat → α → World → Prop) (a : α) (x : Int) (w : World) : Prop := ∃ i : Nat, x = i ∧ i ≤ N ∧ I i a w
def MN2 {α : Type} (N : Nat) (_ : α) (x : Int) (_ : World) : Nat := N - x.toNat

theorem IN2_zero {α : Type} {N : Nat} {I : Nat → α → World → Prop} {a : α} {w : World} (h : I 0 a w) : IN2 N I a 0 w := ⟨0, rfl, Nat.zero_le _, h⟩

theorem IN2_next {α : Type} {N i : Nat} {I : Nat → α → World → Prop} {a a' : α} {w w' : World} (hN : N ≤ 9223372036854775807) (hi : i < N) (h : I (i + 1) a w) :
    IN2 N I a (IntKind.i64.wrap ((i : Int) + 1)) w ∧ MN2 N a (IntKind.i64.wrap ((i : Int) + 1)) w < MN2 N a' i w' := by
  rw [wrap_of (by omega) (by omega)]
  exact ⟨⟨i + 1, by omega, hi, h⟩, by unfold MN2; omega⟩

theorem Ext.ext {a b c : World} (h : Ext a b) (hE : Ext b c) : Ext a c := h.trans hE

theorem all_succ {p : Nat → Prop} {v : Nat} (h : ∀ u < v, p u) (hv : p v) : ∀ u < v + 1, p u := fun u hu => by
  rcases Nat.lt_or_eq_of_le (Nat.le_of_lt_succ hu) with h1 | h1
  · exact h u h1
  · subst h1; exact hv

theorem OwnL.low {α : Type} [Flat α] {w : World} {base base' : Nat} {e : TypeId} {s : Sl} {l : List α} (h : OwnL w base e s l) (hb : base' ≤ base) : OwnL w base' e s l := by
  refine ⟨h.1, h.2.1, ?_⟩
  rcases h.2.2 with h1 | ⟨g, cap, cur, h1, h2, h3⟩
  · exact .inl h1
  · exact .inr ⟨g, cap, cur, h1, Nat.le_trans hb h2, h3⟩

/-! ### Literals of several one-cell elements -/

theorem fill_ones : ∀ (vs : List Value) (k : Nat) (arr : Array Value), (∀ v ∈ vs, v.cells = #[v]) → k + vs.length ≤ arr.size →
    Instr.fill (fun i => some (i * 1, 1)) arr ((vs.zipIdx k).map fun x => (x.2, x.1)) = some ⟨arr.toList.take k ++ vs ++ arr.toList.drop (k + vs.length)⟩
  | [], k, arr, _, _ => by simp [Instr.fill]
  | v :: vs, k, arr, hv, hk => by
    have h1 := hv v (by simp)
    have hk' : k < arr.toList.length := by simp at hk ⊢; omega
    simp only [List.zipIdx_cons, List.map_cons, Instr.fill, Nat.mul_one]
    rw [if_neg (by simp [h1] at hk ⊢; omega), h1]
    have e : ((#[v] : Array Value).zipIdx.foldl (fun (cs : Array Value) (x : Value × Nat) => cs.setIfInBounds (k + x.2) x.1) arr) = arr.setIfInBounds k v := by simp [Array.zipIdx]
    have e' : (fun (i : Nat) => some (i, 1)) = fun i => some (i * 1, 1) := by funext i; rw [Nat.mul_one]
    rw [e, e', fill_ones vs (k + 1) _ (fun u hu => hv u (by simp [hu])) (by simp at hk ⊢; omega)]
    congr 2
    rw [Array.toList_setIfInBounds, List.drop_set_of_lt (by omega), List.take_set, List.take_succ_eq_append_getElem hk', List.set_append_right _ _ (by simp; omega)]
    simp at hk'
    simp [Nat.min_eq_left (Nat.le_of_lt hk'), Nat.add_assoc, Nat.add_comm 1]

/-- A literal of numbers: []int{a, b, ..}. -/
theorem RUN_lits {P : Program} {t e : TypeId} {bytes : Nat} {z : Value} (hT : SlT P t e 1 bytes z) (l : List Int) (h0 : l ≠ []) (hl : l.length ≤ 1000) {n : Nat} (hn : n = l.length) {parts : Array (Nat × Value)} (hp : parts.toList = ((l.map (Value.int .i64)).zipIdx 0).map fun x => (x.2, x.1)) {w : World} {K : Sl → World → Prop}
    (hk : ∀ s w', Ext w w' → OwnL w' w.heap.size e s l → K s w') : RUN P (.at .sl) (Instr.buildSlice t n parts) w K := by
  obtain ⟨i, hi, hz0, hsz, hby⟩ := hT.parts
  subst hn
  have hpos : 0 < l.length := List.length_pos_iff.2 h0
  have hr := run_buildSlice (P := P) w t e l.length parts ⟨l.map (Value.int .i64)⟩ i z hT.under hi hz0 (by rw [hsz]; omega) (by rw [hsz]; omega) (by
    rw [hsz, hp, fill_ones _ 0 _ (by intro v hv; obtain ⟨x, _, rfl⟩ := List.mem_map.1 hv; rfl) (by simp)]
    simp)
  unfold RUN
  rw [hr]
  refine hk ⟨some ⟨w.heap.size, 0, none⟩, l.length, l.length⟩ _ (ext_push w _) ⟨rfl, ?_⟩
  have := World.ownsRow_lit (base := w.heap.size) (e := e) (size := 1) w ⟨l.map (Value.int .i64)⟩ l.length (Nat.le_refl _) (by unfold maxLen; omega) (by simp)
  have hf : l.flatMap Flat.cells = l.map (Value.int .i64) := by
    clear this hr hk hp h0 hl hpos
    induction l with
    | nil => rfl
    | cons x r ih => rw [List.flatMap_cons, ih]; rfl
  unfold Own
  rw [hf]
  exact this

/-! ### Own lists of own lists -/

theorem OwnL.type {α : Type} [Flat α] {w : World} {base : Nat} {e : TypeId} {s : Sl} {l : List α} (h : OwnL w base e s l) {k : Nat} (hk : s.v.ownBlock = some k) : ∃ cs, w.heap[k]? = some (.cells cs e (0, 0)) := by
  rcases h.2.2 with ⟨h1, _⟩ | ⟨g, cap, cur, h1, _, h3, _⟩
  · rw [h1] at hk; cases hk
  · rw [h1] at hk
    cases hk
    exact ⟨cur, h3⟩

/-- A list of another element type is not touched. -/
theorem OwnL.step {α β : Type} [Flat α] [Flat β] {w w' : World} {base base' : Nat} {e e' : TypeId} {s s' : Sl} {l : List α} {l' : List β} (h : OwnL w base e s l) (h' : OwnL w base' e' s' l') (he : e ≠ e') (hs : Step w w' s'.v.ownBlock) : OwnL w' base e s l :=
  h.keep fun k hk => by
    refine hs.block k (h.blk k hk).2 fun hk' => ?_
    obtain ⟨c1, h1⟩ := h.type hk
    obtain ⟨c2, h2⟩ := h'.type hk'.symm
    rw [h1] at h2
    cases h2
    exact he rfl

def Own2 {α : Type} [Flat α] (w : World) (base : Nat) (e e' : TypeId) (s : Sl) (ls : List (List α)) : Prop :=
  ∃ ss : List Sl, OwnL w base e' s ss ∧ ss.length = ls.length ∧ ∀ (i : Nat) (r : Sl) (l : List α), ss[i]? = some r → ls[i]? = some l → OwnL w base e r l

section
variable {α : Type} [Flat α] {w w' : World} {base : Nat} {e e' : TypeId} {s : Sl} {ls : List (List α)}
theorem Own2.nil (w : World) (base : Nat) (e e' : TypeId) : Own2 w base e e' ⟨none, 0, 0⟩ ([] : List (List α)) := ⟨[], OwnL.nil _ _ _, rfl, fun i r l h => by simp at h⟩
theorem Own2.ext (h : Own2 w base e e' s ls) (hE : Ext w w') : Own2 w' base e e' s ls := by
  obtain ⟨ss, h1, h2, h3⟩ := h
  exact ⟨ss, h1.ext hE, h2, fun i r l hr hl => (h3 i r l hr hl).ext hE⟩
theorem Own2.low (h : Own2 w base e e' s ls) {b : Nat} (hb : b ≤ base) : Own2 w b e e' s ls := by
  obtain ⟨ss, h1, h2, h3⟩ := h
  exact ⟨ss, h1.low hb, h2, fun i r l hr hl => (h3 i r l hr hl).low hb⟩
theorem Own2.blk (h : Own2 w base e e' s ls) : ∀ k, s.v.ownBlock = some k → base ≤ k ∧ k < w.heap.size := by
  obtain ⟨ss, h1, _⟩ := h
  exact h1.blk
theorem Own2.repD (h : Own2 w base e e' s ls) (hok : ∀ l ∈ ls, ∀ x ∈ l, Flat.ok x) : SlR (fun b => base ≤ b) w s ls := by
  obtain ⟨ss, h1, h2, h3⟩ := h
  refine (OwnL.rows h1 h2 (fun i hi hj => ?_) (fun _ hb => hb))
  exact (h3 i ss[i] ls[i] (by simp [hi]) (by simp [hj])).rep (hok _ (List.getElem_mem hj))
theorem Own2.rep (h : Own2 w base e e' s ls) (hok : ∀ l ∈ ls, ∀ x ∈ l, Flat.ok x) : R w s ls := (h.repD hok).any
theorem Own2.keep (h : Own2 w base e e' s ls) (hk : ∀ k, base ≤ k → k < w.heap.size → w'.heap[k]? = w.heap[k]?) : Own2 w' base e e' s ls := by
  obtain ⟨ss, h1, h2, h3⟩ := h
  exact ⟨ss, h1.keep fun k hb => hk k (h1.blk k hb).1 (h1.blk k hb).2, h2, fun i r l hr hl => (h3 i r l hr hl).keep fun k hb => hk k ((h3 i r l hr hl).blk k hb).1 ((h3 i r l hr hl).blk k hb).2⟩
end

/-! ### Rows of a list of lists, as they were in an earlier world -/

/-! ### Changes within a set of blocks -/

theorem Chg.of_step {w w' : World} {g : Option Nat} {D : Nat → Prop} (h : Step w w' g) (hg : ∀ k, g = some k → D k) : Chg w w' D :=
  ⟨h.os, h.tape, h.output, h.size, fun k hk hD => h.block k hk (fun he => hD (hg k he.symm))⟩
theorem Chg.of_ext {w w' : World} {D : Nat → Prop} (h : Ext w w') : Chg w w' D := ⟨h.os, h.tape, h.output, h.size, fun k hk _ => h.block k hk⟩
theorem Chg.trans {a b c : World} {D : Nat → Prop} (h : Chg a b D) (k : Chg b c D) : Chg a c D :=
  ⟨k.os.trans h.os, k.tape.trans h.tape, k.output.trans h.output, Nat.le_trans h.size k.size, fun i hi hD => (k.block i (Nat.lt_of_lt_of_le hi h.size) hD).trans (h.block i hi hD)⟩
theorem Chg.mono {a b : World} {D D' : Nat → Prop} (h : Chg a b D) (hD : ∀ k, D k → D' k) : Chg a b D' := ⟨h.os, h.tape, h.output, h.size, fun k hk hn => h.block k hk (fun hd => hn (hD k hd))⟩
theorem Chg.ext0 {w0 w w' : World} {D : Nat → Prop} (h : Chg w w' D) (hE : Ext w0 w) (hD : ∀ k, D k → w0.heap.size ≤ k) : Ext w0 w' :=
  ⟨h.os.trans hE.os, h.tape.trans hE.tape, h.output.trans hE.output, Nat.le_trans hE.size h.size, fun k hk => (h.block k (Nat.lt_of_lt_of_le hk hE.size) (fun hd => by have := hD k hd; omega)).trans (hE.block k hk)⟩

theorem SlR.chg {α : Type} [RepP α] {D0 D : Nat → Prop} {w w' : World} {s : Sl} {l : List α} (h : SlR D0 w s l) (hc : Chg w w' D) (hD : ∀ b, D0 b → b < w.heap.size → ¬ D b) : SlR D0 w' s l :=
  (h.below.agr fun b hb => hc.block b hb.2 (hD b hb.1 hb.2)).weak (fun _ hb _ => hb.1) RepP.pos
theorem OwnL.chg {α : Type} [Flat α] {D : Nat → Prop} {w w' : World} {base : Nat} {e : TypeId} {s : Sl} {l : List α} (h : OwnL w base e s l) (hc : Chg w w' D) (hD : ∀ b, s.v.ownBlock = some b → ¬ D b) : OwnL w' base e s l :=
  h.keep fun k hk => hc.block k (h.blk k hk).2 (hD k hk)
theorem Box.chg {D : Nat → Prop} {w w' : World} {p : Addr} {t : TypeId} {cs : List Value} (h : Box w p t cs) (hc : Chg w w' D) (hD : ¬ D p.block) : Box w' p t cs :=
  h.of_block (hc.block _ h.lt hD)

end Go.GX
end

section
/- Texts as lists of bytes: splitting at a byte, decimal numbers, lines of words. No program is named here. -/
namespace Go.GX
open Go.Lib

/-! ### Splitting at a byte -/

def splitB (c : UInt8) : List UInt8 → List (List UInt8)
  | [] => [[]]
  | b :: l => if b = c then [] :: splitB c l else (b :: (splitB c l).headD []) :: (splitB c l).tail

theorem splitB_ne (c : UInt8) (l : List UInt8) : splitB c l ≠ [] := by
  cases l with
  | nil => simp [splitB]
  | cons b l => unfold splitB; split <;> simp

theorem splitB_end (c : UInt8) (l : List UInt8) : ∃ out t, splitB c l = out ++ [t] :=
  ⟨(splitB c l).dropLast, (splitB c l).getLast (splitB_ne c l), (List.dropLast_concat_getLast (splitB_ne c l)).symm⟩

theorem splitB_snoc {c b : UInt8} : ∀ {m : List UInt8} {out : List (List UInt8)} {t : List UInt8}, splitB c m = out ++ [t] →
    splitB c (m ++ [b]) = if b = c then out ++ [t] ++ [[]] else out ++ [t ++ [b]] := by
  intro m
  induction m with
  | nil =>
    intro out t h
    have h' : out ++ [t] = [] ++ [[]] := h.symm
    obtain ⟨rfl, h2⟩ := List.append_inj' h' rfl
    obtain rfl : t = [] := by simpa using h2
    by_cases hb : b = c <;> simp [splitB, hb]
  | cons a m ih =>
    intro out t h
    obtain ⟨o2, t2, h2⟩ := splitB_end c m
    have hi := ih h2
    by_cases ha : a = c
    · have e : splitB c (a :: m) = [] :: splitB c m := by simp [splitB, ha]
      rw [e, h2, show [] :: (o2 ++ [t2]) = ([] :: o2) ++ [t2] from rfl] at h
      obtain ⟨h3, h4⟩ := List.append_inj' h rfl
      obtain rfl : t2 = t := by simpa using h4
      subst h3
      have e2 : splitB c (a :: m ++ [b]) = [] :: splitB c (m ++ [b]) := by simp [splitB, ha]
      rw [e2, hi]
      split <;> rfl
    · have e : splitB c (a :: m) = (a :: (splitB c m).headD []) :: (splitB c m).tail := by simp [splitB, ha]
      have e2 : splitB c (a :: m ++ [b]) = (a :: (splitB c (m ++ [b])).headD []) :: (splitB c (m ++ [b])).tail := by simp [splitB, ha]
      rw [e, h2] at h
      rw [e2, hi]
      cases o2 with
      | nil =>
        have h' : out ++ [t] = [] ++ [a :: t2] := by simpa using h.symm
        obtain ⟨rfl, h4⟩ := List.append_inj' h' rfl
        obtain rfl : t = a :: t2 := by simpa using h4
        split <;> simp
      | cons o os =>
        have h' : out ++ [t] = ((a :: o) :: os) ++ [t2] := by simpa using h.symm
        obtain ⟨rfl, h4⟩ := List.append_inj' h' rfl
        obtain rfl : t = t2 := by simpa using h4
        split <;> simp

theorem splitB_none {c : UInt8} : ∀ {x : List UInt8}, c ∉ x → splitB c x = [x]
  | [], _ => rfl
  | b :: x, h => by
    have hb : b ≠ c := fun e => h (by simp [e])
    have hx : c ∉ x := fun e => h (by simp [e])
    simp [splitB, hb, splitB_none hx]

theorem splitB_app {c : UInt8} {y : List UInt8} : ∀ {x : List UInt8}, c ∉ x → splitB c (x ++ c :: y) = x :: splitB c y
  | [], _ => by simp [splitB]
  | b :: x, h => by
    have hb : b ≠ c := fun e => h (by simp [e])
    have hx : c ∉ x := fun e => h (by simp [e])
    have e : splitB c (b :: x ++ c :: y) = (b :: (splitB c (x ++ c :: y)).headD []) :: (splitB c (x ++ c :: y)).tail := by simp [splitB, hb]
    rw [e, splitB_app hx]; rfl

theorem splitB_len (c : UInt8) : ∀ l : List UInt8, (splitB c l).length ≤ l.length + 1
  | [] => by simp [splitB]
  | b :: l => by
    have := splitB_len c l
    unfold splitB
    split
    · simpa using this
    · simp only [List.length_cons, List.length_tail]; omega

theorem splitB_pos (c : UInt8) (l : List UInt8) : 0 < (splitB c l).length := List.length_pos_iff.2 (splitB_ne c l)

theorem splitB_mem {c : UInt8} : ∀ {l p : List UInt8}, p ∈ splitB c l → c ∉ p ∧ p.length ≤ l.length := by
  intro l
  induction l with
  | nil => intro p h; obtain rfl : p = [] := by simpa [splitB] using h
           exact ⟨by simp, by simp⟩
  | cons b l ih =>
    intro p h
    unfold splitB at h
    split at h
    · rcases List.mem_cons.1 h with rfl | h
      · simp
      · have := ih h; exact ⟨this.1, by simp only [List.length_cons]; omega⟩
    · rename_i hb
      obtain ⟨o, os, e⟩ := List.exists_cons_of_ne_nil (splitB_ne c l)
      rw [e] at h ih
      rcases List.mem_cons.1 h with rfl | h
      · have := ih (p := o) (by simp)
        simp only [List.headD_cons, List.length_cons]
        refine ⟨fun hc => ?_, by omega⟩
        rcases List.mem_cons.1 hc with rfl | hc
        · exact hb rfl
        · exact this.1 hc
      · have := ih (p := p) (by simp at h ⊢; exact .inr h)
        exact ⟨this.1, by simp only [List.length_cons]; omega⟩

theorem splitB_lines {c : UInt8} : ∀ {L : List (List UInt8)}, (∀ x ∈ L, c ∉ x) → splitB c (L.flatMap fun x => x ++ [c]) = L ++ [[]]
  | [], _ => rfl
  | x :: L, h => by
    have e : (x :: L).flatMap (fun x => x ++ [c]) = x ++ c :: L.flatMap fun x => x ++ [c] := by simp
    rw [e, splitB_app (h x (by simp)), splitB_lines fun y hy => h y (by simp [hy])]
    rfl

theorem splitB_words {c : UInt8} : ∀ {ws : List (List UInt8)} {w : List UInt8}, c ∉ w → (∀ x ∈ ws, c ∉ x) → splitB c (w ++ ws.flatMap fun x => c :: x) = w :: ws
  | [], w, h, _ => by simpa using splitB_none h
  | x :: ws, w, h, hw => by
    have e : w ++ (x :: ws).flatMap (fun x => c :: x) = w ++ c :: (x ++ ws.flatMap fun x => c :: x) := by simp
    rw [e, splitB_app h, splitB_words (hw x (by simp)) fun y hy => hw y (by simp [hy])]

/-- The library's cutting at one byte. -/
theorem index_one (c : UInt8) : ∀ s : List UInt8, (c ∉ s ∧ index s [c] = -1) ∨ ∃ x y, s = x ++ c :: y ∧ c ∉ x ∧ index s [c] = x.length
  | [] => .inl ⟨by simp, by simp [index]⟩
  | b :: s => by
    by_cases hb : c = b
    · subst hb
      exact .inr ⟨[], s, rfl, by simp, by simp [index]⟩
    · rcases index_one c s with ⟨h1, h2⟩ | ⟨x, y, h1, h2, h3⟩
      · refine .inl ⟨by simp [hb, h1], ?_⟩
        simp [index, hb, h2]
      · refine .inr ⟨b :: x, y, by rw [h1]; rfl, by simp [hb, h2], ?_⟩
        have : ((x.length : Int) == -1) = false := by rw [beq_eq_false_iff_ne]; omega
        unfold index
        rw [h3, this]
        simp [hb]

theorem split_one (c : UInt8) : ∀ (n : Nat) (s : List UInt8) (fuel : Nat), s.length ≤ n → s.length < fuel → splitK [c] 0 (countFrom [c] fuel s) s = splitB c s := by
  intro n
  induction n with
  | zero =>
    intro s fuel h hf
    obtain rfl : s = [] := List.length_eq_zero_iff.1 (by omega)
    obtain ⟨f, rfl⟩ : ∃ f, fuel = f + 1 := ⟨fuel - 1, by omega⟩
    simp [countFrom, index, splitK, splitB]
  | succ n ih =>
    intro s fuel h hf
    obtain ⟨f, rfl⟩ : ∃ f, fuel = f + 1 := ⟨fuel - 1, by omega⟩
    rcases index_one c s with ⟨h1, h2⟩ | ⟨x, y, rfl, h2, h3⟩
    · simp [countFrom, h2, splitK, splitB_none h1]
    · have hne : ((x.length : Int) == -1) = false := by rw [beq_eq_false_iff_ne]; omega
      have hdrop : (x ++ c :: y).drop (x.length + 1) = y := by simp
      have e : countFrom [c] (f + 1) (x ++ c :: y) = countFrom [c] f y + 1 := by
        rw [countFrom, h3]; simp only [hne, Bool.false_eq_true, if_false, Int.toNat_natCast, List.length_singleton, hdrop]; omega
      have hy : y.length ≤ n ∧ y.length < f := by simp at h hf; omega
      rw [e, splitK, h3]
      simp only [hne, Bool.false_eq_true, if_false, Int.toNat_natCast, List.length_singleton, hdrop, Nat.add_zero]
      rw [ih y f hy.1 hy.2, splitB_app h2]
      simp

theorem split_eq (c : UInt8) (s : List UInt8) : split s [c] = splitB c s := split_one c s.length s (s.length + 1) (Nat.le_refl _) (Nat.lt_succ_self _)

/-! ### Decimal numbers -/

theorem digit_val {d : Nat} (h : d < 10) : digitVal (UInt8.ofNat (48 + d)) = some d := by
  have e : (UInt8.ofNat (48 + d)).toNat = 48 + d := by simp; omega
  simp only [digitVal, e]
  rw [if_pos (by omega)]
  congr 1; omega

theorem decDigits_small {n : Nat} (h : n < 10) : decDigits n = [UInt8.ofNat (48 + n)] := decDigits_one h
theorem decDigits_big {n : Nat} (h : ¬ n < 10) : decDigits n = decDigits (n / 10) ++ [UInt8.ofNat (48 + n % 10)] := by rw [decDigits, dif_neg h]

theorem decDigits_mem : ∀ (n : Nat) (b : UInt8), b ∈ decDigits n → 48 ≤ b.toNat ∧ b.toNat ≤ 57 := by
  intro n
  induction n using Nat.strongRecOn with
  | _ n ih =>
    intro b hb
    by_cases h : n < 10
    · rw [decDigits_small h, List.mem_singleton] at hb
      subst hb
      have e : (UInt8.ofNat (48 + n)).toNat = 48 + n := by simp; omega
      omega
    · rw [decDigits_big h] at hb
      rcases List.mem_append.1 hb with hb | hb
      · exact ih (n / 10) (by omega) b hb
      · rw [List.mem_singleton] at hb
        subst hb
        have e : (UInt8.ofNat (48 + n % 10)).toNat = 48 + n % 10 := by simp; omega
        omega

theorem decDigits_ne (n : Nat) : decDigits n ≠ [] := by
  by_cases h : n < 10
  · rw [decDigits_small h]; simp
  · rw [decDigits_big h]; simp

theorem decFrom_snoc {b : UInt8} {d : Nat} (hd : digitVal b = some d) : ∀ (l : List UInt8) (acc n : Nat), decFrom acc l = some n → decFrom acc (l ++ [b]) = some (n * 10 + d)
  | [], acc, n, h => by
    obtain rfl : acc = n := by simpa [decFrom] using h
    simp [decFrom, hd]
  | a :: l, acc, n, h => by
    simp only [List.cons_append, decFrom] at h ⊢
    cases ha : digitVal a with
    | none => simp [ha] at h
    | some e => simp only [ha] at h ⊢; exact decFrom_snoc hd l _ n h

theorem decFrom_digits (n : Nat) : decFrom 0 (decDigits n) = some n := by
  induction n using Nat.strongRecOn with
  | _ n ih =>
    by_cases h : n < 10
    · rw [decDigits_small h]; simp only [decFrom, digit_val h]; congr 1; omega
    · rw [decDigits_big h, decFrom_snoc (digit_val (Nat.mod_lt n (by omega))) _ _ _ (ih (n / 10) (by omega))]
      congr 1; omega

theorem decDigits_inj {m n : Nat} (h : decDigits m = decDigits n) : m = n := by
  have h1 := decFrom_digits m
  rw [h, decFrom_digits n] at h1
  exact (Option.some.inj h1).symm

/-- Rows of digits without a leading zero are numerals. -/
theorem digits_of : ∀ (k : Nat) (l : List UInt8), l.length = k → l ≠ [] → (l.head? = some 48 → l.length = 1) → (∀ b ∈ l, 48 ≤ b.toNat ∧ b.toNat ≤ 57) → ∃ n, decDigits n = l := by
  intro k
  induction k with
  | zero => intro l h h0; exact absurd (List.length_eq_zero_iff.1 h) h0
  | succ k ih =>
    intro l h h0 hz hd
    obtain ⟨m, b, rfl⟩ : ∃ m b, l = m ++ [b] := ⟨l.dropLast, l.getLast h0, (List.dropLast_concat_getLast h0).symm⟩
    have hb := hd b (by simp)
    have hbe : UInt8.ofNat (48 + (b.toNat - 48)) = b := by
      have : 48 + (b.toNat - 48) = b.toNat := by omega
      rw [this]; simp
    by_cases hm : m = []
    · subst hm
      exact ⟨b.toNat - 48, by rw [decDigits_small (by omega), hbe]; rfl⟩
    · have hlen : m.length = k := by simp at h; omega
      obtain ⟨a, m2, rfl⟩ := List.exists_cons_of_ne_nil hm
      obtain ⟨n, hn⟩ := ih (a :: m2) hlen (by simp) (fun e => by
        have := hz (by simpa using e); simp at this) fun x hx => hd x (by simp at hx ⊢; rcases hx with h | h <;> simp [h])
      have hn0 : n ≠ 0 := by
        rintro rfl
        have e : decDigits 0 = [48] := by rw [decDigits_small (by omega)]; rfl
        rw [e] at hn
        have h1 : a = 48 := by simpa using (List.cons.inj hn).1.symm
        have := hz (by simp [h1])
        simp at this
      refine ⟨10 * n + (b.toNat - 48), ?_⟩
      rw [decDigits_big (by omega), show (10 * n + (b.toNat - 48)) / 10 = n by omega, show (10 * n + (b.toNat - 48)) % 10 = b.toNat - 48 by omega, hn, hbe]

theorem decDigits_few {n : Nat} : n < 1000000 ↔ (decDigits n).length ≤ 6 := by
  rw [decDigits_length]
  have h1 := lt_pow_nDigits n
  constructor
  · intro h
    rcases Nat.lt_or_ge (nDigits n) 7 with h7 | h7
    · omega
    · exfalso
      -- at least seven digits: at least a million
      have key : ∀ k u, k + 1 ≤ nDigits u → 10 ^ k ≤ u ∨ k = 0 := by
        intro k
        induction k with
        | zero => intro u _; exact .inr rfl
        | succ k ih =>
          intro u hu
          by_cases hs : u < 10
          · rw [nDigits_small hs] at hu; omega
          · rw [nDigits_big hs] at hu
            rcases ih (u / 10) (by omega) with h | rfl
            · left; rw [Nat.pow_succ]; omega
            · left; simp; omega
      rcases key 6 n h7 with h | h
      · have : (10 : Nat) ^ 6 = 1000000 := by decide
        omega
      · omega
  · intro h
    have : (10 : Nat) ^ nDigits n ≤ 10 ^ 6 := Nat.pow_le_pow_right (by decide) h
    have e : (10 : Nat) ^ 6 = 1000000 := by decide
    omega

/-- The number of at most six digits that a text spells. -/
def NumOf (l : List UInt8) (x : Int) : Prop := ∃ n : Nat, n < 1000000 ∧ decDigits n = l ∧ x = n
theorem NumOf.unique {l : List UInt8} {x y : Int} (h : NumOf l x) (h' : NumOf l y) : x = y := by
  obtain ⟨m, _, h1, rfl⟩ := h
  obtain ⟨n, _, h2, rfl⟩ := h'
  rw [decDigits_inj (h1.trans h2.symm)]
theorem NumOf.range {l : List UInt8} {x : Int} (h : NumOf l x) : 0 ≤ x ∧ x < 1000000 := by
  obtain ⟨n, h1, _, rfl⟩ := h; omega

theorem atoi_digits (n : Nat) : atoi (decDigits n) = some (n : Int) := by
  obtain ⟨b, r, e⟩ := List.exists_cons_of_ne_nil (decDigits_ne n)
  have hb := decDigits_mem n b (by rw [e]; simp)
  have h := decFrom_digits n
  rw [e] at h ⊢
  have h1 : (b == 45) = false := by rw [beq_eq_false_iff_ne]; rintro rfl; simp at hb
  have h2 : (b == 43) = false := by rw [beq_eq_false_iff_ne]; rintro rfl; simp at hb
  unfold atoi
  simp only [h1, h2, Bool.false_eq_true, if_false, decNat, List.isEmpty_cons, h, Option.map_some]

/-! ### Lines -/

/-- A number in a line: a star for what is below zero. -/
def numS (x : Int) : List UInt8 := if x < 0 then [42] else decDigits x.toNat
/-- A line of a word and numbers. -/
def lineS (w : List UInt8) (l : List Int) : List UInt8 := w ++ l.flatMap fun x => 32 :: numS x

theorem numS_nat (n : Nat) : numS (n : Int) = decDigits n := by unfold numS; rw [if_neg (by omega)]; rfl
theorem numS_neg {x : Int} (h : x < 0) : numS x = [42] := by simp [numS, h]
theorem numS_pos {x : Int} (h : 0 ≤ x) : numS x = decDigits x.toNat := by simp [numS, Int.not_lt.2 h]
theorem numS_mem (x : Int) (b : UInt8) (h : b ∈ numS x) : 42 ≤ b.toNat ∧ b.toNat ≤ 57 := by
  unfold numS at h
  split at h
  · rw [List.mem_singleton] at h; subst h; decide
  · have := decDigits_mem _ _ h; omega
theorem numS_inj {x y : Int} (hx : -1 ≤ x) (hy : -1 ≤ y) (h : numS x = numS y) : x = y := by
  have star : ∀ n : Nat, decDigits n ≠ [42] := fun n e => by
    have := decDigits_mem n 42 (by rw [e]; simp)
    simp at this
  unfold numS at h
  split at h <;> split at h
  · omega
  · exact absurd h.symm (star _)
  · exact absurd h (star _)
  · have := decDigits_inj h; omega

theorem lineS_snoc (w : List UInt8) (l : List Int) (x : Int) : lineS w (l ++ [x]) = lineS w l ++ (32 :: numS x) := by simp [lineS]
theorem lineS_words {w : List UInt8} {l : List Int} (hw : (32 : UInt8) ∉ w) : splitB 32 (lineS w l) = w :: l.map numS := by
  have e : lineS w l = w ++ (l.map numS).flatMap fun x => 32 :: x := by simp [lineS, List.flatMap_map]
  rw [e, splitB_words hw]
  intro x hx hc
  obtain ⟨y, _, rfl⟩ := List.mem_map.1 hx
  have := numS_mem y _ hc
  simp at this
theorem lineS_no10 {w : List UInt8} {l : List Int} (hw : (10 : UInt8) ∉ w) : (10 : UInt8) ∉ lineS w l := by
  unfold lineS
  intro h
  rcases List.mem_append.1 h with h | h
  · exact hw h
  · obtain ⟨x, _, h⟩ := List.mem_flatMap.1 h
    rcases List.mem_cons.1 h with h | h
    · cases h
    · have := numS_mem x _ h
      simp at this

theorem numS_len {x : Int} (hx : x < 1000000) : (numS x).length ≤ 6 := by
  unfold numS
  split
  · simp
  · exact decDigits_few.1 (by omega)
theorem lineS_len (w : List UInt8) : ∀ {l : List Int}, (∀ x ∈ l, x < 1000000) → (lineS w l).length ≤ w.length + 7 * l.length
  | [], _ => by simp [lineS]
  | x :: l, h => by
    have h1 := numS_len (h x (by simp))
    have h2 := lineS_len w (l := l) fun y hy => h y (by simp [hy])
    simp only [lineS, List.length_append, List.flatMap_cons, List.length_cons] at h2 ⊢
    omega

/-- Words that are numbers, or stars for -1. -/
def StarsOf (ws : List (List UInt8)) (ns : List Int) : Prop := ns.map numS = ws ∧ ∀ x ∈ ns, -1 ≤ x ∧ x < 1000000
theorem StarsOf.unique {ws : List (List UInt8)} : ∀ {ns ms : List Int}, StarsOf ws ns → StarsOf ws ms → ns = ms := by
  induction ws with
  | nil => intro ns ms h h'; rw [List.map_eq_nil_iff.1 h.1, List.map_eq_nil_iff.1 h'.1]
  | cons w ws ih =>
    intro ns ms h h'
    cases ns with
    | nil => exact absurd h.1 (by simp)
    | cons x ns =>
      cases ms with
      | nil => exact absurd h'.1 (by simp)
      | cons y ms =>
        have e1 := List.cons.inj h.1
        have e2 := List.cons.inj h'.1
        have hxy : x = y := numS_inj (h.2 x (by simp)).1 (h'.2 y (by simp)).1 (e1.1.trans e2.1.symm)
        subst hxy
        rw [ih ⟨e1.2, fun z hz => h.2 z (by simp [hz])⟩ ⟨e2.2, fun z hz => h'.2 z (by simp [hz])⟩]

/-! ### Joining -/

theorem intercalate_cons (sep x : List UInt8) : ∀ (L : List (List UInt8)), sep.intercalate (x :: L) = x ++ L.flatMap fun y => sep ++ y := by
  intro L
  induction L generalizing x with
  | nil => simp [List.intercalate]
  | cons y L ih =>
    have e : sep.intercalate (x :: y :: L) = x ++ (sep ++ sep.intercalate (y :: L)) := by simp [List.intercalate, List.intersperse]
    rw [e, ih y]; simp
theorem intercalate_end (c : UInt8) {L : List (List UInt8)} (h : L ≠ []) : [c].intercalate L ++ [c] = L.flatMap fun x => x ++ [c] := by
  obtain ⟨x, L, rfl⟩ := List.exists_cons_of_ne_nil h
  rw [intercalate_cons]
  clear h
  induction L generalizing x with
  | nil => simp
  | cons y L ih =>
    have := ih y
    simp only [List.flatMap_cons, List.append_assoc] at this ⊢
    rw [← this]

/-- Lines, each ended by a line feed. -/
def linesS (L : List (List UInt8)) : List UInt8 := L.flatMap fun x => x ++ [10]
theorem linesS_split {L : List (List UInt8)} (h : ∀ x ∈ L, (10 : UInt8) ∉ x) : splitB 10 (linesS L) = L ++ [[]] := splitB_lines h
theorem linesS_rest {L : List (List UInt8)} {rest : List UInt8} (h : ∀ x ∈ L, (10 : UInt8) ∉ x) (he : linesS L = rest ++ [10]) : splitB 10 rest = L := by
  have h1 := linesS_split h
  obtain ⟨o, t, e⟩ := splitB_end 10 rest
  have h2 := splitB_snoc (b := 10) e
  rw [if_pos rfl, ← he, h1, ← e] at h2
  exact (List.append_inj' h2 rfl).1.symm
theorem linesS_end {L : List (List UInt8)} (h : L ≠ []) : ∃ rest, linesS L = rest ++ [10] := ⟨_, (intercalate_end 10 h).symm⟩

end Go.GX
end

section
/- Strings in memory: as lists of bytes, lists of strings, and the operations on them. No program is named here. -/
namespace Go.GX
open Go.RowKit

/-- A string of bytes. -/
def mkS (l : List UInt8) : ByteArray := ⟨l.toArray⟩

theorem mkS_of (s : ByteArray) : mkS s.data.toList = s := rfl
theorem mkS_data (l : List UInt8) : (mkS l).data.toList = l := rfl
theorem mkS_size (l : List UInt8) : (mkS l).size = l.length := rfl
theorem mk_lit (l : List UInt8) : ByteArray.mk l.toArray = mkS l := rfl
theorem mkS_app (a b : List UInt8) : mkS a ++ mkS b = mkS (a ++ b) := by
  apply ByteArray.ext
  rw [ByteArray.data_append]
  simp [mkS]
theorem mkS_toList (l : List UInt8) : (mkS l).toList = l := by rw [Go.Lib.toList_data]; rfl
theorem mkS_ext (l : List UInt8) (a b : Nat) : (mkS l).extract a b = mkS ((l.drop a).take (b - a)) := by
  have := Go.Lib.extract_data (mkS l) a b
  rw [mkS_data] at this
  rw [← this, mkS_of]
section
variable {X Y : Prop} {a b : List UInt8}
theorem cond_seq (ht : a = b → X) (hf : a ≠ b → Y) : cond ((mkS a).toList == (mkS b).toList) X Y := by
  rw [mkS_toList, mkS_toList]
  by_cases h : a = b
  · rw [beq_iff_eq.2 h]; exact ht h
  · rw [beq_eq_false_iff_ne.2 h]; exact hf h
theorem cond_sne (ht : a ≠ b → X) (hf : a = b → Y) : cond (!((mkS a).toList == (mkS b).toList)) X Y := by
  rw [mkS_toList, mkS_toList]
  by_cases h : a = b
  · rw [beq_iff_eq.2 h]; exact hf h
  · rw [beq_eq_false_iff_ne.2 h]; exact ht h
end

theorem SIX_of {l : List UInt8} {i : Nat} (hi : i < l.length) {K : Int → Prop} (hk : K (l[i].toNat : Int)) : SIX (mkS l) (i : Int) K :=
  ⟨by omega, l[i], by rw [mkS_data]; simp, hk⟩

theorem LD_str {w : World} {a : Addr} {s : ByteArray} {K : ByteArray → Prop} (hc : w.cell? a = some (.string s)) (hk : K s) : LD [.str] a w K :=
  ⟨[.string s], rfl, fun i v hi => by
    match i, hi with
    | 0, hi => simp at hi; subst hi; rw [add_zero']; exact hc, hk⟩

instance : Rep ByteArray where
  sz := 1
  rep _ _ cs s := cs = [.string s]
  len h := by rw [h]; rfl
  agr _ h := h
  weak _ h := h
instance : RepP ByteArray := ⟨by decide⟩
instance : Flat ByteArray where
  cells s := [.string s]
  ok _ := True
  size _ := rfl
  one _ v hv := by simp at hv; subst hv; rfl
  repOk _ := rfl
  ofRep h := ⟨h, trivial⟩

instance : Rep UInt8 where
  sz := 1
  rep _ _ cs s := cs = [.int .u8 (s.toNat : Int)]
  len h := by rw [h]; rfl
  agr _ h := h
  weak _ h := h
instance : RepP UInt8 := ⟨by decide⟩
instance : Flat UInt8 where
  cells s := [.int .u8 (s.toNat : Int)]
  ok _ := True
  size _ := rfl
  one _ v hv := by simp at hv; subst hv; rfl
  repOk _ := rfl
  ofRep h := ⟨h, trivial⟩

theorem SlR.ixS {D : Nat → Prop} {w : World} {s : Sl} {L : List (List UInt8)} (h : SlR D w s (L.map mkS)) {i : Nat} (hi : i < L.length) {K : Addr → Prop}
    (hk : ∀ p, w.cell? p = some (.string (mkS L[i])) → K p) : IX s i 1 K := by
  have hi' : i < (L.map mkS).length := by simpa using hi
  refine h.ix (n := 1) rfl (by omega) (by omega) fun p cs hr hc => hk p ?_
  have e : cs = [.string ((L.map mkS)[(i : Int).toNat]'(by omega))] := hr
  have h0 := hc 0 (.string (mkS L[i])) (by
    rw [e]
    simp)
  rwa [add_zero'] at h0

section
variable {P : Program} {t : TypeId} {w : World}
theorem RUN_sub (ht : P.underlying t = some .string) {l : List UInt8} {a b : Nat} (h1 : a ≤ b) (h2 : b ≤ l.length) {K : ByteArray → World → Prop} (hk : K (mkS ((l.drop a).take (b - a))) w) :
    RUN P (.at .str) (Instr.sliceAt t (.string (mkS l)) (some (.int .i64 (a : Int))) (some (.int .i64 (b : Int))) none) w K := by
  have h := run_slice_string (P := P) w t (mkS l) .i64 .i64 a b ht (by omega) (by omega) (by rw [mkS_size]; omega)
  unfold RUN
  rw [run_sliceAt_string (h := ht), h, Int.toNat_natCast, Int.toNat_natCast, mkS_ext]
  exact hk
theorem RUN_from (ht : P.underlying t = some .string) {l : List UInt8} {a : Nat} (h1 : a ≤ l.length) {K : ByteArray → World → Prop} (hk : K (mkS (l.drop a)) w) :
    RUN P (.at .str) (Instr.sliceAt t (.string (mkS l)) (some (.int .i64 (a : Int))) none none) w K := by
  have h := run_slice_string_l (P := P) (w := w) t (mkS l) ht .i64 a (by omega) (by rw [mkS_size]; omega)
  unfold RUN
  rw [run_sliceAt_string (h := ht), h, Int.toNat_natCast, mkS_ext, mkS_size, List.take_of_length_le (by simp)]
  exact hk
/-- The bytes of an own row as a string. -/
theorem RUN_bytes {src dst e e' : TypeId} (hs : P.underlying src = some (.slice e)) (he : P.underlying e = some (.int .u8)) (hd : P.underlying dst = some .string) {base : Nat} {s : Sl} {b : UInt8} (h : OwnL w base e' s [b])
    {K : ByteArray → World → Prop} (hk : K (mkS [b]) w) : RUN P (.at .str) (convert src dst s.v) w K := by
  have hr := h.rep fun _ _ => trivial
  obtain ⟨a, cs, h1, _, h3, h4⟩ := hr.2.2 0 b rfl
  have hl : s.len = [b].length := h.1
  obtain rfl : cs = [.int .u8 (b.toNat : Int)] := h3
  have := run_convert_bytes_back (P := P) w src dst e a s.cap [b] hs he hd fun j hj => by
    have hj0 : j = 0 := by simpa using hj
    subst hj0
    exact h4 0 _ rfl
  unfold RUN Sl.v
  rw [h1, hl, this]
  exact hk
end

/-- A value of an interface type held against nil. -/
theorem AEQ_nil {P : Program} {t : TypeId} {ms : Array (String × TypeId)} (hu : P.underlying t = some (.interface ms)) {e : Value} {x : Operand} {K : Bool → Prop} (h : (e = .nilIface ∧ K false) ∨ ((∃ t v, e = .iface t v) ∧ K true)) :
    AEQ P (do eqGuard .neq t x (.const .nilIface) e .nilIface; binOp .neq t e .nilIface) K := by
  rcases h with ⟨rfl, h⟩ | ⟨⟨d, v, rfl⟩, h⟩
  · refine ⟨false, fun w => ?_, h⟩
    have h1 : eqGuard .neq t x (.const .nilIface) .nilIface .nilIface = pure () := by cases x <;> rfl
    have h2 : ∀ d, (Op.equalIn (d + 1) t .nilIface .nilIface).run P w = .ok true w := fun d => by simp [Op.equalIn, underlying_run hu]
    have h3 : (Op.equal t .nilIface .nilIface).run P w = .ok true w := h2 9999
    rw [h1]
    simp [binOp, h3]
  · refine ⟨true, fun w => ?_, h⟩
    have h1 : eqGuard .neq t x (.const .nilIface) (.iface d v) .nilIface = pure () := by cases x <;> rfl
    have h2 : ∀ k, (Op.equalIn (k + 1) t (.iface d v) .nilIface).run P w = .ok false w := fun k => by simp [Op.equalIn, underlying_run hu]
    have h3 : (Op.equal t (.iface d v) .nilIface).run P w = .ok false w := h2 9999
    rw [h1]
    simp [binOp, h3]

theorem cell_pushed (w : World) (cs : List Value) (e : TypeId) {i : Nat} {v : Value} (h : cs[i]? = some v) : (w.alloc (.cells cs.toArray e)).cell? ((⟨w.heap.size, 0, none⟩ : Addr).add i) = some v := by
  have ha : ((⟨w.heap.size, 0, none⟩ : Addr).add i) = ⟨w.heap.size, i, none⟩ := by
    unfold Addr.add
    split
    · rename_i h; simp_all
    · simp
  rw [ha]
  have hb : (w.alloc (.cells cs.toArray e)).heap[w.heap.size]? = some (.cells cs.toArray e (0, 0)) := by
    show (w.heap.push _)[w.heap.size]? = _
    exact Array.getElem?_push_size
  simp only [World.cell?, hb]
  simpa using h

end Go.GX
end

section
/- The numbers of functions and types of this seat by their names, and of which kind a type's values are. Printed by a program. -/
namespace Go.Proofs.YtnhidomgpbohiaaGreatDoor
open Go.GX Go.RowKit

abbrev F.l_FnExactParseRooted : FuncId := 5
abbrev F.l_eqIntS : FuncId := 12
abbrev F.l_markIntS : FuncId := 15
abbrev F.l_heldIntS : FuncId := 16
abbrev F.s_ParseRooted : FuncId := 22
abbrev F.i_ParseRooted : FuncId := 23
abbrev F.l_eqRootedProblem : FuncId := 24
abbrev F.l_markRootedProblem : FuncId := 25
abbrev F.l_heldRootedProblem : FuncId := 26
abbrev F.l_eqIntSS : FuncId := 52
abbrev F.l_markIntSS : FuncId := 53
abbrev F.i_wordsLine : FuncId := 61
abbrev F.s_l1Split : FuncId := 64
abbrev F.s_maNumbers : FuncId := 65
abbrev F.s_roGood : FuncId := 66
abbrev F.s_roText : FuncId := 67
abbrev F.i_endedLines : FuncId := 68
abbrev F.strings_Split : FuncId := 69
abbrev F.i_starNumbers : FuncId := 70
abbrev F.i_IsRootedProblem : FuncId := 71
abbrev F.i_rootedText : FuncId := 72
abbrev F.l_heldIntSS : FuncId := 73
abbrev F.s_l1In : FuncId := 80
abbrev F.s_l1Own : FuncId := 93
abbrev F.i_within : FuncId := 94
abbrev F.slices_Compare_sl_int_int : FuncId := 96
abbrev F.slices_IndexFunc_sl_int_int : FuncId := 99
abbrev F.strings_Join : FuncId := 122
abbrev F.strconv_Itoa : FuncId := 123
abbrev F.s_l1Read : FuncId := 125
abbrev F.s_l1All : FuncId := 126
abbrev F.s_l1Same : FuncId := 127
abbrev F.s_prSorted : FuncId := 128
abbrev F.s_prOrder : FuncId := 129
abbrev F.s_maLine : FuncId := 130
abbrev F.strings_CutSuffix : FuncId := 131
abbrev F.i_readNumber : FuncId := 133
abbrev F.i_RootedProblem_hasLabels : FuncId := 134
abbrev F.slices_IsSorted_sl_int_int : FuncId := 135
abbrev F.i_allWithin : FuncId := 143
abbrev F.cmp_Compare_int : FuncId := 144
abbrev F.s_l1Num : FuncId := 160
abbrev F.s_l1Sign : FuncId := 166
abbrev F.strconv_Atoi : FuncId := 171
abbrev F.cmp_Less_int : FuncId := 172
abbrev F.slices_ContainsFunc_sl_int_int : FuncId := 179
abbrev F.i_allWithin_1 : FuncId := 180
abbrev F.cmp_isNaN_int : FuncId := 181
abbrev T.t_int : TypeId := 3
abbrev T.t_bool : TypeId := 4
abbrev T.t_uint8 : TypeId := 5
abbrev T.t_string : TypeId := 9
abbrev T.t_sl_sl_int : TypeId := 22
abbrev T.t_sl_int : TypeId := 25
abbrev T.t_i_RootedProblem : TypeId := 50
abbrev T.t_sl_uint8 : TypeId := 81
abbrev T.t_error : TypeId := 87
abbrev T.t_sl_string : TypeId := 94
abbrev T.t_sl_bool : TypeId := 153
abbrev T.t_s_waPart : TypeId := 179
def hints0 : List (List Sh) := [
  [],
  [.at .val],
  [.at (.int .i64)],
  [.at (.int .i64)],
  [.at .bool],
  [.at (.int .u8)],
  [.at (.int .u8)],
  [.agg [.int .i64, .int .i64, .bool, .int .u8]],
  [.agg [.int .i64, .int .i64, .bool, .int .u8]],
  [.at .str],
  [.at .str],
  [.at .str],
  [.at (.int .u64)],
  [.agg [.str, .int .u64]],
  [.agg [.str, .int .u64]],
  [.at .ptr]]
def hints1 : List (List Sh) := [
  [.at .ptr],
  [.at .ptr],
  [.agg [.ptr]],
  [.agg [.ptr]],
  [.at .val],
  [.at (.int .i32)],
  [.at .sl],
  [.agg [.int .i64, .sl]],
  [.agg [.int .i64, .sl]],
  [.at .sl],
  [.at .val],
  [.at .sl, .at .bool],
  [.at .val],
  [.agg [.int .i64, .sl]],
  [.at .val],
  [.at .val]]
def hints2 : List (List Sh) := [
  [.at .val],
  [.at .val],
  [.at .val],
  [.at .val],
  [.at .val],
  [.at .sl],
  [.agg [.sl, .sl, .sl]],
  [.agg [.sl, .sl, .sl]],
  [.at .val],
  [.at .str, .at .bool],
  [.at .val],
  [.at .sl],
  [.agg [.sl, .sl, .sl]],
  [.agg [.sl, .sl, .sl]],
  [.at .val],
  [.at .val]]
def hints3 : List (List Sh) := [
  [.at .val],
  [.agg [.int .i64, .int .i64, .sl]],
  [.agg [.int .i64, .int .i64, .sl]],
  [.agg [.int .i64, .int .i64, .sl], .at .bool],
  [.at .val],
  [.at .val],
  [.at .val],
  [.at .val],
  [.agg [.sl, .sl, .sl], .at .bool],
  [.at .val],
  [.at .val],
  [.at .val],
  [.at .val],
  [.at .val],
  [.at (.int .i64), .at .bool],
  [.at .val]]
def hints4 : List (List Sh) := [
  [.at (.int .i64), .at (.int .i64), .at .bool],
  [.at .val],
  [.at .val],
  [.at .val],
  [.at .val],
  [.at .val],
  [.at .val],
  [.at .val],
  [.at .val],
  [.at .val],
  [.at .val],
  [.at .val],
  [.at .val],
  [.at .val],
  [.at .val],
  [.at .val]]
def hints5 : List (List Sh) := [
  [.at .ptr],
  [.at .sl],
  [.agg [.ptr, .sl]],
  [.agg [.ptr, .sl]],
  [.agg [.int .i64, .int .i64, .sl, .sl]],
  [.agg [.int .i64, .int .i64, .sl, .sl]],
  [.at .val],
  [.at .val],
  [.at (.int .i64), .at .val],
  [.at .val],
  [.at .val],
  [.at .val],
  [.at .val],
  [.at .val],
  [.at .sl],
  [.at .val]]
def hints6 : List (List Sh) := [
  [.at .val],
  [.at .val],
  [.at .val],
  [.at .sl, .at .bool],
  [.at .val],
  [.at .val],
  [.agg [.int .i64, .int .i64, .sl, .sl], .at .bool],
  [.at .val],
  [.at .val],
  [.at .val],
  [.at .ptr],
  [.at .val],
  [.at .val],
  [.at .val],
  [.at .val],
  [.at .val]]
def hints7 : List (List Sh) := [
  [.at .val],
  [.at .val],
  [.at (.int .u64)],
  [.at .val],
  [.at .val],
  [.at .val],
  [.at .sl, .at (.int .i64)],
  [.at .val],
  [.at .val],
  [.at .val],
  [.at .val],
  [.at .val],
  [.at .val],
  [.at (.int .u64), .at (.int .u64)],
  [.at .val],
  [.at .val]]
def hints8 : List (List Sh) := [
  [.at .val],
  [.at .val],
  [.at .sl, .at .sl],
  [.at .val],
  [.at .val],
  [.at .val],
  [.agg [.int .i64, .int .i64, .sl, .sl]],
  [.at .val],
  [.at .val],
  [.at .val],
  [.at .bool, .at .bool],
  [.at .val],
  [.at .val],
  [.at .val],
  [.at .ptr],
  [.at .val]]
def hints9 : List (List Sh) := [
  [.at .val],
  [.at .val],
  [.at .val],
  [.at .val],
  [.at .val],
  [.at .val],
  [.at .ptr],
  [.at .val],
  [.at .val],
  [.at .sl],
  [.at .sl],
  [.at .val],
  [.at .sl],
  [.at .val],
  [.at (.int .u32)],
  [.at (.int .u32), .at (.int .u32)]]
def hints10 : List (List Sh) := [
  [.at .val],
  [.at (.int .u64)],
  [.at (.int .u64), .at (.int .u64)],
  [.at .val],
  [.at .val],
  [.at .val],
  [.at .val],
  [.at .val],
  [.at .val],
  [.at .ptr],
  [.at .val],
  [.at .val],
  [.at .val],
  [.at .val],
  [.at .val],
  [.at .val]]
def hints11 : List (List Sh) := [
  [.at .sl],
  [.at .val],
  [.agg [.sl, .int .i64, .sl]],
  [.agg [.sl, .int .i64, .sl]],
  [.at .val],
  [.at .val],
  [.at .val],
  [.at .val],
  [.at (.int .i64)],
  [.at (.int .i64), .at (.int .i64)],
  [.at .val],
  [.at .val],
  [.at .val],
  [.at .val],
  [.at .val],
  [.at .val]]
def hints12 : List (List Sh) := [
  [.agg [.int .i64, .int .i64, .sl, .sl], .at .sl, .at .sl, .at .bool],
  [.at .val],
  [.at .val],
  [.at .val],
  [.at .val],
  [.at (.int .i32), .at (.int .i64)],
  [.at .val],
  [.at .val],
  [.at .val],
  [.at .val],
  [.at (.int .u64)],
  [.at .val],
  [.at .val],
  [.at .val],
  [.at .ptr],
  [.at .val]]
def hints13 : List (List Sh) := [
  [.agg [.int .u8, .int .u8, .int .u8, .int .u8, .int .u8, .int .u8, .int .u8, .int .u8, .int .u8, .int .u8, .int .u8, .int .u8, .int .u8, .int .u8, .int .u8, .int .u8, .int .u8, .int .u8, .int .u8, .int .u8, .int .u8, .int .u8, .int .u8, .int .u8, .int .u8, .int .u8, .int .u8, .int .u8, .int .u8, .int .u8, .int .u8, .int .u8, .int .u8, .int .u8, .int .u8, .int .u8, .int .u8, .int .u8, .int .u8, .int .u8, .int .u8, .int .u8, .int .u8, .int .u8, .int .u8, .int .u8, .int .u8, .int .u8, .int .u8, .int .u8, .int .u8, .int .u8, .int .u8, .int .u8, .int .u8, .int .u8, .int .u8, .int .u8, .int .u8, .int .u8, .int .u8, .int .u8, .int .u8, .int .u8]],
  [.at .val],
  [.agg [.int .i64, .int .i64, .sl, .sl], .at .sl, .at .bool],
  [.at .val],
  [.at .val],
  [.at .val],
  [.at .val],
  [.at .val],
  [.agg [.int .u8, .int .u8, .int .u8, .int .u8, .int .u8, .int .u8, .int .u8, .int .u8, .int .u8, .int .u8, .int .u8, .int .u8, .int .u8, .int .u8, .int .u8, .int .u8, .int .u8, .int .u8, .int .u8, .int .u8, .int .u8, .int .u8, .int .u8, .int .u8]],
  [.at .val],
  [.at .sl, .at .str],
  [.at .val],
  [.at (.int .i64)],
  [.at (.int .i64), .at .val],
  [.at .val],
  [.at .ptr]]
def hints14 : List (List Sh) := [
  [.at .val],
  [.at .val],
  [.at .ptr],
  [.at (.int .i64), .at (.int .i64)],
  [.at .val],
  [.at .val],
  [.agg [.int .i64, .int .i64, .sl, .sl, .sl]],
  [.agg [.int .i64, .int .i64, .sl, .sl, .sl]],
  [.at .val],
  [.at .val],
  [.at .val],
  [.at .val],
  [.at .val],
  [.at .sl, .at .sl],
  [.at .val],
  [.at .val]]
def hints15 : List (List Sh) := [
  [.at .val],
  [.at .val],
  [.at .ptr],
  [.at .val],
  [.at .val],
  [.at .val],
  [.at .val],
  [.at .val],
  [.agg [.int .u64, .int .u64, .int .u64, .int .u64, .int .u64, .int .u64, .int .u64, .int .u64, .int .u64, .int .u64, .int .u64, .int .u64, .int .u64, .int .u64, .int .u64, .int .u64, .int .u64, .int .u64, .int .u64, .int .u64]],
  [.agg [.int .u8, .int .u8, .int .u8, .int .u8, .int .u8, .int .u8, .int .u8, .int .u8, .int .u8, .int .u8, .int .u8, .int .u8, .int .u8, .int .u8, .int .u8, .int .u8, .int .u8, .int .u8, .int .u8, .int .u8, .int .u8, .int .u8, .int .u8, .int .u8, .int .u8, .int .u8, .int .u8, .int .u8, .int .u8, .int .u8, .int .u8, .int .u8, .int .u8, .int .u8, .int .u8, .int .u8, .int .u8, .int .u8, .int .u8, .int .u8, .int .u8, .int .u8, .int .u8, .int .u8, .int .u8, .int .u8, .int .u8, .int .u8, .int .u8, .int .u8, .int .u8, .int .u8, .int .u8, .int .u8, .int .u8, .int .u8, .int .u8, .int .u8, .int .u8, .int .u8, .int .u8, .int .u8, .int .u8, .int .u8, .int .u8]],
  [.agg [.int .u8, .int .u8, .int .u8, .int .u8, .int .u8, .int .u8, .int .u8, .int .u8, .int .u8, .int .u8, .int .u8, .int .u8, .int .u8, .int .u8, .int .u8, .int .u8, .int .u8, .int .u8, .int .u8, .int .u8, .int .u8, .int .u8, .int .u8, .int .u8, .int .u8, .int .u8, .int .u8, .int .u8, .int .u8, .int .u8, .int .u8, .int .u8, .int .u8, .int .u8, .int .u8, .int .u8, .int .u8, .int .u8, .int .u8, .int .u8, .int .u8, .int .u8, .int .u8, .int .u8, .int .u8, .int .u8, .int .u8, .int .u8, .int .u8, .int .u8, .int .u8, .int .u8, .int .u8, .int .u8, .int .u8, .int .u8, .int .u8, .int .u8, .int .u8, .int .u8, .int .u8, .int .u8, .int .u8, .int .u8, .int .u8, .int .u8, .int .u8, .int .u8, .int .u8, .int .u8, .int .u8, .int .u8, .int .u8, .int .u8, .int .u8, .int .u8, .int .u8, .int .u8, .int .u8, .int .u8, .int .u8, .int .u8, .int .u8, .int .u8, .int .u8, .int .u8, .int .u8, .int .u8, .int .u8, .int .u8, .int .u8, .int .u8, .int .u8, .int .u8, .int .u8, .int .u8, .int .u8, .int .u8, .int .u8, .int .u8, .int .u8, .int .u8, .int .u8, .int .u8, .int .u8, .int .u8, .int .u8, .int .u8, .int .u8, .int .u8, .int .u8, .int .u8, .int .u8, .int .u8, .int .u8, .int .u8, .int .u8, .int .u8, .int .u8, .int .u8, .int .u8, .int .u8, .int .u8, .int .u8, .int .u8, .int .u8, .int .u8, .int .u8, .int .u8, .int .u8, .int .u8, .int .u8, .int .u8, .int .u8, .int .u8, .int .u8, .int .u8, .int .u8, .int .u8, .int .u8, .int .u8, .int .u8, .int .u8, .int .u8, .int .u8, .int .u8, .int .u8, .int .u8, .int .u8, .int .u8, .int .u8, .int .u8, .int .u8, .int .u8, .int .u8, .int .u8, .int .u8, .int .u8, .int .u8, .int .u8, .int .u8, .int .u8, .int .u8, .int .u8, .int .u8, .int .u8, .int .u8, .int .u8, .int .u8, .int .u8, .int .u8, .int .u8, .int .u8, .int .u8, .int .u8, .int .u8, .int .u8, .int .u8, .int .u8, .int .u8, .int .u8, .int .u8, .int .u8, .int .u8, .int .u8, .int .u8, .int .u8, .int .u8, .int .u8, .int .u8, .int .u8, .int .u8, .int .u8, .int .u8, .int .u8, .int .u8, .int .u8, .int .u8, .int .u8, .int .u8, .int .u8, .int .u8, .int .u8, .int .u8, .int .u8, .int .u8, .int .u8, .int .u8, .int .u8, .int .u8, .int .u8, .int .u8, .int .u8, .int .u8, .int .u8, .int .u8, .int .u8, .int .u8, .int .u8, .int .u8, .int .u8, .int .u8, .int .u8, .int .u8, .int .u8, .int .u8, .int .u8, .int .u8, .int .u8, .int .u8, .int .u8, .int .u8, .int .u8, .int .u8, .int .u8, .int .u8, .int .u8, .int .u8, .int .u8, .int .u8, .int .u8, .int .u8, .int .u8, .int .u8, .int .u8, .int .u8, .int .u8, .int .u8, .int .u8, .int .u8, .int .u8, .int .u8, .int .u8, .int .u8, .int .u8, .int .u8]],
  [.agg [.int .u8, .int .u8]],
  [.agg [.int .u8, .int .u8]],
  [.agg [.int .u8, .int .u8, .int .u8, .int .u8, .int .u8, .int .u8, .int .u8, .int .u8, .int .u8, .int .u8, .int .u8, .int .u8, .int .u8, .int .u8, .int .u8, .int .u8, .int .u8, .int .u8, .int .u8, .int .u8, .int .u8, .int .u8, .int .u8, .int .u8, .int .u8, .int .u8, .int .u8, .int .u8, .int .u8, .int .u8, .int .u8, .int .u8]],
  [.at .val],
  [.at (.int .u64), .at .val]]
def hints16 : List (List Sh) := [
  [.at .val],
  [.at .val],
  [.agg [.str, .str, .val]],
  [.agg [.str, .str, .val]],
  [.at .val],
  [.at .val],
  [.at .val],
  [.at .val],
  [.at .val],
  [.at .val],
  [.at .val],
  [.at .val],
  [.agg [.int .i64, .int .i64, .sl, .sl, .sl]],
  [.agg [.int .i64, .int .i64, .sl, .sl, .sl]],
  [.at .val],
  [.at .val]]
def hints17 : List (List Sh) := [
  [.at .val],
  [.at .val],
  [.at .val],
  [.at .val],
  [.at .ptr],
  [.agg [.str]],
  [.agg [.str]],
  [.at .val],
  [.at .val],
  [.at .val],
  [.at .val],
  [.at .val],
  [.at .val],
  [.agg [.int .u8, .int .u8, .int .u8, .int .u8, .int .u8, .int .u8, .int .u8, .int .u8, .int .u8, .int .u8, .int .u8, .int .u8, .int .u8, .int .u8, .int .u8, .int .u8, .int .u8, .int .u8, .int .u8, .int .u8, .int .u8, .int .u8, .int .u8, .int .u8, .int .u8, .int .u8, .int .u8, .int .u8, .int .u8, .int .u8, .int .u8, .int .u8]],
  [.at .val],
  [.at .val]]
def hints18 : List (List Sh) := [
  [.at .val],
  [.at .val],
  [.at .val],
  [.at .val],
  [.at .val],
  [.at .val],
  [.at .val],
  [.at .val],
  [.agg [.ptr, .ptr, .ptr, .str]],
  [.agg [.ptr, .ptr, .ptr, .str]],
  [.agg []],
  [.agg []],
  [.agg []],
  [.at (.int .u8)],
  [.at (.int .u8)],
  [.at .val]]
def hints19 : List (List Sh) := [
  [.at (.int .i32)],
  [.at (.int .i32)],
  [.agg [.int .u64, .int .u64, .int .u32, .int .u8, .int .u8, .int .u8, .int .u8, .val, .ptr, .int .i32, .int .i32]],
  [.agg [.int .u64, .int .u64, .int .u32, .int .u8, .int .u8, .int .u8, .int .u8, .val, .ptr, .int .i32, .int .i32]]]
def hint : Hint := hintOf [hints0, hints1, hints2, hints3, hints4, hints5, hints6, hints7, hints8, hints9, hints10, hints11, hints12, hints13, hints14, hints15, hints16, hints17, hints18, hints19]
end Go.Proofs.YtnhidomgpbohiaaGreatDoor
end

section
/- What each function's code computes to. Printed by a program. -/
namespace Go.Proofs.YtnhidomgpbohiaaGreatDoor
open Go.GX Go.RowKit
set_option linter.unusedVariables false
set_option maxRecDepth 100000

def V_l_FnExactParseRooted_k2 (x0 : ByteArray) (Q : Bool → World → Prop) (x16_1 : Bool) (px3 : Addr) (px5 : Addr) (w8 : World) : Prop :=
  LD [.int .i64, .int .i64, .sl] px5 w8 fun (x33_0 : Int) (x33_1 : Int) (x33_2 : Sl) =>
  Calls Tryz.prog F.l_markRootedProblem #[.agg #[.int .i64 x33_0, .int .i64 x33_1, x33_2.v], .int .i64 1] w8 (Ret [.at (.int .i64)] fun (x35 : Int) w9 =>
  LD [.int .i64, .int .i64, .sl] px5 w9 fun (x36_0 : Int) (x36_1 : Int) (x36_2 : Sl) =>
  Calls Tryz.prog F.l_heldRootedProblem #[.agg #[.int .i64 x36_0, .int .i64 x36_1, x36_2.v], .int .i64 1] w9 (Ret [.at (.int .i64)] fun (x38 : Int) w10 =>
  cond (decide ((x38 : Int) < 0)) (
  Q false w10) (
  cond ((x38 : Int) != x35) (
  Q false w10) (
  Calls Tryz.prog F.i_ParseRooted #[.string x0] w10 (Ret [.agg [.int .i64, .int .i64, .sl], .at .bool] fun (x46_0_0 : Int) (x46_0_1 : Int) (x46_0_2 : Sl) (x46_1 : Bool) w11 =>
  NEW T.t_i_RootedProblem #[.int .i64 0, .int .i64 0, .slice none 0 0] w11 fun (px9 : Addr) w12 =>
  ST px9 0 [.int .i64 x46_0_0, .int .i64 x46_0_1, x46_0_2.v] w12 fun w13 =>
  LD [.int .i64, .int .i64, .sl] px9 w13 fun (x49_0 : Int) (x49_1 : Int) (x49_2 : Sl) =>
  LD [.int .i64, .int .i64, .sl] px3 w13 fun (x50_0 : Int) (x50_1 : Int) (x50_2 : Sl) =>
  Calls Tryz.prog F.l_eqRootedProblem #[.agg #[.int .i64 x49_0, .int .i64 x49_1, x49_2.v], .agg #[.int .i64 x50_0, .int .i64 x50_1, x50_2.v]] w13 (Ret [.at .bool] fun (x51 : Bool) w14 =>
  cond (!x51) (
  Q false w14) (
  cond (!(x46_1 == x16_1)) (
  Q false w14) (
  LD [.int .i64, .int .i64, .sl] px5 w14 fun (x58_0_2 : Int) (x58_1_2 : Int) (x58_2_2 : Sl) =>
  Calls Tryz.prog F.l_heldRootedProblem #[.agg #[.int .i64 x58_0_2, .int .i64 x58_1_2, x58_2_2.v], .int .i64 1] w14 (Ret [.at (.int .i64)] fun (x60_2 : Int) w16 =>
  cond (decide ((x60_2 : Int) < 0)) (
  Q false w16) (
  cond ((x60_2 : Int) != x35) (
  Q false w16) (
  Q true w16)))))))))))

def V_l_FnExactParseRooted (Q : Bool → World → Prop) (x0 : ByteArray) (w : World) : Prop :=
  cond (decide ((x0.size : Int) > 1048576)) (
  Q true w) (
  Calls Tryz.prog F.s_ParseRooted #[.string x0] w (Ret [.agg [.int .i64, .int .i64, .sl], .at .bool] fun (x16_0_0 : Int) (x16_0_1 : Int) (x16_0_2 : Sl) (x16_1 : Bool) w1 =>
  NEW T.t_i_RootedProblem #[.int .i64 0, .int .i64 0, .slice none 0 0] w1 fun (px3 : Addr) w2 =>
  ST px3 0 [.int .i64 x16_0_0, .int .i64 x16_0_1, x16_0_2.v] w2 fun w3 =>
  Calls Tryz.prog F.i_ParseRooted #[.string x0] w3 (Ret [.agg [.int .i64, .int .i64, .sl], .at .bool] fun (x21_0_0 : Int) (x21_0_1 : Int) (x21_0_2 : Sl) (x21_1 : Bool) w4 =>
  NEW T.t_i_RootedProblem #[.int .i64 0, .int .i64 0, .slice none 0 0] w4 fun (px5 : Addr) w5 =>
  ST px5 0 [.int .i64 x21_0_0, .int .i64 x21_0_1, x21_0_2.v] w5 fun w6 =>
  LD [.int .i64, .int .i64, .sl] px5 w6 fun (x24_0 : Int) (x24_1 : Int) (x24_2 : Sl) =>
  LD [.int .i64, .int .i64, .sl] px3 w6 fun (x25_0 : Int) (x25_1 : Int) (x25_2 : Sl) =>
  Calls Tryz.prog F.l_eqRootedProblem #[.agg #[.int .i64 x24_0, .int .i64 x24_1, x24_2.v], .agg #[.int .i64 x25_0, .int .i64 x25_1, x25_2.v]] w6 (Ret [.at .bool] fun (x26 : Bool) w7 =>
  cond (!x26) (
  Q false w7) (
  cond (!(x21_1 == x16_1)) (
  Q false w7) (
  V_l_FnExactParseRooted_k2 x0 Q x16_1 px3 px5 w7))))))

theorem C_l_FnExactParseRooted {Q : Bool → World → Prop} {x0 : ByteArray} {w : World} (h : V_l_FnExactParseRooted Q x0 w) : Calls Tryz.prog F.l_FnExactParseRooted #[.string x0] w (Ret [.at .bool] Q) :=
  mkC (hint := hint) (ann := annOf []) (args := [.string x0]) (rs := [.at .bool]) Tryz.func5 (by kernel_rfl) (by kernel_rfl) h

def V_l_eqIntS (Q : Bool → World → Prop) (a : Sl) (b : Sl) (w : World) : Prop :=
  cond ((a.len : Int) != b.len) (
  Q false w) (
  ∃ (I4 : Int → World → Prop) (m4 : Int → World → Nat), I4 0 w ∧ ∀ (i : Int) w1, I4 i w1 → ∀ _ _ _ _ _ _ _ _ _ _ _ _ _ _ _ _ : Value,
  cond (decide ((i : Int) < a.len)) (
  IX a i 1 fun (px19 : Addr) =>
  LD [.int .i64] px19 w1 fun (x20 : Int) =>
  IX b i 1 fun (px23 : Addr) =>
  LD [.int .i64] px23 w1 fun (x24 : Int) =>
  ∀ w2, Ext w1 w2 →
  cond ((x20 : Int) != x24) (
  Q false w2) (
  I4 (IntKind.i64.wrap (i + 1)) w2 ∧ m4 (IntKind.i64.wrap (i + 1)) w2 < m4 i w1)) (
  Q true w1))

theorem C_l_eqIntS {Q : Bool → World → Prop} {a : Sl} {b : Sl} {w : World} (h : V_l_eqIntS Q a b w) : Calls Tryz.prog F.l_eqIntS #[a.v, b.v] w (Ret [.at .bool] Q) :=
  mkC (hint := hint) (ann := annOf [(4, ⟨[(5, .int .i64)], [4, 11, 12, 13, 14, 15, 16, 17, 18, 19, 20, 21, 22, 23, 24, 25]⟩)]) (args := [a.v, b.v]) (rs := [.at .bool]) Tryz.func12 (by kernel_rfl) (by kernel_rfl) h

def V_l_markIntS (Q : Int → World → Prop) (a : Sl) (k : Int) (w : World) : Prop :=
  ∃ (I2 : Int → Int → World → Prop) (m2 : Int → Int → World → Nat), I2 k 0 w ∧ ∀ (k_2 : Int) (i : Int) w1, I2 k_2 i w1 → ∀ _ _ _ _ _ _ _ _ _ _ _ _ : Value,
  cond (decide ((i : Int) < a.len)) (
  IX a i 1 fun (px15 : Addr) =>
  ST px15 0 [.int .i64 k_2] w1 fun w2 =>
  I2 (IntKind.i64.wrap (k_2 + 1)) (IntKind.i64.wrap (i + 1)) w2 ∧ m2 (IntKind.i64.wrap (k_2 + 1)) (IntKind.i64.wrap (i + 1)) w2 < m2 k_2 i w1) (
  Q k_2 w1)

theorem C_l_markIntS {Q : Int → World → Prop} {a : Sl} {k : Int} {w : World} (h : V_l_markIntS Q a k w) : Calls Tryz.prog F.l_markIntS #[a.v, .int .i64 k] w (Ret [.at (.int .i64)] Q) :=
  mkC (hint := hint) (ann := annOf [(2, ⟨[(1, .int .i64), (5, .int .i64)], [6, 7, 8, 9, 10, 11, 12, 13, 14, 15, 16, 17]⟩)]) (args := [a.v, .int .i64 k]) (rs := [.at (.int .i64)]) Tryz.func15 (by kernel_rfl) (by kernel_rfl) h

def V_l_heldIntS (Q : Int → World → Prop) (a : Sl) (k : Int) (w : World) : Prop :=
  ∃ (I2 : Int → Int → World → Prop) (m2 : Int → Int → World → Nat), I2 k 0 w ∧ ∀ (k_2 : Int) (i : Int) w1, I2 k_2 i w1 → ∀ _ _ _ _ _ _ _ _ _ _ _ _ _ _ _ : Value,
  cond (decide ((i : Int) < a.len)) (
  IX a i 1 fun (px14 : Addr) =>
  LD [.int .i64] px14 w1 fun (x15 : Int) =>
  cond ((x15 : Int) != k_2) (
  Q (-1) w1) (
  I2 (IntKind.i64.wrap (k_2 + 1)) (IntKind.i64.wrap (i + 1)) w1 ∧ m2 (IntKind.i64.wrap (k_2 + 1)) (IntKind.i64.wrap (i + 1)) w1 < m2 k_2 i w1)) (
  Q k_2 w1)

theorem C_l_heldIntS {Q : Int → World → Prop} {a : Sl} {k : Int} {w : World} (h : V_l_heldIntS Q a k w) : Calls Tryz.prog F.l_heldIntS #[a.v, .int .i64 k] w (Ret [.at (.int .i64)] Q) :=
  mkC (hint := hint) (ann := annOf [(2, ⟨[(1, .int .i64), (5, .int .i64)], [4, 6, 7, 8, 9, 10, 11, 12, 13, 14, 15, 16, 17, 18, 19]⟩)]) (args := [a.v, .int .i64 k]) (rs := [.at (.int .i64)]) Tryz.func16 (by kernel_rfl) (by kernel_rfl) h

def V_s_ParseRooted_k3 (I4 : Int → World → Prop) (m4 : Int → World → Nat) (x19 : Int) (w4 : World) (w15 : World) : Prop :=
  I4 (IntKind.i64.wrap (x19 + 1)) w15 ∧ m4 (IntKind.i64.wrap (x19 + 1)) w15 < m4 x19 w4

def V_s_ParseRooted_k4 (I4 : Int → World → Prop) (m4 : Int → World → Nat) (x19 : Int) (w4 : World) (Q : Int → Int → Sl → Bool → World → Prop) (px2 : Addr) (px5 : Addr) (x25 : Sl) (x29_0 : Sl) (x29_1 : Bool) (x33 : Bool) (w7 : World) : Prop :=
  cond x33 (
  IX x29_0 0 1 fun (px51 : Addr) =>
  LD [.int .i64] px51 w7 fun (x52 : Int) =>
  ST (px5.add 0) 0 [.int .i64 x52] w7 fun w8 =>
  IX x29_0 1 1 fun (px55 : Addr) =>
  LD [.int .i64] px55 w8 fun (x56 : Int) =>
  ST (px5.add 1) 0 [.int .i64 x56] w8 fun w9 =>
  V_s_ParseRooted_k3 I4 m4 x19 w4 w9) (
  cond x29_1 (
  IX x25 0 1 fun (px62 : Addr) =>
  LD [.str] px62 w7 fun (x63 : ByteArray) =>
  cond (x63.toList == (ByteArray.mk #[108, 105, 110, 101]).toList) (
  LD [.sl] (px5.add 2) w7 fun (x67 : Sl) =>
  RUN Tryz.prog (.at .sl) (Instr.buildSlice T.t_sl_sl_int 1 #[(0, x29_0.v)]) w7 fun (x69 : Sl) w10 =>
  RUN Tryz.prog (.at .sl) (bsem .append #[T.t_sl_sl_int, T.t_sl_sl_int] T.t_sl_sl_int #[x67.v, x69.v]) w10 fun (x70 : Sl) w11 =>
  ST (px5.add 2) 0 [x70.v] w11 fun w12 =>
  V_s_ParseRooted_k3 I4 m4 x19 w4 w12) (
  ST px2 0 [.int .i64 0, .int .i64 0, .slice none 0 0] w7 fun w13 =>
  LD [.int .i64, .int .i64, .sl] px2 w13 fun (r0_0 : Int) (r0_1 : Int) (r0_2 : Sl) =>
  Q r0_0 r0_1 r0_2 false w13)) (
  ST px2 0 [.int .i64 0, .int .i64 0, .slice none 0 0] w7 fun w14 =>
  LD [.int .i64, .int .i64, .sl] px2 w14 fun (r0_0_2 : Int) (r0_1_2 : Int) (r0_2_2 : Sl) =>
  Q r0_0_2 r0_1_2 r0_2_2 false w14))

def V_s_ParseRooted (Q : Int → Int → Sl → Bool → World → Prop) (x0 : ByteArray) (w : World) : Prop :=
  NEW T.t_i_RootedProblem #[.int .i64 0, .int .i64 0, .slice none 0 0] w fun (px2 : Addr) w1 =>
  Calls Tryz.prog F.s_l1Split #[.string x0, .int .u8 10] w1 (Ret [.at .sl] fun (x12 : Sl) w2 =>
  NEW T.t_i_RootedProblem #[.int .i64 0, .int .i64 0, .slice none 0 0] w2 fun (px5 : Addr) w3 =>
  SLC x12 none (some (IntKind.i64.wrap (x12.len - 1))) 1 fun (x17 : Sl) =>
  ∃ (I4 : Int → World → Prop) (m4 : Int → World → Nat), I4 0 w3 ∧ ∀ (x19 : Int) w4, I4 x19 w4 → ∀ _ _ _ _ _ _ _ _ _ _ _ _ _ _ _ _ _ _ _ _ _ _ _ _ _ _ _ _ _ _ _ _ _ _ _ _ _ _ _ _ _ _ _ _ _ _ _ _ _ _ _ _ _ _ _ _ _ _ _ : Value,
  cond (decide ((x19 : Int) < x17.len)) (
  IX x17 x19 1 fun (px22 : Addr) =>
  LD [.str] px22 w4 fun (x23 : ByteArray) =>
  Calls Tryz.prog F.s_l1Split #[.string x23, .int .u8 32] w4 (Ret [.at .sl] fun (x25 : Sl) w5 =>
  SLC x25 (some 1) none 1 fun (x28 : Sl) =>
  Calls Tryz.prog F.s_maNumbers #[x28.v] w5 (Ret [.at .sl, .at .bool] fun (x29_0 : Sl) (x29_1 : Bool) w6 =>
  cond x29_1 (
  cond ((x19 : Int) == 0) (
  IX x25 0 1 fun (px41 : Addr) =>
  LD [.str] px41 w6 fun (x42 : ByteArray) =>
  cond (x42.toList == (ByteArray.mk #[114, 111, 111, 116, 101, 100]).toList) (
  V_s_ParseRooted_k4 I4 m4 x19 w4 Q px2 px5 x25 x29_0 x29_1 ((x29_0.len : Int) == 2) w6) (
  V_s_ParseRooted_k4 I4 m4 x19 w4 Q px2 px5 x25 x29_0 x29_1 false w6)) (
  V_s_ParseRooted_k4 I4 m4 x19 w4 Q px2 px5 x25 x29_0 x29_1 false w6)) (
  V_s_ParseRooted_k4 I4 m4 x19 w4 Q px2 px5 x25 x29_0 x29_1 false w6)))) (
  LD [.int .i64, .int .i64, .sl] px5 w4 fun (x73_0 : Int) (x73_1 : Int) (x73_2 : Sl) =>
  Calls Tryz.prog F.s_roGood #[.agg #[.int .i64 x73_0, .int .i64 x73_1, x73_2.v]] w4 (Ret [.at .bool] fun (x74 : Bool) w16 =>
  cond (!x74) (
  ST px2 0 [.int .i64 0, .int .i64 0, .slice none 0 0] w16 fun w18 =>
  LD [.int .i64, .int .i64, .sl] px2 w18 fun (r0_0_3 : Int) (r0_1_3 : Int) (r0_2_3 : Sl) =>
  Q r0_0_3 r0_1_3 r0_2_3 false w18) (
  LD [.int .i64, .int .i64, .sl] px5 w16 fun (x77_0 : Int) (x77_1 : Int) (x77_2 : Sl) =>
  Calls Tryz.prog F.s_roText #[.agg #[.int .i64 x77_0, .int .i64 x77_1, x77_2.v]] w16 (Ret [.at .str] fun (x78 : ByteArray) w17 =>
  cond (!(x78.toList == x0.toList)) (
  ST px2 0 [.int .i64 0, .int .i64 0, .slice none 0 0] w17 fun w19 =>
  LD [.int .i64, .int .i64, .sl] px2 w19 fun (r0_0_4 : Int) (r0_1_4 : Int) (r0_2_4 : Sl) =>
  Q r0_0_4 r0_1_4 r0_2_4 false w19) (
  LD [.int .i64, .int .i64, .sl] px5 w17 fun (x83_0_2 : Int) (x83_1_2 : Int) (x83_2_2 : Sl) =>
  ST px2 0 [.int .i64 x83_0_2, .int .i64 x83_1_2, x83_2_2.v] w17 fun w21 =>
  LD [.int .i64, .int .i64, .sl] px2 w21 fun (r0_0_6 : Int) (r0_1_6 : Int) (r0_2_6 : Sl) =>
  Q r0_0_6 r0_1_6 r0_2_6 true w21))))))

theorem C_s_ParseRooted {Q : Int → Int → Sl → Bool → World → Prop} {x0 : ByteArray} {w : World} (h : V_s_ParseRooted Q x0 w) : Calls Tryz.prog F.s_ParseRooted #[.string x0] w (Ret [.agg [.int .i64, .int .i64, .sl], .at .bool] Q) :=
  mkC (hint := hint) (ann := annOf [(4, ⟨[(19, .int .i64)], [3, 6, 7, 8, 9, 10, 20, 21, 22, 23, 24, 25, 26, 27, 28, 29, 30, 31, 32, 33, 34, 35, 36, 37, 38, 39, 40, 41, 42, 43, 44, 45, 46, 47, 48, 49, 50, 51, 52, 53, 54, 55, 56, 57, 58, 59, 60, 61, 62, 63, 64, 65, 66, 67, 68, 69, 70, 71, 72]⟩)]) (args := [.string x0]) (rs := [.agg [.int .i64, .int .i64, .sl], .at .bool]) Tryz.func22 (by kernel_rfl) (by kernel_rfl) h

def V_i_ParseRooted_k5 (I6 : Int → World → Prop) (m6 : Int → World → Nat) (x22 : Int) (w5 : World) (Q : Int → Int → Sl → Bool → World → Prop) (px2 : Addr) (px6 : Addr) (x27 : Sl) (x31_0 : Sl) (x39 : Bool) (w9 : World) : Prop :=
  cond x39 (
  ∀ w10, Ext w9 w10 → w10.heap = w9.heap → ∃ (D10 : Nat → Prop),
  IX x31_0 0 1 fun (px50 : Addr) =>
  ¬ D10 px50.block ∧ (
  LD [.int .i64] px50 w10 fun (x51 : Int) =>
  IX x31_0 1 1 fun (px53 : Addr) =>
  ¬ D10 px53.block ∧ (
  LD [.int .i64] px53 w10 fun (x54 : Int) =>
  Chg w10 w10 D10 ∧ (
  ST (px6.add 0) 0 [.int .i64 x51] w10 fun w11 =>
  Chg w10 w11 D10 ∧ (
  ST (px6.add 1) 0 [.int .i64 x54] w11 fun w12 =>
  I6 (IntKind.i64.wrap (x22 + 1)) w12 ∧ m6 (IntKind.i64.wrap (x22 + 1)) w12 < m6 x22 w5))))) (
  IX x27 0 1 fun (px59 : Addr) =>
  LD [.str] px59 w9 fun (x60 : ByteArray) =>
  cond (x60.toList == (ByteArray.mk #[108, 105, 110, 101]).toList) (
  LD [.sl] (px6.add 2) w9 fun (x63 : Sl) =>
  RUN Tryz.prog (.at .sl) (Instr.buildSlice T.t_sl_sl_int 1 #[(0, x31_0.v)]) w9 fun (x65 : Sl) w13 =>
  RUN Tryz.prog (.at .sl) (bsem .append #[T.t_sl_sl_int, T.t_sl_sl_int] T.t_sl_sl_int #[x63.v, x65.v]) w13 fun (x66 : Sl) w14 =>
  ST (px6.add 2) 0 [x66.v] w14 fun w15 =>
  I6 (IntKind.i64.wrap (x22 + 1)) w15 ∧ m6 (IntKind.i64.wrap (x22 + 1)) w15 < m6 x22 w5) (
  ST px2 0 [.int .i64 0, .int .i64 0, .slice none 0 0] w9 fun w16 =>
  LD [.int .i64, .int .i64, .sl] px2 w16 fun (r0_0_3 : Int) (r0_1_3 : Int) (r0_2_3 : Sl) =>
  Q r0_0_3 r0_1_3 r0_2_3 false w16))

def V_i_ParseRooted (Q : Int → Int → Sl → Bool → World → Prop) (x0 : ByteArray) (w : World) : Prop :=
  NEW T.t_i_RootedProblem #[.int .i64 0, .int .i64 0, .slice none 0 0] w fun (px2 : Addr) w1 =>
  Calls Tryz.prog F.i_endedLines #[.string x0] w1 (Ret [.at .sl, .at .bool] fun (x14_0 : Sl) (x14_1 : Bool) w2 =>
  cond (!x14_1) (
  ST px2 0 [.int .i64 0, .int .i64 0, .slice none 0 0] w2 fun w3 =>
  LD [.int .i64, .int .i64, .sl] px2 w3 fun (r0_0 : Int) (r0_1 : Int) (r0_2 : Sl) =>
  Q r0_0 r0_1 r0_2 false w3) (
  NEW T.t_i_RootedProblem #[.int .i64 0, .int .i64 0, .slice none 0 0] w2 fun (px6 : Addr) w4 =>
  ∃ (I6 : Int → World → Prop) (m6 : Int → World → Nat), I6 0 w4 ∧ ∀ (x22 : Int) w5, I6 x22 w5 → ∀ _ _ _ _ _ _ _ _ _ _ _ _ _ _ _ _ _ _ _ _ _ _ _ _ _ _ _ _ _ _ _ _ _ _ _ _ _ _ _ _ _ _ _ _ _ _ _ _ _ _ _ : Value,
  cond (decide ((x22 : Int) < x14_0.len)) (
  IX x14_0 x22 1 fun (px24 : Addr) =>
  LD [.str] px24 w5 fun (x25 : ByteArray) =>
  Calls Tryz.prog F.strings_Split #[.string x25, .string (ByteArray.mk #[32])] w5 (Ret [.at .sl] fun (x27 : Sl) w6 =>
  SLC x27 (some 1) none 1 fun (x30 : Sl) =>
  Calls Tryz.prog F.i_starNumbers #[x30.v] w6 (Ret [.at .sl, .at .bool] fun (x31_0 : Sl) (x31_1 : Bool) w7 =>
  cond (!x31_1) (
  ST px2 0 [.int .i64 0, .int .i64 0, .slice none 0 0] w7 fun w8 =>
  LD [.int .i64, .int .i64, .sl] px2 w8 fun (r0_0_2 : Int) (r0_1_2 : Int) (r0_2_2 : Sl) =>
  Q r0_0_2 r0_1_2 r0_2_2 false w8) (
  IX x27 0 1 fun (px41 : Addr) =>
  LD [.str] px41 w7 fun (x42 : ByteArray) =>
  cond (x42.toList == (ByteArray.mk #[114, 111, 111, 116, 101, 100]).toList) (
  V_i_ParseRooted_k5 I6 m6 x22 w5 Q px2 px6 x27 x31_0 ((x31_0.len : Int) == 2) w7) (
  V_i_ParseRooted_k5 I6 m6 x22 w5 Q px2 px6 x27 x31_0 false w7))))) (
  LD [.int .i64, .int .i64, .sl] px6 w5 fun (x69_0 : Int) (x69_1 : Int) (x69_2 : Sl) =>
  Calls Tryz.prog F.i_IsRootedProblem #[.agg #[.int .i64 x69_0, .int .i64 x69_1, x69_2.v]] w5 (Ret [.at .bool] fun (x70 : Bool) w17 =>
  cond (!x70) (
  ST px2 0 [.int .i64 0, .int .i64 0, .slice none 0 0] w17 fun w19 =>
  LD [.int .i64, .int .i64, .sl] px2 w19 fun (r0_0_4 : Int) (r0_1_4 : Int) (r0_2_4 : Sl) =>
  Q r0_0_4 r0_1_4 r0_2_4 false w19) (
  LD [.int .i64, .int .i64, .sl] px6 w17 fun (x73_0 : Int) (x73_1 : Int) (x73_2 : Sl) =>
  Calls Tryz.prog F.i_rootedText #[.agg #[.int .i64 x73_0, .int .i64 x73_1, x73_2.v]] w17 (Ret [.at .str] fun (x74 : ByteArray) w18 =>
  cond (!(x74.toList == x0.toList)) (
  ST px2 0 [.int .i64 0, .int .i64 0, .slice none 0 0] w18 fun w20 =>
  LD [.int .i64, .int .i64, .sl] px2 w20 fun (r0_0_5 : Int) (r0_1_5 : Int) (r0_2_5 : Sl) =>
  Q r0_0_5 r0_1_5 r0_2_5 false w20) (
  LD [.int .i64, .int .i64, .sl] px6 w18 fun (x79_0_2 : Int) (x79_1_2 : Int) (x79_2_2 : Sl) =>
  ST px2 0 [.int .i64 x79_0_2, .int .i64 x79_1_2, x79_2_2.v] w18 fun w22 =>
  LD [.int .i64, .int .i64, .sl] px2 w22 fun (r0_0_7 : Int) (r0_1_7 : Int) (r0_2_7 : Sl) =>
  Q r0_0_7 r0_1_7 r0_2_7 true w22)))))))

theorem C_i_ParseRooted {Q : Int → Int → Sl → Bool → World → Prop} {x0 : ByteArray} {w : World} (h : V_i_ParseRooted Q x0 w) : Calls Tryz.prog F.i_ParseRooted #[.string x0] w (Ret [.agg [.int .i64, .int .i64, .sl], .at .bool] Q) :=
  mkC (hint := hint) (ann := annOf [(6, ⟨[(22, .int .i64)], [3, 8, 9, 10, 11, 23, 24, 25, 26, 27, 28, 29, 30, 31, 32, 33, 34, 35, 36, 37, 38, 39, 40, 41, 42, 43, 44, 45, 46, 47, 48, 49, 50, 51, 52, 53, 54, 55, 56, 57, 58, 59, 60, 61, 62, 63, 64, 65, 66, 67, 68]⟩)]) (args := [.string x0]) (rs := [.agg [.int .i64, .int .i64, .sl], .at .bool]) Tryz.func23 (by kernel_rfl) (by kernel_rfl) h

def V_l_eqRootedProblem (Q : Bool → World → Prop) (a_0 : Int) (a_1 : Int) (a_2 : Sl) (b_0 : Int) (b_1 : Int) (b_2 : Sl) (w : World) : Prop :=
  NEW T.t_i_RootedProblem #[.int .i64 a_0, .int .i64 a_1, a_2.v] w fun (p_a : Addr) w1 =>
  NEW T.t_i_RootedProblem #[.int .i64 b_0, .int .i64 b_1, b_2.v] w1 fun (p_b : Addr) w2 =>
  LD [.int .i64] (p_a.add 0) w2 fun (x6 : Int) =>
  LD [.int .i64] (p_b.add 0) w2 fun (x8 : Int) =>
  cond ((x6 : Int) != x8) (
  Q false w2) (
  LD [.int .i64] (p_a.add 1) w2 fun (x11 : Int) =>
  LD [.int .i64] (p_b.add 1) w2 fun (x13 : Int) =>
  cond ((x11 : Int) != x13) (
  Q false w2) (
  LD [.sl] (p_a.add 2) w2 fun (x16 : Sl) =>
  LD [.sl] (p_b.add 2) w2 fun (x18 : Sl) =>
  Calls Tryz.prog F.l_eqIntSS #[x16.v, x18.v] w2 (Ret [.at .bool] fun (x19 : Bool) w3 =>
  cond (!x19) (
  Q false w3) (
  Q true w3))))

theorem C_l_eqRootedProblem {Q : Bool → World → Prop} {a_0 : Int} {a_1 : Int} {a_2 : Sl} {b_0 : Int} {b_1 : Int} {b_2 : Sl} {w : World} (h : V_l_eqRootedProblem Q a_0 a_1 a_2 b_0 b_1 b_2 w) : Calls Tryz.prog F.l_eqRootedProblem #[.agg #[.int .i64 a_0, .int .i64 a_1, a_2.v], .agg #[.int .i64 b_0, .int .i64 b_1, b_2.v]] w (Ret [.at .bool] Q) :=
  mkC (hint := hint) (ann := annOf []) (args := [.agg #[.int .i64 a_0, .int .i64 a_1, a_2.v], .agg #[.int .i64 b_0, .int .i64 b_1, b_2.v]]) (rs := [.at .bool]) Tryz.func24 (by kernel_rfl) (by kernel_rfl) h

def V_l_markRootedProblem (Q : Int → World → Prop) (a_0 : Int) (a_1 : Int) (a_2 : Sl) (k : Int) (w : World) : Prop :=
  NEW T.t_i_RootedProblem #[.int .i64 a_0, .int .i64 a_1, a_2.v] w fun (p_a : Addr) w1 =>
  LD [.sl] (p_a.add 2) w1 fun (x6 : Sl) =>
  Calls Tryz.prog F.l_markIntSS #[x6.v, .int .i64 k] w1 (Ret [.at (.int .i64)] fun (x8 : Int) w2 =>
  Q x8 w2)

theorem C_l_markRootedProblem {Q : Int → World → Prop} {a_0 : Int} {a_1 : Int} {a_2 : Sl} {k : Int} {w : World} (h : V_l_markRootedProblem Q a_0 a_1 a_2 k w) : Calls Tryz.prog F.l_markRootedProblem #[.agg #[.int .i64 a_0, .int .i64 a_1, a_2.v], .int .i64 k] w (Ret [.at (.int .i64)] Q) :=
  mkC (hint := hint) (ann := annOf []) (args := [.agg #[.int .i64 a_0, .int .i64 a_1, a_2.v], .int .i64 k]) (rs := [.at (.int .i64)]) Tryz.func25 (by kernel_rfl) (by kernel_rfl) h

def V_l_heldRootedProblem (Q : Int → World → Prop) (a_0 : Int) (a_1 : Int) (a_2 : Sl) (k : Int) (w : World) : Prop :=
  NEW T.t_i_RootedProblem #[.int .i64 a_0, .int .i64 a_1, a_2.v] w fun (p_a : Addr) w1 =>
  LD [.sl] (p_a.add 2) w1 fun (x6 : Sl) =>
  Calls Tryz.prog F.l_heldIntSS #[x6.v, .int .i64 k] w1 (Ret [.at (.int .i64)] fun (x8 : Int) w2 =>
  cond (decide ((x8 : Int) < 0)) (
  Q (-1) w2) (
  Q x8 w2))

theorem C_l_heldRootedProblem {Q : Int → World → Prop} {a_0 : Int} {a_1 : Int} {a_2 : Sl} {k : Int} {w : World} (h : V_l_heldRootedProblem Q a_0 a_1 a_2 k w) : Calls Tryz.prog F.l_heldRootedProblem #[.agg #[.int .i64 a_0, .int .i64 a_1, a_2.v], .int .i64 k] w (Ret [.at (.int .i64)] Q) :=
  mkC (hint := hint) (ann := annOf []) (args := [.agg #[.int .i64 a_0, .int .i64 a_1, a_2.v], .int .i64 k]) (rs := [.at (.int .i64)]) Tryz.func26 (by kernel_rfl) (by kernel_rfl) h

def V_l_eqIntSS (Q : Bool → World → Prop) (a : Sl) (b : Sl) (w : World) : Prop :=
  cond ((a.len : Int) != b.len) (
  Q false w) (
  ∃ (I4 : Int → World → Prop) (m4 : Int → World → Nat), I4 0 w ∧ ∀ (i : Int) w1, I4 i w1 → ∀ _ _ _ _ _ _ _ _ _ _ _ _ _ _ _ _ _ : Value,
  cond (decide ((i : Int) < a.len)) (
  IX a i 1 fun (px19 : Addr) =>
  LD [.sl] px19 w1 fun (x20 : Sl) =>
  IX b i 1 fun (px23 : Addr) =>
  LD [.sl] px23 w1 fun (x24 : Sl) =>
  QCALL Tryz.prog F.l_eqIntS #[x20.v, x24.v] w1 [.at .bool] fun (x25 : Bool) =>
  ∀ w2, Ext w1 w2 →
  cond (!x25) (
  Q false w2) (
  I4 (IntKind.i64.wrap (i + 1)) w2 ∧ m4 (IntKind.i64.wrap (i + 1)) w2 < m4 i w1)) (
  Q true w1))

theorem C_l_eqIntSS {Q : Bool → World → Prop} {a : Sl} {b : Sl} {w : World} (h : V_l_eqIntSS Q a b w) : Calls Tryz.prog F.l_eqIntSS #[a.v, b.v] w (Ret [.at .bool] Q) :=
  mkC (hint := hint) (ann := annOf [(4, ⟨[(5, .int .i64)], [4, 11, 12, 13, 14, 15, 16, 17, 18, 19, 20, 21, 22, 23, 24, 25, 26]⟩)]) (args := [a.v, b.v]) (rs := [.at .bool]) Tryz.func52 (by kernel_rfl) (by kernel_rfl) h

def V_l_markIntSS (Q : Int → World → Prop) (a : Sl) (k : Int) (w : World) : Prop :=
  ∃ (I2 : Int → Int → World → Prop) (m2 : Int → Int → World → Nat), I2 k 0 w ∧ ∀ (k_2 : Int) (i : Int) w1, I2 k_2 i w1 → ∀ _ _ _ _ _ _ _ _ _ _ _ _ : Value,
  cond (decide ((i : Int) < a.len)) (
  IX a i 1 fun (px14 : Addr) =>
  LD [.sl] px14 w1 fun (x15 : Sl) =>
  Calls Tryz.prog F.l_markIntS #[x15.v, .int .i64 k_2] w1 (Ret [.at (.int .i64)] fun (x17 : Int) w2 =>
  I2 x17 (IntKind.i64.wrap (i + 1)) w2 ∧ m2 x17 (IntKind.i64.wrap (i + 1)) w2 < m2 k_2 i w1)) (
  Q k_2 w1)

theorem C_l_markIntSS {Q : Int → World → Prop} {a : Sl} {k : Int} {w : World} (h : V_l_markIntSS Q a k w) : Calls Tryz.prog F.l_markIntSS #[a.v, .int .i64 k] w (Ret [.at (.int .i64)] Q) :=
  mkC (hint := hint) (ann := annOf [(2, ⟨[(1, .int .i64), (5, .int .i64)], [6, 7, 8, 9, 10, 11, 12, 13, 14, 15, 16, 17]⟩)]) (args := [a.v, .int .i64 k]) (rs := [.at (.int .i64)]) Tryz.func53 (by kernel_rfl) (by kernel_rfl) h

def V_i_wordsLine (Q : ByteArray → World → Prop) (word : ByteArray) (numbers : Sl) (w : World) : Prop :=
  ∃ (I2 : ByteArray → Int → World → Prop) (m2 : ByteArray → Int → World → Nat), I2 word 0 w ∧ ∀ (word_2 : ByteArray) (x9 : Int) w1, I2 word_2 x9 w1 → ∀ _ _ _ _ _ _ _ _ _ _ _ _ _ _ : Value,
  cond (decide ((x9 : Int) < numbers.len)) (
  IX numbers x9 1 fun (px11 : Addr) =>
  LD [.int .i64] px11 w1 fun (x12 : Int) =>
  cond ((x12 : Int) == (-1)) (
  word_2.size + (ByteArray.mk #[32, 42]).size ≤ 9223372036854775807 ∧ (
  I2 (word_2 ++ (ByteArray.mk #[32, 42])) (IntKind.i64.wrap (x9 + 1)) w1 ∧ m2 (word_2 ++ (ByteArray.mk #[32, 42])) (IntKind.i64.wrap (x9 + 1)) w1 < m2 word_2 x9 w1)) (
  Calls Tryz.prog F.strconv_Itoa #[.int .i64 x12] w1 (Ret [.at .str] fun (x19 : ByteArray) w2 =>
  (ByteArray.mk #[32]).size + x19.size ≤ 9223372036854775807 ∧ (
  word_2.size + ((ByteArray.mk #[32]) ++ x19).size ≤ 9223372036854775807 ∧ (
  I2 (word_2 ++ ((ByteArray.mk #[32]) ++ x19)) (IntKind.i64.wrap (x9 + 1)) w2 ∧ m2 (word_2 ++ ((ByteArray.mk #[32]) ++ x19)) (IntKind.i64.wrap (x9 + 1)) w2 < m2 word_2 x9 w1))))) (
  Q word_2 w1)

theorem C_i_wordsLine {Q : ByteArray → World → Prop} {word : ByteArray} {numbers : Sl} {w : World} (h : V_i_wordsLine Q word numbers w) : Calls Tryz.prog F.i_wordsLine #[.string word, numbers.v] w (Ret [.at .str] Q) :=
  mkC (hint := hint) (ann := annOf [(2, ⟨[(0, .str), (9, .int .i64)], [6, 10, 11, 12, 13, 14, 15, 16, 17, 18, 19, 20, 21, 22]⟩)]) (args := [.string word, numbers.v]) (rs := [.at .str]) Tryz.func61 (by kernel_rfl) (by kernel_rfl) h

def V_s_l1Split (Q : Sl → World → Prop) (s : ByteArray) (b : Int) (w : World) : Prop :=
  ∃ (I4 : Sl → Int → Int → World → Prop) (m4 : Sl → Int → Int → World → Nat), I4 (⟨none, 0, 0⟩) 0 0 w ∧ ∀ (out : Sl) (from1 : Int) (i : Int) w1, I4 out from1 i w1 → ∀ _ _ _ _ _ _ _ _ _ _ _ _ _ _ _ _ _ _ _ _ : Value,
  cond (decide ((i : Int) < s.size)) (
  SIX s i fun (x16 : Int) =>
  cond ((x16 : Int) == b) (
  RUN Tryz.prog (.at .str) (Instr.sliceAt T.t_string (.string s) (some (.int .i64 from1)) (some (.int .i64 i)) none) w1 fun (x23 : ByteArray) w2 =>
  RUN Tryz.prog (.at .sl) (Instr.buildSlice T.t_sl_string 1 #[(0, .string x23)]) w2 fun (x24 : Sl) w3 =>
  RUN Tryz.prog (.at .sl) (bsem .append #[T.t_sl_string, T.t_sl_string] T.t_sl_string #[out.v, x24.v]) w3 fun (x25 : Sl) w4 =>
  I4 x25 (IntKind.i64.wrap (i + 1)) (IntKind.i64.wrap (i + 1)) w4 ∧ m4 x25 (IntKind.i64.wrap (i + 1)) (IntKind.i64.wrap (i + 1)) w4 < m4 out from1 i w1) (
  I4 out from1 (IntKind.i64.wrap (i + 1)) w1 ∧ m4 out from1 (IntKind.i64.wrap (i + 1)) w1 < m4 out from1 i w1)) (
  RUN Tryz.prog (.at .str) (Instr.sliceAt T.t_string (.string s) (some (.int .i64 from1)) none none) w1 fun (x31 : ByteArray) w5 =>
  RUN Tryz.prog (.at .sl) (Instr.buildSlice T.t_sl_string 1 #[(0, .string x31)]) w5 fun (x32 : Sl) w6 =>
  RUN Tryz.prog (.at .sl) (bsem .append #[T.t_sl_string, T.t_sl_string] T.t_sl_string #[out.v, x32.v]) w6 fun (x33 : Sl) w7 =>
  Q x33 w7)

theorem C_s_l1Split {Q : Sl → World → Prop} {s : ByteArray} {b : Int} {w : World} (h : V_s_l1Split Q s b w) : Calls Tryz.prog F.s_l1Split #[.string s, .int .u8 b] w (Ret [.at .sl] Q) :=
  mkC (hint := hint) (ann := annOf [(4, ⟨[(5, .sl), (6, .int .i64), (7, .int .i64)], [8, 9, 10, 11, 12, 13, 14, 15, 16, 17, 18, 19, 20, 21, 22, 23, 24, 25, 26, 27]⟩)]) (args := [.string s, .int .u8 b]) (rs := [.at .sl]) Tryz.func64 (by kernel_rfl) (by kernel_rfl) h

def V_s_maNumbers_k4 (I3 : Sl → Int → World → Prop) (m3 : Sl → Int → World → Nat) (x10 : Int) (w1 : World) (out : Sl) (x15 : Int) (w3 : World) : Prop :=
  RUN Tryz.prog (.at .sl) (Instr.buildSlice T.t_sl_int 1 #[(0, .int .i64 x15)]) w3 fun (x24 : Sl) w4 =>
  RUN Tryz.prog (.at .sl) (bsem .append #[T.t_sl_int, T.t_sl_int] T.t_sl_int #[out.v, x24.v]) w4 fun (x25 : Sl) w5 =>
  I3 x25 (IntKind.i64.wrap (x10 + 1)) w5 ∧ m3 x25 (IntKind.i64.wrap (x10 + 1)) w5 < m3 out x10 w1

def V_s_maNumbers (Q : Sl → Bool → World → Prop) (words : Sl) (w : World) : Prop :=
  ∃ (I3 : Sl → Int → World → Prop) (m3 : Sl → Int → World → Nat), I3 (⟨none, 0, 0⟩) 0 w ∧ ∀ (out : Sl) (x10 : Int) w1, I3 out x10 w1 → ∀ _ _ _ _ _ _ _ _ _ _ _ _ _ _ _ _ _ _ _ _ : Value,
  cond (decide ((x10 : Int) < words.len)) (
  IX words x10 1 fun (px12 : Addr) =>
  LD [.str] px12 w1 fun (x13 : ByteArray) =>
  Calls Tryz.prog F.s_l1Read #[.string x13] w1 (Ret [.at (.int .i64)] fun (x15 : Int) w2 =>
  cond (decide ((x15 : Int) < 0)) (
  cond (!(x13.toList == (ByteArray.mk #[42]).toList)) (
  Q (⟨none, 0, 0⟩) false w2) (
  V_s_maNumbers_k4 I3 m3 x10 w1 out x15 w2)) (
  V_s_maNumbers_k4 I3 m3 x10 w1 out x15 w2))) (
  Q out true w1)

theorem C_s_maNumbers {Q : Sl → Bool → World → Prop} {words : Sl} {w : World} (h : V_s_maNumbers Q words w) : Calls Tryz.prog F.s_maNumbers #[words.v] w (Ret [.at .sl, .at .bool] Q) :=
  mkC (hint := hint) (ann := annOf [(3, ⟨[(4, .sl), (10, .int .i64)], [2, 3, 6, 7, 11, 12, 13, 14, 15, 16, 17, 18, 19, 20, 21, 22, 23, 24, 25, 26]⟩)]) (args := [words.v]) (rs := [.at .sl, .at .bool]) Tryz.func65 (by kernel_rfl) (by kernel_rfl) h

def V_s_roGood_k1 (Q : Bool → World → Prop) (p_p : Addr) (w4 : World) : Prop :=
  LD [.sl] (p_p.add 2) w4 fun (x16 : Sl) =>
  ∃ (I4 : Int → World → Prop) (m4 : Int → World → Nat), I4 0 w4 ∧ ∀ (x18 : Int) w5, I4 x18 w5 → ∀ _ _ _ _ _ _ _ _ _ _ _ _ _ _ _ _ _ _ _ _ _ _ _ _ _ _ _ _ _ _ _ _ _ _ _ _ _ _ _ _ _ _ _ _ _ _ : Value,
  cond (decide ((x18 : Int) < x16.len)) (
  IX x16 x18 1 fun (px21 : Addr) =>
  LD [.sl] px21 w5 fun (x22 : Sl) =>
  ∀ w6, Ext w5 w6 → w6.heap = w5.heap →
  Ext w6 w6 ∧ (
  LD [.int .i64] (p_p.add 1) w6 fun (x26 : Int) =>
  Ext w6 w6 ∧ (
  Ext w6 w6 ∧ (
  Ext w6 w6 ∧ (
  Ext w6 w6 ∧ (
  cond ((x22.len : Int) != (IntKind.i64.wrap (x26 + 1))) (
  Ext w6 w6 ∧ (
  Ext w6 w6 ∧ (
  Ext w6 w6 ∧ (
  Ext w6 w6 ∧ (
  Ext w6 w6 ∧ (
  Q false w6)))))) (
  Ext w6 w6 ∧ (
  LD [.int .i64] (p_p.add 0) w6 fun (x32 : Int) =>
  Ext w6 w6 ∧ (
  Ext w6 w6 ∧ (
  Calls Tryz.prog F.s_l1All #[x22.v, .int .i64 0, .int .i64 (IntKind.i64.wrap (x32 - 1))] w6 (Ret [.at .bool] fun (x34 : Bool) w7 =>
  Ext w6 w7 ∧ (
  Ext w7 w7 ∧ (
  Ext w7 w7 ∧ (
  Ext w7 w7 ∧ (
  cond (!x34) (
  Ext w7 w7 ∧ (
  Ext w7 w7 ∧ (
  Ext w7 w7 ∧ (
  Q false w7)))) (
  SLC x22 (some 1) none 1 fun (x39 : Sl) =>
  Ext w7 w7 ∧ (
  SLC x22 (some 1) none 1 fun (x41 : Sl) =>
  Ext w7 w7 ∧ (
  Calls Tryz.prog F.s_prSorted #[x41.v] w7 (Ret [.at .sl] fun (x42 : Sl) w8 =>
  Ext w7 w8 ∧ (
  Calls Tryz.prog F.s_l1Same #[x39.v, x42.v] w8 (Ret [.at .bool] fun (x43 : Bool) w9 =>
  Ext w8 w9 ∧ (
  Ext w9 w9 ∧ (
  Ext w9 w9 ∧ (
  Ext w9 w9 ∧ (
  cond (!x43) (
  Ext w9 w9 ∧ (
  Q false w9)) (
  Ext w9 w9 ∧ (
  Ext w9 w9 ∧ (
  Ext w9 w9 ∧ (
  cond (decide ((x18 : Int) > 0)) (
  LD [.sl] (p_p.add 2) w9 fun (x51 : Sl) =>
  IX x51 (IntKind.i64.wrap (x18 - 1)) 1 fun (px54 : Addr) =>
  LD [.sl] px54 w9 fun (x55 : Sl) =>
  Ext w9 w9 ∧ (
  Calls Tryz.prog F.s_prOrder #[x55.v, x22.v] w9 (Ret [.at (.int .i64)] fun (x57 : Int) w10 =>
  Ext w9 w10 ∧ (
  Ext w10 w10 ∧ (
  Ext w10 w10 ∧ (
  Ext w10 w10 ∧ (
  cond (decide ((x57 : Int) ≥ 0)) (
  Q false w10) (
  I4 (IntKind.i64.wrap (x18 + 1)) w10 ∧ m4 (IntKind.i64.wrap (x18 + 1)) w10 < m4 x18 w5)))))))) (
  Ext w9 w9 ∧ (
  Ext w9 w9 ∧ (
  I4 (IntKind.i64.wrap (x18 + 1)) w9 ∧ m4 (IntKind.i64.wrap (x18 + 1)) w9 < m4 x18 w5)))))))))))))))))))))))))))))))) (
  Q true w5)

def V_s_roGood (Q : Bool → World → Prop) (p_0 : Int) (p_1 : Int) (p_2 : Sl) (w : World) : Prop :=
  NEW T.t_i_RootedProblem #[.int .i64 p_0, .int .i64 p_1, p_2.v] w fun (p_p : Addr) w1 =>
  LD [.int .i64] (p_p.add 0) w1 fun (x6 : Int) =>
  Calls Tryz.prog F.s_l1In #[.int .i64 x6, .int .i64 1, .int .i64 8] w1 (Ret [.at .bool] fun (x7 : Bool) w2 =>
  cond (!x7) (
  Q false w2) (
  LD [.int .i64] (p_p.add 1) w2 fun (x11 : Int) =>
  Calls Tryz.prog F.s_l1In #[.int .i64 x11, .int .i64 1, .int .i64 3] w2 (Ret [.at .bool] fun (x12 : Bool) w3 =>
  cond (!x12) (
  Q false w3) (
  V_s_roGood_k1 Q p_p w3))))

theorem C_s_roGood {Q : Bool → World → Prop} {p_0 : Int} {p_1 : Int} {p_2 : Sl} {w : World} (h : V_s_roGood Q p_0 p_1 p_2 w) : Calls Tryz.prog F.s_roGood #[.agg #[.int .i64 p_0, .int .i64 p_1, p_2.v]] w (Ret [.at .bool] Q) :=
  mkC (hint := hint) (ann := annOf [(4, ⟨[(18, .int .i64)], [2, 3, 4, 19, 20, 21, 22, 23, 24, 25, 26, 27, 28, 29, 30, 31, 32, 33, 34, 35, 36, 37, 38, 39, 40, 41, 42, 43, 44, 45, 46, 47, 48, 49, 50, 51, 52, 53, 54, 55, 56, 57, 58, 59, 60, 61]⟩)]) (args := [.agg #[.int .i64 p_0, .int .i64 p_1, p_2.v]]) (rs := [.at .bool]) Tryz.func66 (by kernel_rfl) (by kernel_rfl) h

def V_s_roText (Q : ByteArray → World → Prop) (p_0 : Int) (p_1 : Int) (p_2 : Sl) (w : World) : Prop :=
  NEW T.t_i_RootedProblem #[.int .i64 p_0, .int .i64 p_1, p_2.v] w fun (p_p : Addr) w1 =>
  LD [.int .i64] (p_p.add 0) w1 fun (x7 : Int) =>
  LD [.int .i64] (p_p.add 1) w1 fun (x9 : Int) =>
  RUN Tryz.prog (.at .sl) (Instr.buildSlice T.t_sl_int 2 #[(0, .int .i64 x7), (1, .int .i64 x9)]) w1 fun (x10 : Sl) w2 =>
  Calls Tryz.prog F.s_maLine #[.string (ByteArray.mk #[114, 111, 111, 116, 101, 100]), x10.v] w2 (Ret [.at .str] fun (x11 : ByteArray) w3 =>
  x11.size + (ByteArray.mk #[10]).size ≤ 9223372036854775807 ∧ (
  LD [.sl] (p_p.add 2) w3 fun (x14 : Sl) =>
  ∃ (I3 : ByteArray → Int → World → Prop) (m3 : ByteArray → Int → World → Nat), I3 (x11 ++ (ByteArray.mk #[10])) 0 w3 ∧ ∀ (out : ByteArray) (x16 : Int) w4, I3 out x16 w4 → ∀ _ _ _ _ _ _ _ _ _ _ : Value,
  cond (decide ((x16 : Int) < x14.len)) (
  IX x14 x16 1 fun (px18 : Addr) =>
  LD [.sl] px18 w4 fun (x19 : Sl) =>
  Calls Tryz.prog F.s_maLine #[.string (ByteArray.mk #[108, 105, 110, 101]), x19.v] w4 (Ret [.at .str] fun (x22 : ByteArray) w5 =>
  x22.size + (ByteArray.mk #[10]).size ≤ 9223372036854775807 ∧ (
  out.size + (x22 ++ (ByteArray.mk #[10])).size ≤ 9223372036854775807 ∧ (
  I3 (out ++ (x22 ++ (ByteArray.mk #[10]))) (IntKind.i64.wrap (x16 + 1)) w5 ∧ m3 (out ++ (x22 ++ (ByteArray.mk #[10]))) (IntKind.i64.wrap (x16 + 1)) w5 < m3 out x16 w4)))) (
  Q out w4)))

theorem C_s_roText {Q : ByteArray → World → Prop} {p_0 : Int} {p_1 : Int} {p_2 : Sl} {w : World} (h : V_s_roText Q p_0 p_1 p_2 w) : Calls Tryz.prog F.s_roText #[.agg #[.int .i64 p_0, .int .i64 p_1, p_2.v]] w (Ret [.at .str] Q) :=
  mkC (hint := hint) (ann := annOf [(3, ⟨[(3, .str), (16, .int .i64)], [5, 17, 18, 19, 20, 21, 22, 23, 24, 25]⟩)]) (args := [.agg #[.int .i64 p_0, .int .i64 p_1, p_2.v]]) (rs := [.at .str]) Tryz.func67 (by kernel_rfl) (by kernel_rfl) h

def V_i_endedLines (Q : Sl → Bool → World → Prop) (s : ByteArray) (w : World) : Prop :=
  Calls Tryz.prog F.strings_CutSuffix #[.string s, .string (ByteArray.mk #[10])] w (Ret [.at .str, .at .bool] fun (x8_0 : ByteArray) (x8_1 : Bool) w1 =>
  cond (!x8_1) (
  Q (⟨none, 0, 0⟩) false w1) (
  Calls Tryz.prog F.strings_Split #[.string x8_0, .string (ByteArray.mk #[10])] w1 (Ret [.at .sl] fun (x14 : Sl) w2 =>
  Q x14 true w2)))

theorem C_i_endedLines {Q : Sl → Bool → World → Prop} {s : ByteArray} {w : World} (h : V_i_endedLines Q s w) : Calls Tryz.prog F.i_endedLines #[.string s] w (Ret [.at .sl, .at .bool] Q) :=
  mkC (hint := hint) (ann := annOf []) (args := [.string s]) (rs := [.at .sl, .at .bool]) Tryz.func68 (by kernel_rfl) (by kernel_rfl) h

def V_i_starNumbers (Q : Sl → Bool → World → Prop) (words : Sl) (w : World) : Prop :=
  ∃ (I3 : Sl → Int → World → Prop) (m3 : Sl → Int → World → Nat), I3 (⟨none, 0, 0⟩) 0 w ∧ ∀ (out : Sl) (x11 : Int) w1, I3 out x11 w1 → ∀ _ _ _ _ _ _ _ _ _ _ _ _ _ _ _ _ _ _ _ _ _ _ : Value,
  cond (decide ((x11 : Int) < words.len)) (
  IX words x11 1 fun (px13 : Addr) =>
  LD [.str] px13 w1 fun (x14 : ByteArray) =>
  Calls Tryz.prog F.i_readNumber #[.string x14] w1 (Ret [.at (.int .i64), .at .bool] fun (x17_0 : Int) (x17_1 : Bool) w2 =>
  cond (x14.toList == (ByteArray.mk #[42]).toList) (
  RUN Tryz.prog (.at .sl) (Instr.buildSlice T.t_sl_int 1 #[(0, .int .i64 (-1))]) w2 fun (x26 : Sl) w3 =>
  RUN Tryz.prog (.at .sl) (bsem .append #[T.t_sl_int, T.t_sl_int] T.t_sl_int #[out.v, x26.v]) w3 fun (x27 : Sl) w4 =>
  I3 x27 (IntKind.i64.wrap (x11 + 1)) w4 ∧ m3 x27 (IntKind.i64.wrap (x11 + 1)) w4 < m3 out x11 w1) (
  cond (!x17_1) (
  Q (⟨none, 0, 0⟩) false w2) (
  RUN Tryz.prog (.at .sl) (Instr.buildSlice T.t_sl_int 1 #[(0, .int .i64 x17_0)]) w2 fun (x26_2 : Sl) w5 =>
  RUN Tryz.prog (.at .sl) (bsem .append #[T.t_sl_int, T.t_sl_int] T.t_sl_int #[out.v, x26_2.v]) w5 fun (x27_2 : Sl) w6 =>
  I3 x27_2 (IntKind.i64.wrap (x11 + 1)) w6 ∧ m3 x27_2 (IntKind.i64.wrap (x11 + 1)) w6 < m3 out x11 w1)))) (
  Q out true w1)

theorem C_i_starNumbers {Q : Sl → Bool → World → Prop} {words : Sl} {w : World} (h : V_i_starNumbers Q words w) : Calls Tryz.prog F.i_starNumbers #[words.v] w (Ret [.at .sl, .at .bool] Q) :=
  mkC (hint := hint) (ann := annOf [(3, ⟨[(4, .sl), (11, .int .i64)], [2, 3, 6, 7, 8, 12, 13, 14, 15, 16, 17, 18, 19, 20, 21, 22, 23, 24, 25, 26, 27, 28]⟩)]) (args := [words.v]) (rs := [.at .sl, .at .bool]) Tryz.func70 (by kernel_rfl) (by kernel_rfl) h

def V_i_IsRootedProblem_k1 (Q : Bool → World → Prop) (p_p : Addr) (w4 : World) : Prop :=
  LD [.sl] (p_p.add 2) w4 fun (x16 : Sl) =>
  ∃ (I4 : Int → World → Prop) (m4 : Int → World → Nat), I4 0 w4 ∧ ∀ (x18 : Int) w5, I4 x18 w5 → ∀ _ _ _ _ _ _ _ _ _ _ _ _ _ _ _ _ _ _ _ _ _ _ _ _ _ _ _ _ _ _ _ _ _ _ _ _ _ _ _ _ _ : Value,
  cond (decide ((x18 : Int) < x16.len)) (
  IX x16 x18 1 fun (px21 : Addr) =>
  LD [.sl] px21 w5 fun (x22 : Sl) =>
  LD [.int .i64] (p_p.add 1) w5 fun (x26 : Int) =>
  cond ((x22.len : Int) != (IntKind.i64.wrap (x26 + 1))) (
  Q false w5) (
  LD [.int .i64, .int .i64, .sl] p_p w5 fun (x30_0 : Int) (x30_1 : Int) (x30_2 : Sl) =>
  Calls Tryz.prog F.i_RootedProblem_hasLabels #[.agg #[.int .i64 x30_0, .int .i64 x30_1, x30_2.v], x22.v] w5 (Ret [.at .bool] fun (x32 : Bool) w6 =>
  cond (!x32) (
  Q false w6) (
  SLC x22 (some 1) none 1 fun (x37 : Sl) =>
  Calls Tryz.prog F.slices_IsSorted_sl_int_int #[x37.v] w6 (Ret [.at .bool] fun (x38 : Bool) w7 =>
  cond (!x38) (
  Q false w7) (
  cond (decide ((x18 : Int) > 0)) (
  LD [.sl] (p_p.add 2) w7 fun (x46 : Sl) =>
  IX x46 (IntKind.i64.wrap (x18 - 1)) 1 fun (px49 : Addr) =>
  LD [.sl] px49 w7 fun (x50 : Sl) =>
  Calls Tryz.prog F.slices_Compare_sl_int_int #[x50.v, x22.v] w7 (Ret [.at (.int .i64)] fun (x52 : Int) w8 =>
  cond (decide ((x52 : Int) ≥ 0)) (
  Q false w8) (
  I4 (IntKind.i64.wrap (x18 + 1)) w8 ∧ m4 (IntKind.i64.wrap (x18 + 1)) w8 < m4 x18 w5))) (
  I4 (IntKind.i64.wrap (x18 + 1)) w7 ∧ m4 (IntKind.i64.wrap (x18 + 1)) w7 < m4 x18 w5))))))) (
  Q true w5)

def V_i_IsRootedProblem (Q : Bool → World → Prop) (p_0 : Int) (p_1 : Int) (p_2 : Sl) (w : World) : Prop :=
  NEW T.t_i_RootedProblem #[.int .i64 p_0, .int .i64 p_1, p_2.v] w fun (p_p : Addr) w1 =>
  LD [.int .i64] (p_p.add 0) w1 fun (x6 : Int) =>
  Calls Tryz.prog F.i_within #[.int .i64 x6, .int .i64 1, .int .i64 8] w1 (Ret [.at .bool] fun (x7 : Bool) w2 =>
  cond (!x7) (
  Q false w2) (
  LD [.int .i64] (p_p.add 1) w2 fun (x11 : Int) =>
  Calls Tryz.prog F.i_within #[.int .i64 x11, .int .i64 1, .int .i64 3] w2 (Ret [.at .bool] fun (x12 : Bool) w3 =>
  cond (!x12) (
  Q false w3) (
  V_i_IsRootedProblem_k1 Q p_p w3))))

theorem C_i_IsRootedProblem {Q : Bool → World → Prop} {p_0 : Int} {p_1 : Int} {p_2 : Sl} {w : World} (h : V_i_IsRootedProblem Q p_0 p_1 p_2 w) : Calls Tryz.prog F.i_IsRootedProblem #[.agg #[.int .i64 p_0, .int .i64 p_1, p_2.v]] w (Ret [.at .bool] Q) :=
  mkC (hint := hint) (ann := annOf [(4, ⟨[(18, .int .i64)], [2, 3, 4, 19, 20, 21, 22, 23, 24, 25, 26, 27, 28, 29, 30, 31, 32, 33, 34, 35, 36, 37, 38, 39, 40, 41, 42, 43, 44, 45, 46, 47, 48, 49, 50, 51, 52, 53, 54, 55, 56]⟩)]) (args := [.agg #[.int .i64 p_0, .int .i64 p_1, p_2.v]]) (rs := [.at .bool]) Tryz.func71 (by kernel_rfl) (by kernel_rfl) h

def V_i_rootedText (Q : ByteArray → World → Prop) (p_0 : Int) (p_1 : Int) (p_2 : Sl) (w : World) : Prop :=
  NEW T.t_i_RootedProblem #[.int .i64 p_0, .int .i64 p_1, p_2.v] w fun (p_p : Addr) w1 =>
  LD [.int .i64] (p_p.add 0) w1 fun (x7 : Int) =>
  LD [.int .i64] (p_p.add 1) w1 fun (x9 : Int) =>
  RUN Tryz.prog (.at .sl) (Instr.buildSlice T.t_sl_int 2 #[(0, .int .i64 x7), (1, .int .i64 x9)]) w1 fun (x10 : Sl) w2 =>
  Calls Tryz.prog F.i_wordsLine #[.string (ByteArray.mk #[114, 111, 111, 116, 101, 100]), x10.v] w2 (Ret [.at .str] fun (x11 : ByteArray) w3 =>
  RUN Tryz.prog (.at .sl) (Instr.buildSlice T.t_sl_string 1 #[(0, .string x11)]) w3 fun (x12 : Sl) w4 =>
  LD [.sl] (p_p.add 2) w4 fun (x14 : Sl) =>
  ∃ (I3 : Sl → Int → World → Prop) (m3 : Sl → Int → World → Nat), I3 x12 0 w4 ∧ ∀ (lines : Sl) (x16 : Int) w5, I3 lines x16 w5 → ∀ _ _ _ _ _ _ _ _ _ _ : Value,
  cond (decide ((x16 : Int) < x14.len)) (
  IX x14 x16 1 fun (px18 : Addr) =>
  LD [.sl] px18 w5 fun (x19 : Sl) =>
  Calls Tryz.prog F.i_wordsLine #[.string (ByteArray.mk #[108, 105, 110, 101]), x19.v] w5 (Ret [.at .str] fun (x22 : ByteArray) w6 =>
  RUN Tryz.prog (.at .sl) (Instr.buildSlice T.t_sl_string 1 #[(0, .string x22)]) w6 fun (x23 : Sl) w7 =>
  RUN Tryz.prog (.at .sl) (bsem .append #[T.t_sl_string, T.t_sl_string] T.t_sl_string #[lines.v, x23.v]) w7 fun (x24 : Sl) w8 =>
  I3 x24 (IntKind.i64.wrap (x16 + 1)) w8 ∧ m3 x24 (IntKind.i64.wrap (x16 + 1)) w8 < m3 lines x16 w5)) (
  Calls Tryz.prog F.strings_Join #[lines.v, .string (ByteArray.mk #[10])] w5 (Ret [.at .str] fun (x27 : ByteArray) w9 =>
  x27.size + (ByteArray.mk #[10]).size ≤ 9223372036854775807 ∧ (
  Q (x27 ++ (ByteArray.mk #[10])) w9))))

theorem C_i_rootedText {Q : ByteArray → World → Prop} {p_0 : Int} {p_1 : Int} {p_2 : Sl} {w : World} (h : V_i_rootedText Q p_0 p_1 p_2 w) : Calls Tryz.prog F.i_rootedText #[.agg #[.int .i64 p_0, .int .i64 p_1, p_2.v]] w (Ret [.at .str] Q) :=
  mkC (hint := hint) (ann := annOf [(3, ⟨[(3, .sl), (16, .int .i64)], [5, 17, 18, 19, 20, 21, 22, 23, 24, 25]⟩)]) (args := [.agg #[.int .i64 p_0, .int .i64 p_1, p_2.v]]) (rs := [.at .str]) Tryz.func72 (by kernel_rfl) (by kernel_rfl) h

def V_l_heldIntSS (Q : Int → World → Prop) (a : Sl) (k : Int) (w : World) : Prop :=
  ∃ (I2 : Int → Int → World → Prop) (m2 : Int → Int → World → Nat), I2 k 0 w ∧ ∀ (k_2 : Int) (i : Int) w1, I2 k_2 i w1 → ∀ _ _ _ _ _ _ _ _ _ _ _ _ _ _ _ : Value,
  cond (decide ((i : Int) < a.len)) (
  IX a i 1 fun (px14 : Addr) =>
  LD [.sl] px14 w1 fun (x15 : Sl) =>
  Calls Tryz.prog F.l_heldIntS #[x15.v, .int .i64 k_2] w1 (Ret [.at (.int .i64)] fun (x17 : Int) w2 =>
  cond (decide ((x17 : Int) < 0)) (
  Q (-1) w2) (
  I2 x17 (IntKind.i64.wrap (i + 1)) w2 ∧ m2 x17 (IntKind.i64.wrap (i + 1)) w2 < m2 k_2 i w1))) (
  Q k_2 w1)

theorem C_l_heldIntSS {Q : Int → World → Prop} {a : Sl} {k : Int} {w : World} (h : V_l_heldIntSS Q a k w) : Calls Tryz.prog F.l_heldIntSS #[a.v, .int .i64 k] w (Ret [.at (.int .i64)] Q) :=
  mkC (hint := hint) (ann := annOf [(2, ⟨[(1, .int .i64), (5, .int .i64)], [4, 6, 7, 8, 9, 10, 11, 12, 13, 14, 15, 16, 17, 18, 19]⟩)]) (args := [a.v, .int .i64 k]) (rs := [.at (.int .i64)]) Tryz.func73 (by kernel_rfl) (by kernel_rfl) h

end Go.Proofs.YtnhidomgpbohiaaGreatDoor
end

section
/- What each function's code computes to. Printed by a program. -/
namespace Go.Proofs.YtnhidomgpbohiaaGreatDoor
open Go.GX Go.RowKit
set_option linter.unusedVariables false
set_option maxRecDepth 100000

def V_s_l1In (Q : Bool → World → Prop) (n : Int) (lo : Int) (hi : Int) (w : World) : Prop :=
  cond (decide ((n : Int) ≥ lo)) (
  Q (decide ((n : Int) ≤ hi)) w) (
  Q false w)

theorem C_s_l1In {Q : Bool → World → Prop} {n : Int} {lo : Int} {hi : Int} {w : World} (h : V_s_l1In Q n lo hi w) : Calls Tryz.prog F.s_l1In #[.int .i64 n, .int .i64 lo, .int .i64 hi] w (Ret [.at .bool] Q) :=
  mkC (hint := hint) (ann := annOf []) (args := [.int .i64 n, .int .i64 lo, .int .i64 hi]) (rs := [.at .bool]) Tryz.func80 (by kernel_rfl) (by kernel_rfl) h

def V_s_l1Own (Q : Sl → World → Prop) (l : Sl) (w : World) : Prop :=
  RUN Tryz.prog (.at .sl) (Instr.buildSlice T.t_sl_int 0 #[]) w fun (x3 : Sl) w1 =>
  RUN Tryz.prog (.at .sl) (bsem .append #[T.t_sl_int, T.t_sl_int] T.t_sl_int #[x3.v, l.v]) w1 fun (x5 : Sl) w2 =>
  Q x5 w2

theorem C_s_l1Own {Q : Sl → World → Prop} {l : Sl} {w : World} (h : V_s_l1Own Q l w) : Calls Tryz.prog F.s_l1Own #[l.v] w (Ret [.at .sl] Q) :=
  mkC (hint := hint) (ann := annOf []) (args := [l.v]) (rs := [.at .sl]) Tryz.func93 (by kernel_rfl) (by kernel_rfl) h

def V_i_within (Q : Bool → World → Prop) (n : Int) (low : Int) (high : Int) (w : World) : Prop :=
  cond (decide ((low : Int) ≤ n)) (
  Q (decide ((n : Int) ≤ high)) w) (
  Q false w)

theorem C_i_within {Q : Bool → World → Prop} {n : Int} {low : Int} {high : Int} {w : World} (h : V_i_within Q n low high w) : Calls Tryz.prog F.i_within #[.int .i64 n, .int .i64 low, .int .i64 high] w (Ret [.at .bool] Q) :=
  mkC (hint := hint) (ann := annOf []) (args := [.int .i64 n, .int .i64 low, .int .i64 high]) (rs := [.at .bool]) Tryz.func94 (by kernel_rfl) (by kernel_rfl) h

def V_slices_Compare_sl_int_int (Q : Int → World → Prop) (s1 : Sl) (s2 : Sl) (w : World) : Prop :=
  ∃ (I2 : Int → World → Prop) (m2 : Int → World → Nat), I2 0 w ∧ ∀ (x11 : Int) w1, I2 x11 w1 → ∀ _ _ _ _ _ _ _ _ _ _ _ _ _ _ _ _ _ _ _ _ _ _ _ _ : Value,
  cond (decide ((x11 : Int) < s1.len)) (
  IX s1 x11 1 fun (px14 : Addr) =>
  LD [.int .i64] px14 w1 fun (x15 : Int) =>
  cond (decide ((x11 : Int) ≥ s2.len)) (
  Q 1 w1) (
  IX s2 x11 1 fun (px22 : Addr) =>
  LD [.int .i64] px22 w1 fun (x23 : Int) =>
  Calls Tryz.prog F.cmp_Compare_int #[.int .i64 x15, .int .i64 x23] w1 (Ret [.at (.int .i64)] fun (x26 : Int) w2 =>
  cond ((x26 : Int) != 0) (
  Q x26 w2) (
  I2 (IntKind.i64.wrap (x11 + 1)) w2 ∧ m2 (IntKind.i64.wrap (x11 + 1)) w2 < m2 x11 w1)))) (
  cond (decide ((s1.len : Int) < s2.len)) (
  Q (-1) w1) (
  Q 0 w1))

theorem C_slices_Compare_sl_int_int {Q : Int → World → Prop} {s1 : Sl} {s2 : Sl} {w : World} (h : V_slices_Compare_sl_int_int Q s1 s2 w) : Calls Tryz.prog F.slices_Compare_sl_int_int #[s1.v, s2.v] w (Ret [.at (.int .i64)] Q) :=
  mkC (hint := hint) (ann := annOf [(2, ⟨[(11, .int .i64)], [4, 5, 6, 7, 8, 12, 13, 14, 15, 16, 17, 18, 19, 20, 21, 22, 23, 24, 25, 26, 27, 28, 29, 30]⟩)]) (args := [s1.v, s2.v]) (rs := [.at (.int .i64)]) Tryz.func96 (by kernel_rfl) (by kernel_rfl) h

def V_slices_IndexFunc_sl_int_int (Q : Int → World → Prop) (s : Sl) (f : Value) (w : World) : Prop :=
  ∃ (I2 : Int → World → Prop) (m2 : Int → World → Nat), I2 0 w ∧ ∀ (x8 : Int) w1, I2 x8 w1 → ∀ _ _ _ _ _ _ _ _ _ _ _ _ : Value,
  cond (decide ((x8 : Int) < s.len)) (
  IX s x8 1 fun (px14 : Addr) =>
  LD [.int .i64] px14 w1 fun (x15 : Int) =>
  CALLV Tryz.prog f #[.int .i64 x15] w1 (Ret [.at .bool] fun (x16 : Bool) w2 =>
  cond x16 (
  Q x8 w2) (
  I2 (IntKind.i64.wrap (x8 + 1)) w2 ∧ m2 (IntKind.i64.wrap (x8 + 1)) w2 < m2 x8 w1))) (
  Q (-1) w1)

theorem C_slices_IndexFunc_sl_int_int {Q : Int → World → Prop} {s : Sl} {f : Value} {w : World} (h : V_slices_IndexFunc_sl_int_int Q s f w) : Calls Tryz.prog F.slices_IndexFunc_sl_int_int #[s.v, f] w (Ret [.at (.int .i64)] Q) :=
  mkC (hint := hint) (ann := annOf [(2, ⟨[(8, .int .i64)], [4, 5, 9, 10, 11, 12, 13, 14, 15, 16, 17, 18]⟩)]) (args := [s.v, f]) (rs := [.at (.int .i64)]) Tryz.func99 (by kernel_rfl) (by kernel_rfl) h

def V_s_l1Read_k5 (I5 : Int → Int → World → Prop) (m5 : Int → Int → World → Nat) (n : Int) (i : Int) (w3 : World) (n_2 : Int) (w4 : World) : Prop :=
  I5 n_2 (IntKind.i64.wrap (i + 1)) w4 ∧ m5 n_2 (IntKind.i64.wrap (i + 1)) w4 < m5 n i w3

def V_s_l1Read_k1 (s : ByteArray) (Q : Int → World → Prop) (w2 : World) : Prop :=
  ∃ (I5 : Int → Int → World → Prop) (m5 : Int → Int → World → Nat), I5 0 0 w2 ∧ ∀ (n : Int) (i : Int) w3, I5 n i w3 → ∀ _ _ _ _ _ _ _ _ _ _ _ _ _ _ _ _ _ _ _ _ _ _ _ _ _ : Value,
  cond (decide ((i : Int) < s.size)) (
  SIX s i fun (x27 : Int) =>
  cond (decide ((x27 : Int) < 48)) (
  Q (-1) w3) (
  SIX s i fun (x32 : Int) =>
  cond (decide ((x32 : Int) > 57)) (
  Q (-1) w3) (
  SIX s i fun (x39_2 : Int) =>
  V_s_l1Read_k5 I5 m5 n i w3 (IntKind.i64.wrap ((IntKind.i64.wrap (10 * n)) + (IntKind.i64.wrap (IntKind.u8.wrap (x39_2 - 48))))) w3))) (
  Q n w3)

def V_s_l1Read (Q : Int → World → Prop) (s : ByteArray) (w : World) : Prop :=
  Calls Tryz.prog F.s_l1In #[.int .i64 s.size, .int .i64 1, .int .i64 6] w (Ret [.at .bool] fun (x7 : Bool) w1 =>
  cond (!x7) (
  Q (-1) w1) (
  SIX s 0 fun (x11 : Int) =>
  cond ((x11 : Int) == 48) (
  cond (decide ((s.size : Int) > 1)) (
  Q (-1) w1) (
  V_s_l1Read_k1 s Q w1)) (
  V_s_l1Read_k1 s Q w1)))

theorem C_s_l1Read {Q : Int → World → Prop} {s : ByteArray} {w : World} (h : V_s_l1Read Q s w) : Calls Tryz.prog F.s_l1Read #[.string s] w (Ret [.at (.int .i64)] Q) :=
  mkC (hint := hint) (ann := annOf [(5, ⟨[(3, .int .i64), (4, .int .i64)], [2, 19, 20, 21, 22, 23, 24, 25, 26, 27, 28, 29, 30, 31, 32, 33, 34, 35, 36, 37, 38, 39, 40, 41, 42]⟩)]) (args := [.string s]) (rs := [.at (.int .i64)]) Tryz.func125 (by kernel_rfl) (by kernel_rfl) h

def V_s_l1All (Q : Bool → World → Prop) (l : Sl) (lo : Int) (hi : Int) (w : World) : Prop :=
  ∃ (I2 : Int → World → Prop) (m2 : Int → World → Nat), I2 0 w ∧ ∀ (x11 : Int) w1, I2 x11 w1 → ∀ _ _ _ _ _ _ _ _ _ _ _ : Value,
  cond (decide ((x11 : Int) < l.len)) (
  IX l x11 1 fun (px13 : Addr) =>
  LD [.int .i64] px13 w1 fun (x14 : Int) =>
  Calls Tryz.prog F.s_l1In #[.int .i64 x14, .int .i64 lo, .int .i64 hi] w1 (Ret [.at .bool] fun (x18 : Bool) w2 =>
  cond (!x18) (
  Q false w2) (
  I2 (IntKind.i64.wrap (x11 + 1)) w2 ∧ m2 (IntKind.i64.wrap (x11 + 1)) w2 < m2 x11 w1))) (
  Q true w1)

theorem C_s_l1All {Q : Bool → World → Prop} {l : Sl} {lo : Int} {hi : Int} {w : World} (h : V_s_l1All Q l lo hi w) : Calls Tryz.prog F.s_l1All #[l.v, .int .i64 lo, .int .i64 hi] w (Ret [.at .bool] Q) :=
  mkC (hint := hint) (ann := annOf [(2, ⟨[(11, .int .i64)], [6, 8, 12, 13, 14, 15, 16, 17, 18, 19, 20]⟩)]) (args := [l.v, .int .i64 lo, .int .i64 hi]) (rs := [.at .bool]) Tryz.func126 (by kernel_rfl) (by kernel_rfl) h

def V_s_l1Same (Q : Bool → World → Prop) (a : Sl) (b : Sl) (w : World) : Prop :=
  cond ((a.len : Int) != b.len) (
  Q false w) (
  ∃ (I4 : Int → World → Prop) (m4 : Int → World → Nat), I4 0 w ∧ ∀ (x13 : Int) w1, I4 x13 w1 → ∀ _ _ _ _ _ _ _ _ _ _ _ _ _ _ : Value,
  cond (decide ((x13 : Int) < a.len)) (
  IX a x13 1 fun (px18 : Addr) =>
  LD [.int .i64] px18 w1 fun (x19 : Int) =>
  IX b x13 1 fun (px22 : Addr) =>
  LD [.int .i64] px22 w1 fun (x23 : Int) =>
  ∀ w2, Ext w1 w2 →
  cond ((x19 : Int) != x23) (
  Q false w2) (
  I4 (IntKind.i64.wrap (x13 + 1)) w2 ∧ m4 (IntKind.i64.wrap (x13 + 1)) w2 < m4 x13 w1)) (
  Q true w1))

theorem C_s_l1Same {Q : Bool → World → Prop} {a : Sl} {b : Sl} {w : World} (h : V_s_l1Same Q a b w) : Calls Tryz.prog F.s_l1Same #[a.v, b.v] w (Ret [.at .bool] Q) :=
  mkC (hint := hint) (ann := annOf [(4, ⟨[(13, .int .i64)], [4, 5, 14, 15, 16, 17, 18, 19, 20, 21, 22, 23, 24, 25]⟩)]) (args := [a.v, b.v]) (rs := [.at .bool]) Tryz.func127 (by kernel_rfl) (by kernel_rfl) h

def V_s_prSorted (Q : Sl → World → Prop) (l : Sl) (w : World) : Prop :=
  Calls Tryz.prog F.s_l1Own #[l.v] w (Ret [.at .sl] fun (x8 : Sl) w1 =>
  ∃ (I3 : Int → World → Prop) (m3 : Int → World → Nat), I3 0 w1 ∧ ∀ (x11 : Int) w2, I3 x11 w2 → ∀ _ _ _ _ _ _ _ _ _ _ _ _ _ _ _ _ _ _ _ _ _ _ _ _ _ _ _ _ _ _ _ _ _ _ _ _ _ _ _ _ : Value,
  cond (decide ((x11 : Int) < x8.len)) (
  ∃ (I6 : Int → World → Prop) (m6 : Int → World → Nat), I6 x11 w2 ∧ ∀ (k : Int) w3, I6 k w3 → ∀ _ _ _ _ _ _ _ _ _ _ _ _ _ _ _ _ _ _ _ _ _ _ _ _ _ _ _ _ _ _ _ _ _ _ : Value,
  cond (decide ((k : Int) > 0)) (
  IX x8 (IntKind.i64.wrap (k - 1)) 1 fun (px21 : Addr) =>
  LD [.int .i64] px21 w3 fun (x22 : Int) =>
  IX x8 k 1 fun (px25 : Addr) =>
  LD [.int .i64] px25 w3 fun (x26 : Int) =>
  ∀ w4, Ext w3 w4 →
  cond (decide ((x22 : Int) > x26)) (
  IX x8 k 1 fun (px33_2 : Addr) =>
  LD [.int .i64] px33_2 w4 fun (x34_2 : Int) =>
  IX x8 (IntKind.i64.wrap (k - 1)) 1 fun (px40_2 : Addr) =>
  LD [.int .i64] px40_2 w4 fun (x41_2 : Int) =>
  IX x8 k 1 fun (px42_2 : Addr) =>
  ST px42_2 0 [.int .i64 x41_2] w4 fun w8 =>
  IX x8 (IntKind.i64.wrap (k - 1)) 1 fun (px47_2 : Addr) =>
  ST px47_2 0 [.int .i64 x34_2] w8 fun w9 =>
  I6 (IntKind.i64.wrap (k - 1)) w9 ∧ m6 (IntKind.i64.wrap (k - 1)) w9 < m6 k w3) (
  I3 (IntKind.i64.wrap (x11 + 1)) w4 ∧ m3 (IntKind.i64.wrap (x11 + 1)) w4 < m3 x11 w2)) (
  ∀ w5, Ext w3 w5 →
  I3 (IntKind.i64.wrap (x11 + 1)) w5 ∧ m3 (IntKind.i64.wrap (x11 + 1)) w5 < m3 x11 w2)) (
  Q x8 w2))

theorem C_s_prSorted {Q : Sl → World → Prop} {l : Sl} {w : World} (h : V_s_prSorted Q l w) : Calls Tryz.prog F.s_prSorted #[l.v] w (Ret [.at .sl] Q) :=
  mkC (hint := hint) (ann := annOf [(3, ⟨[(11, .int .i64)], [4, 5, 6, 12, 13, 14, 15, 16, 17, 18, 19, 20, 21, 22, 23, 24, 25, 26, 27, 28, 29, 30, 31, 32, 33, 34, 35, 36, 37, 38, 39, 40, 41, 42, 43, 44, 45, 46, 47, 48]⟩), (6, ⟨[(5, .int .i64)], [6, 15, 16, 17, 18, 19, 20, 21, 22, 23, 24, 25, 26, 27, 28, 29, 30, 31, 32, 33, 34, 35, 36, 37, 38, 39, 40, 41, 42, 43, 44, 45, 46, 47]⟩)]) (args := [l.v]) (rs := [.at .sl]) Tryz.func128 (by kernel_rfl) (by kernel_rfl) h

def V_s_prOrder (Q : Int → World → Prop) (a : Sl) (b : Sl) (w : World) : Prop :=
  ∃ (I2 : Int → World → Prop) (m2 : Int → World → Nat), I2 0 w ∧ ∀ (x9 : Int) w1, I2 x9 w1 → ∀ _ _ _ _ _ _ _ _ _ _ _ _ _ _ _ _ _ _ _ _ _ : Value,
  cond (decide ((x9 : Int) < a.len)) (
  IX a x9 1 fun (px12 : Addr) =>
  LD [.int .i64] px12 w1 fun (x13 : Int) =>
  IX b x9 1 fun (px17 : Addr) =>
  LD [.int .i64] px17 w1 fun (x18 : Int) =>
  cond ((x13 : Int) != x18) (
  IX b x9 1 fun (px23 : Addr) =>
  LD [.int .i64] px23 w1 fun (x24 : Int) =>
  Calls Tryz.prog F.s_l1Sign #[.int .i64 (IntKind.i64.wrap (x13 - x24))] w1 (Ret [.at (.int .i64)] fun (x26 : Int) w2 =>
  Q x26 w2)) (
  I2 (IntKind.i64.wrap (x9 + 1)) w1 ∧ m2 (IntKind.i64.wrap (x9 + 1)) w1 < m2 x9 w1)) (
  Q 0 w1)

theorem C_s_prOrder {Q : Int → World → Prop} {a : Sl} {b : Sl} {w : World} (h : V_s_prOrder Q a b w) : Calls Tryz.prog F.s_prOrder #[a.v, b.v] w (Ret [.at (.int .i64)] Q) :=
  mkC (hint := hint) (ann := annOf [(2, ⟨[(9, .int .i64)], [4, 5, 6, 10, 11, 12, 13, 14, 15, 16, 17, 18, 19, 20, 21, 22, 23, 24, 25, 26, 27]⟩)]) (args := [a.v, b.v]) (rs := [.at (.int .i64)]) Tryz.func129 (by kernel_rfl) (by kernel_rfl) h

def V_s_maLine (Q : ByteArray → World → Prop) (word : ByteArray) (l : Sl) (w : World) : Prop :=
  ∃ (I2 : ByteArray → Int → World → Prop) (m2 : ByteArray → Int → World → Nat), I2 word 0 w ∧ ∀ (word_2 : ByteArray) (x9 : Int) w1, I2 word_2 x9 w1 → ∀ _ _ _ _ _ _ _ _ _ _ _ _ _ _ : Value,
  cond (decide ((x9 : Int) < l.len)) (
  IX l x9 1 fun (px11 : Addr) =>
  LD [.int .i64] px11 w1 fun (x12 : Int) =>
  cond (decide ((x12 : Int) < 0)) (
  word_2.size + (ByteArray.mk #[32, 42]).size ≤ 9223372036854775807 ∧ (
  I2 (word_2 ++ (ByteArray.mk #[32, 42])) (IntKind.i64.wrap (x9 + 1)) w1 ∧ m2 (word_2 ++ (ByteArray.mk #[32, 42])) (IntKind.i64.wrap (x9 + 1)) w1 < m2 word_2 x9 w1)) (
  Calls Tryz.prog F.s_l1Num #[.int .i64 x12] w1 (Ret [.at .str] fun (x19 : ByteArray) w2 =>
  (ByteArray.mk #[32]).size + x19.size ≤ 9223372036854775807 ∧ (
  word_2.size + ((ByteArray.mk #[32]) ++ x19).size ≤ 9223372036854775807 ∧ (
  I2 (word_2 ++ ((ByteArray.mk #[32]) ++ x19)) (IntKind.i64.wrap (x9 + 1)) w2 ∧ m2 (word_2 ++ ((ByteArray.mk #[32]) ++ x19)) (IntKind.i64.wrap (x9 + 1)) w2 < m2 word_2 x9 w1))))) (
  Q word_2 w1)

theorem C_s_maLine {Q : ByteArray → World → Prop} {word : ByteArray} {l : Sl} {w : World} (h : V_s_maLine Q word l w) : Calls Tryz.prog F.s_maLine #[.string word, l.v] w (Ret [.at .str] Q) :=
  mkC (hint := hint) (ann := annOf [(2, ⟨[(0, .str), (9, .int .i64)], [6, 10, 11, 12, 13, 14, 15, 16, 17, 18, 19, 20, 21, 22]⟩)]) (args := [.string word, l.v]) (rs := [.at .str]) Tryz.func130 (by kernel_rfl) (by kernel_rfl) h

def V_i_readNumber (Q : Int → Bool → World → Prop) (s : ByteArray) (w : World) : Prop :=
  cond (decide ((s.size : Int) < 1)) (
  Q 0 false w) (
  cond (decide ((s.size : Int) > 6)) (
  Q 0 false w) (
  Calls Tryz.prog F.strconv_Atoi #[.string s] w (Ret [.at (.int .i64), .at .val] fun (x16_0_2 : Int) (x16_1_2 : Value) w3 =>
  AEQ Tryz.prog (do eqGuard .neq T.t_error (.tmp 19) (.const (.nilIface)) (x16_1_2) (.nilIface); binOp .neq T.t_error (x16_1_2) (.nilIface)) fun (x20_2 : Bool) =>
  cond x20_2 (
  Q 0 false w3) (
  cond (decide ((x16_0_2 : Int) < 0)) (
  Q 0 false w3) (
  Calls Tryz.prog F.strconv_Itoa #[.int .i64 x16_0_2] w3 (Ret [.at .str] fun (x27_2 : ByteArray) w4 =>
  cond (!(x27_2.toList == s.toList)) (
  Q 0 false w4) (
  Q x16_0_2 true w4)))))))

theorem C_i_readNumber {Q : Int → Bool → World → Prop} {s : ByteArray} {w : World} (h : V_i_readNumber Q s w) : Calls Tryz.prog F.i_readNumber #[.string s] w (Ret [.at (.int .i64), .at .bool] Q) :=
  mkC (hint := hint) (ann := annOf []) (args := [.string s]) (rs := [.at (.int .i64), .at .bool]) Tryz.func133 (by kernel_rfl) (by kernel_rfl) h

def V_i_RootedProblem_hasLabels (Q : Bool → World → Prop) (p_0 : Int) (p_1 : Int) (p_2 : Sl) (labels : Sl) (w : World) : Prop :=
  NEW T.t_i_RootedProblem #[.int .i64 p_0, .int .i64 p_1, p_2.v] w fun (p_p : Addr) w1 =>
  LD [.int .i64] (p_p.add 0) w1 fun (x7 : Int) =>
  Calls Tryz.prog F.i_allWithin #[labels.v, .int .i64 0, .int .i64 (IntKind.i64.wrap (x7 - 1))] w1 (Ret [.at .bool] fun (x9 : Bool) w2 =>
  Q x9 w2)

theorem C_i_RootedProblem_hasLabels {Q : Bool → World → Prop} {p_0 : Int} {p_1 : Int} {p_2 : Sl} {labels : Sl} {w : World} (h : V_i_RootedProblem_hasLabels Q p_0 p_1 p_2 labels w) : Calls Tryz.prog F.i_RootedProblem_hasLabels #[.agg #[.int .i64 p_0, .int .i64 p_1, p_2.v], labels.v] w (Ret [.at .bool] Q) :=
  mkC (hint := hint) (ann := annOf []) (args := [.agg #[.int .i64 p_0, .int .i64 p_1, p_2.v], labels.v]) (rs := [.at .bool]) Tryz.func134 (by kernel_rfl) (by kernel_rfl) h

def V_slices_IsSorted_sl_int_int (Q : Bool → World → Prop) (x : Sl) (w : World) : Prop :=
  ∃ (I2 : Int → World → Prop) (m2 : Int → World → Nat), I2 (IntKind.i64.wrap (x.len - 1)) w ∧ ∀ (i : Int) w1, I2 i w1 → ∀ _ _ _ _ _ _ _ _ _ _ _ _ _ _ _ : Value,
  cond (decide ((i : Int) > 0)) (
  IX x i 1 fun (px13 : Addr) =>
  LD [.int .i64] px13 w1 fun (x14 : Int) =>
  IX x (IntKind.i64.wrap (i - 1)) 1 fun (px18 : Addr) =>
  LD [.int .i64] px18 w1 fun (x19 : Int) =>
  QCALL Tryz.prog F.cmp_Less_int #[.int .i64 x14, .int .i64 x19] w1 [.at .bool] fun (x20 : Bool) =>
  ∀ w2, Ext w1 w2 →
  cond x20 (
  Q false w2) (
  I2 (IntKind.i64.wrap (i - 1)) w2 ∧ m2 (IntKind.i64.wrap (i - 1)) w2 < m2 i w1)) (
  Q true w1)

theorem C_slices_IsSorted_sl_int_int {Q : Bool → World → Prop} {x : Sl} {w : World} (h : V_slices_IsSorted_sl_int_int Q x w) : Calls Tryz.prog F.slices_IsSorted_sl_int_int #[x.v] w (Ret [.at .bool] Q) :=
  mkC (hint := hint) (ann := annOf [(2, ⟨[(3, .int .i64)], [2, 7, 8, 9, 10, 11, 12, 13, 14, 15, 16, 17, 18, 19, 20]⟩)]) (args := [x.v]) (rs := [.at .bool]) Tryz.func135 (by kernel_rfl) (by kernel_rfl) h

def V_i_allWithin (Q : Bool → World → Prop) (list : Sl) (low : Int) (high : Int) (w : World) : Prop :=
  NEW T.t_int #[.int .i64 low] w fun (p_low : Addr) w1 =>
  NEW T.t_int #[.int .i64 high] w1 fun (p_high : Addr) w2 =>
  Calls Tryz.prog F.slices_ContainsFunc_sl_int_int #[list.v, .func (.func F.i_allWithin_1) #[] #[.pointer (some p_low), .pointer (some p_high)]] w2 (Ret [.at .bool] fun (x9 : Bool) w3 =>
  Q (!x9) w3)

theorem C_i_allWithin {Q : Bool → World → Prop} {list : Sl} {low : Int} {high : Int} {w : World} (h : V_i_allWithin Q list low high w) : Calls Tryz.prog F.i_allWithin #[list.v, .int .i64 low, .int .i64 high] w (Ret [.at .bool] Q) :=
  mkC (hint := hint) (ann := annOf []) (args := [list.v, .int .i64 low, .int .i64 high]) (rs := [.at .bool]) Tryz.func143 (by kernel_rfl) (by kernel_rfl) h

def V_s_l1Num (Q : ByteArray → World → Prop) (n : Int) (w : World) : Prop :=
  cond (decide ((n : Int) < 10)) (
  RUN Tryz.prog (.at .sl) (Instr.buildSlice T.t_sl_uint8 1 #[(0, .int .u8 (IntKind.u8.wrap (IntKind.i64.wrap (48 + n))))]) w fun (x8 : Sl) w1 =>
  RUN Tryz.prog (.at .str) (convert T.t_sl_uint8 T.t_string (x8.v)) w1 fun (x9 : ByteArray) w2 =>
  Q x9 w2) (
  ∀ w3, Ext w w3 → w3.heap = w.heap →
  (10 : Int) ≠ 0 ∧ (
  (10 : Int) ≠ 0 ∧ (
  (
  Calls Tryz.prog F.s_l1Num #[.int .i64 (IntKind.i64.wrap (Int.tdiv n 10))] w3 (Ret [.at .str] fun (x12 : ByteArray) w4 =>
  Ext w3 w4 ∧ (
  Ext w4 w4 ∧ (
  RUN Tryz.prog (.at .sl) (Instr.buildSlice T.t_sl_uint8 1 #[(0, .int .u8 (IntKind.u8.wrap (IntKind.i64.wrap (48 + (Int.tmod n 10)))))]) w4 fun (x17 : Sl) w5 =>
  Ext w4 w5 ∧ (
  RUN Tryz.prog (.at .str) (convert T.t_sl_uint8 T.t_string (x17.v)) w5 fun (x18 : ByteArray) w6 =>
  Ext w5 w6 ∧ (
  x12.size + x18.size ≤ 9223372036854775807 ∧ (
  Ext w6 w6 ∧ (
  Ext w6 w6 ∧ (
  Q (x12 ++ x18) w6))))))))) ∧ (
  Ext w3 w3 ∧ (
  (
  Calls Tryz.prog F.s_l1Num #[.int .i64 (IntKind.i64.wrap (Int.tdiv n 10))] w3 (Ret [.at .str] fun (x12_2 : ByteArray) w7 =>
  Ext w3 w7 ∧ (
  RUN Tryz.prog (.at .sl) (Instr.buildSlice T.t_sl_uint8 1 #[(0, .int .u8 (IntKind.u8.wrap (IntKind.i64.wrap (48 + (Int.tmod n 10)))))]) w7 fun (x17_2 : Sl) w8 =>
  Ext w7 w8 ∧ (
  RUN Tryz.prog (.at .str) (convert T.t_sl_uint8 T.t_string (x17_2.v)) w8 fun (x18_2 : ByteArray) w9 =>
  Ext w8 w9 ∧ (
  x12_2.size + x18_2.size ≤ 9223372036854775807 ∧ (
  Ext w9 w9 ∧ (
  Ext w9 w9 ∧ (
  Q (x12_2 ++ x18_2) w9)))))))) ∧ (
  RUN Tryz.prog (.at .sl) (Instr.buildSlice T.t_sl_uint8 1 #[(0, .int .u8 (IntKind.u8.wrap (IntKind.i64.wrap (48 + (Int.tmod n 10)))))]) w3 fun (x17_3 : Sl) w10 =>
  Ext w3 w10 ∧ (
  (
  Calls Tryz.prog F.s_l1Num #[.int .i64 (IntKind.i64.wrap (Int.tdiv n 10))] w10 (Ret [.at .str] fun (x12_3 : ByteArray) w11 =>
  Ext w10 w11 ∧ (
  RUN Tryz.prog (.at .str) (convert T.t_sl_uint8 T.t_string (x17_3.v)) w11 fun (x18_3 : ByteArray) w12 =>
  Ext w11 w12 ∧ (
  x12_3.size + x18_3.size ≤ 9223372036854775807 ∧ (
  Ext w12 w12 ∧ (
  Ext w12 w12 ∧ (
  Q (x12_3 ++ x18_3) w12))))))) ∧ (
  RUN Tryz.prog (.at .str) (convert T.t_sl_uint8 T.t_string (x17_3.v)) w10 fun (x18_4 : ByteArray) w13 =>
  Ext w10 w13 ∧ (
  Calls Tryz.prog F.s_l1Num #[.int .i64 (IntKind.i64.wrap (Int.tdiv n 10))] w13 (Ret [.at .str] fun (x12_4 : ByteArray) w14 =>
  Ext w13 w14 ∧ (
  x12_4.size + x18_4.size ≤ 9223372036854775807 ∧ (
  Ext w14 w14 ∧ (
  Ext w14 w14 ∧ (
  Q (x12_4 ++ x18_4) w14))))))))))))))

theorem C_s_l1Num {Q : ByteArray → World → Prop} {n : Int} {w : World} (h : V_s_l1Num Q n w) : Calls Tryz.prog F.s_l1Num #[.int .i64 n] w (Ret [.at .str] Q) :=
  mkC (hint := hint) (ann := annOf []) (args := [.int .i64 n]) (rs := [.at .str]) Tryz.func160 (by kernel_rfl) (by kernel_rfl) h

def V_s_l1Sign (Q : Int → World → Prop) (n : Int) (w : World) : Prop :=
  cond (decide ((n : Int) > 0)) (
  Q 1 w) (
  cond (decide ((n : Int) < 0)) (
  Q (-1) w) (
  Q 0 w))

theorem C_s_l1Sign {Q : Int → World → Prop} {n : Int} {w : World} (h : V_s_l1Sign Q n w) : Calls Tryz.prog F.s_l1Sign #[.int .i64 n] w (Ret [.at (.int .i64)] Q) :=
  mkC (hint := hint) (ann := annOf []) (args := [.int .i64 n]) (rs := [.at (.int .i64)]) Tryz.func166 (by kernel_rfl) (by kernel_rfl) h

end Go.Proofs.YtnhidomgpbohiaaGreatDoor
end

section
/- What each function's code computes to. Printed by a program. -/
namespace Go.Proofs.YtnhidomgpbohiaaGreatDoor
open Go.GX Go.RowKit
set_option linter.unusedVariables false
set_option maxRecDepth 100000

def V_slices_ContainsFunc_sl_int_int (Q : Bool → World → Prop) (s : Sl) (f : Value) (w : World) : Prop :=
  Calls Tryz.prog F.slices_IndexFunc_sl_int_int #[s.v, f] w (Ret [.at (.int .i64)] fun (x7 : Int) w1 =>
  Q (decide ((x7 : Int) ≥ 0)) w1)

theorem C_slices_ContainsFunc_sl_int_int {Q : Bool → World → Prop} {s : Sl} {f : Value} {w : World} (h : V_slices_ContainsFunc_sl_int_int Q s f w) : Calls Tryz.prog F.slices_ContainsFunc_sl_int_int #[s.v, f] w (Ret [.at .bool] Q) :=
  mkC (hint := hint) (ann := annOf []) (args := [s.v, f]) (rs := [.at .bool]) Tryz.func179 (by kernel_rfl) (by kernel_rfl) h

def V_i_allWithin_1 (Q : Bool → World → Prop) (n : Int) (cap0 : Addr) (cap1 : Addr) (w : World) : Prop :=
  LD [.int .i64] cap0 w fun (x6 : Int) =>
  LD [.int .i64] cap1 w fun (x7 : Int) =>
  Calls Tryz.prog F.i_within #[.int .i64 n, .int .i64 x6, .int .i64 x7] w (Ret [.at .bool] fun (x8 : Bool) w1 =>
  Q (!x8) w1)

theorem C_i_allWithin_1 {Q : Bool → World → Prop} {n : Int} {cap0 : Addr} {cap1 : Addr} {w : World} (h : V_i_allWithin_1 Q n cap0 cap1 w) : Calls Tryz.prog F.i_allWithin_1 #[.int .i64 n, .pointer (some cap0), .pointer (some cap1)] w (Ret [.at .bool] Q) :=
  mkC (hint := hint) (ann := annOf []) (args := [.int .i64 n, .pointer (some cap0), .pointer (some cap1)]) (rs := [.at .bool]) Tryz.func180 (by kernel_rfl) (by kernel_rfl) h

end Go.Proofs.YtnhidomgpbohiaaGreatDoor
end

section
/- What each function's code computes to. Printed by a program. -/
namespace Go.Proofs.YtnhidomgpbohiaaGreatDoor
open Go.GX Go.RowKit
set_option linter.unusedVariables false
set_option maxRecDepth 100000

end Go.Proofs.YtnhidomgpbohiaaGreatDoor
end

section
/- What the code of the comparison of integers computes to. Printed by a program. -/
namespace Go.Proofs.YtnhidomgpbohiaaGreatDoor
open Go.GX Go.RowKit
set_option linter.unusedVariables false
set_option maxRecDepth 100000

def V_cmp_Compare_int (Q : Int → World → Prop) (x : Int) (y : Int) (w : World) : Prop :=
  Calls Tryz.prog F.cmp_isNaN_int #[.int .i64 x] w (Ret [.at .bool] fun (x8 : Bool) w1 =>
  Calls Tryz.prog F.cmp_isNaN_int #[.int .i64 y] w1 (Ret [.at .bool] fun (x10 : Bool) w2 =>
  cond x8 (
  cond x10 (
  Q 0 w2) (
  Q (-1) w2)) (
  cond x10 (
  Q 1 w2) (
  cond (decide ((x : Int) < y)) (
  Q (-1) w2) (
  cond (decide ((x : Int) > y)) (
  Q 1 w2) (
  Q 0 w2))))))

theorem C_cmp_Compare_int {Q : Int → World → Prop} {x : Int} {y : Int} {w : World} (h : V_cmp_Compare_int Q x y w) : Calls Tryz.prog F.cmp_Compare_int #[.int .i64 x, .int .i64 y] w (Ret [.at (.int .i64)] Q) :=
  mkC (hint := hint) (ann := annOf []) (args := [.int .i64 x, .int .i64 y]) (rs := [.at (.int .i64)]) Tryz.func144 (by kernel_rfl) (by kernel_rfl) h

def V_cmp_Less_int (Q : Bool → World → Prop) (x : Int) (y : Int) (w : World) : Prop :=
  Calls Tryz.prog F.cmp_isNaN_int #[.int .i64 x] w (Ret [.at .bool] fun (x6 : Bool) w1 =>
  cond x6 (
  Calls Tryz.prog F.cmp_isNaN_int #[.int .i64 y] w1 (Ret [.at .bool] fun (x9 : Bool) w2 =>
  cond (!x9) (
  Q true w2) (
  Q (decide ((x : Int) < y)) w2))) (
  Q (decide ((x : Int) < y)) w1))

theorem C_cmp_Less_int {Q : Bool → World → Prop} {x : Int} {y : Int} {w : World} (h : V_cmp_Less_int Q x y w) : Calls Tryz.prog F.cmp_Less_int #[.int .i64 x, .int .i64 y] w (Ret [.at .bool] Q) :=
  mkC (hint := hint) (ann := annOf []) (args := [.int .i64 x, .int .i64 y]) (rs := [.at .bool]) Tryz.func172 (by kernel_rfl) (by kernel_rfl) h

def V_cmp_isNaN_int (Q : Bool → World → Prop) (x : Int) (w : World) : Prop :=
  Q ((x : Int) != x) w

theorem C_cmp_isNaN_int {Q : Bool → World → Prop} {x : Int} {w : World} (h : V_cmp_isNaN_int Q x w) : Calls Tryz.prog F.cmp_isNaN_int #[.int .i64 x] w (Ret [.at .bool] Q) :=
  mkC (hint := hint) (ann := annOf []) (args := [.int .i64 x]) (rs := [.at .bool]) Tryz.func181 (by kernel_rfl) (by kernel_rfl) h

end Go.Proofs.YtnhidomgpbohiaaGreatDoor
end

section
/- What the code of the stable sort computes to. Printed by a program. -/
namespace Go.Proofs.YtnhidomgpbohiaaGreatDoor
open Go.GX Go.RowKit
set_option linter.unusedVariables false
set_option maxRecDepth 100000

end Go.Proofs.YtnhidomgpbohiaaGreatDoor
end

section
/- All functions' propositions of this seat. -/
end

section
/- Contracts of the small functions. -/
namespace Go.Proofs.YtnhidomgpbohiaaGreatDoor
open Go.GX Go.RowKit

def inR (n lo hi : Int) : Bool := decide (lo ≤ n) && decide (n ≤ hi)

theorem inR_true {n lo hi : Int} (h : inR n lo hi = true) : lo ≤ n ∧ n ≤ hi := by simpa [inR] using h
theorem inR_false {n lo hi : Int} (h : inR n lo hi = false) : ¬ (lo ≤ n ∧ n ≤ hi) := by
  intro ⟨h1, h2⟩; simp [inR, h1, h2] at h

theorem within_ok (n lo hi : Int) (w : World) : Calls Tryz.prog F.i_within #[.int .i64 n, .int .i64 lo, .int .i64 hi] w (Ret [.at .bool] fun (b : Bool) w' => b = inR n lo hi ∧ w = w') := by
  refine C_i_within ?_
  unfold V_i_within inR
  by_cases h : lo ≤ n <;> simp [h]

theorem l1In_ok (n lo hi : Int) (w : World) : Calls Tryz.prog F.s_l1In #[.int .i64 n, .int .i64 lo, .int .i64 hi] w (Ret [.at .bool] fun (b : Bool) w' => b = inR n lo hi ∧ w = w') := by
  refine C_s_l1In ?_
  unfold V_s_l1In inR
  by_cases h : lo ≤ n <;> simp [h]

end Go.Proofs.YtnhidomgpbohiaaGreatDoor
end

section
/- Networks: how they lie in memory, and the contracts of the functions that copy, weigh and compare them. -/
namespace Go.Proofs.YtnhidomgpbohiaaGreatDoor
open Go.GX Go.RowKit
set_option maxRecDepth 100000

structure Net where
  ends : List (List (Int × Int))
  ids : List Int
  inputs : List Int

/-- Three slices read as a network. -/
def RNet (w : World) (a b c : Sl) (n : Net) : Prop := R w a n.ends ∧ R w b n.ids ∧ R w c n.inputs

theorem RNet.ext {w w' : World} {a b c : Sl} {n : Net} (h : RNet w a b c n) (hE : Ext w w') : RNet w' a b c n := ⟨h.1.ext hE, h.2.1.ext hE, h.2.2.ext hE⟩

theorem slt_int : SlT Tryz.prog T.t_sl_int T.t_int 1 8 (.int .i64 0) := ⟨by kernel_rfl, by kernel_rfl, rfl, by decide⟩

theorem flat_ok {w : World} {s : Sl} {l : List Int} (h : R w s l) : ∀ x ∈ l, I64 x := fun x hx => by
  obtain ⟨i, hi, rfl⟩ := List.mem_iff_getElem.1 hx
  obtain ⟨_, _, _, _, ⟨_, h1⟩, _⟩ := h.2.2 i l[i] (by simp [hi])
  exact h1

theorem eqIntS_ok {w : World} {a b : Sl} {l m : List Int} (ha : R w a l) (hb : R w b m) :
    Calls Tryz.prog F.l_eqIntS #[a.v, b.v] w (Ret [.at .bool] fun (x : Bool) w' => x = decide (l = m) ∧ Ext w w') := by
  refine C_l_eqIntS ?_
  unfold V_l_eqIntS
  rw [ha.len, hb.len]
  refine cond_ne (fun hne => ⟨?_, Ext.refl _⟩) (fun he => ?_)
  · rw [decide_eq_false]; intro h; subst h; exact hne rfl
  · have hl : l.length = m.length := by omega
    refine ⟨IN l.length fun i w' => Ext w w' ∧ l.take i = m.take i, MN l.length, IN_zero ⟨Ext.refl _, by simp⟩, ?_⟩
    rintro x w1 ⟨i, rfl, hi, hE, ht⟩
    intros
    refine cond_dec (fun hlt => ?_) (fun hge => ⟨?_, hE⟩)
    · have h1 : i < l.length := by omega
      have h2 : i < m.length := by omega
      refine (ha.ext hE).ixI h1 fun p _ hc => LD_int hc ?_
      refine (hb.ext hE).ixI h2 fun p _ hc => LD_int hc ?_
      intro w2 hE2
      refine cond_ne (fun hne => ⟨?_, hE.trans hE2⟩) (fun heq => ?_)
      · rw [decide_eq_false]; intro h; subst h; exact hne rfl
      · exact IN_next ha.le h1 ⟨hE.trans hE2, by rw [List.take_succ_eq_append_getElem h1, List.take_succ_eq_append_getElem h2, ht, heq]⟩
    · have h3 : i = l.length := by omega
      subst h3
      rw [decide_eq_true]
      have h4 : m.take l.length = m := List.take_of_length_le (by omega)
      rw [h4, List.take_length] at ht
      exact ht



/-- A network that fits the law's bound. -/
def Small (n : Net) : Prop := n.ends.length ≤ 1048576 ∧ (∀ r ∈ n.ends, r.length ≤ 1048576) ∧ n.ids.length ≤ 1048576 ∧ n.inputs.length ≤ 1048576


end Go.Proofs.YtnhidomgpbohiaaGreatDoor
end

section
/- The contract of slices.Sort at []int (the kit's shelf, laid at this program by the kit's own tools, in plain words): for every slice the cells are then in order. -/
namespace Go.Proofs.YtnhidomgpbohiaaGreatDoor
open Go.Shelf
end Go.Proofs.YtnhidomgpbohiaaGreatDoor
end

section
/- Contracts of the functions on lists of numbers: sorting, copying, searching, ranges. -/
namespace Go.Proofs.YtnhidomgpbohiaaGreatDoor
open Go.GX Go.RowKit
set_option maxRecDepth 100000

/-! ### slices.Sort, slices.Clone -/

def sortI (l : List Int) : List Int := l.mergeSort fun x y => decide (x ≤ y)

/-! ### Ranges -/

/-- Strictly increasing, step by step. -/
def Incr (l : List Int) : Prop := ∀ i, (h : i + 1 < l.length) → l[i] < l[i + 1]

def AllIn (l : List Int) (lo hi : Int) : Prop := ∀ x ∈ l, lo ≤ x ∧ x ≤ hi

theorem allIn_take_succ {l : List Int} {lo hi : Int} {i : Nat} (hi' : i < l.length) (h : AllIn (l.take i) lo hi) (hx : lo ≤ l[i] ∧ l[i] ≤ hi) : AllIn (l.take (i + 1)) lo hi := fun x hm => by
  rw [List.take_succ_eq_append_getElem hi'] at hm
  rcases List.mem_append.1 hm with h1 | h1
  · exact h x h1
  · rw [List.mem_singleton.1 h1]; exact hx

theorem l1All_ok {w : World} {s : Sl} {l : List Int} (h : R w s l) (lo hi : Int) :
    Calls Tryz.prog F.s_l1All #[s.v, .int .i64 lo, .int .i64 hi] w (Ret [.at .bool] fun (b : Bool) w' => (b = true ↔ AllIn l lo hi) ∧ w = w') := by
  refine C_s_l1All ?_
  unfold V_s_l1All
  rw [h.len]
  refine ⟨IN l.length fun i w' => w = w' ∧ AllIn (l.take i) lo hi, MN l.length, IN_zero ⟨rfl, fun x hx => by simp at hx⟩, ?_⟩
  rintro x _ ⟨i, rfl, hi', rfl, ha⟩
  intros
  refine cond_dec (fun hlt => ?_) (fun hge => ⟨?_, rfl⟩)
  · have hlt' : i < l.length := by omega
    refine h.ixI hlt' fun p _ hc => LD_int hc ?_
    refine call (l1In_ok _ _ _ _) ?_
    rintro b _ ⟨hb, rfl⟩
    refine cond_not (fun hf => ⟨?_, rfl⟩) (fun ht => IN_next h.le hlt' ⟨rfl, allIn_take_succ hlt' ha (inR_true (hb ▸ ht))⟩)
    simp only [Bool.false_eq_true, false_iff]
    intro hall
    exact inR_false (hb ▸ hf) (hall _ (List.getElem_mem hlt'))
  · have : i = l.length := by omega
    subst this
    simpa using ha

/-- What both sides' test of increasing lists comes to. -/
def Rising (l : List Int) (lo hi : Int) : Prop := AllIn l lo hi ∧ Incr l

/-! ### Searching with a function -/

/-- A function value that answers p for each element of a list, whatever the world that goes on from this one. -/
def Answers (w : World) (f : Value) (l : List Int) (p : Int → Bool) : Prop :=
  ∀ x ∈ l, ∀ w', Ext w w' → CALLV Tryz.prog f #[.int .i64 x] w' (Ret [.at .bool] fun (b : Bool) w'' => b = p x ∧ Ext w' w'')

theorem callv {P : Program} {f : Value} {args : Array Value} {w : World} {rs : List Sh} {Q Q' : Cur (World → Prop) (atsR rs)} (h : CALLV P f args w (Ret rs Q)) (hk : CurLe (atsR rs) Q Q') : CALLV P f args w (Ret rs Q') := by
  obtain ⟨g, caps, h1, h2, h3⟩ := h
  exact ⟨g, caps, h1, h2, call h3 hk⟩

theorem indexFuncI_ok {w : World} {s : Sl} {l : List Int} (h : R w s l) {f : Value} {p : Int → Bool} (hf : Answers w f l p) :
    Calls Tryz.prog F.slices_IndexFunc_sl_int_int #[s.v, f] w (Ret [.at (.int .i64)] fun (i : Int) w' => (match l.findIdx? p with | some k => i = k | none => i = -1) ∧ Ext w w') := by
  refine C_slices_IndexFunc_sl_int_int ?_
  unfold V_slices_IndexFunc_sl_int_int
  rw [h.len]
  refine ⟨IN l.length fun i w' => Ext w w' ∧ ∀ x ∈ l.take i, p x = false, MN l.length, IN_zero ⟨Ext.refl _, by simp⟩, ?_⟩
  rintro x w1 ⟨i, rfl, hi', hE, ha⟩
  intros
  refine cond_dec (fun hlt => ?_) (fun hge => ⟨?_, hE⟩)
  · have hlt' : i < l.length := by omega
    refine (h.ext hE).ixI hlt' fun q _ hc => LD_int hc ?_
    refine callv (hf _ (List.getElem_mem hlt') w1 hE) ?_
    rintro b w2 ⟨rfl, hE2⟩
    refine cond_b (fun ht => ⟨?_, hE.trans hE2⟩) (fun hf => ?_)
    · have : l.findIdx? p = some i := by
        rw [List.findIdx?_eq_some_iff_getElem]
        refine ⟨hlt', ht, fun j hj => ?_⟩
        have := ha l[j] (by rw [List.mem_take_iff_getElem]; exact ⟨j, by omega, rfl⟩)
        simp [this]
      rw [this]
    · refine IN_next h.le hlt' ⟨hE.trans hE2, fun y hy => ?_⟩
      rw [List.take_succ_eq_append_getElem hlt'] at hy
      rcases List.mem_append.1 hy with h1 | h1
      · exact ha y h1
      · rw [List.mem_singleton.1 h1]; exact hf
  · have : i = l.length := by omega
    subst this
    have : l.findIdx? p = none := by
      rw [List.findIdx?_eq_none_iff]
      intro y hy
      exact ha y (by simpa using hy)
    rw [this]

theorem containsFuncI_ok {w : World} {s : Sl} {l : List Int} (h : R w s l) {f : Value} {p : Int → Bool} (hf : Answers w f l p) :
    Calls Tryz.prog F.slices_ContainsFunc_sl_int_int #[s.v, f] w (Ret [.at .bool] fun (b : Bool) w' => b = l.any p ∧ Ext w w') := by
  refine C_slices_ContainsFunc_sl_int_int ?_
  unfold V_slices_ContainsFunc_sl_int_int
  refine call (indexFuncI_ok h hf) ?_
  rintro i w1 ⟨hi, hE⟩
  refine ⟨?_, hE⟩
  cases hf : l.findIdx? p with
  | none =>
    rw [hf] at hi
    simp only at hi
    subst hi
    have h1 := List.findIdx?_eq_none_iff.1 hf
    have : l.any p = false := by
      rw [List.any_eq_false]; intro x hx; simp [h1 x hx]
    rw [this]; rfl
  | some k =>
    rw [hf] at hi
    simp only at hi
    subst hi
    obtain ⟨hk, hp, _⟩ := List.findIdx?_eq_some_iff_getElem.1 hf
    have : l.any p = true := List.any_eq_true.2 ⟨l[k], List.getElem_mem hk, hp⟩
    rw [this]
    simp

theorem allWithin_ok {w : World} {s : Sl} {l : List Int} (h : R w s l) (lo hi : Int) :
    Calls Tryz.prog F.i_allWithin #[s.v, .int .i64 lo, .int .i64 hi] w (Ret [.at .bool] fun (b : Bool) w' => (b = true ↔ AllIn l lo hi) ∧ Ext w w') := by
  refine C_i_allWithin ?_
  unfold V_i_allWithin
  refine NEW_intro fun p1 w1 hp1 hs1 hE1 hb1 => ?_
  refine NEW_intro fun p2 w2 hp2 hs2 hE2 hb2 => ?_
  have hb1' := hb1.ext hE2
  have hE := hE1.trans hE2
  refine call (containsFuncI_ok (p := fun x => !inR x lo hi) (h.ext hE) ?_) ?_
  · intro x hx w' hw'
    refine CALLV_mk (by kernel_rfl) (C_i_allWithin_1 ?_)
    unfold V_i_allWithin_1
    refine LD_bi (hb1'.ext hw') (LD_bi (hb2.ext hw') ?_)
    refine call (within_ok _ _ _ _) ?_
    rintro b _ ⟨rfl, rfl⟩
    exact ⟨rfl, Ext.refl _⟩
  · rintro b w3 ⟨rfl, hE3⟩
    refine ⟨?_, hE.trans hE3⟩
    simp [AllIn, inR]

/-! ### Identifiers, inputs -/

def IdsOk (ids : List Int) (k : Nat) : Prop := AllIn ids 1 999999 ∧ ids.Nodup ∧ (ids.length = 0 ∨ ids.length = k)

theorem sortI_perm (l : List Int) : (sortI l).Perm l := List.mergeSort_perm _ _

theorem sortI_sorted (l : List Int) : (sortI l).Pairwise (· ≤ ·) := by
  have := List.pairwise_mergeSort (le := fun x y : Int => decide (x ≤ y)) (fun a b c h1 h2 => by simp at *; omega) (fun a b => by simp; omega) l
  exact this.imp (by intro a b h; simpa using h)

end Go.Proofs.YtnhidomgpbohiaaGreatDoor
end

section
/- Copying between slices, digits of numbers. No program is named here. -/
namespace Go.GX
open Go.RowKit

/-! ### Digits -/

/-! ### Cutting -/

theorem SLC_from' {s : Sl} {lo : Nat} {sz : Nat} (hle : s.len ≤ s.cap) (hlo : lo ≤ s.len) {K : Sl → Prop}
    (hk : ∀ d : Sl, d.len = s.len - lo → d.cap = s.cap - lo → (lo < s.len → d.a = s.a.map (·.add (lo * sz))) → K d) : SLC s (some (lo : Int)) none sz K := by
  refine ⟨by simp, by simp; omega, by simp; omega, hk _ ?_ ?_ ?_⟩
  · simp
  · simp
  · intro hlt
    simp
    intro h; omega

/-! ### copy -/

/-! ### clear, and the first part of a slice of the call's own -/

theorem OwnL.front {α : Type} [Flat α] {w : World} {base : Nat} {e : TypeId} {s : Sl} {l : List α} (h : OwnL w base e s l) {k : Nat} (hk : k ≤ l.length) : OwnL w base e ⟨s.a, k, s.cap⟩ (l.take k) := by
  have hlen : ∀ q : List α, (q.flatMap Flat.cells).length = q.length * Rep.sz α := by
    intro q
    induction q with
    | nil => simp
    | cons x r ih => rw [List.flatMap_cons, List.length_append, ih, Flat.size x, List.length_cons, Nat.succ_mul, Nat.add_comm]
  refine ⟨by simp; omega, ?_, ?_⟩
  · rw [hlen, List.length_take, Nat.min_eq_left hk]
  · rcases h.2.2 with ⟨hv, h0⟩ | ⟨g, cap, cur, hv, hb, hg, hle, hmx, hsz, htake⟩
    · simp [Sl.v] at hv
      have := h.1
      refine .inl ⟨?_, by simp only; omega⟩
      simp [Sl.v, hv.1]
      omega
    · have hv' := hv
      simp [Sl.v] at hv
      have hl := h.1
      refine .inr ⟨g, cap, cur, ?_, hb, hg, by simp only; omega, hmx, hsz, ?_⟩
      · simp [Sl.v, hv.1, hv.2]
      · have hk2 : ((l.take k).flatMap Flat.cells).length = k * Rep.sz α := by rw [hlen, List.length_take, Nat.min_eq_left hk]
        have e2 : (l.take k).flatMap Flat.cells = (l.flatMap Flat.cells).take (k * Rep.sz α) := by
          have e3 : l.flatMap Flat.cells = (l.take k).flatMap Flat.cells ++ (l.drop k).flatMap Flat.cells := by rw [← List.flatMap_append, List.take_append_drop]
          rw [e3, ← hk2, List.take_left]
        rw [e2, ← htake, List.take_take]
        have : k * Rep.sz α ≤ s.len * Rep.sz α := Nat.mul_le_mul_right _ (by omega)
        rw [Nat.min_eq_left this]

end Go.GX
end

section
/- Contracts of functions of the library: Mul, Repeat. -/
namespace Go.Proofs.YtnhidomgpbohiaaGreatDoor
open Go.GX Go.RowKit
set_option maxRecDepth 100000

theorem l1Own_ok {w : World} {s : Sl} {l : List Int} (h : R w s l) (hl : l.length ≤ 1048576) :
    Calls Tryz.prog F.s_l1Own #[s.v] w (Ret [.at .sl] fun (r : Sl) w' => Ext w w' ∧ OwnL w' w.heap.size T.t_int r l) := by
  refine C_s_l1Own ?_
  unfold V_s_l1Own
  refine RUN_lit0 (α := Int) slt_int fun r w1 hE1 hO1 => ?_
  refine RUN_append (α := Int) slt_int hO1 hE1.size (h.ext hE1) (by simp; omega) (by simp [maxLen]; omega) fun r' w2 hO2 hs => ?_
  exact ⟨hs.ext0 hE1 (fun k hk => (hO1.blk k hk).1), by simpa using hO2⟩

end Go.Proofs.YtnhidomgpbohiaaGreatDoor
end

section
/- Texts, the reference's side: cutting at a byte, numerals written and read. -/
namespace Go.Proofs.YtnhidomgpbohiaaGreatDoor
open Go.GX Go.RowKit
open Go.Lib (decDigits)
set_option maxRecDepth 100000

theorem slt_str : SlT Tryz.prog T.t_sl_string T.t_string 1 16 (.string (ByteArray.mk #[])) := ⟨by kernel_rfl, by kernel_rfl, rfl, by decide⟩
theorem slt_u8 : SlT Tryz.prog T.t_sl_uint8 T.t_uint8 1 1 (.int .u8 0) := ⟨by kernel_rfl, by kernel_rfl, rfl, by decide⟩
theorem und_str : Tryz.prog.underlying T.t_string = some .string := by kernel_rfl
theorem und_u8s : Tryz.prog.underlying T.t_sl_uint8 = some (.slice T.t_uint8) := by kernel_rfl
theorem und_u8 : Tryz.prog.underlying T.t_uint8 = some (.int .u8) := by kernel_rfl

theorem wrap_u8 {n : Int} (h0 : 0 ≤ n) (h1 : n < 256) : IntKind.u8.wrap n = n := by
  have e1 : (2 : Int) ^ 8 = 256 := rfl
  have hs : IntKind.u8.signed = false := rfl
  simp only [IntKind.wrap, IntKind.bits, hs, Bool.false_and, e1]
  rw [Int.emod_eq_of_lt h0 h1]; simp

theorem strs_ok (L : List ByteArray) : ∀ x ∈ L, Flat.ok x := fun _ _ => trivial

theorem l1Split_ok {w : World} {l : List UInt8} {c : UInt8} (hl : l.length ≤ 1099511627776) :
    Calls Tryz.prog F.s_l1Split #[.string (mkS l), .int .u8 (c.toNat : Int)] w (Ret [.at .sl] fun (r : Sl) w' => Ext w w' ∧ OwnL w' w.heap.size T.t_string r ((splitB c l).map mkS)) := by
  refine C_s_l1Split ?_
  unfold V_s_l1Split
  refine ⟨fun (out : Sl) (fr i : Int) w' => ∃ (k f : Nat) (L : List (List UInt8)), i = k ∧ fr = f ∧ k ≤ l.length ∧ f ≤ k ∧ Ext w w' ∧ OwnL w' w.heap.size T.t_string out (L.map mkS) ∧ splitB c (l.take k) = L ++ [(l.take k).drop f],
    fun _ _ i _ => l.length - i.toNat, ⟨0, 0, [], rfl, rfl, Nat.zero_le _, Nat.zero_le _, Ext.refl _, OwnL.nil _ _ _, rfl⟩, ?_⟩
  rintro out _ _ w1 ⟨k, f, L, rfl, rfl, hk, hf, hE1, hO1, hS⟩
  intros
  have hLl : L.length ≤ l.length := by
    have := splitB_len c (l.take k)
    rw [hS] at this
    simp at this; omega
  have hz1 := hE1.size_le
  -- one piece more
  have push : ∀ {w2 : World} (x : List UInt8) {K : Sl → World → Prop}, Ext w1 w2 → (∀ r w', Ext w w' → OwnL w' w.heap.size T.t_string r ((L ++ [x]).map mkS) → K r w') →
      RUN Tryz.prog (.at .sl) (Instr.buildSlice T.t_sl_string 1 #[(0, .string (mkS x))]) w2 fun y w3 => RUN Tryz.prog (.at .sl) (bsem .append #[T.t_sl_string, T.t_sl_string] T.t_sl_string #[out.v, y.v]) w3 K := by
    intro w2 x K hE2 hK
    refine RUN_lit1 (α := ByteArray) slt_str (mkS x) rfl (by decide) fun y w3 hE3 hO3 => ?_
    have hz2 := hE2.size_le
    have hz3 := hE3.size_le
    refine RUN_append (α := ByteArray) slt_str ((hO1.ext hE2).ext hE3) (by omega) (hO3.rep (strs_ok _)).any (by simp; omega) (by simp [maxLen]; omega) fun r w4 hO4 hs4 => ?_
    have hOb := (hO1.ext hE2).ext hE3
    refine hK r w4 (hs4.ext0 ((hE1.trans hE2).trans hE3) fun k hk => (hOb.blk k hk).1) ?_
    rw [List.map_append]; exact hO4
  rw [mkS_size]
  refine cond_dec (fun hlt => ?_) (fun hge => ?_)
  · have hk' : k < l.length := by omega
    refine SIX_of hk' ?_
    have htk : l.take (k + 1) = l.take k ++ [l[k]] := List.take_succ_eq_append_getElem hk'
    have hsn := splitB_snoc (b := l[k]) hS
    rw [← htk] at hsn
    rw [wrap_of (n := (k : Int) + 1) (by omega) (by omega)]
    have e1 : ((k : Int) + 1) = ((k + 1 : Nat) : Int) := by omega
    rw [e1]
    refine cond_eq (fun heq => ?_) (fun hne => ?_)
    · have hb : l[k] = c := UInt8.toNat_inj.1 (by omega)
      rw [if_pos hb] at hsn
      refine RUN_sub und_str hf (by omega) ?_
      refine push _ (Ext.refl _) fun r w4 hE4 hO4 => ⟨⟨k + 1, k + 1, L ++ [(l.take k).drop f], rfl, rfl, by omega, Nat.le_refl _, hE4, ?_, ?_⟩, by simp only []; omega⟩
      · have e2 : (l.drop f).take (k - f) = (l.take k).drop f := by rw [List.drop_take]
        rw [← e2]; exact hO4
      · rw [hsn, show (l.take (k + 1)).drop (k + 1) = [] from List.drop_of_length_le (by rw [List.length_take]; omega)]
    · have hb : l[k] ≠ c := fun e => hne (by rw [e])
      rw [if_neg hb] at hsn
      refine ⟨⟨k + 1, f, L, rfl, rfl, by omega, by omega, hE1, hO1, ?_⟩, by simp only []; omega⟩
      rw [hsn, htk, List.drop_append_of_le_length (by rw [List.length_take]; omega)]
  · have : k = l.length := by omega
    subst this
    rw [List.take_length] at hS
    refine RUN_from und_str hf ?_
    refine push _ (Ext.refl _) fun r w4 hE4 hO4 => ?_
    rw [hS]
    exact ⟨hE4, hO4⟩

theorem l1Num_ok : ∀ (n : Nat), (n : Int) ≤ 9223372036854775807 → ∀ w : World, Calls Tryz.prog F.s_l1Num #[.int .i64 (n : Int)] w (Ret [.at .str] fun (r : ByteArray) w' => r = mkS (decDigits n) ∧ Ext w w') := by
  intro n
  induction n using Nat.strongRecOn with
  | _ n ih =>
    intro hn w
    refine C_s_l1Num ?_
    unfold V_s_l1Num
    -- one digit
    have one : ∀ {w1 : World} (d : Nat) (x : Int) {K : ByteArray → World → Prop}, d < 10 → x = d → (∀ w', Ext w1 w' → K (mkS [UInt8.ofNat (48 + d)]) w') →
        RUN Tryz.prog (.at .sl) (Instr.buildSlice T.t_sl_uint8 1 #[(0, .int .u8 (IntKind.u8.wrap (IntKind.i64.wrap (48 + x))))]) w1 fun y w2 => RUN Tryz.prog (.at .str) (convert T.t_sl_uint8 T.t_string y.v) w2 K := by
      intro w1 d x K hd hx hK
      subst hx
      have e : IntKind.u8.wrap (IntKind.i64.wrap (48 + (d : Int))) = ((UInt8.ofNat (48 + d)).toNat : Int) := by
        rw [wrap_of (by omega) (by omega), wrap_u8 (by omega) (by omega)]
        have : (UInt8.ofNat (48 + d)).toNat = 48 + d := by simp; omega
        omega
      rw [e]
      refine RUN_lit1 (α := UInt8) slt_u8 (UInt8.ofNat (48 + d)) rfl (by decide) fun y w2 hE2 hO2 => ?_
      exact RUN_bytes und_u8s und_u8 und_str hO2 (hK w2 hE2)
    refine cond_dec (fun hlt => ?_) (fun hge => ?_)
    · refine one n n (by omega) rfl fun w' hE' => ⟨?_, hE'⟩
      rw [decDigits_small (by omega)]
    · have hdiv : IntKind.i64.wrap (Int.tdiv (n : Int) 10) = ((n / 10 : Nat) : Int) := by
        have : Int.tdiv (n : Int) 10 = ((n / 10 : Nat) : Int) := by rw [show (10 : Int) = ((10 : Nat) : Int) from rfl, ← Int.ofNat_tdiv]
        rw [this, wrap_of (by omega) (by omega)]
      have hmod : Int.tmod (n : Int) 10 = ((n % 10 : Nat) : Int) := by rw [show (10 : Int) = ((10 : Nat) : Int) from rfl, Int.ofNat_tmod]
      have hrec := ih (n / 10) (by omega) (by omega)
      have hm10 : n % 10 < 10 := Nat.mod_lt _ (by omega)
      have hbig := decDigits_big (n := n) (by omega)
      have hlen : (decDigits (n / 10)).length + 1 ≤ 9223372036854775807 := by
        rw [Go.Lib.decDigits_length]
        have key : ∀ u : Nat, Go.Lib.nDigits u ≤ u + 1 := by
          intro u
          induction u using Nat.strongRecOn with
          | _ u ih =>
            by_cases h : u < 10
            · rw [Go.Lib.nDigits_small h]; omega
            · rw [Go.Lib.nDigits_big h]; have := ih (u / 10) (by omega); omega
        have := key (n / 10)
        omega
      intro w3 hE3 _
      refine ⟨by decide, by decide, ?_⟩
      rw [hdiv, hmod]
      have fin : ∀ {w' : World}, Ext w3 w' → (mkS (decDigits (n / 10)) ++ mkS [UInt8.ofNat (48 + n % 10)] = mkS (decDigits n)) ∧ Ext w w' := fun hE => ⟨by rw [mkS_app, hbig], hE3.trans hE⟩
      have hsz : (mkS (decDigits (n / 10))).size + (mkS [UInt8.ofNat (48 + n % 10)]).size ≤ 9223372036854775807 := by rw [mkS_size, mkS_size]; simpa using hlen
      -- the literal alone, the conversion alone
      have lit : ∀ {w1 : World} {K : Sl → World → Prop}, (∀ y w', Ext w1 w' → OwnL w' w1.heap.size T.t_uint8 y [UInt8.ofNat (48 + n % 10)] → K y w') →
          RUN Tryz.prog (.at .sl) (Instr.buildSlice T.t_sl_uint8 1 #[(0, .int .u8 (IntKind.u8.wrap (IntKind.i64.wrap (48 + ((n % 10 : Nat) : Int)))))]) w1 K := by
        intro w1 K hK
        have e : IntKind.u8.wrap (IntKind.i64.wrap (48 + ((n % 10 : Nat) : Int))) = ((UInt8.ofNat (48 + n % 10)).toNat : Int) := by
          rw [wrap_of (by omega) (by omega), wrap_u8 (by omega) (by omega)]
          have : (UInt8.ofNat (48 + n % 10)).toNat = 48 + n % 10 := by simp; omega
          omega
        rw [e]
        exact RUN_lit1 (α := UInt8) slt_u8 (UInt8.ofNat (48 + n % 10)) rfl (by decide) fun y w2 hE2 hO2 => hK y w2 hE2 hO2
      refine ⟨?_, Ext.refl _, ?_, ?_⟩
      · refine call (hrec w3) ?_
        rintro _ w4 ⟨rfl, hE4⟩
        refine ⟨hE4, Ext.refl _, lit fun y w5 hE5 hO5 => ⟨hE5, RUN_bytes und_u8s und_u8 und_str hO5 ⟨Ext.refl _, hsz, Ext.refl _, Ext.refl _, fin (hE4.trans hE5)⟩⟩⟩
      · refine call (hrec w3) ?_
        rintro _ w4 ⟨rfl, hE4⟩
        refine ⟨hE4, lit fun y w5 hE5 hO5 => ⟨hE5, RUN_bytes und_u8s und_u8 und_str hO5 ⟨Ext.refl _, hsz, Ext.refl _, Ext.refl _, fin (hE4.trans hE5)⟩⟩⟩
      · refine lit fun y w5 hE5 hO5 => ⟨hE5, ?_, ?_⟩
        · refine call (hrec w5) ?_
          rintro _ w4 ⟨rfl, hE4⟩
          exact ⟨hE4, RUN_bytes und_u8s und_u8 und_str (hO5.ext hE4) ⟨Ext.refl _, hsz, Ext.refl _, Ext.refl _, fin (hE5.trans hE4)⟩⟩
        · refine RUN_bytes und_u8s und_u8 und_str hO5 ⟨Ext.refl _, ?_⟩
          refine call (hrec w5) ?_
          rintro _ w4 ⟨rfl, hE4⟩
          exact ⟨hE4, hsz, Ext.refl _, Ext.refl _, fin (hE5.trans hE4)⟩

/-- What a text reads as: its number, or -1. -/
def ReadIs (l : List UInt8) (x : Int) : Prop := NumOf l x ∨ (x = -1 ∧ ∀ y, ¬ NumOf l y)

theorem l1Read_ok {w : World} {l : List UInt8} (hl : l.length ≤ 1099511627776) :
    Calls Tryz.prog F.s_l1Read #[.string (mkS l)] w (Ret [.at (.int .i64)] fun (x : Int) w' => w' = w ∧ ReadIs l x) := by
  refine C_s_l1Read ?_
  unfold V_s_l1Read
  have num : ∀ {y}, NumOf l y → 1 ≤ l.length ∧ l.length ≤ 6 ∧ (∀ b ∈ l, 48 ≤ b.toNat ∧ b.toNat ≤ 57) ∧ (l.head? = some 48 → l.length = 1) := by
    rintro y ⟨n, h1, rfl, rfl⟩
    refine ⟨List.length_pos_iff.2 (decDigits_ne n), decDigits_few.1 h1, decDigits_mem n, ?_⟩
    induction n using Nat.strongRecOn with
    | _ n ih =>
      by_cases h : n < 10
      · intro _; rw [decDigits_small h]; rfl
      · rw [decDigits_big h]
        intro hh
        have h10 : n / 10 ≠ 0 := by omega
        have hne := decDigits_ne (n / 10)
        replace hh : (decDigits (n / 10)).head? = some 48 := by
          obtain ⟨a, r, e⟩ := List.exists_cons_of_ne_nil hne
          rw [e] at hh ⊢
          simpa using hh
        have hl1 := ih (n / 10) (by omega) (by omega) (by have := decDigits_few.1 h1; rw [decDigits_big h] at this; simp at this; omega) hh
        exfalso
        have h9 : n / 10 < 10 := by
          rcases Nat.lt_or_ge (n / 10) 10 with h | h
          · exact h
          · rw [decDigits_big (by omega)] at hl1
            have := List.length_pos_iff.2 (decDigits_ne (n / 10 / 10))
            rw [List.length_append, List.length_singleton] at hl1; omega
        rw [decDigits_small h9] at hh
        have e : UInt8.ofNat (48 + n / 10) = 48 := by simpa using hh
        have e2 := congrArg UInt8.toNat e
        have e3 : (UInt8.ofNat (48 + n / 10)).toNat = 48 + n / 10 := by simp; omega
        rw [e3] at e2
        have e4 : (48 : UInt8).toNat = 48 := rfl
        omega
  have no : (∀ y, ¬ NumOf l y) → w = w ∧ ReadIs l (-1) := fun h => ⟨rfl, .inr ⟨rfl, h⟩⟩
  rw [mkS_size]
  refine call (l1In_ok _ _ _ _) ?_
  rintro _ _ ⟨rfl, rfl⟩
  refine cond_not (fun hf => no fun y hy => ?_) (fun ht => ?_)
  · have := num hy
    simp only [inR, Bool.and_eq_false_iff, decide_eq_false_iff_not] at hf
    omega
  have hr : 1 ≤ (l.length : Int) ∧ (l.length : Int) ≤ 6 := by simpa [inR] using ht
  -- the digits
  have rest : (l.head? = some 48 → l.length = 1) → V_s_l1Read_k1 (mkS l) (fun (x : Int) w' => w' = w ∧ ReadIs l x) w := by
    intro hz
    unfold V_s_l1Read_k1
    refine ⟨fun (n i : Int) w' => w' = w ∧ ∃ (k m : Nat), i = k ∧ n = m ∧ k ≤ l.length ∧ (∀ b ∈ l.take k, 48 ≤ b.toNat ∧ b.toNat ≤ 57) ∧ Go.Lib.decFrom 0 (l.take k) = some m ∧ m < 10 ^ k, fun _ i _ => l.length - i.toNat, ⟨rfl, 0, 0, rfl, rfl, Nat.zero_le _, by simp, rfl, by decide⟩, ?_⟩
    rintro _ _ _ ⟨rfl, k, m, rfl, rfl, hk, hd, hv, hm⟩
    intros
    rw [mkS_size]
    have h6 : (10 : Nat) ^ k ≤ 1000000 := by
      have : (10 : Nat) ^ k ≤ 10 ^ 6 := Nat.pow_le_pow_right (by decide) (by omega)
      have e : (10 : Nat) ^ 6 = 1000000 := by decide
      omega
    refine cond_dec (fun hlt => ?_) (fun hge => ?_)
    · have hk' : k < l.length := by omega
      have hmem : l[k] ∈ l := List.getElem_mem hk'
      refine SIX_of hk' ?_
      refine cond_dec (fun hlow => no fun y hy => by have := (num hy).2.2.1 _ hmem; omega) (fun hlow => ?_)
      refine SIX_of hk' ?_
      refine cond_dec (fun hhi => no fun y hy => by have := (num hy).2.2.1 _ hmem; omega) (fun hhi => ?_)
      refine SIX_of hk' ?_
      unfold V_s_l1Read_k5
      have htk : l.take (k + 1) = l.take k ++ [l[k]] := List.take_succ_eq_append_getElem hk'
      have e1 : IntKind.u8.wrap ((l[k].toNat : Int) - 48) = ((l[k].toNat - 48 : Nat) : Int) := by rw [wrap_u8 (by omega) (by omega)]; omega
      rw [e1, wrap_of (n := 10 * (m : Int)) (by omega) (by omega), wrap_of (n := ((l[k].toNat - 48 : Nat) : Int)) (by omega) (by omega), wrap_of (n := 10 * (m : Int) + _) (by omega) (by omega), wrap_of (n := (k : Int) + 1) (by omega) (by omega)]
      refine ⟨⟨rfl, k + 1, m * 10 + (l[k].toNat - 48), by omega, by omega, by omega, ?_, ?_, by rw [Nat.pow_succ]; omega⟩, by simp only []; omega⟩
      · intro b hb
        rw [htk] at hb
        rcases List.mem_append.1 hb with hb | hb
        · exact hd b hb
        · rw [List.mem_singleton.1 hb]; omega
      · rw [htk]
        refine decFrom_snoc ?_ _ _ _ hv
        unfold Go.Lib.digitVal
        rw [if_pos (by omega)]
    · have : k = l.length := by omega
      subst this
      rw [List.take_length] at hd hv
      obtain ⟨n, hn⟩ := digits_of l.length l rfl (List.length_pos_iff.1 (by omega)) hz hd
      have e : n = m := by
        have := decFrom_digits n
        rw [hn, hv] at this
        exact (Option.some.inj this).symm
      subst e
      exact ⟨rfl, .inl ⟨n, by omega, hn, rfl⟩⟩
  have h0 : 0 < l.length := by omega
  refine SIX_of (i := 0) h0 ?_
  have hhd : l.head? = some l[0] := by rw [List.head?_eq_getElem?, List.getElem?_eq_getElem h0]
  refine cond_eq (fun h48 => ?_) (fun hne => rest fun hh => ?_)
  · have hb : l[0] = 48 := UInt8.toNat_inj.1 (by have : (48 : UInt8).toNat = 48 := rfl; omega)
    refine cond_dec (fun hgt => no fun y hy => ?_) (fun hle => rest fun _ => by omega)
    have := (num hy).2.2.2 (by rw [hhd, hb])
    omega
  · rw [hhd] at hh
    have : l[0] = 48 := Option.some.inj hh
    exact absurd (by rw [this]; rfl) hne

end Go.Proofs.YtnhidomgpbohiaaGreatDoor
end
