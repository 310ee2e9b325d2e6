/- Own texts, merged: Rules, Leaf, Net, Sort, Coll, Sorted, Good, Near, Edges, Col, Match, Sets, Max, Write, Mark. -/
import Derived.Test.YtndebacmnpghkaaGreatM2
import Derived.Laws.OwnMore
import Derived.Great.BuildSlice
import Derived.Laws.StructEq
import Derived.Shelf.Sort.Plain
import Derived.Ground.Names2Prog
import Derived.Shelf.Slices.In.SortNone
import Derived.Ground.SlsfProg
import Derived.Test.YtndebacmnpghkaaGreatProg
import Derived.Sort.OwnSortedInts
import Derived.Maps.AppendAt
set_option linter.unusedVariables false
section
/- Rules for proving the propositions that functions compute to: memory read as lists, loops over indexes, calls. No program is named here. -/
namespace Go.GX
open Go.RowKit

/-! ### Numbers -/

def I64 (n : Int) : Prop := -9223372036854775808 ≤ n ∧ n ≤ 9223372036854775807

theorem wrap_of {n : Int} (h1 : -9223372036854775808 ≤ n) (h2 : n ≤ 9223372036854775807) : IntKind.i64.wrap n = n := by
  have e1 : (2 : Int) ^ 64 = 18446744073709551616 := rfl
  have e2 : (2 : Int) ^ 63 = 9223372036854775808 := rfl
  simp only [IntKind.wrap, IntKind.bits, IntKind.signed, Bool.true_and, decide_eq_true_eq, Nat.reduceSub, e1, e2]
  by_cases h : 0 ≤ n
  · have : n % 18446744073709551616 = n := Int.emod_eq_of_lt h (by omega)
    rw [this, if_neg (by omega)]
  · have : n % 18446744073709551616 = n + 18446744073709551616 := by omega
    rw [this, if_pos (by omega)]; omega

theorem add_zero' (a : Addr) : a.add 0 = a := rfl
theorem add_add (a : Addr) (m n : Nat) : (a.add m).add n = a.add (m + n) := by
  unfold Addr.add
  by_cases hm : m = 0
  · subst hm; simp
  · by_cases hn : n = 0
    · subst hn; simp [hm]
    · simp [hm, hn, Nat.add_assoc]


/-! ### Worlds -/

theorem Ext.size_le {w w' : World} (h : Ext w w') : w.heap.size ≤ w'.heap.size := h.size

theorem Ext.same {w w' : World} (h : Ext w w') {b : Nat} (hb : b < w.heap.size) : w'.heap[b]? = w.heap[b]? := h.block b hb

theorem cell_lt {w : World} {a : Addr} {v : Value} (h : w.cell? a = some v) : a.block < w.heap.size := World.block_lt_of_cell? w a h

theorem ext_push (w : World) (o : Obj) : Ext w { w with heap := w.heap.push o } :=
  ⟨rfl, rfl, rfl, by simp, fun k hk => by simp [Array.getElem?_push, Nat.ne_of_lt hk]⟩

theorem ext_setCell {w0 w : World} (h : Ext w0 w) {a : Addr} (ha : w0.heap.size ≤ a.block) (v : Value) : Ext w0 (w.setCell a v) := Below.setCell h ha v

/-- A block that the call itself has made: its cells, not frozen. -/
def Box (w : World) (p : Addr) (t : TypeId) (cs : List Value) : Prop := p.off = 0 ∧ p.spot = none ∧ w.heap[p.block]? = some (.cells ⟨cs⟩ t (0, 0))

theorem Box.cell {w : World} {p : Addr} {t : TypeId} {cs : List Value} (h : Box w p t cs) {i : Nat} {v : Value} (hi : cs[i]? = some v) : w.cell? (p.add i) = some v := by
  obtain ⟨h1, h2, h3⟩ := h
  unfold Addr.add
  by_cases h0 : i = 0
  · subst h0; simp [World.cell?, h3, h2, h1, hi]
  · simp [World.cell?, h3, h0, h1, hi]

theorem Box.frozen {w : World} {p : Addr} {t : TypeId} {cs : List Value} (h : Box w p t cs) (i : Nat) : w.frozen? (p.add i) = false := by
  obtain ⟨h1, h2, h3⟩ := h
  have : (p.add i).block = p.block := by unfold Addr.add; split <;> rfl
  simp [World.frozen?, this, h3]

theorem Box.lt {w : World} {p : Addr} {t : TypeId} {cs : List Value} (h : Box w p t cs) : p.block < w.heap.size := (Array.getElem?_eq_some_iff.1 h.2.2).1

theorem Box.ext {w w' : World} {p : Addr} {t : TypeId} {cs : List Value} (h : Box w p t cs) (hE : Ext w w') : Box w' p t cs :=
  ⟨h.1, h.2.1, (hE.same h.lt).trans h.2.2⟩

theorem Box.of_block {w w' : World} {p : Addr} {t : TypeId} {cs : List Value} (h : Box w p t cs) (hE : w'.heap[p.block]? = w.heap[p.block]?) : Box w' p t cs :=
  ⟨h.1, h.2.1, hE.trans h.2.2⟩

theorem add_block (p : Addr) (i : Nat) : (p.add i).block = p.block := by unfold Addr.add; split <;> rfl

theorem Box.set {w : World} {p : Addr} {t : TypeId} {cs : List Value} (h : Box w p t cs) (i : Nat) (v : Value) : Box (w.setCell (p.add i) v) p t (cs.set i v) := by
  obtain ⟨h1, h2, h3⟩ := h
  refine ⟨h1, h2, ?_⟩
  have hb : (p.add i).block = p.block := add_block p i
  have ho : (p.add i).off = i := by unfold Addr.add; split <;> simp_all
  have hs : (p.add i).spot = none := by unfold Addr.add; split <;> simp_all
  have hlt := (Array.getElem?_eq_some_iff.1 h3).1
  have hv := (Array.getElem?_eq_some_iff.1 h3).2
  simp only [World.setCell, Array.getElem?_modify, hb, ho, hs]
  simp [h3]

/-- A new variable: its block is the next one. -/
theorem NEW_intro {t : TypeId} {cs : List Value} {w : World} {K : Addr → World → Prop}
    (h : ∀ p w', p.block = w.heap.size → w'.heap.size = w.heap.size + 1 → Ext w w' → Box w' p t cs → K p w') : NEW t ⟨cs⟩ w K :=
  h _ _ rfl (by simp) (ext_push w _) ⟨rfl, rfl, by simp⟩

theorem setCell_size (w : World) (a : Addr) (v : Value) : (w.setCell a v).heap.size = w.heap.size := by simp [World.setCell]

theorem setCell_other (w : World) (a : Addr) (v : Value) {b : Nat} (h : b ≠ a.block) : (w.setCell a v).heap[b]? = w.heap[b]? := Below.heap_setCell w a v b h

/-- A store of one cell into a block of the call's own. -/
theorem ST_box1 {w : World} {p : Addr} {t : TypeId} {cs : List Value} {i : Nat} {v : Value} {K : World → Prop} (h : Box w p t cs) (hi : i < cs.length) (h1 : v.oneCell' = true)
    (hk : ∀ w', w'.heap.size = w.heap.size → (∀ b, b ≠ p.block → w'.heap[b]? = w.heap[b]?) → (∀ w0, Ext w0 w → w0.heap.size ≤ p.block → Ext w0 w') → Box w' p t (cs.set i v) → K w') : ST (p.add i) 0 [v] w K := by
  refine ⟨h1, ⟨cs[i], ?_⟩, ?_, hk _ (setCell_size _ _ _) (fun b hb => setCell_other _ _ _ (by rw [add_add, add_block]; exact hb)) (fun w0 h0 hle => ext_setCell h0 (by rw [add_add, add_block]; exact hle) v) (by rw [add_add]; exact h.set _ v)⟩
  · rw [add_add]; exact h.cell (by simp [hi])
  · rw [add_add]; exact h.frozen _

/-! ### Loads -/

section
variable {w : World} {a : Addr}

theorem LD_sl {K : Sl → Prop} {s : Sl} (hc : w.cell? a = some s.v) (hk : K s) : LD [.sl] a w K :=
  ⟨[s.v], rfl, fun i v hi => by match i, hi with | 0, hi => simp at hi; subst hi; exact hc, hk⟩
theorem LD_int {K : Int → Prop} {n : Int} (hc : w.cell? a = some (.int .i64 n)) (hk : K n) : LD [.int .i64] a w K :=
  ⟨[.int .i64 n], rfl, fun i v hi => by match i, hi with | 0, hi => simp at hi; subst hi; exact hc, hk⟩
theorem LD_bool {K : Bool → Prop} {n : Bool} (hc : w.cell? a = some (.bool n)) (hk : K n) : LD [.bool] a w K :=
  ⟨[.bool n], rfl, fun i v hi => by match i, hi with | 0, hi => simp at hi; subst hi; exact hc, hk⟩
theorem LD_val {K : Value → Prop} {v : Value} (hc : w.cell? a = some v) (hk : K v) : LD [.val] a w K :=
  ⟨[v], rfl, fun i v hi => by match i, hi with | 0, hi => simp at hi; subst hi; exact hc, hk⟩
theorem LD_int2 {K : Int → Int → Prop} {x y : Int} (h0 : w.cell? (a.add 0) = some (.int .i64 x)) (h1 : w.cell? (a.add 1) = some (.int .i64 y)) (hk : K x y) : LD [.int .i64, .int .i64] a w K :=
  ⟨[.int .i64 x, .int .i64 y], rfl, fun i v hi => by
    match i, hi with
    | 0, hi => simp at hi; subst hi; exact h0
    | 1, hi => simp at hi; subst hi; exact h1, hk⟩
theorem LD_int4 {K : Int → Int → Int → Int → Prop} {x y z u : Int} (h0 : w.cell? (a.add 0) = some (.int .i64 x)) (h1 : w.cell? (a.add 1) = some (.int .i64 y)) (h2 : w.cell? (a.add 2) = some (.int .i64 z)) (h3 : w.cell? (a.add 3) = some (.int .i64 u)) (hk : K x y z u) : LD [.int .i64, .int .i64, .int .i64, .int .i64] a w K :=
  ⟨[.int .i64 x, .int .i64 y, .int .i64 z, .int .i64 u], rfl, fun i v hi => by
    match i, hi with
    | 0, hi => simp at hi; subst hi; exact h0
    | 1, hi => simp at hi; subst hi; exact h1
    | 2, hi => simp at hi; subst hi; exact h2
    | 3, hi => simp at hi; subst hi; exact h3, hk⟩
theorem LD_sl3 {K : Sl → Sl → Sl → Prop} {x y z : Sl} (h0 : w.cell? (a.add 0) = some x.v) (h1 : w.cell? (a.add 1) = some y.v) (h2 : w.cell? (a.add 2) = some z.v) (hk : K x y z) : LD [.sl, .sl, .sl] a w K :=
  ⟨[x.v, y.v, z.v], rfl, fun i v hi => by
    match i, hi with
    | 0, hi => simp at hi; subst hi; exact h0
    | 1, hi => simp at hi; subst hi; exact h1
    | 2, hi => simp at hi; subst hi; exact h2, hk⟩
end

/-! ### Memory read as data -/

class Rep (α : Type) where
  sz : Nat
  rep : (Nat → Prop) → World → List Value → α → Prop
  len : ∀ {D w cs a}, rep D w cs a → cs.length = sz
  agr : ∀ {D : Nat → Prop} {w w' : World} {cs a}, (∀ b, D b → w'.heap[b]? = w.heap[b]?) → rep D w cs a → rep D w' cs a
  weak : ∀ {D D' : Nat → Prop} {w cs a}, (∀ b, D b → b < w.heap.size → D' b) → rep D w cs a → rep D' w cs a

/-- The slice s reads as the list l, by blocks in D. -/
def SlR {α : Type} [Rep α] (D : Nat → Prop) (w : World) (s : Sl) (l : List α) : Prop :=
  s.len = l.length ∧ (s.len ≤ s.cap ∧ s.cap ≤ 9223372036854775807) ∧ ∀ i x, l[i]? = some x → ∃ a cs, s.a = some a ∧ D a.block ∧ Rep.rep D w cs x ∧ ∀ j v, cs[j]? = some v → w.cell? (a.add (i * Rep.sz α + j)) = some v

instance : Rep Int where
  sz := 1
  rep _ _ cs n := cs = [.int .i64 n] ∧ I64 n
  len h := by rw [h.1]; rfl
  agr _ h := h
  weak _ h := h

instance : Rep Bool where
  sz := 1
  rep _ _ cs n := cs = [.bool n]
  len h := by rw [h]; rfl
  agr _ h := h
  weak _ h := h

instance : Rep (Int × Int) where
  sz := 2
  rep _ _ cs n := cs = [.int .i64 n.1, .int .i64 n.2] ∧ I64 n.1 ∧ I64 n.2
  len h := by rw [h.1]; rfl
  agr _ h := h
  weak _ h := h

instance : Rep (Int × Int × Int × Int) where
  sz := 4
  rep _ _ cs n := cs = [.int .i64 n.1, .int .i64 n.2.1, .int .i64 n.2.2.1, .int .i64 n.2.2.2] ∧ I64 n.1 ∧ I64 n.2.1 ∧ I64 n.2.2.1 ∧ I64 n.2.2.2
  len h := by rw [h.1]; rfl
  agr _ h := h
  weak _ h := h

section
variable {α : Type} [Rep α] {D D' : Nat → Prop} {w w' : World} {s : Sl} {l : List α}

theorem SlR.agr (hE : ∀ b, D b → w'.heap[b]? = w.heap[b]?) (h : SlR D w s l) : SlR D w' s l :=
  ⟨h.1, h.2.1, fun i x hx => by
    obtain ⟨a, cs, h1, h2, h3, h4⟩ := h.2.2 i x hx
    exact ⟨a, cs, h1, h2, Rep.agr hE h3, fun j v hj => by
      have hb : w'.heap[(a.add (i * Rep.sz α + j)).block]? = w.heap[(a.add (i * Rep.sz α + j)).block]? := by rw [add_block]; exact hE _ h2
      rw [World.cell?_of_block hb]; exact h4 j v hj⟩⟩

theorem SlR.weak (hD : ∀ b, D b → b < w.heap.size → D' b) (h : SlR D w s l) (hsz : 0 < Rep.sz α) : SlR D' w s l :=
  ⟨h.1, h.2.1, fun i x hx => by
    obtain ⟨a, cs, h1, h2, h3, h4⟩ := h.2.2 i x hx
    have hl : cs.length = Rep.sz α := Rep.len h3
    have hlt : a.block < w.heap.size := by
      have := cell_lt (h4 0 cs[0] (by simp))
      rwa [add_block] at this
    exact ⟨a, cs, h1, hD _ h2 hlt, Rep.weak hD h3, h4⟩⟩
end

class RepP (α : Type) extends Rep α where
  pos : 0 < sz

instance : RepP Int := ⟨by decide⟩
instance : RepP Bool := ⟨by decide⟩
instance : RepP (Int × Int) := ⟨by decide⟩
instance : RepP (Int × Int × Int × Int) := ⟨by decide⟩

instance {α : Type} [RepP α] : Rep (List α) where
  sz := 1
  rep D w cs l := ∃ s : Sl, cs = [s.v] ∧ SlR D w s l
  len h := by obtain ⟨s, rfl, _⟩ := h; rfl
  agr hE h := by obtain ⟨s, rfl, h⟩ := h; exact ⟨s, rfl, h.agr hE⟩
  weak hD h := by obtain ⟨s, rfl, h⟩ := h; exact ⟨s, rfl, h.weak hD RepP.pos⟩

instance {α : Type} [RepP α] : RepP (List α) := ⟨by show 0 < 1; decide⟩

abbrev R {α : Type} [Rep α] (w : World) (s : Sl) (l : List α) : Prop := SlR (fun _ => True) w s l

section
variable {α : Type} [RepP α] {D : Nat → Prop} {w w' : World} {s : Sl} {l : List α}

theorem SlR.any (h : SlR D w s l) : R w s l := h.weak (fun _ _ _ => trivial) RepP.pos
theorem SlR.below (h : SlR D w s l) : SlR (fun b => D b ∧ b < w.heap.size) w s l := h.weak (fun _ h1 h2 => ⟨h1, h2⟩) RepP.pos
theorem SlR.ext (hE : Ext w w') (h : SlR D w s l) : SlR D w' s l := by
  have h1 := h.below.agr (w' := w') fun b hb => hE.same hb.2
  exact h1.weak (fun _ h2 _ => h2.1) RepP.pos
theorem SlR.len (h : SlR D w s l) : s.len = l.length := h.1
theorem SlR.le (h : SlR D w s l) : l.length ≤ 9223372036854775807 := by have := h.1; have := h.2.1; omega
end

/-- The element of a slice: its address, and what lies there. -/
theorem SlR.ix {α : Type} [RepP α] {D : Nat → Prop} {w : World} {s : Sl} {l : List α} (h : SlR D w s l) {i : Int} {n : Nat} (hn : n = Rep.sz α) (h0 : 0 ≤ i) (hi : i < l.length) {K : Addr → Prop}
    (hk : ∀ p cs, Rep.rep D w cs (l[i.toNat]'(by omega)) → (∀ j v, cs[j]? = some v → w.cell? (p.add j) = some v) → K p) : IX s i n K := by
  obtain ⟨a, cs, h1, h2, h3, h4⟩ := h.2.2 i.toNat (l[i.toNat]'(by omega)) (by simp)
  refine ⟨a, h1, h0, by rw [h.1]; exact hi, hk _ cs h3 fun j v hj => ?_⟩
  subst hn
  rw [add_add]
  exact h4 j v hj

theorem SlR.ixI {D : Nat → Prop} {w : World} {s : Sl} {l : List Int} (h : SlR D w s l) {i : Nat} (hi : i < l.length) {K : Addr → Prop}
    (hk : ∀ p, I64 l[i] → w.cell? p = some (.int .i64 l[i]) → K p) : IX s i 1 K :=
  h.ix rfl (by omega) (by omega) fun p cs hr hc => by
    obtain ⟨rfl, h64⟩ := hr
    exact hk p h64 (hc 0 _ rfl)

theorem SlR.ixB {D : Nat → Prop} {w : World} {s : Sl} {l : List Bool} (h : SlR D w s l) {i : Nat} (hi : i < l.length) {K : Addr → Prop}
    (hk : ∀ p, w.cell? p = some (.bool l[i]) → K p) : IX s i 1 K :=
  h.ix rfl (by omega) (by omega) fun p cs hr hc => by
    have hr' : cs = [.bool l[i]] := hr
    subst hr'
    exact hk p (hc 0 _ rfl)

theorem SlR.ixE {D : Nat → Prop} {w : World} {s : Sl} {l : List (Int × Int)} (h : SlR D w s l) {i : Nat} (hi : i < l.length) {K : Addr → Prop}
    (hk : ∀ p, I64 l[i].1 → I64 l[i].2 → w.cell? (p.add 0) = some (.int .i64 l[i].1) → w.cell? (p.add 1) = some (.int .i64 l[i].2) → K p) : IX s i 2 K :=
  h.ix rfl (by omega) (by omega) fun p cs hr hc => by
    obtain ⟨rfl, ha, hb⟩ := hr
    exact hk p ha hb (hc 0 _ rfl) (hc 1 _ rfl)

theorem SlR.ixQ {D : Nat → Prop} {w : World} {s : Sl} {l : List (Int × Int × Int × Int)} (h : SlR D w s l) {i : Nat} (hi : i < l.length) {K : Addr → Prop}
    (hk : ∀ p, w.cell? (p.add 0) = some (.int .i64 l[i].1) → w.cell? (p.add 1) = some (.int .i64 l[i].2.1) → w.cell? (p.add 2) = some (.int .i64 l[i].2.2.1) → w.cell? (p.add 3) = some (.int .i64 l[i].2.2.2) → K p) : IX s i 4 K :=
  h.ix rfl (by omega) (by omega) fun p cs hr hc => by
    obtain ⟨rfl, _⟩ := hr
    exact hk p (hc 0 _ rfl) (hc 1 _ rfl) (hc 2 _ rfl) (hc 3 _ rfl)

theorem SlR.ixL {α : Type} [RepP α] {D : Nat → Prop} {w : World} {s : Sl} {l : List (List α)} (h : SlR D w s l) {i : Nat} (hi : i < l.length) {K : Addr → Prop}
    (hk : ∀ p (s' : Sl), SlR D w s' l[i] → w.cell? p = some s'.v → K p) : IX s i 1 K :=
  h.ix rfl (by omega) (by omega) fun p cs hr hc => by
    obtain ⟨s', rfl, hs⟩ := hr
    exact hk p s' hs (hc 0 _ rfl)

theorem not_mem_take_succ {α : Type} {l : List α} {n : α} {i : Nat} (hi : i < l.length) (h : n ∉ l.take i) (hne : l[i] ≠ n) : n ∉ l.take (i + 1) := by
  rw [List.take_succ_eq_append_getElem hi]
  intro hm
  rcases List.mem_append.1 hm with h1 | h1
  · exact h h1
  · exact hne (List.mem_singleton.1 h1).symm

/-! ### Loops over an index -/

def IN (N : Nat) (I : Nat → World → Prop) (x : Int) (w : World) : Prop := ∃ i : Nat, x = i ∧ i ≤ N ∧ I i w
def MN (N : Nat) (x : Int) (_ : World) : Nat := N - x.toNat

theorem IN_zero {N : Nat} {I : Nat → World → Prop} {w : World} (h : I 0 w) : IN N I 0 w := ⟨0, rfl, Nat.zero_le _, h⟩

theorem IN_next {N i : Nat} {I : Nat → World → Prop} {w w' : World} (hN : N ≤ 9223372036854775807) (hi : i < N) (h : I (i + 1) w) :
    IN N I (IntKind.i64.wrap ((i : Int) + 1)) w ∧ MN N (IntKind.i64.wrap ((i : Int) + 1)) w < MN N i w' := by
  rw [wrap_of (by omega) (by omega)]
  exact ⟨⟨i + 1, by omega, hi, h⟩, by unfold MN; omega⟩

/-- A call that only computes, or that makes memory, in a region whose order is open. -/
theorem QCALL_bool {P : Program} {f : FuncId} {args : Array Value} {w : World} {K : Bool → Prop} (b : Bool)
    (h : ∀ w', Ext w w' → Calls P f args w' (Ret [.at .bool] fun (c : Bool) w'' => c = b ∧ Ext w' w'')) (hk : K b) : QCALL P f args w [.at .bool] K :=
  ⟨.bool b, [.bool b], rfl, fun w' hw => (h w' hw).mono fun e w'' he => by
    cases e with
    | returned v =>
      simp only [Ret] at he
      cases v <;> simp [unR, Sh.cells, app, At.un, atsR, botW] at he
      obtain ⟨rfl, h2⟩ := he
      exact ⟨rfl, h2⟩
    | panicked _ => exact he.elim
    | outgrown => exact he.elim, hk⟩

theorem QCALL_int {P : Program} {f : FuncId} {args : Array Value} {w : World} {K : Int → Prop} (b : Int)
    (h : ∀ w', Ext w w' → Calls P f args w' (Ret [.at (.int .i64)] fun (c : Int) w'' => c = b ∧ Ext w' w'')) (hk : K b) : QCALL P f args w [.at (.int .i64)] K :=
  ⟨.int .i64 b, [.int .i64 b], rfl, fun w' hw => (h w' hw).mono fun e w'' he => by
    cases e with
    | returned v =>
      simp only [Ret] at he
      cases v with
      | int k n =>
        cases k <;> simp [unR, Sh.cells, app, At.un, atsR, botW] at he
        obtain ⟨rfl, h2⟩ := he
        exact ⟨rfl, h2⟩
      | _ => simp [unR, Sh.cells, app, At.un, atsR, botW] at he
    | panicked _ => exact he.elim
    | outgrown => exact he.elim, hk⟩

theorem CALLV_mk {P : Program} {g : FuncId} {caps : List Value} {args : Array Value} {w : World} {R : Ending → World → Prop} (hc : callable P g = true) (h : Calls P g ⟨args.toList ++ caps⟩ w R) : CALLV P (.func (.func g) #[] ⟨caps⟩) args w R :=
  ⟨g, caps, rfl, hc, h⟩


/-! ### Branches -/

section
variable {X Y : Prop}
theorem cond_t {b : Bool} (h : b = true) (hx : X) : cond b X Y := by subst h; exact hx
theorem cond_f {b : Bool} (h : b = false) (hy : Y) : cond b X Y := by subst h; exact hy
theorem cond_b {b : Bool} (ht : b = true → X) (hf : b = false → Y) : cond b X Y := by cases b; exact hf rfl; exact ht rfl
theorem cond_not {b : Bool} (hf : b = false → X) (ht : b = true → Y) : cond (!b) X Y := by cases b; exact hf rfl; exact ht rfl
theorem cond_dec {p : Prop} [Decidable p] (ht : p → X) (hf : ¬ p → Y) : cond (decide p) X Y := by
  by_cases h : p
  · rw [decide_eq_true h]; exact ht h
  · rw [decide_eq_false h]; exact hf h
theorem cond_dt {p : Prop} [Decidable p] (h : p) (hx : X) : cond (decide p) X Y := by rw [decide_eq_true h]; exact hx
theorem cond_df {p : Prop} [Decidable p] (h : ¬ p) (hy : Y) : cond (decide p) X Y := by rw [decide_eq_false h]; exact hy
theorem cond_eq {a b : Int} (ht : a = b → X) (hf : a ≠ b → Y) : cond (a == b) X Y := by
  by_cases h : a = b
  · rw [beq_iff_eq.2 h]; exact ht h
  · rw [beq_eq_false_iff_ne.2 h]; exact hf h
theorem cond_ne {a b : Int} (ht : a ≠ b → X) (hf : a = b → Y) : cond (a != b) X Y := by
  by_cases h : a = b
  · rw [bne_eq_false_iff_eq.2 h]; exact hf h
  · rw [bne_iff_ne.2 h]; exact ht h
end

/-! ### Small builtins -/

theorem Ret_bool {Q : Bool → World → Prop} {e : Ending} {w : World} (h : Ret [.at .bool] Q e w) : ∃ b, e = .returned (.bool b) ∧ Q b w := by
  cases e with
  | returned v =>
    simp only [Ret] at h
    cases v <;> simp [unR, Sh.cells, app, At.un, atsR, botW] at h
    exact ⟨_, rfl, h⟩
  | panicked _ => exact h.elim
  | outgrown => exact h.elim


/-! ### Slices of the call's own -/

/-- What is asked of a slice type: its elements' type, their cells and bytes, their zero value. -/
structure SlT (P : Program) (t e : TypeId) (size bytes : Nat) (z : Value) : Prop where
  under : P.underlying t = some (.slice e)
  info : (P.info? e).map (fun i => (i.zero, i.size, i.bytes)) = some (some z, size, bytes)
  zs : z.cells.size = size
  pos : 0 < size

theorem SlT.parts {P : Program} {t e : TypeId} {size bytes : Nat} {z : Value} (h : SlT P t e size bytes z) : ∃ i, P.info? e = some i ∧ i.zero = some z ∧ i.size = size ∧ i.bytes = bytes := by
  have := h.info
  cases hi : P.info? e with
  | none => rw [hi] at this; cases this
  | some i => rw [hi] at this; simp at this; exact ⟨i, rfl, this.1, this.2.1, this.2.2⟩

/-- The slice s is the call's own: its cells. -/
def Own (w : World) (base : Nat) (e : TypeId) (size : Nat) (s : Sl) (xs : List Value) : Prop := w.ownsRow base e size s.v s.len xs

theorem Own.nil (w : World) (base : Nat) (e : TypeId) (size : Nat) : Own w base e size ⟨none, 0, 0⟩ [] := World.ownsRow_nil w base e size

theorem Own.length {w : World} {base : Nat} {e : TypeId} {size : Nat} {s : Sl} {xs : List Value} (h : Own w base e size s xs) : xs.length = s.len * size := h.1

/-- What is behind a step that may write to one block of the call's own, and may make blocks. -/
structure Step (w w' : World) (g : Option Nat) : Prop where
  os : w'.os = w.os
  tape : w'.tape = w.tape
  output : w'.output = w.output
  size : w.heap.size ≤ w'.heap.size
  block : ∀ k, k < w.heap.size → some k ≠ g → w'.heap[k]? = w.heap[k]?

theorem Step.of_grown {w w' : World} {g : Option Nat} (h : w.grownBy w' g) : Step w w' g := ⟨h.os, h.tape, h.output, h.size, h.block⟩
theorem Step.ext {w w' : World} (h : Step w w' none) : Ext w w' := ⟨h.os, h.tape, h.output, h.size, fun k hk => h.block k hk (by simp)⟩
theorem Step.of_ext {w w' : World} (h : Ext w w') (g : Option Nat) : Step w w' g := ⟨h.os, h.tape, h.output, h.size, fun k hk _ => h.block k hk⟩
theorem Step.ext0 {w0 w w' : World} {g : Option Nat} (h : Step w w' g) (hE : Ext w0 w) (hg : ∀ k, g = some k → w0.heap.size ≤ k) : Ext w0 w' :=
  ⟨h.os.trans hE.os, h.tape.trans hE.tape, h.output.trans hE.output, Nat.le_trans hE.size h.size, fun k hk => (h.block k (Nat.lt_of_lt_of_le hk hE.size) (fun e => by have := hg k e.symm; omega)).trans (hE.block k hk)⟩

theorem Step.trans {a b c : World} {g : Option Nat} (h : Step a b g) (k : Step b c g) : Step a c g :=
  ⟨k.os.trans h.os, k.tape.trans h.tape, k.output.trans h.output, Nat.le_trans h.size k.size, fun b hb hne => (k.block b (Nat.lt_of_lt_of_le hb h.size) hne).trans (h.block b hb hne)⟩

theorem Step.refl (w : World) (g : Option Nat) : Step w w g := ⟨rfl, rfl, rfl, Nat.le_refl _, fun _ _ _ => rfl⟩

theorem Own.blk {w : World} {base : Nat} {e : TypeId} {size : Nat} {s : Sl} {xs : List Value} (h : Own w base e size s xs) : ∀ k, s.v.ownBlock = some k → base ≤ k ∧ k < w.heap.size := World.ownsRow.lt h

theorem Own.keep {w w' : World} {base : Nat} {e : TypeId} {size : Nat} {s : Sl} {xs : List Value} (h : Own w base e size s xs) (hb : ∀ k, s.v.ownBlock = some k → w'.heap[k]? = w.heap[k]?) : Own w' base e size s xs := by
  refine ⟨h.1, ?_⟩
  rcases h.2 with hn | ⟨g, cap, cur, hv, hb', hg, rest⟩
  · exact .inl hn
  · refine .inr ⟨g, cap, cur, hv, hb', ?_, rest⟩
    rw [hb g (by rw [hv]; rfl)]; exact hg

theorem Own.ext {w w' : World} {base : Nat} {e : TypeId} {size : Nat} {s : Sl} {xs : List Value} (h : Own w base e size s xs) (hE : Ext w w') : Own w' base e size s xs :=
  h.keep fun k hk => hE.same (h.blk k hk).2

class Flat (α : Type) extends RepP α where
  cells : α → List Value
  ok : α → Prop
  size : ∀ a, (cells a).length = sz
  one : ∀ a, ∀ v ∈ cells a, v.oneCell' = true
  repOk : ∀ {D w a}, ok a → rep D w (cells a) a
  ofRep : ∀ {D w cs a}, rep D w cs a → cs = cells a ∧ ok a

instance : Flat Int where
  cells n := [.int .i64 n]
  ok n := I64 n
  size _ := rfl
  one _ v hv := by simp at hv; subst hv; rfl
  repOk h := ⟨rfl, h⟩
  ofRep h := ⟨h.1, h.2⟩

instance : Flat Bool where
  cells n := [.bool n]
  ok _ := True
  size _ := rfl
  one _ v hv := by simp at hv; subst hv; rfl
  repOk _ := rfl
  ofRep h := ⟨h, trivial⟩

instance : Flat (Int × Int) where
  cells n := [.int .i64 n.1, .int .i64 n.2]
  ok n := I64 n.1 ∧ I64 n.2
  size _ := rfl
  one _ v hv := by simp at hv; rcases hv with rfl | rfl <;> rfl
  repOk h := ⟨rfl, h⟩
  ofRep h := ⟨h.1, h.2⟩

instance : Flat (Int × Int × Int × Int) where
  cells n := [.int .i64 n.1, .int .i64 n.2.1, .int .i64 n.2.2.1, .int .i64 n.2.2.2]
  ok n := I64 n.1 ∧ I64 n.2.1 ∧ I64 n.2.2.1 ∧ I64 n.2.2.2
  size _ := rfl
  one _ v hv := by simp at hv; rcases hv with rfl | rfl | rfl | rfl <;> rfl
  repOk h := ⟨rfl, h⟩
  ofRep h := ⟨h.1, h.2⟩

/-- The call's own slice s holds the list l. -/
def OwnL {α : Type} [Flat α] (w : World) (base : Nat) (e : TypeId) (s : Sl) (l : List α) : Prop :=
  s.len = l.length ∧ Own w base e (Rep.sz α) s (l.flatMap Flat.cells)

section
variable {α : Type} [Flat α] {w w' : World} {base : Nat} {e : TypeId} {s : Sl} {l : List α}

theorem flat_get (l : List α) {i j : Nat} {x : α} {v : Value} (hx : l[i]? = some x) (hv : (Flat.cells x)[j]? = some v) : (l.flatMap Flat.cells)[i * Rep.sz α + j]? = some v := by
  induction l generalizing i with
  | nil => cases hx
  | cons y r ih =>
    simp only [List.flatMap_cons]
    cases i with
    | zero =>
      simp at hx; subst hx
      have hlt := (List.getElem?_eq_some_iff.1 hv).1
      rw [List.getElem?_append_left (by simpa using hlt)]
      simpa using hv
    | succ i =>
      have hl : (Flat.cells y).length = Rep.sz α := Flat.size y
      rw [List.getElem?_append_right (by rw [hl, Nat.succ_mul]; omega), hl, show (i + 1) * Rep.sz α + j - Rep.sz α = i * Rep.sz α + j by rw [Nat.succ_mul]; omega]
      exact ih (by simpa using hx)

theorem OwnL.ext (h : OwnL w base e s l) (hE : Ext w w') : OwnL w' base e s l := ⟨h.1, h.2.ext hE⟩
theorem OwnL.keep (h : OwnL w base e s l) (hb : ∀ k, s.v.ownBlock = some k → w'.heap[k]? = w.heap[k]?) : OwnL w' base e s l := ⟨h.1, h.2.keep hb⟩
theorem OwnL.blk (h : OwnL w base e s l) : ∀ k, s.v.ownBlock = some k → base ≤ k ∧ k < w.heap.size := h.2.blk
theorem OwnL.nil (w : World) (base : Nat) (e : TypeId) : OwnL w base e ⟨none, 0, 0⟩ ([] : List α) := ⟨rfl, Own.nil _ _ _ _⟩

/-- What is owned reads as a list. -/
theorem OwnL.rep (h : OwnL w base e s l) (hok : ∀ x ∈ l, Flat.ok x) : SlR (fun b => base ≤ b) w s l := by
  obtain ⟨h1, h2⟩ := h
  refine ⟨h1, ?_, fun i x hx => ?_⟩
  · rcases h2.2 with ⟨hv, h0⟩ | ⟨g, cap, cur, hv, _, _, hle, hmx, _⟩
    · simp [Sl.v] at hv; omega
    · simp [Sl.v] at hv; obtain ⟨_, rfl⟩ := hv; exact ⟨hle, hmx⟩
  · rcases h2.2 with ⟨hv, h0⟩ | ⟨g, cap, cur, hv, hb, hg, hle, _, hsz, htake⟩
    · rw [h0] at h1; have : l = [] := by cases l; rfl; simp at h1
      subst this; cases hx
    · simp [Sl.v] at hv
      obtain ⟨ha, rfl⟩ := hv
      refine ⟨⟨g, 0, none⟩, Flat.cells x, ha, hb, Flat.repOk (hok x (List.mem_of_getElem? hx)), fun j v hj => ?_⟩
      have hown : w.ownsRow base e (Rep.sz α) s.v s.len (l.flatMap Flat.cells) := h2
      exact World.ownsRow.cells hown (g := g) (by simp [Sl.v, ha, Value.ownBlock]) _ v (flat_get l hx hj)

/-- The place of an element. -/
def Plc (s : Sl) (i size : Nat) (p : Addr) : Prop := ∃ a, s.a = some a ∧ p = a.add (i * size)

theorem IX_own (h : OwnL w base e s l) {i : Nat} (hi : i < l.length) {n : Nat} (hn : n = Rep.sz α) {K : Addr → Prop} (hk : ∀ p, Plc s i (Rep.sz α) p → K p) : IX s i n K := by
  subst hn
  rcases h.2.2 with ⟨hv, h0⟩ | ⟨g, cap, cur, hv, _⟩
  · rw [h.1] at h0; omega
  · simp [Sl.v] at hv
    exact ⟨_, hv.1, by omega, by rw [h.1]; omega, hk _ ⟨_, hv.1, by simp⟩⟩

end

theorem setMany_own {base : Nat} {e : TypeId} {size : Nat} {g n cap : Nat} : ∀ (vs : List Value) (i : Nat) (xs : List Value) (w : World) (K : World → Prop),
    w.ownsRow base e size (.slice (some ⟨g, 0, none⟩) n cap) n xs → (∀ v ∈ vs, v.oneCell' = true) → i + vs.length ≤ xs.length →
    (∀ w', w'.ownsRow base e size (.slice (some ⟨g, 0, none⟩) n cap) n (xs.take i ++ vs ++ xs.drop (i + vs.length)) → Step w w' (some g) → K w') → ∀ (a : Addr) (k : Nat), a.add k = ⟨g, i, none⟩ → ST a k vs w K
  | [], i, xs, w, K, h, _, hl, hk, a, k, _ => by
    refine hk w (by simpa using h) ⟨rfl, rfl, rfl, Nat.le_refl _, fun _ _ _ => rfl⟩
  | v :: vs, i, xs, w, K, h, h1, hl, hk, a, k, ha => by
    have hil : i < xs.length := by simp at hl; omega
    have hin : i < n * size := by rw [← h.1]; exact hil
    refine ⟨h1 v (by simp), ⟨xs[i], ?_⟩, ?_, ?_⟩
    · rw [ha, h.cellAt i hin]; simp [hil]
    · rw [ha]; exact h.frozenAt i
    · rw [ha]
      obtain ⟨hst, hgr⟩ := h.stored i v
      have hak : a.add (k + 1) = ⟨g, i + 1, none⟩ := by rw [← add_add, ha]; rfl
      refine setMany_own vs (i + 1) (xs.set i v) _ K hst (fun u hu => h1 u (by simp [hu])) (by simp at hl ⊢; omega) (fun w' hw' hs' => hk w' ?_ ?_) a (k + 1) hak
      · have e1 : (xs.set i v).take (i + 1) ++ vs ++ (xs.set i v).drop (i + 1 + vs.length) = xs.take i ++ v :: vs ++ xs.drop (i + (v :: vs).length) := by
          rw [List.drop_set_of_lt (by omega), List.take_set, List.take_succ_eq_append_getElem hil, List.set_append_right _ _ (by simp; omega)]
          simp [Nat.min_eq_left (Nat.le_of_lt hil), Nat.add_assoc, Nat.add_comm 1]
        rw [← e1]; exact hw'
      · refine ⟨hs'.os.trans hgr.os, hs'.tape.trans hgr.tape, hs'.output.trans hgr.output, Nat.le_trans hgr.size hs'.size, fun b hb hne => ?_⟩
        rw [hs'.block b (Nat.lt_of_lt_of_le hb hgr.size) hne, hgr.block b hb hne]

theorem flat_set {α : Type} [Flat α] (l : List α) {i : Nat} (hi : i < l.length) (x : α) :
    (l.set i x).flatMap Flat.cells = (l.flatMap Flat.cells).take (i * Rep.sz α) ++ Flat.cells x ++ (l.flatMap Flat.cells).drop (i * Rep.sz α + (Flat.cells x).length) := by
  have hl : ∀ y : α, (Flat.cells y).length = Rep.sz α := Flat.size
  induction l generalizing i with
  | nil => simp at hi
  | cons y r ih =>
    cases i with
    | zero => simp [hl]
    | succ i =>
      have := ih (i := i) (by simpa using hi)
      simp only [List.set_cons_succ, List.flatMap_cons, this, hl]
      rw [show (i + 1) * Rep.sz α = Rep.sz α + i * Rep.sz α by rw [Nat.succ_mul, Nat.add_comm]]
      have e1 : (Flat.cells y ++ List.flatMap Flat.cells r).take (Rep.sz α + i * Rep.sz α) = Flat.cells y ++ (List.flatMap Flat.cells r).take (i * Rep.sz α) := by
        rw [← hl y, List.take_length_add_append]
      have e2 : (Flat.cells y ++ List.flatMap Flat.cells r).drop (Rep.sz α + i * Rep.sz α + Rep.sz α) = (List.flatMap Flat.cells r).drop (i * Rep.sz α + Rep.sz α) := by
        rw [Nat.add_assoc, ← hl y, List.drop_length_add_append]
      rw [e1, e2]
      simp

section
variable {α : Type} [Flat α] {w w' : World} {base : Nat} {e : TypeId} {s : Sl} {l : List α}

/-- A store into the call's own slice. -/
theorem ST_own (h : OwnL w base e s l) {i : Nat} (hi : i < l.length) {p : Addr} (hp : Plc s i (Rep.sz α) p) (x : α) {vs : List Value} (hvs : vs = Flat.cells x) {K : World → Prop}
    (hk : ∀ w', OwnL w' base e s (l.set i x) → Step w w' s.v.ownBlock → K w') : ST p 0 vs w K := by
  subst hvs
  obtain ⟨a, ha, rfl⟩ := hp
  rcases h.2.2 with ⟨hv, h0⟩ | ⟨g, cap, cur, hv, _⟩
  · rw [h.1] at h0; omega
  · have hv' := hv
    simp [Sl.v] at hv
    obtain ⟨hsa, rfl⟩ := hv
    rw [hsa] at ha; cases ha
    have hown : w.ownsRow base e (Rep.sz α) (.slice (some ⟨g, 0, none⟩) s.len s.cap) s.len (l.flatMap Flat.cells) := by
      have := h.2; unfold Own at this; rw [hv'] at this; exact this
    have hlen : (l.flatMap Flat.cells).length = l.length * Rep.sz α := by have := h.2.length; rwa [h.1] at this
    have hcl : (Flat.cells x).length = Rep.sz α := Flat.size x
    refine setMany_own (Flat.cells x) (i * Rep.sz α) _ w K hown (Flat.one x) ?_ (fun w' hw' hs => hk w' ⟨by simp [h.1], ?_⟩ (by rw [hv']; exact hs)) _ 0 (by rw [add_zero']; simp only [Addr.add]; split <;> simp_all)
    · rw [hlen, hcl]
      have : (i + 1) * Rep.sz α ≤ l.length * Rep.sz α := Nat.mul_le_mul_right _ hi
      rw [Nat.succ_mul] at this; omega
    · unfold Own
      rw [hv', flat_set l hi x]
      exact hw'
end

/-- make([]T, n). -/
theorem RUN_make {α : Type} [Flat α] {P : Program} {t e : TypeId} {bytes : Nat} {z : Value} {d : α} (hT : SlT P t e (Rep.sz α) bytes z) (hz : z.cells.toList = Flat.cells d) {n : Nat} (hb : bytes * n ≤ 281474976710656) (h63 : n ≤ maxLen) {w : World} {K : Sl → World → Prop}
    (hk : ∀ s w', Ext w w' → OwnL w' w.heap.size e s (List.replicate n d) → K s w') : RUN P (.at .sl) (Instr.makeSlice t (.int .i64 (n : Int)) (.int .i64 (n : Int))) w K := by
  obtain ⟨i, hi, hz0, hs, hby⟩ := hT.parts
  obtain ⟨w', hr, hown, hg⟩ := run_make_full (P := P) w w.heap.size t e i z (Rep.sz α) hT.under hi hz0 hs .i64 .i64 n (by rw [hby]; exact hb) h63 (Nat.le_refl _)
  unfold RUN
  rw [hr]
  refine hk ⟨some ⟨w.heap.size, 0, none⟩, n, n⟩ w' (Step.of_grown hg).ext ⟨by simp, ?_⟩
  unfold Own
  have hcells : (madeCells z.cells (n * Rep.sz α)).toList = (List.replicate n d).flatMap Flat.cells := by
    have hsz : z.cells.size = Rep.sz α := hT.zs
    have hpos := hT.pos
    apply List.ext_getElem?
    intro j
    by_cases hj : j < n * Rep.sz α
    · have hlt : j % Rep.sz α < Rep.sz α := Nat.mod_lt _ hpos
      have hdl : (Flat.cells d).length = Rep.sz α := Flat.size d
      have h1 : (List.replicate n d)[j / Rep.sz α]? = some d := by
        rw [List.getElem?_replicate, if_pos ((Nat.div_lt_iff_lt_mul hpos).2 hj)]
      have h2 : (Flat.cells d)[j % Rep.sz α]? = some (Flat.cells d)[j % Rep.sz α] := by simp [hdl, hlt]
      have h3 := flat_get (List.replicate n d) h1 h2
      rw [Nat.div_add_mod' j (Rep.sz α)] at h3
      rw [h3]
      simp only [madeCells]
      simp [hj, hsz]
      have : z.cells[j % Rep.sz α]! = (Flat.cells d)[j % Rep.sz α] := by
        have hh : j % Rep.sz α < z.cells.size := by rw [hsz]; exact hlt
        rw [getElem!_pos z.cells _ hh]
        have : z.cells[j % Rep.sz α] = z.cells.toList[j % Rep.sz α]'(by simpa using hh) := by simp
        rw [this]
        simp only [hz]
      exact this
    · have hl2 : ((List.replicate n d).flatMap Flat.cells).length = n * Rep.sz α := by
        have : ∀ m, ((List.replicate m d).flatMap Flat.cells).length = m * Rep.sz α := by
          intro m
          induction m with
          | zero => simp
          | succ m ih => rw [List.replicate_succ, List.flatMap_cons, List.length_append, ih, Flat.size d, Nat.succ_mul, Nat.add_comm]
        exact this n
      rw [List.getElem?_eq_none (by simp [madeCells]; omega), List.getElem?_eq_none (by rw [hl2]; omega)]
  show w'.ownsRow w.heap.size e (Rep.sz α) (.slice (some ⟨w.heap.size, 0, none⟩) n n) n _
  rw [← hcells]
  exact hown


/-! ### Literals and append -/

theorem foldl_sets : ∀ (l : List Value) (k : Nat) (ys : List Value), k + l.length ≤ ys.length →
    (l.zipIdx k).foldl (fun (cs : List Value) x => cs.set (0 + x.2) x.1) ys = ys.take k ++ l ++ ys.drop (k + l.length)
  | [], k, ys, h => by simp
  | v :: l, k, ys, h => by
    have hk : k < ys.length := by simp at h; omega
    simp only [List.zipIdx_cons, List.foldl_cons]
    rw [foldl_sets l (k + 1) _ (by simp at h ⊢; omega)]
    rw [Nat.zero_add, List.drop_set_of_lt (by omega), List.take_set, List.take_succ_eq_append_getElem hk, List.set_append_right _ _ (by simp; omega)]
    simp [Nat.min_eq_left (Nat.le_of_lt hk), Nat.add_assoc, Nat.add_comm 1]

theorem fill_one (arr : Array Value) (v : Value) (sz : Nat) (h1 : arr.size = sz) (h2 : v.cells.size = sz) : Instr.fill (fun i => some (i * sz, sz)) arr [(0, v)] = some v.cells := by
  simp only [Instr.fill, Nat.zero_mul]
  rw [if_neg (by simp [h1, h2])]
  congr 1
  apply Array.ext'
  rw [← Array.foldl_toList]
  have : ∀ (l : List (Value × Nat)) (a : Array Value), (l.foldl (fun (cs : Array Value) x => cs.setIfInBounds (0 + x.2) x.1) a).toList = l.foldl (fun (cs : List Value) x => cs.set (0 + x.2) x.1) a.toList := by
    intro l
    induction l with
    | nil => intro a; rfl
    | cons x r ih => intro a; simp only [List.foldl_cons]; rw [ih]; simp
  have e : v.cells.zipIdx.toList = v.cells.toList.zipIdx 0 := by simp
  rw [e, this, foldl_sets _ _ _ (by simp; omega)]
  simp
  omega

/-- A literal of one element: []T{x}. -/
theorem RUN_lit1 {α : Type} [Flat α] {P : Program} {t e : TypeId} {bytes : Nat} {z v : Value} (hT : SlT P t e (Rep.sz α) bytes z) (x : α) (hv : v.cells.toList = Flat.cells x) (hs : Rep.sz α ≤ 1000) {w : World} {K : Sl → World → Prop}
    (hk : ∀ s w', Ext w w' → OwnL w' w.heap.size e s [x] → K s w') : RUN P (.at .sl) (Instr.buildSlice t 1 #[(0, v)]) w K := by
  obtain ⟨i, hi, hz0, hsz, hby⟩ := hT.parts
  have hvs : v.cells.size = Rep.sz α := by rw [← Array.length_toList, hv, Flat.size]
  have hr := run_buildSlice (P := P) w t e 1 #[(0, v)] v.cells i z hT.under hi hz0 (by rw [hsz]; omega) (by rw [hsz]; have := hT.pos; omega) (by rw [hsz]; exact fill_one _ v _ (by simp) hvs)
  unfold RUN
  rw [hr]
  refine hk ⟨some ⟨w.heap.size, 0, none⟩, 1, 1⟩ _ (ext_push w _) ⟨rfl, ?_⟩
  have := World.ownsRow_lit (base := w.heap.size) (e := e) (size := Rep.sz α) w v.cells 1 (Nat.le_refl _) (by unfold maxLen; omega) (by rw [hvs]; omega)
  unfold Own
  simpa [hv] using this

/-- The cells of a slice that reads as a list. -/
theorem SlR.flat {α : Type} [Flat α] {D : Nat → Prop} {w : World} {y : Sl} {m : List α} (h : SlR D w y m) {a : Addr} (ha : y.a = some a) : ∀ j u, (m.flatMap Flat.cells)[j]? = some u → w.cell? (a.add j) = some u := by
  intro j u hu
  have hpos : 0 < Rep.sz α := RepP.pos
  have hlen : (m.flatMap Flat.cells).length = m.length * Rep.sz α := by
    clear hu h
    induction m with
    | nil => simp
    | cons x r ih => rw [List.flatMap_cons, List.length_append, ih, Flat.size x, List.length_cons, Nat.succ_mul, Nat.add_comm]
  have hj : j < m.length * Rep.sz α := by rw [← hlen]; exact (List.getElem?_eq_some_iff.1 hu).1
  have hi : j / Rep.sz α < m.length := (Nat.div_lt_iff_lt_mul hpos).2 hj
  obtain ⟨a', cs, ha', _, hr, hc⟩ := h.2.2 (j / Rep.sz α) m[j / Rep.sz α] (by simp [hi])
  rw [ha] at ha'; cases ha'
  obtain ⟨rfl, _⟩ := Flat.ofRep hr
  have hmod : j % Rep.sz α < (Flat.cells m[j / Rep.sz α]).length := by rw [Flat.size]; exact Nat.mod_lt _ hpos
  have h2 : (Flat.cells m[j / Rep.sz α])[j % Rep.sz α]? = some (Flat.cells m[j / Rep.sz α])[j % Rep.sz α] := by simp [hmod]
  have h3 := flat_get m (i := j / Rep.sz α) (by simp [hi]) h2
  rw [Nat.div_add_mod' j (Rep.sz α), hu] at h3
  cases h3
  have := hc _ _ h2
  rwa [Nat.div_add_mod' j (Rep.sz α)] at this

/-- What a slice became by appending lies in the same block or in a new one. -/
def NewOr (w : World) (s s' : Sl) : Prop := s'.v.ownBlock = s.v.ownBlock ∨ ∀ k, s'.v.ownBlock = some k → w.heap.size ≤ k

/-- append(s, y...) on a slice of the call's own; what is appended reads as a list. -/
theorem RUN_appendF {α : Type} [Flat α] {P : Program} {t e : TypeId} {bytes : Nat} {z : Value} (hT : SlT P t e (Rep.sz α) bytes z) {w : World} {base : Nat} {s y : Sl} {l m : List α} (h : OwnL w base e s l) (hbase : base ≤ w.heap.size)
    {D : Nat → Prop} (hy : SlR D w y m) (hlen : (l.length + m.length) * bytes ≤ 140737488355328) (hmax : l.length + m.length ≤ maxLen) {K : Sl → World → Prop}
    (hk : ∀ s' w', OwnL w' base e s' (l ++ m) → Step w w' s.v.ownBlock → NewOr w s s' → K s' w') : RUN P (.at .sl) (bsem .append #[t, t] t #[s.v, y.v]) w K := by
  obtain ⟨i, hi, hz0, hsz, hby⟩ := hT.parts
  have hyl : (m.flatMap Flat.cells).length = m.length * Rep.sz α := by
    clear hy hlen hmax hk
    induction m with
    | nil => simp
    | cons x r ih => rw [List.flatMap_cons, List.length_append, ih, Flat.size x, List.length_cons, Nat.succ_mul, Nat.add_comm]
  have hone : ∀ u ∈ m.flatMap Flat.cells, u.oneCell' = true := by
    intro u hu
    obtain ⟨x, _, hx⟩ := List.mem_flatMap.1 hu
    exact Flat.one x u hx
  have hown : w.ownsRow base e (Rep.sz α) s.v l.length (l.flatMap Flat.cells) := by have := h.2; unfold Own at this; rwa [h.1] at this
  have fin : ∀ v' w', (Builtin.append_ #[t, t] t #[s.v, y.v]).run P w = .ok v' w' → w'.ownsRow base e (Rep.sz α) v' (l.length + m.length) (l.flatMap Flat.cells ++ m.flatMap Flat.cells) → Step w w' s.v.ownBlock → (v'.ownBlock = s.v.ownBlock ∨ ∀ k, v'.ownBlock = some k → w.heap.size ≤ k) → RUN P (.at .sl) (bsem .append #[t, t] t #[s.v, y.v]) w K := by
    intro v' w' hr ho hst hnw
    have hsl : ∃ s' : Sl, v' = s'.v ∧ s'.len = l.length + m.length := by
      rcases ho.2 with ⟨rfl, h0⟩ | ⟨g', cap', cur', rfl, _⟩
      · exact ⟨⟨none, 0, 0⟩, rfl, h0.symm⟩
      · exact ⟨⟨some ⟨g', 0, none⟩, l.length + m.length, cap'⟩, rfl, rfl⟩
    obtain ⟨s', rfl, hs'⟩ := hsl
    unfold RUN
    show (match (Builtin.append_ #[t, t] t #[s.v, y.v]).run P w with | .ok v w' => _ | .halt _ _ => False)
    rw [hr]
    refine hk s' w' ⟨by simp [hs'], ?_⟩ hst hnw
    unfold Own
    rw [hs', List.flatMap_append]
    exact ho
  cases hya : y.a with
  | none =>
    have hm : m = [] := by
      cases m with
      | nil => rfl
      | cons x r => obtain ⟨a, _, ha, _⟩ := hy.2.2 0 x rfl; rw [hya] at ha; cases ha
    subst hm
    have hyv : y.v = .slice none 0 y.cap := by have := hy.1; simp at this; simp [Sl.v, hya, this]
    refine fin s.v w ?_ (by simpa using hown) (Step.refl _ _) (.inl rfl)
    rw [hyv]
    obtain ⟨sa, sl, sc⟩ := s
    have hle : sl ≤ sc := by
      rcases hown.2 with ⟨h0, h1⟩ | ⟨g, cap, cur, h0, _, _, h1, _⟩
      · simp [Sl.v] at h0; omega
      · simp [Sl.v] at h0; omega
    cases sa <;> simp [Builtin.append_, underlying_run hT.under, sizeOf_run hi, Builtin.lenOf, hle, Builtin.firstCells, storeCells]
  | some a =>
    have hyv : y.v = .slice (some a) m.length y.cap := by rw [← hy.1]; simp [Sl.v, hya]
    obtain ⟨v', w', hr, ho, hg, _⟩ := run_append_own (P := P) w base t t e i z (Rep.sz α) bytes hT.under hi hz0 hsz hby hT.zs hT.pos s.v l.length _ hown a m.length y.cap (m.flatMap Flat.cells) hyl (hy.flat hya) hone hmax hlen hbase
    refine fin v' w' (by rw [hyv]; exact hr) ho (Step.of_grown hg) ?_
    rcases hown.2 with ⟨h0, h1⟩ | ⟨g, cap, cur, h0, hbg, hgg, hnc, hcm, hcs, htake⟩
    · right
      have hown' : w.ownsRow w.heap.size e (Rep.sz α) s.v l.length (l.flatMap Flat.cells) := ⟨hown.1, .inl ⟨h0, h1⟩⟩
      obtain ⟨v2, w2, hr2, ho2, _⟩ := run_append_own (P := P) w w.heap.size t t e i z (Rep.sz α) bytes hT.under hi hz0 hsz hby hT.zs hT.pos s.v l.length _ hown' a m.length y.cap (m.flatMap Flat.cells) hyl (hy.flat hya) hone hmax hlen (Nat.le_refl _)
      rw [hr] at hr2
      cases hr2
      exact fun k hk => (World.ownsRow.lt ho2 k hk).1
    · have hyl' : (m.flatMap Flat.cells).length = m.length * i.size := by rw [hsz]; exact hyl
      have hol' : (l.flatMap Flat.cells).length = l.length * i.size := by rw [hsz]; exact hown.1
      subst hby
      rw [h0] at hr ⊢
      by_cases hroom : l.length + m.length ≤ cap
      · left
        have hr2 := run_append_room (P := P) w t t e i hT.under hi g l.length cap cur hgg a m.length y.cap (m.flatMap Flat.cells) hyl' (hy.flat hya) hone hroom (by rw [hyl, hcs, hsz, ← Nat.add_mul]; exact Nat.mul_le_mul_right _ hroom)
        rw [hr] at hr2
        cases hr2
        rfl
      · right
        have hr2 := run_append_grow (P := P) w t t e i z hT.under hi hz0 ⟨g, 0, none⟩ l.length cap (l.flatMap Flat.cells) hol' (hown.cells (g := g) (by rw [h0]; rfl)) a m.length y.cap (m.flatMap Flat.cells) hyl' (hy.flat hya) (by omega) (by simp only [maxLen] at hmax; omega) (growslice_fits (by simp only [maxLen] at hmax; omega) hlen)
        rw [hr] at hr2
        cases hr2
        intro k hk
        simp [Value.ownBlock] at hk
        omega

theorem RUN_append {α : Type} [Flat α] {P : Program} {t e : TypeId} {bytes : Nat} {z : Value} (hT : SlT P t e (Rep.sz α) bytes z) {w : World} {base : Nat} {s y : Sl} {l m : List α} (h : OwnL w base e s l) (hbase : base ≤ w.heap.size)
    {D : Nat → Prop} (hy : SlR D w y m) (hlen : (l.length + m.length) * bytes ≤ 140737488355328) (hmax : l.length + m.length ≤ maxLen) {K : Sl → World → Prop}
    (hk : ∀ s' w', OwnL w' base e s' (l ++ m) → Step w w' s.v.ownBlock → K s' w') : RUN P (.at .sl) (bsem .append #[t, t] t #[s.v, y.v]) w K :=
  RUN_appendF hT h hbase hy hlen hmax fun s' w' h1 h2 _ => hk s' w' h1 h2

/-- An empty literal: []T{}. -/
theorem RUN_lit0 {α : Type} [Flat α] {P : Program} {t e : TypeId} {bytes : Nat} {z : Value} (hT : SlT P t e (Rep.sz α) bytes z) {w : World} {K : Sl → World → Prop}
    (hk : ∀ s w', Ext w w' → OwnL w' w.heap.size e s ([] : List α) → K s w') : RUN P (.at .sl) (Instr.buildSlice t 0 #[]) w K := by
  obtain ⟨i, hi, hz0, hsz, hby⟩ := hT.parts
  have hr : (Instr.buildSlice t 0 #[]).run P w = .ok (.slice (some ⟨w.heap.size, 0, none⟩) 0 0) { w with heap := w.heap.push (.cells #[] e) } := by
    simp [Instr.buildSlice, underlying_run hT.under, sizeOf_run hi, Instr.fill, newRow, newObj, Sem.run]
    have : (Array.range 0) = #[] := rfl
    rw [this]; simp
  unfold RUN
  rw [hr]
  refine hk ⟨some ⟨w.heap.size, 0, none⟩, 0, 0⟩ _ (ext_push w _) ⟨rfl, ?_⟩
  have := World.ownsRow_lit (base := w.heap.size) (e := e) (size := Rep.sz α) w #[] 0 (Nat.le_refl _) (by unfold maxLen; omega) (by simp)
  unfold Own
  simpa using this

/-- A slice's first elements. -/
theorem SlR.take {α : Type} [RepP α] {D : Nat → Prop} {w : World} {s : Sl} {l : List α} (h : SlR D w s l) {i : Nat} (hi : i ≤ l.length) {sz : Nat} (_ : sz = Rep.sz α) {K : Sl → Prop} (hk : ∀ s', SlR D w s' (l.take i) → K s') : SLC s none (some (i : Int)) sz K := by
  have h1 := h.1
  have h2 := h.2.1
  refine ⟨by simp, by simp, by simp; omega, hk _ ⟨by simp; omega, by simp; omega, fun j x hx => ?_⟩⟩
  rw [List.getElem?_take] at hx
  split at hx
  · obtain ⟨a, cs, ha, hb, hr, hc⟩ := h.2.2 j x hx
    refine ⟨a, cs, ?_, hb, hr, hc⟩
    simp [ha, add_zero']
  · cases hx

/-- Slices as elements. -/
instance : Rep Sl where
  sz := 1
  rep _ _ cs s := cs = [s.v]
  len h := by rw [h]; rfl
  agr _ h := h
  weak _ h := h
instance : RepP Sl := ⟨by decide⟩
instance : Flat Sl where
  cells s := [s.v]
  ok _ := True
  size _ := rfl
  one _ v hv := by simp at hv; subst hv; rfl
  repOk _ := rfl
  ofRep h := ⟨h, trivial⟩

/-- The call's own slice of slices reads as a list of lists. -/
theorem OwnL.rows {α : Type} [RepP α] {D : Nat → Prop} {w : World} {base : Nat} {e : TypeId} {s : Sl} {ss : List Sl} {l : List (List α)} (h : OwnL w base e s ss) (hlen : ss.length = l.length)
    (hr : ∀ i (h1 : i < ss.length) (h2 : i < l.length), SlR D w ss[i] l[i]) (hD : ∀ b, base ≤ b → D b) : SlR D w s l := by
  have h0 := h.rep (fun _ _ => trivial)
  refine ⟨by rw [h0.1, hlen], h0.2.1, fun i x hx => ?_⟩
  obtain ⟨h2, rfl⟩ := List.getElem?_eq_some_iff.1 hx
  have h1 : i < ss.length := by omega
  obtain ⟨a, cs, ha, hb, hcs, hc⟩ := h0.2.2 i ss[i] (by simp [h1])
  have hcs' : cs = [ss[i].v] := hcs
  subst hcs'
  exact ⟨a, _, ha, hD _ hb, ⟨ss[i], rfl, hr i h1 h2⟩, hc⟩


/-! ### Boxes -/

section
variable {w : World} {p : Addr} {t : TypeId}

theorem LD_box3 {x y z : Sl} {r : List Value} {K : Sl → Sl → Sl → Prop} (hb : Box w p t (x.v :: y.v :: z.v :: r)) (hk : K x y z) : LD [.sl, .sl, .sl] p w K :=
  LD_sl3 (hb.cell (i := 0) rfl) (hb.cell (i := 1) rfl) (hb.cell (i := 2) rfl) hk
theorem LD_bs0 {x : Sl} {r : List Value} {K : Sl → Prop} (hb : Box w p t (x.v :: r)) (hk : K x) : LD [.sl] (p.add 0) w K := LD_sl (hb.cell (i := 0) rfl) hk
theorem LD_bs1 {x : Sl} {v0 : Value} {r : List Value} {K : Sl → Prop} (hb : Box w p t (v0 :: x.v :: r)) (hk : K x) : LD [.sl] (p.add 1) w K := LD_sl (hb.cell (i := 1) rfl) hk
theorem LD_bs2 {x : Sl} {v0 v1 : Value} {r : List Value} {K : Sl → Prop} (hb : Box w p t (v0 :: v1 :: x.v :: r)) (hk : K x) : LD [.sl] (p.add 2) w K := LD_sl (hb.cell (i := 2) rfl) hk
theorem LD_bi {x : Int} {r : List Value} {K : Int → Prop} (hb : Box w p t (.int .i64 x :: r)) (hk : K x) : LD [.int .i64] p w K := LD_int (hb.cell (i := 0) rfl) hk
theorem LD_bs {x : Sl} {r : List Value} {K : Sl → Prop} (hb : Box w p t (x.v :: r)) (hk : K x) : LD [.sl] p w K := LD_sl (hb.cell (i := 0) rfl) hk
theorem LD_bi0 {x : Int} {r : List Value} {K : Int → Prop} (hb : Box w p t (.int .i64 x :: r)) (hk : K x) : LD [.int .i64] (p.add 0) w K := LD_int (hb.cell (i := 0) rfl) hk
theorem LD_bi1 {x : Int} {v0 : Value} {r : List Value} {K : Int → Prop} (hb : Box w p t (v0 :: .int .i64 x :: r)) (hk : K x) : LD [.int .i64] (p.add 1) w K := LD_int (hb.cell (i := 1) rfl) hk
theorem LD_bi2 {x : Int} {v0 v1 : Value} {r : List Value} {K : Int → Prop} (hb : Box w p t (v0 :: v1 :: .int .i64 x :: r)) (hk : K x) : LD [.int .i64] (p.add 2) w K := LD_int (hb.cell (i := 2) rfl) hk
theorem LD_bi3 {x : Int} {v0 v1 v2 : Value} {r : List Value} {K : Int → Prop} (hb : Box w p t (v0 :: v1 :: v2 :: .int .i64 x :: r)) (hk : K x) : LD [.int .i64] (p.add 3) w K := LD_int (hb.cell (i := 3) rfl) hk
theorem LD_box2 {x y : Int} {r : List Value} {K : Int → Int → Prop} (hb : Box w p t (.int .i64 x :: .int .i64 y :: r)) (hk : K x y) : LD [.int .i64, .int .i64] p w K :=
  LD_int2 (hb.cell (i := 0) rfl) (hb.cell (i := 1) rfl) hk
end

theorem ST_box {p : Addr} {t : TypeId} : ∀ (vs : List Value) (i : Nat) (cs : List Value) (w : World) (K : World → Prop), Box w p t cs → (∀ v ∈ vs, v.oneCell' = true) → i + vs.length ≤ cs.length →
    (∀ w', Step w w' (some p.block) → w'.heap.size = w.heap.size → Box w' p t (cs.take i ++ vs ++ cs.drop (i + vs.length)) → K w') → ST p i vs w K
  | [], i, cs, w, K, hb, _, _, hk => hk w (Step.refl _ _) rfl (by simpa using hb)
  | v :: vs, i, cs, w, K, hb, h1, hl, hk => by
    have hi : i < cs.length := by simp at hl; omega
    refine ⟨h1 v (by simp), ⟨cs[i], hb.cell (by simp [hi])⟩, hb.frozen i, ?_⟩
    refine ST_box vs (i + 1) (cs.set i v) _ K (hb.set i v) (fun u hu => h1 u (by simp [hu])) (by simp at hl ⊢; omega) fun w' hs hsz hb' => hk w' ?_ ?_ ?_
    · have h0 : Step w (w.setCell (p.add i) v) (some p.block) := ⟨rfl, rfl, rfl, by rw [setCell_size]; exact Nat.le_refl _, fun k _ hne => setCell_other _ _ _ (by rw [add_block]; intro he; exact hne (by rw [he]))⟩
      exact h0.trans hs
    · rw [hsz, setCell_size]
    · have e1 : (cs.set i v).take (i + 1) ++ vs ++ (cs.set i v).drop (i + 1 + vs.length) = cs.take i ++ v :: vs ++ cs.drop (i + (v :: vs).length) := by
        rw [List.drop_set_of_lt (by omega), List.take_set, List.take_succ_eq_append_getElem hi, List.set_append_right _ _ (by simp; omega)]
        simp [Nat.min_eq_left (Nat.le_of_lt hi), Nat.add_assoc, Nat.add_comm 1]
      rw [← e1]; exact hb'

/-- All cells of a box. -/
theorem ST_all {w : World} {p : Addr} {t : TypeId} {cs vs : List Value} {K : World → Prop} (hb : Box w p t cs) (h1 : ∀ v ∈ vs, v.oneCell' = true) (hl : vs.length = cs.length)
    (hk : ∀ w', Step w w' (some p.block) → w'.heap.size = w.heap.size → Box w' p t vs → K w') : ST p 0 vs w K :=
  ST_box vs 0 cs w K hb h1 (by omega) fun w' h2 h3 h4 => hk w' h2 h3 (by simpa [List.drop_of_length_le (Nat.le_of_eq hl.symm)] using h4)

/-- A new variable that is filled at once. -/
theorem NEW_ST {t : TypeId} {zs vs : List Value} {w : World} {K : Addr → World → Prop} (h1 : ∀ v ∈ vs, v.oneCell' = true) (hl : vs.length = zs.length)
    (hk : ∀ p w', p.block = w.heap.size → Ext w w' → Box w' p t vs → K p w') : NEW t ⟨zs⟩ w fun p w1 => ST p 0 vs w1 fun w2 => K p w2 :=
  NEW_intro fun p w1 hp hsz hE hb => ST_all hb h1 hl fun w2 hs _ hb2 => hk p w2 hp (hs.ext0 hE (fun k hk => by cases hk; omega)) hb2

theorem one2 (x y : Int) : ∀ v ∈ [Value.int .i64 x, .int .i64 y], v.oneCell' = true := by intro v hv; simp at hv; rcases hv with rfl | rfl <;> rfl
theorem one3 (x y z : Sl) : ∀ v ∈ [x.v, y.v, z.v], v.oneCell' = true := by intro v hv; simp at hv; rcases hv with rfl | rfl | rfl <;> rfl
theorem one1s (x : Sl) : ∀ v ∈ [x.v], v.oneCell' = true := by intro v hv; simp at hv; subst hv; rfl


/-- One step of filling. -/
theorem fill_step {α : Type} {l : List α} {i : Nat} (hi : i < l.length) (d : α) : (l.take i ++ List.replicate (l.length - i) d).set i l[i] = l.take (i + 1) ++ List.replicate (l.length - (i + 1)) d := by
  have h1 : (l.take i).length = i := by simp; omega
  rw [List.set_append_right _ _ (by omega), h1, Nat.sub_self, show l.length - i = (l.length - (i + 1)) + 1 by omega, List.replicate_succ, List.set_cons_zero, List.take_succ_eq_append_getElem hi, List.append_assoc]
  rfl

theorem fill_len {α : Type} {l : List α} {i : Nat} (hi : i ≤ l.length) (d : α) : (l.take i ++ List.replicate (l.length - i) d).length = l.length := by simp; omega

/-! ### Structs of numbers compared -/

def intFieldsOk (P : Program) : Nat → List Field → Bool
  | _, [] => true
  | k, f :: fs => f.name != "_" && (match P.underlying f.type with | some (.int _) => true | _ => false) && f.offset == k && intFieldsOk P (k + 1) fs

/-- A struct type of n fields, each a number: '==' goes field by field. -/
def intStruct (P : Program) (t : TypeId) (n : Nat) : Bool :=
  intFieldsOk P 0 (P.fieldsOf t).toList && (P.fieldsOf t).size == n && (match P.underlying t with | some (.struct _) => true | _ => false) && !P.stoodInHeld t && !P.eqGuardType P.depth t

theorem eqFields_run {P : Program} (w : World) (d : Nat) (xs ys : List Int) : ∀ (fs : List Field) (k : Nat), intFieldsOk P k fs = true → k + fs.length = xs.length → xs.length = ys.length →
    (Op.eqFields (d + 1) ⟨xs.map (Value.int .i64)⟩ ⟨ys.map (Value.int .i64)⟩ fs).run P w = .ok (xs.drop k == ys.drop k) w
  | [], k, _, hk, hl => by
    have h1 : xs.drop k = [] := List.drop_of_length_le (by simp at hk; omega)
    have h2 : ys.drop k = [] := List.drop_of_length_le (by simp at hk; omega)
    rw [h1, h2]; simp [Op.eqFields]
  | f :: fs, k, h, hk, hl => by
    simp only [intFieldsOk, Bool.and_eq_true, bne_iff_ne, beq_iff_eq] at h
    obtain ⟨⟨⟨hn, hu⟩, ho⟩, hr⟩ := h
    simp at hk
    have hx : k < xs.length := by omega
    have hy : k < ys.length := by omega
    cases hu' : P.underlying f.type with
    | none => rw [hu'] at hu; cases hu
    | some u =>
      rw [hu'] at hu
      cases u with
      | int kk =>
        have hp : ∀ (zs : List Int) (hz : k < zs.length) (w : World), (part f.type ⟨zs.map (Value.int .i64)⟩ f.offset).run P w = .ok (.int .i64 zs[k]) w := fun zs hz w => by
          simp [part, isAgg, underlying_run hu', ho, hz]
        have ih := eqFields_run (P := P) w d xs ys fs (k + 1) hr (by omega) hl
        have hd : (xs.drop k == ys.drop k) = (xs[k] == ys[k] && (xs.drop (k + 1) == ys.drop (k + 1))) := by
          rw [List.drop_eq_getElem_cons hx, List.drop_eq_getElem_cons hy, List.cons_beq_cons]
        rw [hd]
        simp only [Op.eqFields, ne_eq, hn, not_false_eq_true, if_true, Sem.run_bind, hp xs hx, hp ys hy, Result.andThen_ok, run_equalIn_int w d f.type .i64 kk _ _ hu']
        by_cases he : xs[k] = ys[k]
        · simp [he, ih]
        · simp [he]
      | _ => cases hu

theorem intStruct_eq {P : Program} {t : TypeId} {xs ys : List Int} (h : intStruct P t xs.length = true) (hl : xs.length = ys.length) (w : World) :
    (Op.equalIn 10000 t (.agg ⟨xs.map (Value.int .i64)⟩) (.agg ⟨ys.map (Value.int .i64)⟩)).run P w = .ok (xs == ys) w := by
  simp only [intStruct, Bool.and_eq_true, Bool.not_eq_true', beq_iff_eq] at h
  obtain ⟨⟨⟨⟨h1, h2⟩, h3⟩, h4⟩, _⟩ := h
  have hu : P.underlying t = some (.struct (P.fieldsOf t)) := by
    unfold Program.fieldsOf
    cases hx : P.underlying t with
    | none => rw [hx] at h3; cases h3
    | some u => rw [hx] at h3; cases u <;> first | rfl | cases h3
  rw [show (10000 : Nat) = 9999 + 1 from rfl, run_equalIn_agg w 9999 t _ _ hu h4]
  have := eqFields_run (P := P) w 9998 xs ys (P.fieldsOf t).toList 0 h1 (by simp [h2]) hl
  simpa using this

theorem intStruct_guard {P : Program} {t : TypeId} {n : Nat} (h : intStruct P t n = true) : P.eqGuardType P.depth t = false := by
  simp only [intStruct, Bool.and_eq_true, Bool.not_eq_true'] at h
  exact h.2

theorem AEQ_neq2 {P : Program} {t : TypeId} (h : intStruct P t 2 = true) {x y : Operand} {a b c d : Int} {K : Bool → Prop} (hk : K (!decide ((a, b) = (c, d)))) :
    AEQ P (do eqGuard .neq t x y (.agg #[.int .i64 a, .int .i64 b]) (.agg #[.int .i64 c, .int .i64 d]); binOp .neq t (.agg #[.int .i64 a, .int .i64 b]) (.agg #[.int .i64 c, .int .i64 d])) K :=
  ⟨_, fun w => by
    have := intStruct_eq (xs := [a, b]) (ys := [c, d]) h rfl w
    simp only [List.map_cons, List.map_nil] at this
    rw [Sem.run_bind, run_eqGuard_agg w .neq t x y _ _ (intStruct_guard h), Result.andThen_ok, run_neq_struct w t, this, Result.andThen_ok]
    by_cases h1 : a = c <;> by_cases h2 : b = d <;> simp [h1, h2], hk⟩

theorem AEQ_eql2 {P : Program} {t : TypeId} (h : intStruct P t 2 = true) {x y : Operand} {a b c d : Int} {K : Bool → Prop} (hk : K (decide ((a, b) = (c, d)))) :
    AEQ P (do eqGuard .eql t x y (.agg #[.int .i64 a, .int .i64 b]) (.agg #[.int .i64 c, .int .i64 d]); binOp .eql t (.agg #[.int .i64 a, .int .i64 b]) (.agg #[.int .i64 c, .int .i64 d])) K :=
  ⟨_, fun w => by
    have := intStruct_eq (xs := [a, b]) (ys := [c, d]) h rfl w
    simp only [List.map_cons, List.map_nil] at this
    rw [Sem.run_bind, run_eqGuard_agg w .eql t x y _ _ (intStruct_guard h), Result.andThen_ok, run_eql_struct w t, this, Result.andThen_ok]
    by_cases h1 : a = c <;> by_cases h2 : b = d <;> simp [h1, h2], hk⟩

/-! ### Loops with an accumulator ahead of the index -/

def IN2 {α : Type} (N : Nat) (I : Nat → α → World → Prop) (a : α) (x : Int) (w : World) : Prop := ∃ i : Nat, x = i ∧ i ≤ N ∧ I i a w
def MN2 {α : Type} (N : Nat) (_ : α) (x : Int) (_ : World) : Nat := N - x.toNat

theorem IN2_zero {α : Type} {N : Nat} {I : Nat → α → World → Prop} {a : α} {w : World} (h : I 0 a w) : IN2 N I a 0 w := ⟨0, rfl, Nat.zero_le _, h⟩

theorem IN2_next {α : Type} {N i : Nat} {I : Nat → α → World → Prop} {a a' : α} {w w' : World} (hN : N ≤ 9223372036854775807) (hi : i < N) (h : I (i + 1) a w) :
    IN2 N I a (IntKind.i64.wrap ((i : Int) + 1)) w ∧ MN2 N a (IntKind.i64.wrap ((i : Int) + 1)) w < MN2 N a' i w' := by
  rw [wrap_of (by omega) (by omega)]
  exact ⟨⟨i + 1, by omega, hi, h⟩, by unfold MN2; omega⟩

theorem Ext.ext {a b c : World} (h : Ext a b) (hE : Ext b c) : Ext a c := h.trans hE

theorem all_succ {p : Nat → Prop} {v : Nat} (h : ∀ u < v, p u) (hv : p v) : ∀ u < v + 1, p u := fun u hu => by
  rcases Nat.lt_or_eq_of_le (Nat.le_of_lt_succ hu) with h1 | h1
  · exact h u h1
  · subst h1; exact hv

theorem OwnL.low {α : Type} [Flat α] {w : World} {base base' : Nat} {e : TypeId} {s : Sl} {l : List α} (h : OwnL w base e s l) (hb : base' ≤ base) : OwnL w base' e s l := by
  refine ⟨h.1, h.2.1, ?_⟩
  rcases h.2.2 with h1 | ⟨g, cap, cur, h1, h2, h3⟩
  · exact .inl h1
  · exact .inr ⟨g, cap, cur, h1, Nat.le_trans hb h2, h3⟩

/-! ### Literals of several one-cell elements -/

theorem fill_ones : ∀ (vs : List Value) (k : Nat) (arr : Array Value), (∀ v ∈ vs, v.cells = #[v]) → k + vs.length ≤ arr.size →
    Instr.fill (fun i => some (i * 1, 1)) arr ((vs.zipIdx k).map fun x => (x.2, x.1)) = some ⟨arr.toList.take k ++ vs ++ arr.toList.drop (k + vs.length)⟩
  | [], k, arr, _, _ => by simp [Instr.fill]
  | v :: vs, k, arr, hv, hk => by
    have h1 := hv v (by simp)
    have hk' : k < arr.toList.length := by simp at hk ⊢; omega
    simp only [List.zipIdx_cons, List.map_cons, Instr.fill, Nat.mul_one]
    rw [if_neg (by simp [h1] at hk ⊢; omega), h1]
    have e : ((#[v] : Array Value).zipIdx.foldl (fun (cs : Array Value) (x : Value × Nat) => cs.setIfInBounds (k + x.2) x.1) arr) = arr.setIfInBounds k v := by simp [Array.zipIdx]
    have e' : (fun (i : Nat) => some (i, 1)) = fun i => some (i * 1, 1) := by funext i; rw [Nat.mul_one]
    rw [e, e', fill_ones vs (k + 1) _ (fun u hu => hv u (by simp [hu])) (by simp at hk ⊢; omega)]
    congr 2
    rw [Array.toList_setIfInBounds, List.drop_set_of_lt (by omega), List.take_set, List.take_succ_eq_append_getElem hk', List.set_append_right _ _ (by simp; omega)]
    simp at hk'
    simp [Nat.min_eq_left (Nat.le_of_lt hk'), Nat.add_assoc, Nat.add_comm 1]

/-- A literal of numbers: []int{a, b, ..}. -/
theorem RUN_lits {P : Program} {t e : TypeId} {bytes : Nat} {z : Value} (hT : SlT P t e 1 bytes z) (l : List Int) (h0 : l ≠ []) (hl : l.length ≤ 1000) {n : Nat} (hn : n = l.length) {parts : Array (Nat × Value)} (hp : parts.toList = ((l.map (Value.int .i64)).zipIdx 0).map fun x => (x.2, x.1)) {w : World} {K : Sl → World → Prop}
    (hk : ∀ s w', Ext w w' → OwnL w' w.heap.size e s l → K s w') : RUN P (.at .sl) (Instr.buildSlice t n parts) w K := by
  obtain ⟨i, hi, hz0, hsz, hby⟩ := hT.parts
  subst hn
  have hpos : 0 < l.length := List.length_pos_iff.2 h0
  have hr := run_buildSlice (P := P) w t e l.length parts ⟨l.map (Value.int .i64)⟩ i z hT.under hi hz0 (by rw [hsz]; omega) (by rw [hsz]; omega) (by
    rw [hsz, hp, fill_ones _ 0 _ (by intro v hv; obtain ⟨x, _, rfl⟩ := List.mem_map.1 hv; rfl) (by simp)]
    simp)
  unfold RUN
  rw [hr]
  refine hk ⟨some ⟨w.heap.size, 0, none⟩, l.length, l.length⟩ _ (ext_push w _) ⟨rfl, ?_⟩
  have := World.ownsRow_lit (base := w.heap.size) (e := e) (size := 1) w ⟨l.map (Value.int .i64)⟩ l.length (Nat.le_refl _) (by unfold maxLen; omega) (by simp)
  have hf : l.flatMap Flat.cells = l.map (Value.int .i64) := by
    clear this hr hk hp h0 hl hpos
    induction l with
    | nil => rfl
    | cons x r ih => rw [List.flatMap_cons, ih]; rfl
  unfold Own
  rw [hf]
  exact this

/-! ### Own lists of own lists -/

theorem OwnL.type {α : Type} [Flat α] {w : World} {base : Nat} {e : TypeId} {s : Sl} {l : List α} (h : OwnL w base e s l) {k : Nat} (hk : s.v.ownBlock = some k) : ∃ cs, w.heap[k]? = some (.cells cs e (0, 0)) := by
  rcases h.2.2 with ⟨h1, _⟩ | ⟨g, cap, cur, h1, _, h3, _⟩
  · rw [h1] at hk; cases hk
  · rw [h1] at hk
    cases hk
    exact ⟨cur, h3⟩

/-- A list of another element type is not touched. -/
theorem OwnL.step {α β : Type} [Flat α] [Flat β] {w w' : World} {base base' : Nat} {e e' : TypeId} {s s' : Sl} {l : List α} {l' : List β} (h : OwnL w base e s l) (h' : OwnL w base' e' s' l') (he : e ≠ e') (hs : Step w w' s'.v.ownBlock) : OwnL w' base e s l :=
  h.keep fun k hk => by
    refine hs.block k (h.blk k hk).2 fun hk' => ?_
    obtain ⟨c1, h1⟩ := h.type hk
    obtain ⟨c2, h2⟩ := h'.type hk'.symm
    rw [h1] at h2
    cases h2
    exact he rfl

def Own2 {α : Type} [Flat α] (w : World) (base : Nat) (e e' : TypeId) (s : Sl) (ls : List (List α)) : Prop :=
  ∃ ss : List Sl, OwnL w base e' s ss ∧ ss.length = ls.length ∧ ∀ (i : Nat) (r : Sl) (l : List α), ss[i]? = some r → ls[i]? = some l → OwnL w base e r l

section
variable {α : Type} [Flat α] {w w' : World} {base : Nat} {e e' : TypeId} {s : Sl} {ls : List (List α)}
theorem Own2.nil (w : World) (base : Nat) (e e' : TypeId) : Own2 w base e e' ⟨none, 0, 0⟩ ([] : List (List α)) := ⟨[], OwnL.nil _ _ _, rfl, fun i r l h => by simp at h⟩
theorem Own2.ext (h : Own2 w base e e' s ls) (hE : Ext w w') : Own2 w' base e e' s ls := by
  obtain ⟨ss, h1, h2, h3⟩ := h
  exact ⟨ss, h1.ext hE, h2, fun i r l hr hl => (h3 i r l hr hl).ext hE⟩
theorem Own2.low (h : Own2 w base e e' s ls) {b : Nat} (hb : b ≤ base) : Own2 w b e e' s ls := by
  obtain ⟨ss, h1, h2, h3⟩ := h
  exact ⟨ss, h1.low hb, h2, fun i r l hr hl => (h3 i r l hr hl).low hb⟩
theorem Own2.blk (h : Own2 w base e e' s ls) : ∀ k, s.v.ownBlock = some k → base ≤ k ∧ k < w.heap.size := by
  obtain ⟨ss, h1, _⟩ := h
  exact h1.blk
theorem Own2.repD (h : Own2 w base e e' s ls) (hok : ∀ l ∈ ls, ∀ x ∈ l, Flat.ok x) : SlR (fun b => base ≤ b) w s ls := by
  obtain ⟨ss, h1, h2, h3⟩ := h
  refine (OwnL.rows h1 h2 (fun i hi hj => ?_) (fun _ hb => hb))
  exact (h3 i ss[i] ls[i] (by simp [hi]) (by simp [hj])).rep (hok _ (List.getElem_mem hj))
theorem Own2.rep (h : Own2 w base e e' s ls) (hok : ∀ l ∈ ls, ∀ x ∈ l, Flat.ok x) : R w s ls := (h.repD hok).any
theorem Own2.keep (h : Own2 w base e e' s ls) (hk : ∀ k, base ≤ k → k < w.heap.size → w'.heap[k]? = w.heap[k]?) : Own2 w' base e e' s ls := by
  obtain ⟨ss, h1, h2, h3⟩ := h
  exact ⟨ss, h1.keep fun k hb => hk k (h1.blk k hb).1 (h1.blk k hb).2, h2, fun i r l hr hl => (h3 i r l hr hl).keep fun k hb => hk k ((h3 i r l hr hl).blk k hb).1 ((h3 i r l hr hl).blk k hb).2⟩
end

theorem RUN_append_row {α : Type} [Flat α] {P : Program} {t e e' : TypeId} {bytes : Nat} {z : Value} (hT : SlT P t e' 1 bytes z) (hne : e ≠ e') {w : World} {base b1 : Nat} {s y r : Sl} {ls : List (List α)} {l : List α} (h : Own2 w base e e' s ls) (hbase : base ≤ w.heap.size)
    (hr : OwnL w base e r l) (hy : OwnL w b1 e' y [r]) (hlen : (ls.length + 1) * bytes ≤ 140737488355328) (hmax : ls.length + 1 ≤ maxLen) {K : Sl → World → Prop}
    (hk : ∀ s' w', Own2 w' base e e' s' (ls ++ [l]) → Step w w' s.v.ownBlock → K s' w') : RUN P (.at .sl) (bsem .append #[t, t] t #[s.v, y.v]) w K := by
  obtain ⟨ss, h1, h2, h3⟩ := h
  refine RUN_append (α := Sl) hT h1 hbase (hy.rep fun _ _ => trivial).any (by simp [h2]; exact hlen) (by simp [h2]; exact hmax) fun s' w' hO hs => hk s' w' ⟨ss ++ [r], hO, by simp [h2], fun i q m hq hm => ?_⟩ hs
  by_cases hi : i < ss.length
  · rw [List.getElem?_append_left hi] at hq
    rw [List.getElem?_append_left (by omega)] at hm
    exact (h3 i q m hq hm).step h1 hne hs
  · rw [List.getElem?_append_right (by omega)] at hq
    rw [List.getElem?_append_right (by omega), ← h2] at hm
    have : i - ss.length = 0 := by
      have := (List.getElem?_eq_some_iff.1 hq).1
      simp at this; omega
    rw [this] at hq hm
    simp at hq hm
    subst hq; subst hm
    exact hr.step h1 hne hs

/-! ### Rows of a list of lists, as they were in an earlier world -/

theorem SlR.ixL0 {α : Type} [RepP α] {D : Nat → Prop} {w0 w : World} {s : Sl} {l : List (List α)} (h : SlR D w0 s l) (hE : Ext w0 w) {i : Nat} (hi : i < l.length) {K : Addr → Prop}
    (hk : ∀ p r, SlR D w0 r l[i] → w.cell? p = some r.v → K p) : IX s i 1 K :=
  h.ixL hi fun p r hR hc => hk p r hR (hE.cell hc)

/-! ### Changes within a set of blocks -/

theorem Chg.of_step {w w' : World} {g : Option Nat} {D : Nat → Prop} (h : Step w w' g) (hg : ∀ k, g = some k → D k) : Chg w w' D :=
  ⟨h.os, h.tape, h.output, h.size, fun k hk hD => h.block k hk (fun he => hD (hg k he.symm))⟩
theorem Chg.of_ext {w w' : World} {D : Nat → Prop} (h : Ext w w') : Chg w w' D := ⟨h.os, h.tape, h.output, h.size, fun k hk _ => h.block k hk⟩
theorem Chg.trans {a b c : World} {D : Nat → Prop} (h : Chg a b D) (k : Chg b c D) : Chg a c D :=
  ⟨k.os.trans h.os, k.tape.trans h.tape, k.output.trans h.output, Nat.le_trans h.size k.size, fun i hi hD => (k.block i (Nat.lt_of_lt_of_le hi h.size) hD).trans (h.block i hi hD)⟩
theorem Chg.mono {a b : World} {D D' : Nat → Prop} (h : Chg a b D) (hD : ∀ k, D k → D' k) : Chg a b D' := ⟨h.os, h.tape, h.output, h.size, fun k hk hn => h.block k hk (fun hd => hn (hD k hd))⟩
theorem Chg.ext0 {w0 w w' : World} {D : Nat → Prop} (h : Chg w w' D) (hE : Ext w0 w) (hD : ∀ k, D k → w0.heap.size ≤ k) : Ext w0 w' :=
  ⟨h.os.trans hE.os, h.tape.trans hE.tape, h.output.trans hE.output, Nat.le_trans hE.size h.size, fun k hk => (h.block k (Nat.lt_of_lt_of_le hk hE.size) (fun hd => by have := hD k hd; omega)).trans (hE.block k hk)⟩

theorem SlR.chg {α : Type} [RepP α] {D0 D : Nat → Prop} {w w' : World} {s : Sl} {l : List α} (h : SlR D0 w s l) (hc : Chg w w' D) (hD : ∀ b, D0 b → b < w.heap.size → ¬ D b) : SlR D0 w' s l :=
  (h.below.agr fun b hb => hc.block b hb.2 (hD b hb.1 hb.2)).weak (fun _ hb _ => hb.1) RepP.pos
theorem OwnL.chg {α : Type} [Flat α] {D : Nat → Prop} {w w' : World} {base : Nat} {e : TypeId} {s : Sl} {l : List α} (h : OwnL w base e s l) (hc : Chg w w' D) (hD : ∀ b, s.v.ownBlock = some b → ¬ D b) : OwnL w' base e s l :=
  h.keep fun k hk => hc.block k (h.blk k hk).2 (hD k hk)
theorem Box.chg {D : Nat → Prop} {w w' : World} {p : Addr} {t : TypeId} {cs : List Value} (h : Box w p t cs) (hc : Chg w w' D) (hD : ¬ D p.block) : Box w' p t cs :=
  h.of_block (hc.block _ h.lt hD)

end Go.GX
end

section
/- Contracts of the small functions. -/
namespace Go.Proofs.YtndebacmnpghkaaGreat
open Go.GX Go.RowKit

def inR (n lo hi : Int) : Bool := decide (lo ≤ n) && decide (n ≤ hi)

theorem inR_true {n lo hi : Int} (h : inR n lo hi = true) : lo ≤ n ∧ n ≤ hi := by simpa [inR] using h
theorem inR_false {n lo hi : Int} (h : inR n lo hi = false) : ¬ (lo ≤ n ∧ n ≤ hi) := by
  intro ⟨h1, h2⟩; simp [inR, h1, h2] at h

theorem within_ok (n lo hi : Int) (w : World) : Calls Tryz.prog F.i_within #[.int .i64 n, .int .i64 lo, .int .i64 hi] w (Ret [.at .bool] fun (b : Bool) w' => b = inR n lo hi ∧ w = w') := by
  refine C_i_within ?_
  unfold V_i_within inR
  by_cases h : lo ≤ n <;> simp [h]

theorem l1In_ok (n lo hi : Int) (w : World) : Calls Tryz.prog F.s_l1In #[.int .i64 n, .int .i64 lo, .int .i64 hi] w (Ret [.at .bool] fun (b : Bool) w' => b = inR n lo hi ∧ w = w') := by
  refine C_s_l1In ?_
  unfold V_s_l1In inR
  by_cases h : lo ≤ n <;> simp [h]

theorem l1Has_ok {w : World} {s : Sl} {l : List Int} (h : R w s l) (n : Int) :
    Calls Tryz.prog F.s_l1Has #[s.v, .int .i64 n] w (Ret [.at .bool] fun (b : Bool) w' => b = l.contains n ∧ w = w') := by
  refine C_s_l1Has ?_
  unfold V_s_l1Has
  refine ⟨IN l.length fun i w' => w' = w ∧ n ∉ l.take i, MN l.length, IN_zero ⟨rfl, by simp⟩, ?_⟩
  rintro x w1 ⟨i, rfl, hi, rfl, hn⟩
  intros
  rw [h.len]
  refine cond_dec (fun hlt => ?_) (fun hge => ⟨?_, rfl⟩)
  · have hlt' : i < l.length := by omega
    refine h.ixI hlt' fun p _ hc => ?_
    refine LD_int hc ?_
    refine cond_eq (fun he => ⟨?_, rfl⟩) (fun he => ?_)
    · simp [← he]
    · exact IN_next h.le hlt' ⟨rfl, not_mem_take_succ hlt' hn he⟩
  · have hil : i = l.length := by omega
    subst hil
    simp at hn
    simp [hn]

end Go.Proofs.YtndebacmnpghkaaGreat
end

section
/- Networks: how they lie in memory, and the contracts of the functions that copy, weigh and compare them. -/
namespace Go.Proofs.YtndebacmnpghkaaGreat
open Go.GX Go.RowKit
set_option maxRecDepth 100000

structure Net where
  ends : List (List (Int × Int))
  ids : List Int
  inputs : List Int

/-- Three slices read as a network. -/
def RNet (w : World) (a b c : Sl) (n : Net) : Prop := R w a n.ends ∧ R w b n.ids ∧ R w c n.inputs

theorem RNet.ext {w w' : World} {a b c : Sl} {n : Net} (h : RNet w a b c n) (hE : Ext w w') : RNet w' a b c n := ⟨h.1.ext hE, h.2.1.ext hE, h.2.2.ext hE⟩

theorem slt_int : SlT Tryz.prog T.t_sl_int T.t_int 1 8 (.int .i64 0) := ⟨by kernel_rfl, by kernel_rfl, rfl, by decide⟩
theorem slt_end : SlT Tryz.prog T.t_sl_i_End T.t_i_End 2 16 (.agg #[.int .i64 0, .int .i64 0]) := ⟨by kernel_rfl, by kernel_rfl, rfl, by decide⟩
theorem slt_ends : SlT Tryz.prog T.t_sl_sl_i_End T.t_sl_i_End 1 24 (.slice none 0 0) := ⟨by kernel_rfl, by kernel_rfl, rfl, by decide⟩

theorem flat_ok {w : World} {s : Sl} {l : List Int} (h : R w s l) : ∀ x ∈ l, I64 x := fun x hx => by
  obtain ⟨i, hi, rfl⟩ := List.mem_iff_getElem.1 hx
  obtain ⟨_, _, _, _, ⟨_, h1⟩, _⟩ := h.2.2 i l[i] (by simp [hi])
  exact h1

theorem toIntS_ok {w : World} {a : Sl} {l : List Int} (h : R w a l) (hb : l.length ≤ 1048576) :
    Calls Tryz.prog F.l_toIntS #[a.v] w (Ret [.at .sl] fun (s : Sl) w' => Ext w w' ∧ OwnL w' w.heap.size T.t_int s l) := by
  refine C_l_toIntS ?_
  unfold V_l_toIntS
  rw [h.len]
  refine RUN_make (α := Int) slt_int (d := 0) rfl (by omega) (by unfold maxLen; omega) fun s w1 hE1 hO1 => ?_
  refine ⟨IN l.length fun i w' => Ext w w' ∧ OwnL w' w.heap.size T.t_int s (l.take i ++ List.replicate (l.length - i) 0), MN l.length, IN_zero ⟨hE1, by simpa using hO1⟩, ?_⟩
  rintro x w2 ⟨i, rfl, hi, hE, hO⟩
  intros
  refine cond_dec (fun hlt => ?_) (fun hge => ?_)
  · have hlt' : i < l.length := by omega
    refine (h.ext hE).ixI hlt' fun p h64 hc => LD_int hc ?_
    refine IX_own hO (by rw [fill_len hi]; exact hlt') rfl fun p hp => ?_
    refine ST_own hO (by rw [fill_len hi]; exact hlt') hp l[i] rfl fun w3 hO3 hs => ?_
    refine IN_next (by omega) hlt' ⟨hs.ext0 hE (fun k hk => (hO.blk k hk).1), ?_⟩
    rw [← fill_step hlt']; exact hO3
  · have : i = l.length := by omega
    subst this
    exact ⟨hE, by simpa using hO⟩

theorem eqIntS_ok {w : World} {a b : Sl} {l m : List Int} (ha : R w a l) (hb : R w b m) :
    Calls Tryz.prog F.l_eqIntS #[a.v, b.v] w (Ret [.at .bool] fun (x : Bool) w' => x = decide (l = m) ∧ Ext w w') := by
  refine C_l_eqIntS ?_
  unfold V_l_eqIntS
  rw [ha.len, hb.len]
  refine cond_ne (fun hne => ⟨?_, Ext.refl _⟩) (fun he => ?_)
  · rw [decide_eq_false]; intro h; subst h; exact hne rfl
  · have hl : l.length = m.length := by omega
    refine ⟨IN l.length fun i w' => Ext w w' ∧ l.take i = m.take i, MN l.length, IN_zero ⟨Ext.refl _, by simp⟩, ?_⟩
    rintro x w1 ⟨i, rfl, hi, hE, ht⟩
    intros
    refine cond_dec (fun hlt => ?_) (fun hge => ⟨?_, hE⟩)
    · have h1 : i < l.length := by omega
      have h2 : i < m.length := by omega
      refine (ha.ext hE).ixI h1 fun p _ hc => LD_int hc ?_
      refine (hb.ext hE).ixI h2 fun p _ hc => LD_int hc ?_
      intro w2 hE2
      refine cond_ne (fun hne => ⟨?_, hE.trans hE2⟩) (fun heq => ?_)
      · rw [decide_eq_false]; intro h; subst h; exact hne rfl
      · exact IN_next ha.le h1 ⟨hE.trans hE2, by rw [List.take_succ_eq_append_getElem h1, List.take_succ_eq_append_getElem h2, ht, heq]⟩
    · have h3 : i = l.length := by omega
      subst h3
      rw [decide_eq_true]
      have h4 : m.take l.length = m := List.take_of_length_le (by omega)
      rw [h4, List.take_length] at ht
      exact ht


/-- A struct that is copied field by field. -/
theorem toEnd_ok (x y : Int) (w : World) : Calls Tryz.prog F.l_toEnd #[.agg #[.int .i64 x, .int .i64 y]] w (Ret [.agg [.int .i64, .int .i64]] fun (a b : Int) w' => a = x ∧ b = y ∧ Ext w w') := by
  refine C_l_toEnd ?_
  unfold V_l_toEnd
  refine NEW_intro fun pa w1 hp1 hs1 hE1 hb1 => ?_
  refine NEW_intro fun px w2 hp2 hs2 hE2 hb2 => ?_
  refine NEW_intro fun po w3 hp3 hs3 hE3 hb3 => ?_
  have ha3 := (hb1.ext hE2).ext hE3
  have hx3 := hb2.ext hE3
  have hE : Ext w w3 := (hE1.trans hE2).trans hE3
  refine LD_bi0 ha3 ?_
  refine ST_box1 hb3 (by simp) rfl fun w4 hz4 hk4 hX4 hb4 => ?_
  have ha4 := ha3.of_block (hk4 _ (by omega))
  have hx4 := hx3.of_block (hk4 _ (by omega))
  refine LD_bi1 ha4 ?_
  refine ST_box1 hb4 (by simp) rfl fun w5 hz5 hk5 hX5 hb5 => ?_
  have hx5 := hx4.of_block (hk5 _ (by omega))
  refine LD_box2 hb5 ?_
  refine ST_all hx5 (one2 _ _) rfl fun w6 hs6 hz6 hb6 => ?_
  refine LD_box2 hb6 ⟨rfl, rfl, ?_⟩
  exact hs6.ext0 (hX5 _ (hX4 _ hE (by omega)) (by omega)) (fun k hk => by cases hk; omega)

theorem flat_okE {w : World} {s : Sl} {l : List (Int × Int)} (h : R w s l) : ∀ x ∈ l, I64 x.1 ∧ I64 x.2 := fun x hx => by
  obtain ⟨i, hi, rfl⟩ := List.mem_iff_getElem.1 hx
  obtain ⟨_, _, _, _, ⟨_, h1⟩, _⟩ := h.2.2 i l[i] (by simp [hi])
  exact h1

theorem toEndS_ok {w : World} {a : Sl} {l : List (Int × Int)} (h : R w a l) (hb : l.length ≤ 1048576) :
    Calls Tryz.prog F.l_toEndS #[a.v] w (Ret [.at .sl] fun (s : Sl) w' => Ext w w' ∧ OwnL w' w.heap.size T.t_i_End s l) := by
  refine C_l_toEndS ?_
  unfold V_l_toEndS
  rw [h.len]
  refine RUN_make (α := Int × Int) slt_end (d := (0, 0)) rfl (by omega) (by unfold maxLen; omega) fun s w1 hE1 hO1 => ?_
  refine ⟨IN l.length fun i w' => Ext w w' ∧ OwnL w' w.heap.size T.t_i_End s (l.take i ++ List.replicate (l.length - i) (0, 0)), MN l.length, IN_zero ⟨hE1, by simpa using hO1⟩, ?_⟩
  rintro x w2 ⟨i, rfl, hi, hE, hO⟩
  intros
  refine cond_dec (fun hlt => ?_) (fun hge => ?_)
  · have hlt' : i < l.length := by omega
    refine (h.ext hE).ixE hlt' fun p _ _ hc0 hc1 => LD_int2 hc0 hc1 ?_
    refine call (toEnd_ok _ _ _) ?_
    rintro _ _ w3 ⟨rfl, rfl, hE3⟩
    have hO' := hO.ext hE3
    refine IX_own hO' (by rw [fill_len hi]; exact hlt') rfl fun p hp => ?_
    refine ST_own hO' (by rw [fill_len hi]; exact hlt') hp l[i] rfl fun w4 hO4 hs => ?_
    refine IN_next (by omega) hlt' ⟨hs.ext0 (hE.trans hE3) (fun k hk => (hO'.blk k hk).1), ?_⟩
    rw [← fill_step hlt']; exact hO4
  · have : i = l.length := by omega
    subst this
    exact ⟨hE, by simpa using hO⟩

/-- The cells of an own slice of slices, and what each reads as. -/
theorem toEndSS_own {w : World} {a : Sl} {l : List (List (Int × Int))} (h : R w a l) (hb : l.length ≤ 1048576) (hbb : ∀ r ∈ l, r.length ≤ 1048576) :
    Calls Tryz.prog F.l_toEndSS #[a.v] w (Ret [.at .sl] fun (s : Sl) w' => Ext w w' ∧ Own2 w' w.heap.size T.t_i_End T.t_sl_i_End s l) := by
  refine C_l_toEndSS ?_
  unfold V_l_toEndSS
  rw [h.len]
  refine RUN_make (α := Sl) slt_ends (d := ⟨none, 0, 0⟩) rfl (by omega) (by unfold maxLen; omega) fun s w1 hE1 hO1 => ?_
  refine ⟨IN l.length fun i w' => Ext w w' ∧ ∃ ss : List Sl, ss.length = l.length ∧ OwnL w' w.heap.size T.t_sl_i_End s ss ∧ ∀ (k : Nat) (q : Sl) (m : List (Int × Int)), k < i → ss[k]? = some q → l[k]? = some m → OwnL w' w.heap.size T.t_i_End q m, MN l.length,
    IN_zero ⟨hE1, List.replicate l.length ⟨none, 0, 0⟩, by simp, hO1, fun k _ _ h3 => by omega⟩, ?_⟩
  rintro x w2 ⟨i, rfl, hi, hE, ss, hss, hO, hR⟩
  intros
  refine cond_dec (fun hlt => ?_) (fun hge => ?_)
  · have hlt' : i < l.length := by omega
    refine (h.ext hE).ixL hlt' fun p s' hs' hc => LD_sl hc ?_
    have hz := hE.size_le
    refine call (toEndS_ok hs'.any (hbb _ (List.getElem_mem _))) ?_
    rintro s3 w3 ⟨hE3, hO3⟩
    have hO' := hO.ext hE3
    refine IX_own hO' (by omega) rfl fun p hp => ?_
    refine ST_own hO' (by omega) hp s3 rfl fun w4 hO4 hs => ?_
    refine IN_next (by omega) hlt' ⟨hs.ext0 (hE.trans hE3) (fun k hk => (hO'.blk k hk).1), ss.set i s3, by simp [hss], hO4, fun k q m h1 h2 h3 => ?_⟩
    by_cases hk : k = i
    · subst hk
      rw [List.getElem?_set_self (by omega)] at h2
      rw [List.getElem?_eq_getElem hlt'] at h3
      cases h2
      cases h3
      exact (hO3.low hz).step hO' (by decide) hs
    · rw [List.getElem?_set_ne (Ne.symm hk)] at h2
      exact ((hR k q m (by omega) h2 h3).ext hE3).step hO' (by decide) hs
  · have : i = l.length := by omega
    subst this
    refine ⟨hE, ss, hO, hss, fun k q m h2 h3 => hR k q m (List.getElem?_eq_some_iff.1 h3).1 h2 h3⟩

theorem flat_okEE {w : World} {s : Sl} {l : List (List (Int × Int))} (h : R w s l) : ∀ r ∈ l, ∀ x ∈ r, Flat.ok x := fun r hr x hx => by
  obtain ⟨i, hi, rfl⟩ := List.mem_iff_getElem.1 hr
  obtain ⟨_, _, _, _, ⟨s', _, h1⟩, _⟩ := h.2.2 i l[i] (by simp [hi])
  exact flat_okE h1 x hx

/-- A network that fits the law's bound. -/
def Small (n : Net) : Prop := n.ends.length ≤ 1048576 ∧ (∀ r ∈ n.ends, r.length ≤ 1048576) ∧ n.ids.length ≤ 1048576 ∧ n.inputs.length ≤ 1048576

/-- A network in the call's own memory. -/
structure OwnNet (w : World) (base : Nat) (x y z : Sl) (n : Net) : Prop where
  ends : Own2 w base T.t_i_End T.t_sl_i_End x n.ends
  ids : OwnL w base T.t_int y n.ids
  inputs : OwnL w base T.t_int z n.inputs

theorem OwnNet.ext {w w' : World} {base : Nat} {x y z : Sl} {n : Net} (h : OwnNet w base x y z n) (hE : Ext w w') : OwnNet w' base x y z n := ⟨h.ends.ext hE, h.ids.ext hE, h.inputs.ext hE⟩
theorem OwnNet.keep {w w' : World} {base : Nat} {x y z : Sl} {n : Net} (h : OwnNet w base x y z n) (hk : ∀ k, base ≤ k → k < w.heap.size → w'.heap[k]? = w.heap[k]?) : OwnNet w' base x y z n :=
  ⟨h.ends.keep hk, h.ids.keep fun k hb => hk k (h.ids.blk k hb).1 (h.ids.blk k hb).2, h.inputs.keep fun k hb => hk k (h.inputs.blk k hb).1 (h.inputs.blk k hb).2⟩
theorem OwnNet.low {w : World} {base b : Nat} {x y z : Sl} {n : Net} (h : OwnNet w base x y z n) (hb : b ≤ base) : OwnNet w b x y z n := ⟨h.ends.low hb, h.ids.low hb, h.inputs.low hb⟩
theorem OwnNet.net {w w0 : World} {base : Nat} {x y z a b c : Sl} {n : Net} (h : OwnNet w base x y z n) (h0 : RNet w0 a b c n) : RNet w x y z n :=
  ⟨h.ends.rep (flat_okEE h0.1), (h.ids.rep (flat_ok h0.2.1)).any, (h.inputs.rep (flat_ok h0.2.2)).any⟩

theorem toNetwork_own {w : World} {a b c : Sl} {n : Net} (h : RNet w a b c n) (hs : Small n) :
    Calls Tryz.prog F.l_toNetwork #[.agg #[a.v, b.v, c.v]] w (Ret [.agg [.sl, .sl, .sl]] fun (x y z : Sl) w' => Ext w w' ∧ OwnNet w' w.heap.size x y z n) := by
  refine C_l_toNetwork ?_
  unfold V_l_toNetwork
  refine NEW_intro fun pa w1 hp1 hs1 hE1 hb1 => ?_
  refine NEW_intro fun px w2 hp2 hs2 hE2 hb2 => ?_
  refine NEW_intro fun po w3 hp3 hs3 hE3 hb3 => ?_
  have ha3 := (hb1.ext hE2).ext hE3
  have hx3 := hb2.ext hE3
  have hE : Ext w w3 := (hE1.trans hE2).trans hE3
  have hlt := hb3.lt
  refine LD_bs0 ha3 ?_
  refine call (toEndSS_own (h.1.ext hE) hs.1 hs.2.1) ?_
  rintro x w4 ⟨hE4, hx⟩
  refine ST_box1 (hb3.ext hE4) (by simp) rfl fun w5 hz5 hk5 hX5 hb5 => ?_
  have hE5 := hX5 _ (hE.trans hE4) (by omega)
  have ha5 := (ha3.ext hE4).of_block (hk5 _ (by omega))
  have hx5 := (hx3.ext hE4).of_block (hk5 _ (by omega))
  have hX : Own2 w5 w3.heap.size T.t_i_End T.t_sl_i_End x n.ends := hx.keep fun b hb _ => hk5 b (by omega)
  refine LD_bs1 ha5 ?_
  have hsz5 : w3.heap.size ≤ w5.heap.size := by have := hE4.size_le; omega
  refine call (toIntS_ok (h.2.1.ext hE5) hs.2.2.1) ?_
  rintro y w6 ⟨hE6, hy⟩
  have hlt5 := hb5.lt
  refine ST_box1 (hb5.ext hE6) (by simp) rfl fun w7 hz7 hk7 hX7 hb7 => ?_
  have hE7 := hX7 _ (hE5.trans hE6) (by omega)
  have ha7 := (ha5.ext hE6).of_block (hk7 _ (by omega))
  have hx7 := (hx5.ext hE6).of_block (hk7 _ (by omega))
  have hX' : Own2 w7 w3.heap.size T.t_i_End T.t_sl_i_End x n.ends := (hX.ext hE6).keep fun b hb _ => hk7 b (by omega)
  have hy' := hy.low hsz5
  have hY : OwnL w7 w3.heap.size T.t_int y n.ids := hy'.keep fun b hb => hk7 b (by have := (hy'.blk b hb).1; omega)
  refine LD_bs2 ha7 ?_
  have hsz7 : w3.heap.size ≤ w7.heap.size := by have := hE6.size_le; omega
  refine call (toIntS_ok (h.2.2.ext hE7) hs.2.2.2) ?_
  rintro z w8 ⟨hE8, hz⟩
  have hlt7 := hb7.lt
  refine ST_box1 (hb7.ext hE8) (by simp) rfl fun w9 hz9 hk9 hX9 hb9 => ?_
  have hE9 := hX9 _ (hE7.trans hE8) (by omega)
  have hx9 := (hx7.ext hE8).of_block (hk9 _ (by omega))
  have hz' := hz.low hsz7
  have hN : OwnNet w9 w3.heap.size x y z n := OwnNet.keep (w := w8) ⟨hX'.ext hE8, hY.ext hE8, hz'⟩ fun b hb _ => hk9 b (by omega)
  refine LD_box3 hb9 ?_
  refine ST_all hx9 (one3 _ _ _) rfl fun w10 hs10 hz10 hb10 => ?_
  have hN' := hN.keep (w' := w10) fun b hb h2 => hs10.block b h2 (by intro he; cases he; omega)
  exact LD_box3 hb10 ⟨hs10.ext0 hE9 (fun k hk => by cases hk; omega), hN'.low hE.size_le⟩

theorem toNetwork_ok {w : World} {a b c : Sl} {n : Net} (h : RNet w a b c n) (hs : Small n) :
    Calls Tryz.prog F.l_toNetwork #[.agg #[a.v, b.v, c.v]] w (Ret [.agg [.sl, .sl, .sl]] fun (x y z : Sl) w' => Ext w w' ∧ RNet w' x y z n) :=
  call (toNetwork_own h hs) fun _ _ _ _ h1 => ⟨h1.1, h1.2.net h⟩

theorem szIntS_ok {w : World} {a : Sl} {l : List Int} (h : R w a l) (left : Int) (h0 : 0 ≤ left) (h1 : left ≤ 1048576) :
    Calls Tryz.prog F.l_szIntS #[a.v, .int .i64 left] w (Ret [.at (.int .i64)] fun (x : Int) w' => (0 ≤ x → x ≤ left ∧ l.length ≤ left) ∧ w = w') := by
  refine C_l_szIntS ?_
  unfold V_l_szIntS
  have := h.le
  rw [h.len, wrap_of (by omega) (by omega)]
  exact cond_dec (fun _ => ⟨by omega, rfl⟩) (fun _ => ⟨by omega, rfl⟩)

theorem szEndS_ok {w : World} {a : Sl} {l : List (Int × Int)} (h : R w a l) (left : Int) (h0 : 0 ≤ left) (h1 : left ≤ 1048576) :
    Calls Tryz.prog F.l_szEndS #[a.v, .int .i64 left] w (Ret [.at (.int .i64)] fun (x : Int) w' => (0 ≤ x → x ≤ left ∧ l.length ≤ left) ∧ w = w') := by
  refine C_l_szEndS ?_
  unfold V_l_szEndS
  have := h.le
  rw [h.len, wrap_of (by omega) (by omega)]
  exact cond_dec (fun _ => ⟨by omega, rfl⟩) (fun _ => ⟨by omega, rfl⟩)

theorem szEndSS_ok {w : World} {a : Sl} {l : List (List (Int × Int))} (h : R w a l) (left : Int) (h0 : 0 ≤ left) (h1 : left ≤ 1048576) :
    Calls Tryz.prog F.l_szEndSS #[a.v, .int .i64 left] w (Ret [.at (.int .i64)] fun (x : Int) w' => (0 ≤ x → x ≤ left ∧ l.length ≤ left ∧ ∀ r ∈ l, r.length ≤ left) ∧ w = w') := by
  refine C_l_szEndSS ?_
  unfold V_l_szEndSS
  have := h.le
  rw [h.len, wrap_of (by omega) (by omega)]
  refine cond_dec (fun _ => ⟨by omega, rfl⟩) (fun hle => ?_)
  refine ⟨fun y x w' => w = w' ∧ 0 ≤ y ∧ y ≤ left ∧ ∃ i : Nat, x = i ∧ i ≤ l.length ∧ ∀ r ∈ l.take i, r.length ≤ left, fun _ x _ => l.length - x.toNat, ⟨rfl, by omega, by omega, 0, rfl, by omega, by simp⟩, ?_⟩
  rintro y x _ ⟨rfl, hy0, hy, i, rfl, hi, hr⟩
  intros
  refine cond_dec (fun hlt => ?_) (fun hge => ⟨fun _ => ⟨hy, by omega, ?_⟩, rfl⟩)
  · have hlt' : i < l.length := by omega
    refine h.ixL hlt' fun p s' hs' hc => LD_sl hc ?_
    refine call (szEndS_ok hs'.any y hy0 (by omega)) ?_
    rintro x _ ⟨hx, rfl⟩
    refine cond_dec (fun _ => ⟨by omega, rfl⟩) (fun hn => ?_)
    have hx' := hx (by omega)
    rw [wrap_of (by omega) (by omega)]
    refine ⟨⟨rfl, by omega, by omega, i + 1, by omega, hlt', fun r hr' => ?_⟩, by simp only []; omega⟩
    rw [List.take_succ_eq_append_getElem hlt'] at hr'
    rcases List.mem_append.1 hr' with h3 | h3
    · exact hr r h3
    · rw [List.mem_singleton.1 h3]; omega
  · have : i = l.length := by omega
    subst this
    simpa using hr

theorem eqEnd_ok (x y z u : Int) (w : World) : Calls Tryz.prog F.l_eqEnd #[.agg #[.int .i64 x, .int .i64 y], .agg #[.int .i64 z, .int .i64 u]] w (Ret [.at .bool] fun (b : Bool) w' => b = decide ((x, y) = (z, u)) ∧ Ext w w') := by
  refine C_l_eqEnd ?_
  unfold V_l_eqEnd
  refine NEW_intro fun pa w1 hp1 hs1 hE1 hb1 => ?_
  refine NEW_intro fun pb w2 hp2 hs2 hE2 hb2 => ?_
  have ha := hb1.ext hE2
  refine LD_bi0 ha (LD_bi0 hb2 (cond_ne (fun hne => ⟨?_, hE1.trans hE2⟩) (fun he => ?_)))
  · rw [decide_eq_false]; intro h; exact hne (congrArg Prod.fst h)
  · refine LD_bi1 ha (LD_bi1 hb2 (cond_ne (fun hne => ⟨?_, hE1.trans hE2⟩) (fun he2 => ⟨?_, hE1.trans hE2⟩)))
    · rw [decide_eq_false]; intro h; exact hne (congrArg Prod.snd h)
    · rw [decide_eq_true]; rw [he, he2]

theorem eqEndS_ok {w : World} {a b : Sl} {l m : List (Int × Int)} (ha : R w a l) (hb : R w b m) :
    Calls Tryz.prog F.l_eqEndS #[a.v, b.v] w (Ret [.at .bool] fun (x : Bool) w' => x = decide (l = m) ∧ Ext w w') := by
  refine C_l_eqEndS ?_
  unfold V_l_eqEndS
  rw [ha.len, hb.len]
  refine cond_ne (fun hne => ⟨?_, Ext.refl _⟩) (fun he => ?_)
  · rw [decide_eq_false]; intro h; subst h; exact hne rfl
  · have hl : l.length = m.length := by omega
    refine ⟨IN l.length fun i w' => Ext w w' ∧ l.take i = m.take i, MN l.length, IN_zero ⟨Ext.refl _, by simp⟩, ?_⟩
    rintro x w1 ⟨i, rfl, hi, hE, ht⟩
    intros
    refine cond_dec (fun hlt => ?_) (fun hge => ⟨?_, hE⟩)
    · have h1 : i < l.length := by omega
      have h2 : i < m.length := by omega
      refine (ha.ext hE).ixE h1 fun p _ _ hc0 hc1 => LD_int2 hc0 hc1 ?_
      refine (hb.ext hE).ixE h2 fun p _ _ hc0 hc1 => LD_int2 hc0 hc1 ?_
      refine QCALL_bool _ (fun w' _ => eqEnd_ok _ _ _ _ w') ?_
      intro w2 hE2
      refine cond_not (fun hf => ⟨?_, hE.trans hE2⟩) (fun htr => ?_)
      · rw [decide_eq_false]; intro h; subst h; simp at hf
      · have heq : l[i] = m[i] := of_decide_eq_true htr
        exact IN_next ha.le h1 ⟨hE.trans hE2, by rw [List.take_succ_eq_append_getElem h1, List.take_succ_eq_append_getElem h2, ht, heq]⟩
    · have h3 : i = l.length := by omega
      subst h3
      rw [decide_eq_true]
      have h4 : m.take l.length = m := List.take_of_length_le (by omega)
      rw [h4, List.take_length] at ht
      exact ht

theorem eqEndSS_ok {w : World} {a b : Sl} {l m : List (List (Int × Int))} (ha : R w a l) (hb : R w b m) :
    Calls Tryz.prog F.l_eqEndSS #[a.v, b.v] w (Ret [.at .bool] fun (x : Bool) w' => x = decide (l = m) ∧ Ext w w') := by
  refine C_l_eqEndSS ?_
  unfold V_l_eqEndSS
  rw [ha.len, hb.len]
  refine cond_ne (fun hne => ⟨?_, Ext.refl _⟩) (fun he => ?_)
  · rw [decide_eq_false]; intro h; subst h; exact hne rfl
  · have hl : l.length = m.length := by omega
    refine ⟨IN l.length fun i w' => Ext w w' ∧ l.take i = m.take i, MN l.length, IN_zero ⟨Ext.refl _, by simp⟩, ?_⟩
    rintro x w1 ⟨i, rfl, hi, hE, ht⟩
    intros
    refine cond_dec (fun hlt => ?_) (fun hge => ⟨?_, hE⟩)
    · have h1 : i < l.length := by omega
      have h2 : i < m.length := by omega
      refine (ha.ext hE).ixL h1 fun p s1 hs1 hc => LD_sl hc ?_
      refine (hb.ext hE).ixL h2 fun p s2 hs2 hc => LD_sl hc ?_
      refine QCALL_bool _ (fun w' hw' => eqEndS_ok (hs1.any.ext hw') (hs2.any.ext hw')) ?_
      intro w2 hE2
      refine cond_not (fun hf => ⟨?_, hE.trans hE2⟩) (fun htr => ?_)
      · rw [decide_eq_false]; intro h; subst h; simp at hf
      · have heq : l[i] = m[i] := of_decide_eq_true htr
        exact IN_next ha.le h1 ⟨hE.trans hE2, by rw [List.take_succ_eq_append_getElem h1, List.take_succ_eq_append_getElem h2, ht, heq]⟩
    · have h3 : i = l.length := by omega
      subst h3
      rw [decide_eq_true]
      have h4 : m.take l.length = m := List.take_of_length_le (by omega)
      rw [h4, List.take_length] at ht
      exact ht

theorem eqNetwork_ok {w : World} {a b c x y z : Sl} {n : Net} (h : RNet w a b c n) (h' : RNet w x y z n) :
    Calls Tryz.prog F.l_eqNetwork #[.agg #[a.v, b.v, c.v], .agg #[x.v, y.v, z.v]] w (Ret [.at .bool] fun (r : Bool) w' => r = true ∧ Ext w w') := by
  refine C_l_eqNetwork ?_
  unfold V_l_eqNetwork
  refine NEW_intro fun pa w1 hp1 hs1 hE1 hb1 => ?_
  refine NEW_intro fun pb w2 hp2 hs2 hE2 hb2 => ?_
  have ha := hb1.ext hE2
  have hE := hE1.trans hE2
  refine LD_bs0 ha (LD_bs0 hb2 ?_)
  refine call (eqEndSS_ok (h.1.ext hE) (h'.1.ext hE)) ?_
  rintro _ w3 ⟨rfl, hE3⟩
  refine cond_f (by simp) ?_
  refine LD_bs1 (ha.ext hE3) (LD_bs1 (hb2.ext hE3) ?_)
  refine call (eqIntS_ok (h.2.1.ext (hE.trans hE3)) (h'.2.1.ext (hE.trans hE3))) ?_
  rintro _ w4 ⟨rfl, hE4⟩
  refine cond_f (by simp) ?_
  have hE34 := hE3.trans hE4
  refine LD_bs2 (ha.ext hE34) (LD_bs2 (hb2.ext hE34) ?_)
  refine call (eqIntS_ok (h.2.2.ext (hE.trans hE34)) (h'.2.2.ext (hE.trans hE34))) ?_
  rintro _ w5 ⟨rfl, hE5⟩
  exact cond_f (by simp) ⟨rfl, (hE.trans hE34).trans hE5⟩

end Go.Proofs.YtndebacmnpghkaaGreat
end

section
/- The contract of slices.Sort at []int (the kit's shelf, laid at this program by the kit's own tools, in plain words): for every slice the cells are then in order. -/
namespace Go.Proofs.YtndebacmnpghkaaGreat
open Go.Shelf
def Srt.lays189_ren : Go.Shelf.Ren := ⟨fun | 189 => 148 | 125 => 200 | 257 => 199 | 128 => 243 | 129 => 244 | 294 => 235 | 295 => 236 | 296 => 237 | 297 => 238 | 298 => 239 | 299 => 240 | 216 => 214 | 300 => 241 | 301 => 242 | 328 => 262 | 329 => 263 | 330 => 264 | 331 => 265 | 332 => 266 | 215 => 253 | 343 => 269 | n => n, fun | 28 => 40 | 3 => 3 | 46 => 182 | 0 => 0 | 51 => 214 | 53 => 216 | 4 => 4 | 183 => 209 | 182 => 208 | 131 => 35 | 5 => 5 | 9 => 9 | 218 => 227 | 222 => 231 | 228 => 235 | 229 => 176 | n => n, fun | n => n⟩
theorem Srt.lays189 : Go.Proofs.Lays.n189 Tryz.prog Srt.lays189_ren := {
  mixed := by kernel_rfl
  f125 := Tryz.func200.trans (congrArg some (by kernel_rfl))
  f128 := Tryz.func243.trans (congrArg some (by kernel_rfl))
  f129 := Tryz.func244.trans (congrArg some (by kernel_rfl))
  f189 := Tryz.func148.trans (congrArg some (by kernel_rfl))
  f215 := Tryz.func253.trans (congrArg some (by kernel_rfl))
  f216 := Tryz.func214.trans (congrArg some (by kernel_rfl))
  f257 := Tryz.func199.trans (congrArg some (by kernel_rfl))
  f294 := Tryz.func235.trans (congrArg some (by kernel_rfl))
  f295 := Tryz.func236.trans (congrArg some (by kernel_rfl))
  f296 := Tryz.func237.trans (congrArg some (by kernel_rfl))
  f297 := Tryz.func238.trans (congrArg some (by kernel_rfl))
  f298 := Tryz.func239.trans (congrArg some (by kernel_rfl))
  f299 := Tryz.func240.trans (congrArg some (by kernel_rfl))
  f300 := Tryz.func241.trans (congrArg some (by kernel_rfl))
  f301 := Tryz.func242.trans (congrArg some (by kernel_rfl))
  f328 := Tryz.func262.trans (congrArg some (by kernel_rfl))
  f329 := Tryz.func263.trans (congrArg some (by kernel_rfl))
  f330 := Tryz.func264.trans (congrArg some (by kernel_rfl))
  f331 := Tryz.func265.trans (congrArg some (by kernel_rfl))
  f332 := Tryz.func266.trans (congrArg some (by kernel_rfl))
  f343 := Tryz.func269.trans (congrArg some (by kernel_rfl))
  t0 := Tryz.underlying0
  a0 := Tryz.isAgg0
  z0 := Tryz.sizeOf0
  v0 := Tryz.zeroValue0
  t3 := Tryz.underlying3
  a3 := Tryz.isAgg3
  z3 := Tryz.sizeOf3
  v3 := Tryz.zeroValue3
  t4 := Tryz.underlying4
  a4 := Tryz.isAgg4
  z4 := Tryz.sizeOf4
  v4 := Tryz.zeroValue4
  t5 := Tryz.underlying5
  a5 := Tryz.isAgg5
  z5 := Tryz.sizeOf5
  v5 := Tryz.zeroValue5
  t9 := Tryz.underlying9
  a9 := Tryz.isAgg9
  z9 := Tryz.sizeOf9
  v9 := Tryz.zeroValue9
  t28 := Tryz.underlying40
  a28 := Tryz.isAgg40
  z28 := Tryz.sizeOf40
  v28 := Tryz.zeroValue40
  t46 := Tryz.underlying182
  a46 := Tryz.isAgg182
  z46 := Tryz.sizeOf182
  v46 := Tryz.zeroValue182
  t51 := Tryz.underlying214
  a51 := Tryz.isAgg214
  z51 := Tryz.sizeOf214
  v51 := Tryz.zeroValue214
  t53 := Tryz.underlying216
  a53 := Tryz.isAgg216
  z53 := Tryz.sizeOf216
  v53 := Tryz.zeroValue216
  t131 := Tryz.underlying35
  a131 := Tryz.isAgg35
  z131 := Tryz.sizeOf35
  v131 := Tryz.zeroValue35
  t182 := Tryz.underlying208
  a182 := Tryz.isAgg208
  z182 := Tryz.sizeOf208
  v182 := Tryz.zeroValue208
  t183 := Tryz.underlying209
  a183 := Tryz.isAgg209
  z183 := Tryz.sizeOf209
  v183 := Tryz.zeroValue209
  t218 := Tryz.underlying227
  a218 := Tryz.isAgg227
  z218 := Tryz.sizeOf227
  v218 := Tryz.zeroValue227
  t222 := Tryz.underlying231
  a222 := Tryz.isAgg231
  z222 := Tryz.sizeOf231
  v222 := Tryz.zeroValue231
  t228 := Tryz.underlying235
  a228 := Tryz.isAgg235
  z228 := Tryz.sizeOf235
  v228 := Tryz.zeroValue235
  t229 := Tryz.underlying176
  a229 := Tryz.isAgg176
  z229 := Tryz.sizeOf176
  v229 := Tryz.zeroValue176 }
open Go.Sort Go.RowKit in
theorem Srt.slices_Sort_int (blk off cap : Nat) (zs : List Int) (w : World) (hH : Holds (Value.int .i64) w blk off zs.toArray) (hblk : blk < w.heap.size) (hsz : zs.length < 4611686018427387904) :
    Calls Tryz.prog 148 #[.slice (some ⟨blk, off, none⟩) zs.length cap] w fun e w' =>
      e = .returned (.tuple #[]) ∧ ∃ n os, w' = grow (putRow (Value.int .i64) (Sort.ahead w n) blk off (zs.mergeSort fun x y => decide (x ≤ y)).toArray) os := Any.slices_Sort_int Srt.lays189 blk off cap zs w hH hblk hsz
open Go.RowKit Go.Sort in
/-- .. and plain. (LAID: no walk: one application.) -/
theorem Srt.slices_Sort_int_none (p : Option Addr) (cap : Nat) (w : World) :
    Calls Tryz.prog 148 #[.slice p 0 cap] w fun e w' => e = .returned (.tuple #[]) ∧ w' = w := Any.slices_Sort_int_none Srt.lays189 p cap w
end Go.Proofs.YtndebacmnpghkaaGreat
end

section
/- Contracts of the functions on lists of numbers: sorting, copying, searching, ranges. -/
namespace Go.Proofs.YtndebacmnpghkaaGreat
open Go.GX Go.RowKit
set_option maxRecDepth 100000

/-! ### slices.Sort, slices.Clone -/

def sortI (l : List Int) : List Int := l.mergeSort fun x y => decide (x ≤ y)

theorem flatI (l : List Int) : l.flatMap Flat.cells = l.map (Value.int .i64) := by
  induction l with
  | nil => rfl
  | cons x r ih => rw [List.flatMap_cons, ih]; rfl

theorem Ret_nil {Q : World → Prop} {w : World} (h : Q w) : Ret [] Q (.returned (.tuple #[])) w := h

theorem sort_ok {w : World} {base : Nat} {s : Sl} {l : List Int} (h : OwnL w base T.t_int s l) (hl : l.length ≤ 1048576) :
    Calls Tryz.prog F.slices_Sort_sl_int_int #[s.v] w (Ret [] fun w' => OwnL w' base T.t_int s (sortI l) ∧ Step w w' s.v.ownBlock) := by
  rcases h.2.2 with ⟨hv, h0⟩ | ⟨g, cap, cur, hv, hb, hg, hle, hmx, hsz, htake⟩
  · have hnil : l = [] := by rw [h.1] at h0; exact List.length_eq_zero_iff.1 h0
    subst hnil
    have hlen : s.len = 0 := h0
    have hsv : s.v = .slice s.a 0 s.cap := by rw [← hlen]
    rw [hsv]
    refine (Srt.slices_Sort_int_none s.a s.cap w).mono ?_
    rintro e w' ⟨rfl, rfl⟩
    exact Ret_nil ⟨by simpa [sortI] using h, Step.refl _ _⟩
  · have htake' : cur.toList.take l.length = l.map (Value.int .i64) := by rw [← flatI, ← htake, h.1]; simp [Rep.sz]
    have hsv : s.v = .slice (some ⟨g, 0, none⟩) l.length cap := by rw [← h.1]; exact hv
    rw [hsv]
    refine (Srt.slices_Sort_int g 0 cap l w (holds_of_blockI hg htake') (Array.getElem?_eq_some_iff.1 hg).1 (by omega)).mono ?_
    rintro e w' ⟨rfl, n, os, rfl⟩
    refine Ret_nil ⟨⟨by simp [sortI, h.1], ?_⟩, Step.of_grown (grownBy_sortedI _)⟩
    unfold Go.GX.Own
    rw [h.1, hsv, flatI]
    exact ownsRow_sortedI (by simp) hb hg (by rw [← h.1]; exact hle) hmx hsz

theorem clone_ok {w : World} {s : Sl} {l : List Int} (h : R w s l) (hl : l.length ≤ 1048576) :
    Calls Tryz.prog F.slices_Clone_sl_int_int #[s.v] w (Ret [.at .sl] fun (r : Sl) w' => Ext w w' ∧ OwnL w' w.heap.size T.t_int r l) := by
  refine C_slices_Clone_sl_int_int ?_
  unfold V_slices_Clone_sl_int_int
  refine cond_b (fun hn => ?_) (fun _ => ?_)
  · have hnil : l = [] := by
      cases l with
      | nil => rfl
      | cons x r => obtain ⟨a, _, ha, _⟩ := h.2.2 0 x rfl; rw [ha] at hn; cases hn
    subst hnil
    exact ⟨Ext.refl _, OwnL.nil _ _ _⟩
  · refine RUN_lit0 (α := Int) slt_int fun r w1 hE1 hO1 => ?_
    refine RUN_append (α := Int) slt_int hO1 hE1.size (h.ext hE1) (by simp; omega) (by simp [maxLen]; omega) fun r' w2 hO2 hs => ?_
    exact ⟨hs.ext0 hE1 (fun k hk => (hO1.blk k hk).1), by simpa using hO2⟩

/-! ### Ranges -/

/-- Strictly increasing, step by step. -/
def Incr (l : List Int) : Prop := ∀ i, (h : i + 1 < l.length) → l[i] < l[i + 1]

def AllIn (l : List Int) (lo hi : Int) : Prop := ∀ x ∈ l, lo ≤ x ∧ x ≤ hi

theorem allIn_take_succ {l : List Int} {lo hi : Int} {i : Nat} (hi' : i < l.length) (h : AllIn (l.take i) lo hi) (hx : lo ≤ l[i] ∧ l[i] ≤ hi) : AllIn (l.take (i + 1)) lo hi := fun x hm => by
  rw [List.take_succ_eq_append_getElem hi'] at hm
  rcases List.mem_append.1 hm with h1 | h1
  · exact h x h1
  · rw [List.mem_singleton.1 h1]; exact hx

theorem l1All_ok {w : World} {s : Sl} {l : List Int} (h : R w s l) (lo hi : Int) :
    Calls Tryz.prog F.s_l1All #[s.v, .int .i64 lo, .int .i64 hi] w (Ret [.at .bool] fun (b : Bool) w' => (b = true ↔ AllIn l lo hi) ∧ w = w') := by
  refine C_s_l1All ?_
  unfold V_s_l1All
  rw [h.len]
  refine ⟨IN l.length fun i w' => w = w' ∧ AllIn (l.take i) lo hi, MN l.length, IN_zero ⟨rfl, fun x hx => by simp at hx⟩, ?_⟩
  rintro x _ ⟨i, rfl, hi', rfl, ha⟩
  intros
  refine cond_dec (fun hlt => ?_) (fun hge => ⟨?_, rfl⟩)
  · have hlt' : i < l.length := by omega
    refine h.ixI hlt' fun p _ hc => LD_int hc ?_
    refine call (l1In_ok _ _ _ _) ?_
    rintro b _ ⟨hb, rfl⟩
    refine cond_not (fun hf => ⟨?_, rfl⟩) (fun ht => IN_next h.le hlt' ⟨rfl, allIn_take_succ hlt' ha (inR_true (hb ▸ ht))⟩)
    simp only [Bool.false_eq_true, false_iff]
    intro hall
    exact inR_false (hb ▸ hf) (hall _ (List.getElem_mem hlt'))
  · have : i = l.length := by omega
    subst this
    simpa using ha

/-- What both sides' test of increasing lists comes to. -/
def Rising (l : List Int) (lo hi : Int) : Prop := AllIn l lo hi ∧ Incr l

theorem incr_take_succ {l : List Int} {i : Nat} (hi : i < l.length) (h : Incr (l.take i)) (hx : ∀ (h0 : 0 < i), l[i - 1] < l[i]) : Incr (l.take (i + 1)) := by
  intro j hj
  simp at hj
  have h1 : (l.take (i + 1))[j]'(by simp; omega) = l[j]'(by omega) := by simp
  have h2 : (l.take (i + 1))[j + 1]'(by simp; omega) = l[j + 1]'(by omega) := by simp
  rw [h1, h2]
  by_cases hji : j + 1 = i
  · subst hji; exact hx (by omega)
  · have := h j (by simp; omega)
    simpa using this

theorem increasing_ok {w : World} {s : Sl} {l : List Int} (h : R w s l) (lo hi : Int) :
    Calls Tryz.prog F.i_increasing #[s.v, .int .i64 lo, .int .i64 hi] w (Ret [.at .bool] fun (b : Bool) w' => (b = true ↔ Rising l lo hi) ∧ w = w') := by
  refine C_i_increasing ?_
  unfold V_i_increasing
  rw [h.len]
  refine ⟨IN l.length fun i w' => w = w' ∧ AllIn (l.take i) lo hi ∧ Incr (l.take i), MN l.length, IN_zero ⟨rfl, fun x hx => by simp at hx, fun j hj => by simp at hj⟩, ?_⟩
  rintro x _ ⟨i, rfl, hi', rfl, ha, hinc⟩
  intros
  have hle := h.le
  refine cond_dec (fun hlt => ?_) (fun hge => ⟨?_, rfl⟩)
  · have hlt' : i < l.length := by omega
    refine h.ixI hlt' fun p _ hc => LD_int hc ?_
    refine call (within_ok _ _ _ _) ?_
    rintro b _ ⟨hb, rfl⟩
    refine cond_not (fun hf => ⟨?_, rfl⟩) (fun ht => ?_)
    · simp only [Bool.false_eq_true, false_iff]
      intro hall
      exact inR_false (hb ▸ hf) (hall.1 _ (List.getElem_mem hlt'))
    · have hr := inR_true (hb ▸ ht)
      refine cond_dec (fun hpos => ?_) (fun hnp => ?_)
      · have hpos' : 0 < i := by omega
        have e1 : IntKind.i64.wrap ((i : Int) - 1) = ((i - 1 : Nat) : Int) := by rw [wrap_of (by omega) (by omega)]; omega
        rw [e1]
        refine h.ixI (by omega) fun p _ hc => LD_int hc ?_
        refine cond_dec (fun hge2 => ⟨?_, rfl⟩) (fun hlt2 => ?_)
        · simp only [Bool.false_eq_true, false_iff]
          intro hall
          have := hall.2 (i - 1) (by omega)
          simp only [show i - 1 + 1 = i by omega] at this
          omega
        · exact IN_next hle hlt' ⟨rfl, allIn_take_succ hlt' ha hr, incr_take_succ hlt' hinc fun _ => by omega⟩
      · exact IN_next hle hlt' ⟨rfl, allIn_take_succ hlt' ha hr, incr_take_succ hlt' hinc fun h0 => absurd h0 (by omega)⟩
  · have : i = l.length := by omega
    subst this
    simp at ha hinc
    simp [Rising, ha, hinc]

/-! ### Searching with a function -/

/-- A function value that answers p for each element of a list, whatever the world that goes on from this one. -/
def Answers (w : World) (f : Value) (l : List Int) (p : Int → Bool) : Prop :=
  ∀ x ∈ l, ∀ w', Ext w w' → CALLV Tryz.prog f #[.int .i64 x] w' (Ret [.at .bool] fun (b : Bool) w'' => b = p x ∧ Ext w' w'')

theorem callv {P : Program} {f : Value} {args : Array Value} {w : World} {rs : List Sh} {Q Q' : Cur (World → Prop) (atsR rs)} (h : CALLV P f args w (Ret rs Q)) (hk : CurLe (atsR rs) Q Q') : CALLV P f args w (Ret rs Q') := by
  obtain ⟨g, caps, h1, h2, h3⟩ := h
  exact ⟨g, caps, h1, h2, call h3 hk⟩

theorem indexFuncI_ok {w : World} {s : Sl} {l : List Int} (h : R w s l) {f : Value} {p : Int → Bool} (hf : Answers w f l p) :
    Calls Tryz.prog F.slices_IndexFunc_sl_int_int #[s.v, f] w (Ret [.at (.int .i64)] fun (i : Int) w' => (match l.findIdx? p with | some k => i = k | none => i = -1) ∧ Ext w w') := by
  refine C_slices_IndexFunc_sl_int_int ?_
  unfold V_slices_IndexFunc_sl_int_int
  rw [h.len]
  refine ⟨IN l.length fun i w' => Ext w w' ∧ ∀ x ∈ l.take i, p x = false, MN l.length, IN_zero ⟨Ext.refl _, by simp⟩, ?_⟩
  rintro x w1 ⟨i, rfl, hi', hE, ha⟩
  intros
  refine cond_dec (fun hlt => ?_) (fun hge => ⟨?_, hE⟩)
  · have hlt' : i < l.length := by omega
    refine (h.ext hE).ixI hlt' fun q _ hc => LD_int hc ?_
    refine callv (hf _ (List.getElem_mem hlt') w1 hE) ?_
    rintro b w2 ⟨rfl, hE2⟩
    refine cond_b (fun ht => ⟨?_, hE.trans hE2⟩) (fun hf => ?_)
    · have : l.findIdx? p = some i := by
        rw [List.findIdx?_eq_some_iff_getElem]
        refine ⟨hlt', ht, fun j hj => ?_⟩
        have := ha l[j] (by rw [List.mem_take_iff_getElem]; exact ⟨j, by omega, rfl⟩)
        simp [this]
      rw [this]
    · refine IN_next h.le hlt' ⟨hE.trans hE2, fun y hy => ?_⟩
      rw [List.take_succ_eq_append_getElem hlt'] at hy
      rcases List.mem_append.1 hy with h1 | h1
      · exact ha y h1
      · rw [List.mem_singleton.1 h1]; exact hf
  · have : i = l.length := by omega
    subst this
    have : l.findIdx? p = none := by
      rw [List.findIdx?_eq_none_iff]
      intro y hy
      exact ha y (by simpa using hy)
    rw [this]

theorem containsFuncI_ok {w : World} {s : Sl} {l : List Int} (h : R w s l) {f : Value} {p : Int → Bool} (hf : Answers w f l p) :
    Calls Tryz.prog F.slices_ContainsFunc_sl_int_int #[s.v, f] w (Ret [.at .bool] fun (b : Bool) w' => b = l.any p ∧ Ext w w') := by
  refine C_slices_ContainsFunc_sl_int_int ?_
  unfold V_slices_ContainsFunc_sl_int_int
  refine call (indexFuncI_ok h hf) ?_
  rintro i w1 ⟨hi, hE⟩
  refine ⟨?_, hE⟩
  cases hf : l.findIdx? p with
  | none =>
    rw [hf] at hi
    simp only at hi
    subst hi
    have h1 := List.findIdx?_eq_none_iff.1 hf
    have : l.any p = false := by
      rw [List.any_eq_false]; intro x hx; simp [h1 x hx]
    rw [this]; rfl
  | some k =>
    rw [hf] at hi
    simp only at hi
    subst hi
    obtain ⟨hk, hp, _⟩ := List.findIdx?_eq_some_iff_getElem.1 hf
    have : l.any p = true := List.any_eq_true.2 ⟨l[k], List.getElem_mem hk, hp⟩
    rw [this]
    simp

theorem allWithin_ok {w : World} {s : Sl} {l : List Int} (h : R w s l) (lo hi : Int) :
    Calls Tryz.prog F.i_allWithin #[s.v, .int .i64 lo, .int .i64 hi] w (Ret [.at .bool] fun (b : Bool) w' => (b = true ↔ AllIn l lo hi) ∧ Ext w w') := by
  refine C_i_allWithin ?_
  unfold V_i_allWithin
  refine NEW_intro fun p1 w1 hp1 hs1 hE1 hb1 => ?_
  refine NEW_intro fun p2 w2 hp2 hs2 hE2 hb2 => ?_
  have hb1' := hb1.ext hE2
  have hE := hE1.trans hE2
  refine call (containsFuncI_ok (p := fun x => !inR x lo hi) (h.ext hE) ?_) ?_
  · intro x hx w' hw'
    refine CALLV_mk (by kernel_rfl) (C_i_allWithin_1 ?_)
    unfold V_i_allWithin_1
    refine LD_bi (hb1'.ext hw') (LD_bi (hb2.ext hw') ?_)
    refine call (within_ok _ _ _ _) ?_
    rintro b _ ⟨rfl, rfl⟩
    exact ⟨rfl, Ext.refl _⟩
  · rintro b w3 ⟨rfl, hE3⟩
    refine ⟨?_, hE.trans hE3⟩
    simp [AllIn, inR]

/-! ### Identifiers, inputs -/

def IdsOk (ids : List Int) (k : Nat) : Prop := AllIn ids 1 999999 ∧ ids.Nodup ∧ (ids.length = 0 ∨ ids.length = k)

theorem nodup_take_succ {l : List Int} {i : Nat} (hi : i < l.length) (h : (l.take i).Nodup) (hx : l[i] ∉ l.take i) : (l.take (i + 1)).Nodup := by
  rw [List.take_succ_eq_append_getElem hi, List.nodup_append]
  refine ⟨h, by simp, ?_⟩
  intro a ha b hb hab
  rw [List.mem_singleton.1 hb] at hab
  subst hab
  exact hx ha

theorem neIds_ok {w : World} {s : Sl} {l : List Int} (h : R w s l) (k : Nat) :
    Calls Tryz.prog F.s_neIds #[s.v, .int .i64 k] w (Ret [.at .bool] fun (b : Bool) w' => (b = true ↔ IdsOk l k) ∧ w = w') := by
  refine C_s_neIds ?_
  unfold V_s_neIds
  rw [h.len]
  refine ⟨IN l.length fun i w' => w = w' ∧ AllIn (l.take i) 1 999999 ∧ (l.take i).Nodup, MN l.length, IN_zero ⟨rfl, fun x hx => by simp at hx, by simp⟩, ?_⟩
  rintro x _ ⟨i, rfl, hi', rfl, ha, hn⟩
  intros
  refine cond_dec (fun hlt => ?_) (fun hge => ?_)
  · have hlt' : i < l.length := by omega
    refine h.ixI hlt' fun p _ hc => LD_int hc ?_
    refine call (l1In_ok _ _ _ _) ?_
    rintro b _ ⟨hb, rfl⟩
    refine cond_not (fun hf => ⟨?_, rfl⟩) (fun ht => ?_)
    · simp only [Bool.false_eq_true, false_iff]
      intro hall
      exact inR_false (hb ▸ hf) (hall.1 _ (List.getElem_mem hlt'))
    · refine h.take hi' rfl fun s' hs' => ?_
      refine call (l1Has_ok hs' _) ?_
      rintro b _ ⟨rfl, rfl⟩
      refine cond_b (fun hc => ⟨?_, rfl⟩) (fun hc => IN_next h.le hlt' ⟨rfl, allIn_take_succ hlt' ha (inR_true (hb ▸ ht)), nodup_take_succ hlt' hn (by simpa using hc)⟩)
      simp only [Bool.false_eq_true, false_iff]
      intro hall
      have hmem : l[i] ∈ l.take i := by simpa using hc
      obtain ⟨j, hj, he⟩ := List.mem_take_iff_getElem.1 hmem
      exact (List.pairwise_iff_getElem.1 hall.2.1) j i (by omega) hlt' (by omega) he
  · have : i = l.length := by omega
    subst this
    simp only [List.take_length] at ha hn
    refine cond_eq (fun h0 => ⟨?_, rfl⟩) (fun h0 => ⟨?_, rfl⟩)
    · simp only [true_iff]; exact ⟨ha, hn, .inl (by omega)⟩
    · rw [beq_iff_eq]
      constructor
      · intro he; exact ⟨ha, hn, .inr (by omega)⟩
      · rintro ⟨_, _, h1 | h1⟩
        · omega
        · omega

theorem incr_iff_pairwise {l : List Int} : Incr l ↔ l.Pairwise (· < ·) := by
  constructor
  · intro h
    rw [List.pairwise_iff_getElem]
    intro i j hi hj hij
    induction j with
    | zero => omega
    | succ j ih =>
      rcases Nat.lt_or_eq_of_le (Nat.le_of_lt_succ hij) with h1 | h1
      · exact Int.lt_trans (ih (by omega) h1) (h j hj)
      · subst h1; exact h i hj
  · intro h i hi
    exact (List.pairwise_iff_getElem.1 h) i (i + 1) (by omega) hi (by omega)

theorem sortI_perm (l : List Int) : (sortI l).Perm l := List.mergeSort_perm _ _

theorem sortI_sorted (l : List Int) : (sortI l).Pairwise (· ≤ ·) := by
  have := List.pairwise_mergeSort (le := fun x y : Int => decide (x ≤ y)) (fun a b c h1 h2 => by simp at *; omega) (fun a b => by simp; omega) l
  exact this.imp (by intro a b h; simpa using h)

theorem incr_sortI {l : List Int} : Incr (sortI l) ↔ l.Nodup := by
  rw [incr_iff_pairwise, ← (sortI_perm l).nodup_iff]
  constructor
  · intro h; exact h.imp (fun h => by omega)
  · intro h
    exact (List.pairwise_and_iff.2 ⟨sortI_sorted l, h⟩).imp (fun ⟨h1, h2⟩ => by omega)

theorem allIn_sortI {l : List Int} {lo hi : Int} : AllIn (sortI l) lo hi ↔ AllIn l lo hi :=
  ⟨fun h x hx => h x ((sortI_perm l).mem_iff.2 hx), fun h x hx => h x ((sortI_perm l).mem_iff.1 hx)⟩

theorem idsOk_ok {w : World} {s : Sl} {l : List Int} (h : R w s l) (hl : l.length ≤ 1048576) (k : Nat) :
    Calls Tryz.prog F.i_idsOk #[s.v, .int .i64 k] w (Ret [.at .bool] fun (b : Bool) w' => (b = true ↔ IdsOk l k) ∧ Ext w w') := by
  refine C_i_idsOk ?_
  unfold V_i_idsOk
  rw [h.len]
  refine cond_eq (fun h0 => ⟨?_, Ext.refl _⟩) (fun h0 => ?_)
  · have : l = [] := List.length_eq_zero_iff.1 (by omega)
    subst this
    simp [IdsOk, AllIn]
  · refine call (clone_ok h hl) ?_
    rintro r w1 ⟨hE1, hO1⟩
    refine call (sort_ok hO1 hl) ?_
    rintro w2 ⟨hO2, hs2⟩
    have hE2 := hs2.ext0 hE1 (fun k hk => (hO1.blk k hk).1)
    refine cond_eq (fun he => ?_) (fun hne => ⟨?_, hE2⟩)
    · have hr := hO2.rep (fun x hx => flat_ok h x ((sortI_perm l).mem_iff.1 hx))
      refine call (increasing_ok hr.any 1 999999) ?_
      rintro b _ ⟨hb, rfl⟩
      refine ⟨?_, hE2⟩
      rw [hb]
      unfold Rising IdsOk
      rw [incr_sortI, allIn_sortI]
      constructor
      · intro ⟨h1, h2⟩; exact ⟨h1, h2, .inr (by omega)⟩
      · intro ⟨h1, h2, _⟩; exact ⟨h1, h2⟩
    · simp only [Bool.false_eq_true, false_iff]
      rintro ⟨_, _, h1 | h1⟩
      · omega
      · omega

theorem inputsOk_ok {w : World} {s : Sl} {l : List Int} (h : R w s l) (k : Nat) :
    Calls Tryz.prog F.i_inputsOk #[s.v, .int .i64 k] w (Ret [.at .bool] fun (b : Bool) w' => (b = true ↔ l.length = k ∧ AllIn l 0 9) ∧ Ext w w') := by
  refine C_i_inputsOk ?_
  unfold V_i_inputsOk
  rw [h.len]
  refine cond_eq (fun he => ?_) (fun hne => ⟨?_, Ext.refl _⟩)
  · refine call (allWithin_ok h 0 9) ?_
    rintro b w1 ⟨hb, hE⟩
    refine ⟨?_, hE⟩
    rw [hb]
    constructor
    · intro h1; exact ⟨by omega, h1⟩
    · exact fun h1 => h1.2
  · simp only [Bool.false_eq_true, false_iff]
    intro h1; omega

end Go.Proofs.YtndebacmnpghkaaGreat
end

section
/- slices.AppendSeq(nil, slices.Values(s)), slices.Collect, slices.Sorted at []int. The walk of the loop is turned from the kit's worked texts (a loop over slices.Values; the shelf's slices.Collect). -/
namespace Go.Proofs.YtndebacmnpghkaaGreat
open Go Go.RowKit Go.Shelf Go.Proofs

attribute [local go_sem] Oper.semAt_some

theorem boxCell {W : World} {B : Nat} {v : Value} {t : TypeId} (h : W.heap[B]? = some (.cells #[v] t (0, 0))) : W.cell? ⟨B, 0, none⟩ = some v ∧ W.frozen? ⟨B, 0, none⟩ = false := by
  constructor
  · simp [World.cell?, h]
  · simp [World.frozen?, h]

theorem setCell_box {W : World} {B : Nat} {u v : Value} {t : TypeId} (h : W.heap[B]? = some (.cells #[u] t (0, 0))) : (W.setCell ⟨B, 0, none⟩ v).heap[B]? = some (.cells #[v] t (0, 0)) := by
  simp [World.setCell, Array.getElem?_modify, h]

theorem rowNe {W : World} {base : Nat} {e : TypeId} {size : Nat} {v : Value} {k : Nat} {xs : List Value} (h : W.ownsRow base e size v k xs) {j : Nat} {o : Obj} (hj : W.heap[j]? = some o) (hno : ∀ cur, o ≠ .cells cur e (0, 0)) :
    v.ownBlock = none ∨ v.ownBlock ≠ some j := by
  rcases h.2 with ⟨rfl, _⟩ | ⟨g, cap, cur, rfl, _, hg, _⟩
  · exact .inl rfl
  · refine .inr fun e' => ?_
    cases e'
    rw [hg] at hj
    exact hno cur (by cases hj; rfl)

theorem rowAbides {W W' : World} {row : Option Nat} {base : Nat} {e : TypeId} {size : Nat} {v : Value} {k : Nat} {xs : List Value} (h : W.ownsRow base e size v k xs) (hg : W.grownBy W' row)
    (hr : ∀ r, row = some r → ∃ o : Obj, W.heap[r]? = some o ∧ o.isCells = false) : W'.ownsRow base e size v k xs := by
  refine h.kept hg ?_
  cases row with
  | none => cases hv : v.ownBlock <;> simp
  | some r =>
    obtain ⟨o, ho, hc⟩ := hr r rfl
    exact rowNe h ho (fun cur e' => by subst e'; simp [Obj.isCells] at hc)

/-- Between two rounds: the box holds a slice that owns what has come so far, in a block of the call's own. -/
def ApAt (base Bs : Nat) (ss : List Int) (W : World) : Prop :=
  ∃ v, W.heap[Bs]? = some (.cells #[v] 40 (0, 0)) ∧ W.ownsRow base 3 1 v ss.length (ss.map (Value.int .i64))

theorem apAt_own (base Bs : Nat) : Go.Own (ApAt base Bs) := fun ss A B row ⟨v, hv, ho⟩ hg hr => by
  refine ⟨v, ?_, rowAbides ho hg hr⟩
  refine (hg.block Bs (Array.getElem?_eq_some_iff.1 hv).1 (fun e => ?_)).trans hv
  obtain ⟨o, h1, h2⟩ := hr Bs e.symm
  rw [hv] at h1; cases h1; simp [Obj.isCells] at h2

theorem infoI : (Tryz.prog.info? 3).map (fun i => (i.zero, i.size, i.bytes)) = some (some (.int .i64 0), 1, 8) := by kernel_rfl

set_option maxRecDepth 100000 in
set_option maxHeartbeats 4000000 in
theorem appendSeq_in (Fe : Fence) (n : Nat) (hA : Fe.fn 268) (h7 : Fe.fn 261) (hro : Fe.round = none) (hn : 3 ≤ n) (Bs : Nat) (sv : Value) (zs : List Int) (hreach : zs.length * 8 ≤ 140737488351232)
    (w : World) (hBs : Bs < w.heap.size) (hc : w.cell? ⟨Bs, 0, none⟩ = some sv) (hI : IntsIn w.heap.size w sv zs) :
    CallsIn Fe n Tryz.prog 268 #[.slice none 0 0, .func (.func 261) #[] #[.pointer (some ⟨Bs, 0, none⟩)]] w fun e w' =>
      ∃ v, e = .returned v ∧ w'.ownsRow w.heap.size 3 1 v zs.length (zs.map (Value.int .i64)) ∧ Below w.heap.size w w' := by
  have h1 : 1 ≤ n := by omega
  obtain ⟨i0, hi, hz0, hz1, hz2⟩ := info_parts infoI
  refine callsIn_of_wp_marks Tryz.func268 rfl hA ?_ hro
  simp only [Tryz.ntmps268, List.size_toArray, List.length_cons, List.length_nil, Nat.reduceAdd, Nat.reduceSub, Array.replicate_succ, Array.replicate_zero, List.push_toArray, List.append_toArray, List.nil_append, List.cons_append]
  gi_wp2
  have hB0 : Below w.heap.size w (w.alloc (.cells #[.slice none 0 0] 40)) := (Below.refl _ w).alloc (Nat.le_refl _) _
  have hbx : (w.alloc (.cells #[.slice none 0 0] 40)).heap[w.heap.size]? = some (.cells #[.slice none 0 0] 40 (0, 0)) := World.alloc_heap_new w _
  refine wpIn_rangeFunc_ownG hro h1 (gf := 261) (lb := #[.pointer (some ⟨Bs, 0, none⟩)]) rfl h7 (enters_of Tryz.func261 (by kernel_rfl) rfl)
    (values_stops Fe (n - 1) h7 hro (by omega) Bs w.heap.size sv zs hreach _ (by simp; omega) (by simp) ((hB0.cell (p := ⟨Bs, 0, none⟩) hBs).trans hc) (hI.below hB0)) belowK_t (belowK_b (by simp)) (Below.refl _ _) (fun _ => rfl)
    (fun pre W => ApAt w.heap.size w.heap.size pre W ∧ Below w.heap.size w W)
    (fun _ _ _ => False)
    (OwnFrom.and (Own.from (apAt_own _ _) _) (ownFrom_below (Nat.le_refl _) (by simp)))
    (fun _ _ _ _ _ hs _ _ => hs)
    ⟨⟨_, hbx, World.ownsRow_nil _ _ _ _⟩, hB0⟩
    (fun x => { tmps := #[.slice none 0 0, .func (.func 261) #[] #[.pointer (some ⟨Bs, 0, none⟩)], .pointer (some ⟨w.heap.size, 0, none⟩), undef, .slice none 0 0, .int .i64 x, .func (.func 261) #[] #[.pointer (some ⟨Bs, 0, none⟩)], .int .i64 x, undef, undef, undef, undef, undef], defers := [] }) ?assign ?body ?done ?stop
  case assign =>
    intro l x W K hK
    gi_wp2
    exact hK
  case body =>
    rintro l pre x W ⟨⟨v, hv, hown⟩, hB⟩ hlen
    obtain ⟨hc1, hf1⟩ := boxCell hv
    have hbz : w.heap.size < W.heap.size := (Array.getElem?_eq_some_iff.1 hv).1
    gi_wp2_with (first
      | (gi_at_builtin; refine wpListIn_append_own _ rfl _ _ 40 rfl w.heap.size 3 i0 (.int .i64 0) 1 8 Tryz.underlying40 hi hz0 hz1 hz2 rfl (by decide) _ _ _ rfl (hown.alloc _) ⟨W.heap.size, 0, none⟩ 1 1 [.int .i64 x] rfl rfl (cell_one_new _ _ _) (by simp [Value.oneCell']) (by unfold maxLen; omega) (by omega) (by simp; omega) ?_; intro v' w3 hown' hg3q hnil3
         have hg3 : (W.alloc (.cells #[.int .i64 x] 3)).grownBy w3 v.ownBlock := hg3q
         clear hg3q hnil3
         have hv3 : w3.heap[w.heap.size]? = some (.cells #[v] 40 (0, 0)) := (hg3.block w.heap.size (by simp; omega) (by
           rcases rowNe hown hv (fun cur e => by cases e) with e | e
           · rw [e]; simp
           · exact fun e' => e e'.symm)).trans ((Below.heap_alloc _ _ w.heap.size hbz).trans hv)
         obtain ⟨hc3, hf3⟩ := boxCell hv3
         obtain ⟨g', cap', cur', rfl, hbase', hgb', hr1, hr2, hr3, hr4⟩ : ∃ g' cap' cur', v' = .slice (some ⟨g', 0, none⟩) (pre.length + 1) cap' ∧ w.heap.size ≤ g' ∧ w3.heap[g']? = some (.cells cur' 3 (0, 0)) ∧ pre.length + 1 ≤ cap' ∧ cap' ≤ maxLen ∧ cur'.size = cap' * 1 ∧ cur'.toList.take ((pre.length + 1) * 1) = pre.map (Value.int .i64) ++ [.int .i64 x] := by
           rcases hown'.2 with ⟨_, h0⟩ | h'
           · exact absurd h0 (by omega)
           · exact h')
      | gi_in)
    have hne : v.ownBlock ≠ some w.heap.size := by
      rcases rowNe hown hv (fun cur e => by cases e) with e | e
      · rw [e]; simp
      · exact e
    have hW3 : W.grownBy w3 v.ownBlock := ⟨hg3.os, hg3.tape, hg3.output, by have := hg3.size; simp at this; omega, fun k hk hkr => (hg3.block k (by simp; omega) hkr).trans (Below.heap_alloc _ _ k hk)⟩
    have hg4 := grownBy_setCell' w3 w.heap.size (.slice (some ⟨g', 0, none⟩) (pre.length + 1) cap')
    have hBW : Below w.heap.size W w3 := (Below.refl w.heap.size W).grown hW3 (Nat.le_of_lt hbz) (fun k e => (hown.lt k e).1)
    have hB4 : Below w.heap.size w3 (w3.setCell ⟨w.heap.size, 0, none⟩ (.slice (some ⟨g', 0, none⟩) (pre.length + 1) cap')) := (Below.refl w.heap.size w3).setCell (p := ⟨w.heap.size, 0, none⟩) (Nat.le_refl _) _
    refine ⟨⟨by have := hW3.size; have := hg4.size; omega, fun k o hk ho hoc => ?_⟩, hBW.trans hB4, ⟨_, setCell_box hv3, ?_⟩, hB.trans (hBW.trans hB4)⟩
    · have hkl : k < W.heap.size := (Array.getElem?_eq_some_iff.1 ho).1
      have h3 : w3.heap[k]? = some o := (hW3.block k hkl (fun e => by
        rcases hown.2 with ⟨rfl, _⟩ | ⟨g, cap, cur, rfl, _, hgc, _⟩
        · cases e
        · cases e
          rw [hgc] at ho; cases ho; simp [Obj.isCells] at hoc)).trans ho
      exact (hg4.block k (Array.getElem?_eq_some_iff.1 h3).1 (fun e => by cases e; rw [World.size_alloc] at hk; omega)).trans h3
    · have := hown'.kept hg4 (rowNe hown' hv3 (fun cur e => by cases e))
      simpa using this
  case done =>
    rintro D ys W hD rfl ⟨⟨v, hv, hown⟩, hB⟩ hK
    obtain ⟨hc1, hf1⟩ := boxCell hv
    gi_wp2
    refine ⟨by simp, .inl ⟨_, _, rfl, run_takeDeferred hK, ?_⟩⟩
    exact ⟨_, results_tmp rfl _ _ _, v, rfl, rowAbides hown (grownBy_putObj' _ _ _) (fun r e => by cases e; exact ⟨_, hK, rfl⟩), hB.trans (belowK_b (w := w) (Nat.le_refl _) W D _ _ (by simp at hD; omega) hK rfl rfl)⟩
  case stop =>
    rintro D c pre W _ _ h _
    exact h.elim

open Go.GX

theorem intsIn_of {w : World} {s : Sl} {l : List Int} (h : R w s l) : IntsIn w.heap.size w s.v l := by
  obtain ⟨h1, h2, h3⟩ := h
  cases ha : s.a with
  | none =>
    have : l = [] := by
      cases l with
      | nil => rfl
      | cons x r => obtain ⟨a, _, e, _⟩ := h3 0 x rfl; rw [ha] at e; cases e
    subst this
    refine .inl ⟨s.cap, ?_, rfl⟩
    simp only [Sl.v, ha, h1]; rfl
  | some a =>
    have hcell : ∀ j, j < l.length → w.cell? (a.add j) = some (.int .i64 (l[j]?.getD 0)) := fun j hj => by
      obtain ⟨a', cs, e, _, hr, hcs⟩ := h3 j l[j] (List.getElem?_eq_getElem hj)
      rw [ha] at e; cases e
      have := hcs 0 (.int .i64 l[j]) (by rw [hr.1]; rfl)
      simp only [List.getElem?_eq_getElem hj, Option.getD_some]
      simpa [Rep.sz] using this
    refine .inr ⟨a, s.cap, ?_, fun h0 => ?_, hcell⟩
    · simp only [Sl.v, ha, h1]
    · have := hcell 0 h0
      exact cell_lt this

/-- slices.AppendSeq(nil, slices.Values(s)): the box of slices.Values holds s. -/
theorem appendSeq_ok {w : World} {b : Nat} {s : Sl} {l : List Int} (hc : w.cell? ⟨b, 0, none⟩ = some s.v) (h : R w s l) (hl : l.length ≤ 1048576) :
    Calls Tryz.prog F.slices_AppendSeq_sl_int_int #[.slice none 0 0, .func (.func F.slices_Values_sl_int_int_1) #[] #[.pointer (some ⟨b, 0, none⟩)]] w (Ret [.at .sl] fun (r : Sl) w' => Ext w w' ∧ OwnL w' w.heap.size T.t_int r l) := by
  refine (callsIn_wide.1 (appendSeq_in Fence.wide 3 trivial trivial rfl (Nat.le_refl _) b s.v l (by omega) w (cell_lt hc) hc (intsIn_of h))).mono ?_
  rintro e w' ⟨v, rfl, ho, hB⟩
  have hv : ∃ r : Sl, v = r.v ∧ r.len = l.length := by
    rcases ho.2 with ⟨rfl, h0⟩ | ⟨g, cap, cur, rfl, _⟩
    · exact ⟨⟨none, 0, 0⟩, rfl, h0.symm⟩
    · exact ⟨⟨some ⟨g, 0, none⟩, l.length, cap⟩, rfl, rfl⟩
  obtain ⟨r, rfl, hrl⟩ := hv
  refine show Ext w w' ∧ OwnL w' w.heap.size T.t_int r l from ⟨hB, hrl, ?_⟩
  rw [flatI]
  unfold GX.Own
  rw [hrl]
  exact ho

theorem collect_ok {w : World} {b : Nat} {s : Sl} {l : List Int} (hc : w.cell? ⟨b, 0, none⟩ = some s.v) (h : R w s l) (hl : l.length ≤ 1048576) :
    Calls Tryz.prog F.slices_Collect_int #[.func (.func F.slices_Values_sl_int_int_1) #[] #[.pointer (some ⟨b, 0, none⟩)]] w (Ret [.at .sl] fun (r : Sl) w' => Ext w w' ∧ OwnL w' w.heap.size T.t_int r l) := by
  refine C_slices_Collect_int ?_
  unfold V_slices_Collect_int
  refine call (appendSeq_ok hc h hl) ?_
  intro r w1 hr
  exact hr

/-- slices.Sorted(slices.Values(s)). -/
theorem sorted_ok {w : World} {b : Nat} {s : Sl} {l : List Int} (hc : w.cell? ⟨b, 0, none⟩ = some s.v) (h : R w s l) (hl : l.length ≤ 1048576) :
    Calls Tryz.prog F.slices_Sorted_int #[.func (.func F.slices_Values_sl_int_int_1) #[] #[.pointer (some ⟨b, 0, none⟩)]] w (Ret [.at .sl] fun (r : Sl) w' => Ext w w' ∧ OwnL w' w.heap.size T.t_int r (sortI l)) := by
  refine C_slices_Sorted_int ?_
  unfold V_slices_Sorted_int
  refine call (collect_ok hc h hl) ?_
  rintro r w1 ⟨hE, hO⟩
  refine call (sort_ok hO hl) ?_
  rintro w2 ⟨hO2, hS⟩
  exact ⟨hS.ext0 hE (fun k e => (hO.2.lt k e).1), hO2⟩

theorem values_ok {w : World} {s : Sl} {Q : Value → World → Prop}
    (h : ∀ w', Ext w w' → w'.cell? ⟨w.heap.size, 0, none⟩ = some s.v → Q (.func (.func F.slices_Values_sl_int_int_1) #[] #[.pointer (some ⟨w.heap.size, 0, none⟩)]) w') :
    Calls Tryz.prog F.slices_Values_sl_int_int #[s.v] w (Ret [.at .val] Q) := by
  refine C_slices_Values_sl_int_int ?_
  unfold V_slices_Values_sl_int_int
  have hE := ext_push w (.cells #[s.v] T.t_sl_int)
  exact h _ hE (boxCell (t := T.t_sl_int) (by simp)).1

end Go.Proofs.YtndebacmnpghkaaGreat
end

section
/- When a network is a network: both sides' tests, and the laws' tests of nodes and ports. -/
namespace Go.Proofs.YtndebacmnpghkaaGreat
open Go.GX Go.RowKit
set_option maxRecDepth 100000

abbrev Ends := List (List (Int × Int))

/-- The far end of port i of node v. -/
def port (E : Ends) (v i : Nat) : Option (Int × Int) := (E[v]?).bind (·[i]?)

theorem port_get {E : Ends} {v i : Nat} (hv : v < E.length) (hi : i < E[v].length) : port E v i = some E[v][i] := by
  simp [port, hv, hi]

theorem port_some {E : Ends} {v i : Nat} {e : Int × Int} (h : port E v i = some e) : ∃ (hv : v < E.length) (hi : i < E[v].length), E[v][i] = e := by
  unfold port at h
  by_cases hv : v < E.length
  · by_cases hi : i < E[v].length
    · simp [hv, hi] at h; exact ⟨hv, hi, h⟩
    · simp [hv, hi] at h
  · simp [hv] at h

/-- The far end leads back. -/
def Back (E : Ends) (v i : Nat) (e : Int × Int) : Prop := ∃ a b : Nat, e = ((a : Int), (b : Int)) ∧ port E a b = some ((v : Int), (i : Int))

def RowOk (E : Ends) (v : Nat) : Prop := (∀ r, E[v]? = some r → r.length ≤ 6) ∧ ∀ i e, port E v i = some e → Back E v i e

structure Good (n : Net) : Prop where
  size : 1 ≤ n.ends.length ∧ n.ends.length ≤ 40
  ids : IdsOk n.ids n.ends.length
  inputs : n.inputs.length = n.ends.length ∧ AllIn n.inputs 0 9
  rows : ∀ v < n.ends.length, RowOk n.ends v

theorem Good.deg {n : Net} (h : Good n) {v : Nat} (hv : v < n.ends.length) : n.ends[v].length ≤ 6 := (h.rows v hv).1 _ (by simp [hv])
theorem Good.back {n : Net} (h : Good n) {v i : Nat} (hv : v < n.ends.length) (hi : i < n.ends[v].length) : Back n.ends v i n.ends[v][i] := (h.rows v hv).2 i _ (port_get hv hi)

theorem hasNode_ok {w : World} {a b c : Sl} {n : Net} (h : RNet w a b c n) (v : Int) :
    Calls Tryz.prog F.i_Network_hasNode #[.agg #[a.v, b.v, c.v], .int .i64 v] w (Ret [.at .bool] fun (x : Bool) w' => x = decide (0 ≤ v ∧ v < n.ends.length) ∧ Ext w w') := by
  refine C_i_Network_hasNode ?_
  unfold V_i_Network_hasNode
  refine NEW_intro fun p w1 hp hs hE1 hb1 => LD_bs0 hb1 ?_
  have hl := h.1.le
  rw [h.1.len, wrap_of (by omega) (by omega)]
  refine call (within_ok _ _ _ _) ?_
  rintro x _ ⟨rfl, rfl⟩
  refine ⟨?_, hE1⟩
  rw [Bool.eq_iff_iff]
  simp [inR]
  omega

/-- Port numbers as whole numbers. -/
def portZ (E : Ends) (v i : Int) : Option (Int × Int) := if 0 ≤ v ∧ 0 ≤ i then port E v.toNat i.toNat else none

theorem hasPort_ok {w : World} {a b c : Sl} {n : Net} (h : RNet w a b c n) (v i : Int) :
    Calls Tryz.prog F.i_Network_hasPort #[.agg #[a.v, b.v, c.v], .int .i64 v, .int .i64 i] w (Ret [.at .bool] fun (x : Bool) w' => x = (portZ n.ends v i).isSome ∧ Ext w w') := by
  refine C_i_Network_hasPort ?_
  unfold V_i_Network_hasPort
  refine NEW_intro fun p w1 hp hs hE1 hb1 => LD_box3 hb1 ?_
  refine call (hasNode_ok (h.ext hE1) v) ?_
  rintro x w2 ⟨rfl, hE2⟩
  have hE := hE1.trans hE2
  refine cond_dec (fun ⟨h0, h1⟩ => ?_) (fun hn => ⟨?_, hE⟩)
  · refine LD_bs0 (hb1.ext hE2) ?_
    obtain ⟨m, rfl⟩ := Int.eq_ofNat_of_zero_le h0
    have hm : m < n.ends.length := by omega
    refine (h.ext hE).1.ixL hm fun q s hR hc => LD_sl hc ?_
    have hl := hR.le
    rw [hR.len, wrap_of (by omega) (by omega)]
    refine call (within_ok _ _ _ _) ?_
    rintro x _ ⟨rfl, rfl⟩
    refine ⟨?_, hE⟩
    unfold portZ
    by_cases hi : 0 ≤ i
    · obtain ⟨k, rfl⟩ := Int.eq_ofNat_of_zero_le hi
      by_cases hk : k < n.ends[m].length
      · simp [inR, port, hm, hk]; omega
      · simp [inR, port, hm, hk]; omega
    · simp [inR, hi]
  · unfold portZ
    by_cases h0 : 0 ≤ v ∧ 0 ≤ i
    · have : ¬ v.toNat < n.ends.length := by omega
      simp [h0, port, this]
    · simp [h0]

theorem end_struct : intStruct Tryz.prog T.t_i_End 2 = true := by kernel_rfl

theorem portZ_nat (E : Ends) (v i : Nat) : portZ E v i = port E v i := by simp [portZ]

theorem portZ_some {E : Ends} {v i : Int} {e : Int × Int} (h : portZ E v i = some e) : ∃ a b : Nat, v = a ∧ i = b ∧ port E a b = some e := by
  unfold portZ at h
  split at h
  · exact ⟨v.toNat, i.toNat, by omega, by omega, h⟩
  · cases h

theorem back_iff {E : Ends} {v i : Nat} {x y : Int} : Back E v i (x, y) ↔ portZ E x y = some ((v : Int), (i : Int)) := by
  constructor
  · rintro ⟨a, b, he, hp⟩
    cases he
    rw [portZ_nat]; exact hp
  · intro h
    obtain ⟨a, b, rfl, rfl, hp⟩ := portZ_some h
    exact ⟨a, b, rfl, hp⟩

def InvR (E : Ends) (w w' : World) (v : Nat) : Prop := Ext w w' ∧ ∀ u < v, RowOk E u
def InvP (E : Ends) (w w' : World) (v i : Nat) : Prop := InvR E w w' v ∧ ∀ j < i, ∀ e, port E v j = some e → Back E v j e

theorem isNetwork_k1 {w w0 : World} {a b c : Sl} {n : Net} (h : RNet w a b c n) {p : Addr} {t : TypeId} (hb : Box w p t [a.v, b.v, c.v]) (hE0 : Ext w0 w) :
    V_i_IsNetwork_k1 (fun x w' => (x = true ↔ ∀ v < n.ends.length, RowOk n.ends v) ∧ Ext w0 w') p w := by
  unfold V_i_IsNetwork_k1
  refine LD_bs0 hb ?_
  rw [h.1.len]
  have hN := h.1.le
  refine ⟨IN n.ends.length fun v w' => InvR n.ends w w' v, MN n.ends.length, IN_zero ⟨Ext.refl _, fun u hu => absurd hu (by omega)⟩, ?_⟩
  rintro _ w1 ⟨v, rfl, hv, hE1, hI⟩
  intros
  refine cond_dec (fun hlt => ?_) (fun hge => ⟨?_, hE0.trans hE1⟩)
  · have hv' : v < n.ends.length := by omega
    refine (h.ext hE1).1.ixL hv' fun q s hR hc => LD_sl hc ?_
    rw [hR.len]
    refine cond_dec (fun hgt => ⟨?_, hE0.trans hE1⟩) (fun hle => ?_)
    · simp only [Bool.false_eq_true, false_iff]
      intro hall
      have := (hall v hv').1 n.ends[v] (by simp [hv'])
      omega
    · refine ⟨IN n.ends[v].length fun i w' => Ext w1 w' ∧ InvP n.ends w w' v i, MN n.ends[v].length, IN_zero ⟨Ext.refl _, ⟨hE1, hI⟩, fun u hu => absurd hu (by omega)⟩, ?_⟩
      rintro _ w2 ⟨i, rfl, hi, hE12, ⟨hE2, _⟩, hJ⟩
      intros
      refine cond_dec (fun hlt2 => ?_) (fun hge2 => ?_)
      · have hi' : i < n.ends[v].length := by omega
        refine (hR.ext hE12).ixE hi' fun q h1 h2 hc0 hc1 => LD_int2 hc0 hc1 ?_
        refine NEW_ST (one2 _ _) rfl fun p6 w3 hp6 hE3 hb6 => ?_
        have hE03 := hE2.trans hE3
        refine LD_box3 (hb.ext hE03) ?_
        refine LD_bi0 hb6 (LD_bi1 hb6 ?_)
        refine QCALL_bool _ (fun w' hw' => hasPort_ok (h.ext (hE03.trans hw')) _ _) ?_
        have hbk : Back n.ends v i n.ends[v][i] ↔ portZ n.ends n.ends[v][i].1 n.ends[v][i].2 = some ((v : Int), (i : Int)) := back_iff (x := n.ends[v][i].1) (y := n.ends[v][i].2)
        have hfail : ¬ Back n.ends v i n.ends[v][i] → ¬ ∀ v < n.ends.length, RowOk n.ends v := fun hn hall => hn ((hall v hv').2 i _ (port_get hv' hi'))
        refine cond_not (fun hf w4 hE4 => ⟨?_, hE0.trans (hE03.trans hE4)⟩) (fun ht => ?_)
        · simp only [Bool.false_eq_true, false_iff]
          refine hfail fun hB => ?_
          rw [hbk.1 hB] at hf; cases hf
        · obtain ⟨e', he'⟩ := Option.isSome_iff_exists.1 ht
          obtain ⟨x, y, hx, hy, hp'⟩ := portZ_some he'
          obtain ⟨hx', hy', hxy⟩ := port_some hp'
          rw [hx, hy] at hbk
          rw [hx, hy] at hb6
          refine LD_bs0 (hb.ext hE03) (LD_bi0 hb6 ?_)
          refine (h.ext hE03).1.ixL hx' fun q s2 hR2 hc => LD_sl hc ?_
          refine LD_bi1 hb6 ?_
          refine hR2.ixE hy' fun q _ _ hc0 hc1 => LD_int2 hc0 hc1 ?_
          refine AEQ_neq2 end_struct ?_
          intro w4 hE4
          have hE04 := hE03.trans hE4
          rw [portZ_nat, port_get hx' hy'] at hbk
          have hbk' : Back n.ends v i n.ends[v][i] ↔ (n.ends[x][y].1, n.ends[x][y].2) = ((v : Int), (i : Int)) := hbk.trans (by simp [Prod.ext_iff])
          refine cond_not (fun hf => ⟨?_, hE0.trans hE04⟩) (fun ht => ?_)
          · simp only [Bool.false_eq_true, false_iff]
            exact hfail fun hB => (decide_eq_false_iff_not.1 hf) (hbk'.1 hB)
          · refine IN_next (by have := hR.le; omega) hi' ⟨hE12.trans (hE3.trans hE4), ⟨hE04, hI⟩, fun j hj e he => ?_⟩
            rcases Nat.lt_or_eq_of_le (Nat.le_of_lt_succ hj) with h5 | h5
            · exact hJ j h5 e he
            · subst h5
              rw [port_get hv' hi'] at he
              cases he
              exact hbk'.2 (decide_eq_true_iff.1 ht)
      · refine IN_next hN hv' ⟨hE2, fun u hu => ?_⟩
        rcases Nat.lt_or_eq_of_le (Nat.le_of_lt_succ hu) with h5 | h5
        · exact hI u h5
        · subst h5
          refine ⟨fun r hr => ?_, fun j e he => ?_⟩
          · simp [hv'] at hr; subst hr; omega
          · obtain ⟨_, hj, _⟩ := port_some he
            exact hJ j (by omega) e he
  · simp only [true_iff]
    exact fun u hu => hI u (by omega)

theorem isNetwork_ok {w : World} {a b c : Sl} {n : Net} (h : RNet w a b c n) (hl : n.ids.length ≤ 1048576) :
    Calls Tryz.prog F.i_IsNetwork #[.agg #[a.v, b.v, c.v]] w (Ret [.at .bool] fun (x : Bool) w' => (x = true ↔ Good n) ∧ Ext w w') := by
  refine C_i_IsNetwork ?_
  unfold V_i_IsNetwork
  refine NEW_intro fun p w1 hp hs hE1 hb1 => LD_bs0 hb1 ?_
  have h1 := h.ext hE1
  rw [h1.1.len]
  refine call (within_ok _ _ _ _) ?_
  rintro x _ ⟨rfl, rfl⟩
  refine cond_not (fun hf => ⟨?_, hE1⟩) (fun ht => ?_)
  · simp only [Bool.false_eq_true, false_iff]
    intro hg
    exact inR_false hf (by have := hg.size; omega)
  have hsz := inR_true ht
  refine LD_bs1 hb1 (LD_bs0 hb1 ?_)
  rw [h1.1.len]
  refine call (idsOk_ok h1.2.1 hl _) ?_
  rintro x w2 ⟨hx2, hE2⟩
  have hE02 := hE1.trans hE2
  refine cond_not (fun hf => ⟨?_, hE02⟩) (fun ht => ?_)
  · simp only [Bool.false_eq_true, false_iff]
    intro hg
    rw [hx2.2 hg.ids] at hf; cases hf
  have hids := hx2.1 ht
  have h2 := h1.ext hE2
  have hb2 := hb1.ext hE2
  refine LD_bs2 hb2 (LD_bs0 hb2 ?_)
  rw [h2.1.len]
  refine call (inputsOk_ok h2.2.2 _) ?_
  rintro x w3 ⟨hx3, hE3⟩
  have hE03 := hE02.trans hE3
  refine cond_not (fun hf => ⟨?_, hE03⟩) (fun ht => ?_)
  · simp only [Bool.false_eq_true, false_iff]
    intro hg
    rw [hx3.2 hg.inputs] at hf; cases hf
  have hin := hx3.1 ht
  have := isNetwork_k1 (h2.ext hE3) (hb2.ext hE3) hE03
  have heq : (∀ v < n.ends.length, RowOk n.ends v) ↔ Good n := ⟨fun h => ⟨by omega, hids, hin, h⟩, fun h => h.rows⟩
  rw [heq] at this
  exact this

theorem neGood_k1 {w w0 : World} {a b c : Sl} {n : Net} (h : RNet w a b c n) {p : Addr} {t : TypeId} (hb : Box w p t [a.v, b.v, c.v]) (hE0 : Ext w0 w) :
    V_s_neGood_k1 (fun x w' => (x = true ↔ ∀ v < n.ends.length, RowOk n.ends v) ∧ Ext w0 w') p w := by
  unfold V_s_neGood_k1
  refine LD_bs0 hb ?_
  rw [h.1.len]
  have hN := h.1.le
  refine ⟨IN n.ends.length fun v w' => InvR n.ends w w' v, MN n.ends.length, IN_zero ⟨Ext.refl _, fun u hu => absurd hu (by omega)⟩, ?_⟩
  rintro _ w1 ⟨v, rfl, hv, hE1, hI⟩
  intros
  refine cond_dec (fun hlt => ?_) (fun hge => ⟨?_, hE0.trans hE1⟩)
  · have hv' : v < n.ends.length := by omega
    refine (h.ext hE1).1.ixL hv' fun q s hR hc => LD_sl hc ?_
    rw [hR.len]
    refine cond_dec (fun hgt => ⟨?_, hE0.trans hE1⟩) (fun hle => ?_)
    · simp only [Bool.false_eq_true, false_iff]
      intro hall
      have := (hall v hv').1 n.ends[v] (by simp [hv'])
      omega
    · refine ⟨IN n.ends[v].length fun i w' => Ext w1 w' ∧ InvP n.ends w w' v i, MN n.ends[v].length, IN_zero ⟨Ext.refl _, ⟨hE1, hI⟩, fun u hu => absurd hu (by omega)⟩, ?_⟩
      rintro _ w2 ⟨i, rfl, hi, hE12, ⟨hE2, _⟩, hJ⟩
      intros
      refine cond_dec (fun hlt2 => ?_) (fun hge2 => ?_)
      · have hi' : i < n.ends[v].length := by omega
        refine (hR.ext hE12).ixE hi' fun q h1 h2 hc0 hc1 => LD_int2 hc0 hc1 ?_
        refine NEW_ST (one2 _ _) rfl fun p6 w3 hp6 hE3 hb6 => ?_
        have hE03 := hE2.trans hE3
        have hbk : Back n.ends v i n.ends[v][i] ↔ portZ n.ends n.ends[v][i].1 n.ends[v][i].2 = some ((v : Int), (i : Int)) := back_iff (x := n.ends[v][i].1) (y := n.ends[v][i].2)
        have hfail : ¬ Back n.ends v i n.ends[v][i] → ¬ ∀ v < n.ends.length, RowOk n.ends v := fun hn hall => hn ((hall v hv').2 i _ (port_get hv' hi'))
        refine LD_bi0 hb6 (LD_bs0 (hb.ext hE03) ?_)
        rw [h.1.len, wrap_of (by omega) (by omega)]
        refine QCALL_bool _ (fun w' hw' => call (l1In_ok _ _ _ _) (by rintro b _ ⟨rfl, rfl⟩; exact ⟨rfl, Ext.refl _⟩)) ?_
        refine cond_not (fun hf w4 hE4 => ⟨?_, hE0.trans (hE03.trans hE4)⟩) (fun ht => ?_)
        · simp only [Bool.false_eq_true, false_iff]
          refine hfail fun hB => inR_false hf ?_
          obtain ⟨x, y, he, hp'⟩ := hB
          obtain ⟨hx', _⟩ := port_some hp'
          rw [he]; simp only; omega
        obtain ⟨x, hx⟩ := Int.eq_ofNat_of_zero_le (inR_true ht).1
        have hx' : x < n.ends.length := by have := (inR_true ht).2; omega
        refine LD_bi1 hb6 (LD_bs0 (hb.ext hE03) (LD_bi0 hb6 ?_))
        rw [hx] at hbk ⊢
        refine (h.ext hE03).1.ixL hx' fun q s2 hR2 hc => LD_sl hc ?_
        have hl2 := hR2.le
        rw [hR2.len, wrap_of (by omega) (by omega)]
        refine QCALL_bool _ (fun w' hw' => call (l1In_ok _ _ _ _) (by rintro b _ ⟨rfl, rfl⟩; exact ⟨rfl, Ext.refl _⟩)) ?_
        refine cond_not (fun hf w4 hE4 => ⟨?_, hE0.trans (hE03.trans hE4)⟩) (fun ht => ?_)
        · simp only [Bool.false_eq_true, false_iff]
          refine hfail fun hB => inR_false hf ?_
          obtain ⟨x', y', he, hp'⟩ := hB
          obtain ⟨_, hy', _⟩ := port_some hp'
          have hxx : x' = x := by have := congrArg Prod.fst he; rw [hx] at this; simp at this; omega
          subst hxx
          rw [he]; simp only; omega
        obtain ⟨y, hy⟩ := Int.eq_ofNat_of_zero_le (inR_true ht).1
        have hy' : y < n.ends[x].length := by have := (inR_true ht).2; omega
        rw [hx, hy] at hb6
        refine LD_bs0 (hb.ext hE03) (LD_bi0 hb6 ?_)
        refine (h.ext hE03).1.ixL hx' fun q s2 hR2 hc => LD_sl hc ?_
        refine LD_bi1 hb6 ?_
        refine hR2.ixE hy' fun q _ _ hc0 hc1 => LD_int2 hc0 hc1 ?_
        refine AEQ_neq2 end_struct ?_
        intro w4 hE4
        have hE04 := hE03.trans hE4
        rw [hy, portZ_nat, port_get hx' hy'] at hbk
        have hbk' : Back n.ends v i n.ends[v][i] ↔ (n.ends[x][y].1, n.ends[x][y].2) = ((v : Int), (i : Int)) := hbk.trans (by simp [Prod.ext_iff])
        refine cond_not (fun hf => ⟨?_, hE0.trans hE04⟩) (fun ht => ?_)
        · simp only [Bool.false_eq_true, false_iff]
          exact hfail fun hB => (decide_eq_false_iff_not.1 hf) (hbk'.1 hB)
        · refine IN_next (by have := hR.le; omega) hi' ⟨hE12.trans (hE3.trans hE4), ⟨hE04, hI⟩, fun j hj e he => ?_⟩
          rcases Nat.lt_or_eq_of_le (Nat.le_of_lt_succ hj) with h5 | h5
          · exact hJ j h5 e he
          · subst h5
            rw [port_get hv' hi'] at he
            cases he
            exact hbk'.2 (decide_eq_true_iff.1 ht)
      · refine IN_next hN hv' ⟨hE2, fun u hu => ?_⟩
        rcases Nat.lt_or_eq_of_le (Nat.le_of_lt_succ hu) with h5 | h5
        · exact hI u h5
        · subst h5
          refine ⟨fun r hr => ?_, fun j e he => ?_⟩
          · simp [hv'] at hr; subst hr; omega
          · obtain ⟨_, hj, _⟩ := port_some he
            exact hJ j (by omega) e he
  · simp only [true_iff]
    exact fun u hu => hI u (by omega)

theorem neGood_ok {w : World} {a b c : Sl} {n : Net} (h : RNet w a b c n) :
    Calls Tryz.prog F.s_neGood #[.agg #[a.v, b.v, c.v]] w (Ret [.at .bool] fun (x : Bool) w' => (x = true ↔ Good n) ∧ Ext w w') := by
  refine C_s_neGood ?_
  unfold V_s_neGood
  refine NEW_intro fun p w1 hp hs hE1 hb1 => LD_bs0 hb1 ?_
  have h1 := h.ext hE1
  rw [h1.1.len]
  refine call (l1In_ok _ _ _ _) ?_
  rintro x _ ⟨rfl, rfl⟩
  refine cond_not (fun hf => ⟨?_, hE1⟩) (fun ht => ?_)
  · simp only [Bool.false_eq_true, false_iff]
    intro hg
    exact inR_false hf (by have := hg.size; omega)
  have hsz := inR_true ht
  refine LD_bs1 hb1 (LD_bs0 hb1 ?_)
  rw [h1.1.len]
  refine call (neIds_ok h1.2.1 _) ?_
  rintro x _ ⟨hx2, rfl⟩
  refine cond_not (fun hf => ⟨?_, hE1⟩) (fun ht => ?_)
  · simp only [Bool.false_eq_true, false_iff]
    intro hg
    rw [hx2.2 hg.ids] at hf; cases hf
  have hids := hx2.1 ht
  refine LD_bs2 hb1 (LD_bs0 hb1 ?_)
  rw [h1.1.len, h1.2.2.len]
  refine cond_ne (fun hne => ⟨?_, hE1⟩) (fun heq => ?_)
  · simp only [Bool.false_eq_true, false_iff]
    intro hg
    have := hg.inputs.1
    omega
  refine LD_bs2 hb1 ?_
  refine call (l1All_ok h1.2.2 _ _) ?_
  rintro x _ ⟨hx3, rfl⟩
  refine cond_not (fun hf => ⟨?_, hE1⟩) (fun ht => ?_)
  · simp only [Bool.false_eq_true, false_iff]
    intro hg
    rw [hx3.2 hg.inputs.2] at hf; cases hf
  have hin := hx3.1 ht
  have := neGood_k1 h1 hb1 hE1
  have heq : (∀ v < n.ends.length, RowOk n.ends v) ↔ Good n := ⟨fun h => ⟨by omega, hids, ⟨by omega, hin⟩, h⟩, fun h => h.rows⟩
  rw [heq] at this
  exact this

/-- Two answers of a test: the answer, and whether it was asked rightly. -/
def Ans2 (g p : Prop) (x ok : Bool) : Prop := (x = true ↔ g ∧ p) ∧ (ok = true ↔ g)

theorem Ans2.eq {g p : Prop} {x ok x' ok' : Bool} (h : Ans2 g p x ok) (h' : Ans2 g p x' ok') : x = x' ∧ ok = ok' :=
  ⟨Bool.eq_iff_iff.2 (h.1.trans h'.1.symm), Bool.eq_iff_iff.2 (h.2.trans h'.2.symm)⟩

theorem Ans2.no {g p : Prop} (h : ¬ g) : Ans2 g p false false := ⟨by simp [h], by simp [h]⟩
theorem Ans2.mk {g p : Prop} {x : Bool} (h : g) (hx : x = true ↔ p) : Ans2 g p x true := ⟨by simp [h, hx], by simp [h]⟩

end Go.Proofs.YtndebacmnpghkaaGreat
end

section
/- What a node's neighbours bear: both sides' walks over ports; the tests IsDefective and IsWeak. -/
namespace Go.Proofs.YtndebacmnpghkaaGreat
open Go.GX Go.RowKit
set_option maxRecDepth 100000

def rowOf (E : Ends) (v : Nat) : List (Int × Int) := E.getD v []
theorem rowOf_get {E : Ends} {v : Nat} (h : v < E.length) : rowOf E v = E[v] := by simp [rowOf, h]

/-- What lies at the far ends of a node's ports. -/
def nearOf (E : Ends) (l : List Int) (v : Nat) : List Int := (rowOf E v).map fun e => l.getD e.1.toNat 0
/-- The nodes at the far ends of a node's ports. -/
def adjOf (E : Ends) (v : Nat) : List Int := (rowOf E v).map (·.1)

theorem Good.far {n : Net} (hg : Good n) {v i : Nat} (hv : v < n.ends.length) (hi : i < n.ends[v].length) : ∃ x y : Nat, n.ends[v][i] = ((x : Int), (y : Int)) ∧ x < n.ends.length ∧ port n.ends x y = some ((v : Int), (i : Int)) := by
  obtain ⟨x, y, hxy, hb⟩ := hg.back hv hi
  obtain ⟨hx, _⟩ := port_some hb
  exact ⟨x, y, hxy, hx, hb⟩

theorem map_take_succ {α β : Type} {l : List α} {i : Nat} (hi : i < l.length) (f : α → β) : (l.take (i + 1)).map f = (l.take i).map f ++ [f l[i]] := by
  rw [List.take_succ_eq_append_getElem hi, List.map_append]; rfl

theorem adj_len {n : Net} (_ : Good n) {v : Nat} (hv : v < n.ends.length) : (adjOf n.ends v).length = n.ends[v].length := by
  unfold adjOf; rw [rowOf_get hv]; simp

theorem near_adj (E : Ends) (l : List Int) (v : Nat) : nearOf E l v = (adjOf E v).map fun u => l.getD u.toNat 0 := by
  unfold nearOf adjOf; rw [List.map_map]; rfl

/-! ### Colours -/

structure ColoursOk (n : Net) (l : List Int) : Prop where
  good : Good n
  len : l.length = n.ends.length
  all : AllIn l 0 1000000000000

/-! ### IsDefective -/

/-! ### IsWeak -/

end Go.Proofs.YtndebacmnpghkaaGreat
end

section
/- Edges: both sides' lists of them, and searching in lists of numbers, ends and edges. -/
namespace Go.Proofs.YtndebacmnpghkaaGreat
open Go.GX Go.RowKit
set_option maxRecDepth 100000

abbrev Edge := Int × Int × Int × Int

theorem slt_edge : SlT Tryz.prog T.t_sl_i_edge T.t_i_edge 4 32 (.agg #[.int .i64 0, .int .i64 0, .int .i64 0, .int .i64 0]) := ⟨by kernel_rfl, by kernel_rfl, rfl, by decide⟩
theorem slt_ints : SlT Tryz.prog T.t_sl_sl_int T.t_sl_int 1 24 (.slice none 0 0) := ⟨by kernel_rfl, by kernel_rfl, rfl, by decide⟩

/-- The port of an edge that bears it: the lesser of its two ends. -/
def isFirst (v i : Nat) (e : Int × Int) : Bool := decide ((v : Int) < e.1) || ((v : Int) == e.1 && decide ((i : Int) ≤ e.2))

def portE (E : Ends) (v i : Nat) : List Edge := match port E v i with
  | some e => if isFirst v i e then [((v : Int), (i : Int), e.1, e.2)] else []
  | none => []
def rowE (E : Ends) (v : Nat) : Nat → List Edge
  | 0 => []
  | i + 1 => rowE E v i ++ portE E v i
def edgesTo (E : Ends) : Nat → List Edge
  | 0 => []
  | v + 1 => edgesTo E v ++ rowE E v (rowOf E v).length
def edgesOf (E : Ends) : List Edge := edgesTo E E.length

theorem mem_portE {E : Ends} {v i : Nat} {q : Edge} : q ∈ portE E v i ↔ ∃ e, port E v i = some e ∧ isFirst v i e = true ∧ q = ((v : Int), (i : Int), e.1, e.2) := by
  unfold portE
  cases port E v i with
  | none => simp
  | some e =>
    by_cases h : isFirst v i e = true
    · simp [h]
    · simp [h]

theorem mem_rowE {E : Ends} {v : Nat} {q : Edge} : ∀ k, q ∈ rowE E v k ↔ ∃ i < k, q ∈ portE E v i
  | 0 => by simp [rowE]
  | k + 1 => by
    rw [rowE, List.mem_append, mem_rowE k]
    constructor
    · rintro (⟨i, hi, h⟩ | h)
      · exact ⟨i, by omega, h⟩
      · exact ⟨k, by omega, h⟩
    · rintro ⟨i, hi, h⟩
      rcases Nat.lt_or_eq_of_le (Nat.le_of_lt_succ hi) with h1 | h1
      · exact .inl ⟨i, h1, h⟩
      · subst h1; exact .inr h

theorem mem_edgesTo {E : Ends} {q : Edge} : ∀ k, q ∈ edgesTo E k ↔ ∃ v < k, q ∈ rowE E v (rowOf E v).length
  | 0 => by simp [edgesTo]
  | k + 1 => by
    rw [edgesTo, List.mem_append, mem_edgesTo k]
    constructor
    · rintro (⟨i, hi, h⟩ | h)
      · exact ⟨i, by omega, h⟩
      · exact ⟨k, by omega, h⟩
    · rintro ⟨i, hi, h⟩
      rcases Nat.lt_or_eq_of_le (Nat.le_of_lt_succ hi) with h1 | h1
      · exact .inl ⟨i, h1, h⟩
      · subst h1; exact .inr h

theorem mem_edgesOf {E : Ends} {q : Edge} : q ∈ edgesOf E ↔ ∃ v i e, port E v i = some e ∧ isFirst v i e = true ∧ q = ((v : Int), (i : Int), e.1, e.2) := by
  unfold edgesOf
  rw [mem_edgesTo]
  constructor
  · rintro ⟨v, hv, h⟩
    obtain ⟨i, hi, h⟩ := (mem_rowE _).1 h
    obtain ⟨e, he⟩ := mem_portE.1 h
    exact ⟨v, i, e, he⟩
  · rintro ⟨v, i, e, he, h⟩
    obtain ⟨hv, hi, _⟩ := port_some he
    refine ⟨v, hv, (mem_rowE _).2 ⟨i, by rw [rowOf_get hv]; exact hi, mem_portE.2 ⟨e, he, h⟩⟩⟩

theorem portE_len (E : Ends) (v i : Nat) : (portE E v i).length ≤ 1 := by
  unfold portE
  cases port E v i with
  | none => simp
  | some e => by_cases h : isFirst v i e = true <;> simp [h]

theorem rowE_len (E : Ends) (v : Nat) : ∀ k, (rowE E v k).length ≤ k
  | 0 => by simp [rowE]
  | k + 1 => by
    have := rowE_len E v k
    have := portE_len E v k
    simp [rowE]; omega

theorem edgesTo_len {n : Net} (hg : Good n) : ∀ k, k ≤ n.ends.length → (edgesTo n.ends k).length ≤ 6 * k
  | 0, _ => by simp [edgesTo]
  | k + 1, hk => by
    have h1 := edgesTo_len hg k (by omega)
    have h2 := rowE_len n.ends k (rowOf n.ends k).length
    have h3 := hg.deg (v := k) (by omega)
    rw [← rowOf_get (by omega)] at h3
    simp [edgesTo]; omega

/-- An edge of a network that is good: two ports that lead to each other. -/
theorem edge_at {n : Net} (hg : Good n) {q : Edge} (h : q ∈ edgesOf n.ends) : ∃ v i x y : Nat, q = ((v : Int), (i : Int), (x : Int), (y : Int)) ∧ port n.ends v i = some ((x : Int), (y : Int)) ∧ port n.ends x y = some ((v : Int), (i : Int)) ∧ v < n.ends.length ∧ x < n.ends.length ∧ i < 6 ∧ y < 6 := by
  obtain ⟨v, i, e, he, _, rfl⟩ := mem_edgesOf.1 h
  obtain ⟨hv, hi, hee⟩ := port_some he
  obtain ⟨x, y, hxy, hx, hb⟩ := hg.far hv hi
  obtain ⟨_, hy, _⟩ := port_some hb
  rw [hee] at hxy
  subst hxy
  have := hg.deg hv
  have := hg.deg hx
  exact ⟨v, i, x, y, rfl, he, hb, hv, hx, by omega, by omega⟩

theorem edge_I64 {n : Net} (hg : Good n) : ∀ q ∈ edgesOf n.ends, Flat.ok q := by
  intro q hq
  obtain ⟨v, i, x, y, rfl, _, _, hv, hx, hi, hy⟩ := edge_at hg hq
  have := hg.size.2
  show I64 _ ∧ I64 _ ∧ I64 _ ∧ I64 _
  unfold I64
  simp only
  omega

theorem edges_ok {w : World} {a b c : Sl} {n : Net} (h : RNet w a b c n) (hg : Good n) :
    Calls Tryz.prog F.i_Network_edges #[.agg #[a.v, b.v, c.v]] w (Ret [.at .sl] fun (r : Sl) w' => Ext w w' ∧ OwnL w' w.heap.size T.t_i_edge r (edgesOf n.ends)) := by
  refine C_i_Network_edges ?_
  unfold V_i_Network_edges
  refine NEW_intro fun p w1 hp hs hE1 hb1 => LD_bs0 hb1 ?_
  replace h := h.ext hE1
  rw [h.1.len]
  have hN := h.1.le
  have h40 := hg.size.2
  refine ⟨IN2 n.ends.length fun v out w' => Ext w1 w' ∧ OwnL w' w1.heap.size T.t_i_edge out (edgesTo n.ends v), MN2 n.ends.length, IN2_zero ⟨Ext.refl _, OwnL.nil _ _ _⟩, ?_⟩
  rintro out _ w2 ⟨v, rfl, hv, hE2, hO⟩
  intros
  refine cond_dec (fun hlt => ?_) (fun hge => ?_)
  · have hv' : v < n.ends.length := by omega
    have hd := hg.deg hv'
    have hel := edgesTo_len hg v (by omega)
    refine h.1.ixL0 hE2 hv' fun q s1 hR hc => LD_sl hc ?_
    rw [hR.len]
    refine ⟨IN2 n.ends[v].length fun i out w' => Ext w1 w' ∧ OwnL w' w1.heap.size T.t_i_edge out (edgesTo n.ends v ++ rowE n.ends v i), MN2 n.ends[v].length, IN2_zero ⟨hE2, by simpa [rowE] using hO⟩, ?_⟩
    rintro out2 _ w3 ⟨i, rfl, hi, hE3, hO3⟩
    intros
    refine cond_dec (fun hlt2 => ?_) (fun hge2 => ?_)
    · have hi' : i < n.ends[v].length := by omega
      have hrl := rowE_len n.ends v i
      refine (hR.ext hE3).ixE hi' fun q h1 h2 hc0 hc1 => LD_int2 hc0 hc1 ?_
      refine NEW_ST (one2 _ _) rfl fun p6 w4 hp6 hE4 hb6 => ?_
      replace hE3 := hE3.ext hE4
      replace hO3 := hO3.ext hE4
      have hpe := port_get hv' hi'
      have happ : ∀ (hf : isFirst v i n.ends[v][i] = true), RUN Tryz.prog (.at .sl) (Instr.buildSlice T.t_sl_i_edge 1 #[(0, .agg #[.int .i64 v, .int .i64 i, .int .i64 n.ends[v][i].1, .int .i64 n.ends[v][i].2])]) w4 fun (x47 : Sl) w6 =>
          RUN Tryz.prog (.at .sl) (bsem .append #[T.t_sl_i_edge, T.t_sl_i_edge] T.t_sl_i_edge #[out2.v, x47.v]) w6 fun (x48 : Sl) w7 =>
          V_i_Network_edges_k5 (IN2 n.ends[v].length fun i out w' => Ext w1 w' ∧ OwnL w' w1.heap.size T.t_i_edge out (edgesTo n.ends v ++ rowE n.ends v i)) (MN2 n.ends[v].length) out2 i w3 x48 w7 := by
        intro hf
        refine RUN_lit1 (α := Edge) slt_edge ((v : Int), (i : Int), n.ends[v][i].1, n.ends[v][i].2) rfl (by decide) fun r w5 hE5 hO5 => ?_
        replace hE3 := hE3.ext hE5
        replace hO3 := hO3.ext hE5
        have hq : ((v : Int), (i : Int), n.ends[v][i].1, n.ends[v][i].2) ∈ edgesOf n.ends := mem_edgesOf.2 ⟨v, i, _, hpe, hf, rfl⟩
        refine RUN_append (α := Edge) slt_edge hO3 hE3.size_le (hO5.rep (by intro z hz; simp at hz; subst hz; exact edge_I64 hg _ hq)).any (by simp; omega) (by simp [maxLen]; omega) fun r' w6 hO6 hs6 => ?_
        refine IN2_next (by omega) hi' ⟨hs6.ext0 hE3 (fun k hk => (hO3.blk k hk).1), ?_⟩
        have : rowE n.ends v (i + 1) = rowE n.ends v i ++ [((v : Int), (i : Int), n.ends[v][i].1, n.ends[v][i].2)] := by simp [rowE, portE, hpe, hf]
        rw [this, ← List.append_assoc]
        exact hO6
      have hskip : ∀ (hf : isFirst v i n.ends[v][i] = false), V_i_Network_edges_k5 (IN2 n.ends[v].length fun i out w' => Ext w1 w' ∧ OwnL w' w1.heap.size T.t_i_edge out (edgesTo n.ends v ++ rowE n.ends v i)) (MN2 n.ends[v].length) out2 i w3 out2 w4 := by
        intro hf
        refine IN2_next (by omega) hi' ⟨hE3, ?_⟩
        have : rowE n.ends v (i + 1) = rowE n.ends v i := by simp [rowE, portE, hpe, hf]
        rw [this]
        exact hO3
      refine LD_bi0 hb6 ?_
      refine cond_dec (fun h3 => LD_bi0 hb6 (LD_bi1 hb6 (happ (by simp [isFirst, h3])))) (fun h3 => LD_bi0 hb6 ?_)
      refine cond_eq (fun h4 => LD_bi1 hb6 ?_) (fun h4 => hskip (by simp [isFirst, h3, h4]))
      refine cond_dec (fun h5 => LD_bi0 hb6 (LD_bi1 hb6 (happ (by simp [isFirst, h4, h5])))) (fun h5 => hskip (by simp [isFirst, h3, h5]))
    · have : i = n.ends[v].length := by omega
      subst this
      refine IN2_next hN hv' ⟨hE3, ?_⟩
      rw [edgesTo, rowOf_get hv']
      exact hO3
  · have : v = n.ends.length := by omega
    subst this
    exact ⟨hE1.trans hE2, hO.low hE1.size_le⟩

theorem neFirst_ok {w : World} {a b c : Sl} {n : Net} (h : RNet w a b c n) {v i : Nat} (hv : v < n.ends.length) (hi : i < n.ends[v].length) :
    Calls Tryz.prog F.s_neFirst #[.agg #[a.v, b.v, c.v], .int .i64 v, .int .i64 i] w (Ret [.at .bool] fun (x : Bool) w' => x = isFirst v i n.ends[v][i] ∧ Ext w w') := by
  refine C_s_neFirst ?_
  unfold V_s_neFirst
  refine NEW_intro fun p w1 hp hs hE1 hb1 => LD_bs0 hb1 ?_
  replace h := h.ext hE1
  refine h.1.ixL hv fun q s1 hR hc => LD_sl hc ?_
  refine hR.ixE hi fun q h1 h2 hc0 hc1 => LD_int2 hc0 hc1 ?_
  refine NEW_ST (one2 _ _) rfl fun p6 w4 hp6 hE4 hb6 => LD_bi0 hb6 ?_
  replace hE1 := hE1.ext hE4
  refine cond_dec (fun h3 => ⟨by simp [isFirst, h3], hE1⟩) (fun h3 => LD_bi0 hb6 ?_)
  refine cond_eq (fun h4 => LD_bi1 hb6 ⟨?_, hE1⟩) (fun h4 => ⟨by simp [isFirst, h3, h4], hE1⟩)
  unfold isFirst
  simp [h4]

/-- An edge as the reference has it: four numbers. -/
def four (q : Edge) : List Int := [q.1, q.2.1, q.2.2.1, q.2.2.2]

theorem neEdges_ok {w : World} {a b c : Sl} {n : Net} (h : RNet w a b c n) (hg : Good n) :
    Calls Tryz.prog F.s_neEdges #[.agg #[a.v, b.v, c.v]] w (Ret [.at .sl] fun (r : Sl) w' => Ext w w' ∧ Own2 w' w.heap.size T.t_int T.t_sl_int r ((edgesOf n.ends).map four)) := by
  refine C_s_neEdges ?_
  unfold V_s_neEdges
  refine NEW_intro fun p w1 hp hs hE1 hb1 => LD_bs0 hb1 ?_
  replace h := h.ext hE1
  rw [h.1.len]
  have hN := h.1.le
  have h40 := hg.size.2
  refine ⟨IN2 n.ends.length fun v out w' => Ext w1 w' ∧ Own2 w' w1.heap.size T.t_int T.t_sl_int out ((edgesTo n.ends v).map four), MN2 n.ends.length, IN2_zero ⟨Ext.refl _, Own2.nil _ _ _ _⟩, ?_⟩
  rintro out _ w2 ⟨v, rfl, hv, hE2, hO⟩
  intros
  refine cond_dec (fun hlt => ?_) (fun hge => ?_)
  · have hv' : v < n.ends.length := by omega
    have hd := hg.deg hv'
    have hel := edgesTo_len hg v (by omega)
    refine h.1.ixL0 hE2 hv' fun q s1 hR hc => LD_sl hc ?_
    rw [hR.len]
    refine ⟨IN2 n.ends[v].length fun i out w' => Ext w1 w' ∧ Own2 w' w1.heap.size T.t_int T.t_sl_int out ((edgesTo n.ends v ++ rowE n.ends v i).map four), MN2 n.ends[v].length, IN2_zero ⟨hE2, by simpa [rowE] using hO⟩, ?_⟩
    rintro out2 _ w3 ⟨i, rfl, hi, hE3, hO3⟩
    intros
    refine cond_dec (fun hlt2 => ?_) (fun hge2 => ?_)
    · have hi' : i < n.ends[v].length := by omega
      have hrl := rowE_len n.ends v i
      refine (hR.ext hE3).ixE hi' fun q h1 h2 hc0 hc1 => LD_int2 hc0 hc1 ?_
      refine NEW_ST (one2 _ _) rfl fun p6 w4 hp6 hE4 hb6 => ?_
      replace hE3 := hE3.ext hE4
      replace hO3 := hO3.ext hE4
      have hpe := port_get hv' hi'
      refine LD_box3 (hb1.ext hE3) ?_
      refine call (neFirst_ok (h.ext hE3) hv' hi') ?_
      rintro x w5 ⟨rfl, hE5⟩
      replace hE3 := hE3.ext hE5
      replace hO3 := hO3.ext hE5
      replace hb6 := hb6.ext hE5
      refine cond_b (fun hf => ?_) (fun hf => ?_)
      · refine LD_bi0 hb6 (LD_bi1 hb6 ?_)
        have hz := hE3.size_le
        refine RUN_lits slt_int [(v : Int), (i : Int), n.ends[v][i].1, n.ends[v][i].2] (by simp) (by simp) rfl rfl fun r w6 hE6 hO6 => ?_
        replace hE3 := hE3.ext hE6
        replace hO3 := hO3.ext hE6
        refine RUN_lit1 (α := Sl) slt_ints r rfl (by decide) fun y w7 hE7 hO7 => ?_
        replace hE3 := hE3.ext hE7
        replace hO3 := hO3.ext hE7
        replace hO6 := hO6.ext hE7
        have hq : ((v : Int), (i : Int), n.ends[v][i].1, n.ends[v][i].2) ∈ edgesOf n.ends := mem_edgesOf.2 ⟨v, i, _, hpe, hf, rfl⟩
        refine RUN_append_row (α := Int) slt_ints (by decide) hO3 hE3.size_le (hO6.low hz) hO7 (by simp; omega) (by simp [maxLen]; omega) fun r' w8 hO8 hs8 => ?_
        refine IN2_next (by omega) hi' ⟨hs8.ext0 hE3 (fun k hk => (hO3.blk k hk).1), ?_⟩
        have : rowE n.ends v (i + 1) = rowE n.ends v i ++ [((v : Int), (i : Int), n.ends[v][i].1, n.ends[v][i].2)] := by simp [rowE, portE, hpe, hf]
        rw [this, ← List.append_assoc, List.map_append]
        exact hO8
      · refine IN2_next (by omega) hi' ⟨hE3, ?_⟩
        have : rowE n.ends v (i + 1) = rowE n.ends v i := by simp [rowE, portE, hpe, hf]
        rw [this]
        exact hO3
    · have : i = n.ends[v].length := by omega
      subst this
      refine IN2_next hN hv' ⟨hE3, ?_⟩
      rw [edgesTo, rowOf_get hv']
      exact hO3
  · have : v = n.ends.length := by omega
    subst this
    exact ⟨hE1.trans hE2, hO.low hE1.size_le⟩

theorem four_ok {n : Net} (hg : Good n) : ∀ l ∈ (edgesOf n.ends).map four, ∀ x ∈ l, Flat.ok x := by
  intro l hl x hx
  obtain ⟨q, hq, rfl⟩ := List.mem_map.1 hl
  have := edge_I64 hg q hq
  obtain ⟨h1, h2, h3, h4⟩ := this
  simp [four] at hx
  rcases hx with rfl | rfl | rfl | rfl
  · exact h1
  · exact h2
  · exact h3
  · exact h4

/-! ### Searching -/

def AnswersG {α : Type} (args : α → Array Value) (w : World) (f : Value) (l : List α) (p : α → Bool) : Prop :=
  ∀ x ∈ l, ∀ w', Ext w w' → CALLV Tryz.prog f (args x) w' (Ret [.at .bool] fun (b : Bool) w'' => b = p x ∧ Ext w' w'')

def argsQ (q : Edge) : Array Value := #[.agg #[.int .i64 q.1, .int .i64 q.2.1, .int .i64 q.2.2.1, .int .i64 q.2.2.2]]
def Found {α : Type} (l : List α) (p : α → Bool) (i : Int) : Prop := match l.findIdx? p with | some k => i = k | none => i = -1

theorem found_ge {α : Type} {l : List α} {p : α → Bool} {i : Int} (h : Found l p i) : decide (i ≥ 0) = l.any p := by
  unfold Found at h
  cases hf : l.findIdx? p with
  | none =>
    rw [hf] at h
    simp only at h
    subst h
    have h1 := List.findIdx?_eq_none_iff.1 hf
    have : l.any p = false := by
      rw [List.any_eq_false]; intro x hx; simp [h1 x hx]
    rw [this]; rfl
  | some k =>
    rw [hf] at h
    simp only at h
    subst h
    obtain ⟨hk, hp, _⟩ := List.findIdx?_eq_some_iff_getElem.1 hf
    have : l.any p = true := List.any_eq_true.2 ⟨l[k], List.getElem_mem hk, hp⟩
    rw [this]
    simp

theorem found_at {α : Type} {l : List α} {p : α → Bool} {i : Nat} (hi : i < l.length) (ha : ∀ x ∈ l.take i, p x = false) (ht : p l[i] = true) : Found l p i := by
  have : l.findIdx? p = some i := by
    rw [List.findIdx?_eq_some_iff_getElem]
    refine ⟨hi, ht, fun j hj => ?_⟩
    have := ha l[j] (by rw [List.mem_take_iff_getElem]; exact ⟨j, by omega, rfl⟩)
    simp [this]
  unfold Found
  rw [this]

theorem found_no {α : Type} {l : List α} {p : α → Bool} (ha : ∀ x ∈ l, p x = false) : Found l p (-1) := by
  have : l.findIdx? p = none := List.findIdx?_eq_none_iff.2 ha
  unfold Found
  rw [this]

theorem none_succ {α : Type} {l : List α} {p : α → Bool} {i : Nat} (hi : i < l.length) (ha : ∀ x ∈ l.take i, p x = false) (hf : p l[i] = false) : ∀ x ∈ l.take (i + 1), p x = false := by
  intro y hy
  rw [List.take_succ_eq_append_getElem hi] at hy
  rcases List.mem_append.1 hy with h1 | h1
  · exact ha y h1
  · rw [List.mem_singleton.1 h1]; exact hf

theorem indexFuncQ_ok {w : World} {s : Sl} {l : List Edge} (h : R w s l) {f : Value} {p : Edge → Bool} (hf : AnswersG argsQ w f l p) :
    Calls Tryz.prog F.slices_IndexFunc_sl_i_edge_i_edge #[s.v, f] w (Ret [.at (.int .i64)] fun (i : Int) w' => Found l p i ∧ Ext w w') := by
  refine C_slices_IndexFunc_sl_i_edge_i_edge ?_
  unfold V_slices_IndexFunc_sl_i_edge_i_edge
  rw [h.len]
  refine ⟨IN l.length fun i w' => Ext w w' ∧ ∀ x ∈ l.take i, p x = false, MN l.length, IN_zero ⟨Ext.refl _, by simp⟩, ?_⟩
  rintro _ w1 ⟨i, rfl, hi', hE, ha⟩
  intros
  refine cond_dec (fun hlt => ?_) (fun hge => ⟨?_, hE⟩)
  · have hlt' : i < l.length := by omega
    refine (h.ext hE).ixQ hlt' fun q hc0 hc1 hc2 hc3 => LD_int4 hc0 hc1 hc2 hc3 ?_
    refine callv (hf _ (List.getElem_mem hlt') w1 hE) ?_
    rintro b w2 ⟨rfl, hE2⟩
    exact cond_b (fun ht => ⟨found_at hlt' ha ht, hE.trans hE2⟩) (fun hf => IN_next h.le hlt' ⟨hE.trans hE2, none_succ hlt' ha hf⟩)
  · have : i = l.length := by omega
    subst this
    exact found_no (by simpa using ha)

theorem containsFuncQ_ok {w : World} {s : Sl} {l : List Edge} (h : R w s l) {f : Value} {p : Edge → Bool} (hf : AnswersG argsQ w f l p) :
    Calls Tryz.prog F.slices_ContainsFunc_sl_i_edge_i_edge #[s.v, f] w (Ret [.at .bool] fun (b : Bool) w' => b = l.any p ∧ Ext w w') := by
  refine C_slices_ContainsFunc_sl_i_edge_i_edge ?_
  unfold V_slices_ContainsFunc_sl_i_edge_i_edge
  refine call (indexFuncQ_ok h hf) ?_
  rintro i w1 ⟨hi, hE⟩
  exact ⟨found_ge hi, hE⟩

end Go.Proofs.YtndebacmnpghkaaGreat
end

section
/- Proper colourings: both sides' tests. -/
namespace Go.Proofs.YtndebacmnpghkaaGreat
open Go.GX Go.RowKit
set_option maxRecDepth 100000

/-- Two nodes with an edge between them, the lesser first, that bear the same. -/
def Clash (E : Ends) (l : List Int) : Prop := ∃ v u : Nat, v ≤ u ∧ v < E.length ∧ u < E.length ∧ (u : Int) ∈ adjOf E v ∧ l.getD v 0 = l.getD u 0

def Proper (n : Net) (l : List Int) : Prop := l.length = n.ends.length ∧ AllIn l 0 1000000000000 ∧ ¬ Clash n.ends l

end Go.Proofs.YtndebacmnpghkaaGreat
end

section
/- Matchings: both sides' tests, and the law IsMatching. -/
namespace Go.Proofs.YtndebacmnpghkaaGreat
open Go.GX Go.RowKit
set_option maxRecDepth 100000

/-- Node v and its mate agree. -/
def MAt (E : Ends) (m : List Int) (v : Nat) : Prop :=
  ∀ x, m[v]? = some x → x = -1 ∨ ∃ e, portZ E v x = some e ∧ e.1 ≠ v ∧ ∃ u : Nat, e.1 = u ∧ m[u]? = some e.2

def MatchOk (E : Ends) (m : List Int) : Prop := m.length = E.length ∧ ∀ v < m.length, MAt E m v

end Go.Proofs.YtndebacmnpghkaaGreat
end

section
/- Sets of nodes and matchings: both sides' tests of independence, covers, maximality; sizes of matchings. -/
namespace Go.Proofs.YtndebacmnpghkaaGreat
open Go.GX Go.RowKit
set_option maxRecDepth 100000

structure SetOk (n : Net) (l : List Int) : Prop where
  good : Good n
  rising : Rising l 0 (n.ends.length - 1)

theorem SetOk.node {n : Net} {l : List Int} (h : SetOk n l) : ∀ x ∈ l, ∃ u : Nat, x = u ∧ u < n.ends.length := by
  intro x hx
  have := h.rising.1 x hx
  exact ⟨x.toNat, by omega, by omega⟩

/-! ### Independent sets -/

/-- No neighbour of v lies in the set. -/
def Apart (E : Ends) (l : List Int) (v : Nat) : Prop := ∀ x ∈ adjOf E v, x ∉ l

/-! ### Covers -/

end Go.Proofs.YtndebacmnpghkaaGreat
end

section
/- Maximal matchings and maximal independent sets; sizes of matchings. -/
namespace Go.Proofs.YtndebacmnpghkaaGreat
open Go.GX Go.RowKit
set_option maxRecDepth 100000

/-! ### Matchings that are asked rightly, and their size -/

structure MatchAsked (n : Net) (m : List Int) : Prop where
  good : Good n
  is : MatchOk n.ends m

/-- An answer that is a number, and whether it was asked rightly. -/
def AnsI (g : Prop) (k : Int) (x : Int) (ok : Bool) : Prop := (ok = true ↔ g) ∧ (g → x = k) ∧ (¬ g → x = 0)

theorem AnsI.eq {g : Prop} {k x x' : Int} {ok ok' : Bool} (h : AnsI g k x ok) (h' : AnsI g k x' ok') : x = x' ∧ ok = ok' := by
  refine ⟨?_, Bool.eq_iff_iff.2 (h.1.trans h'.1.symm)⟩
  by_cases hg : g
  · rw [h.2.1 hg, h'.2.1 hg]
  · rw [h.2.2 hg, h'.2.2 hg]

theorem AnsI.no {g : Prop} {k : Int} (h : ¬ g) : AnsI g k 0 false := ⟨by simp [h], fun h1 => absurd h1 h, fun _ => rfl⟩
theorem AnsI.mk {g : Prop} {k x : Int} (h : g) (hx : x = k) : AnsI g k x true := ⟨by simp [h], fun _ => hx, fun h1 => absurd h h1⟩

/-! ### Maximal matchings -/

/-- An edge that could be added: two nodes, both free. -/
def FreeEdge (l : List Int) (q : Edge) : Prop := q.1 ≠ q.2.2.1 ∧ l.getD q.1.toNat 0 < 0 ∧ l.getD q.2.2.1.toNat 0 < 0
instance (l : List Int) (q : Edge) : Decidable (FreeEdge l q) := by unfold FreeEdge; exact inferInstance
def Maximal (n : Net) (l : List Int) : Prop := ∀ q ∈ edgesOf n.ends, ¬ FreeEdge l q

/-! ### Maximal independent sets -/

end Go.Proofs.YtndebacmnpghkaaGreat
end

section
/- Slices that may be written, whatever they hold: the marks that a law leaves in its arguments and answers. No program is named here. -/
namespace Go.GX
open Go.RowKit

/-- Each cell of the slice may be written. -/
def Wr (w : World) (s : Sl) (sz : Nat) : Prop := ∀ j, j < s.len * sz → ∃ a, s.a = some a ∧ (∃ old, w.cell? (a.add j) = some old) ∧ w.frozen? (a.add j) = false

/-- No cell goes, none is frozen. -/
def Shp (w w' : World) : Prop := (∀ a old, w.cell? a = some old → ∃ new, w'.cell? a = some new) ∧ ∀ a, w.frozen? a = false → (∃ old, w.cell? a = some old) → w'.frozen? a = false

theorem Shp.refl (w : World) : Shp w w := ⟨fun _ old h => ⟨old, h⟩, fun _ h _ => h⟩
theorem Shp.trans {a b c : World} (h : Shp a b) (k : Shp b c) : Shp a c :=
  ⟨fun p old hp => by obtain ⟨n, hn⟩ := h.1 p old hp; exact k.1 p n hn, fun p hf ⟨old, hp⟩ => k.2 p (h.2 p hf ⟨old, hp⟩) (h.1 p old hp)⟩
theorem Shp.setCell (w : World) (p : Addr) (v : Value) : Shp w (w.setCell p v) :=
  ⟨fun a old h => by
    by_cases hp : p = a
    · subst hp; exact ⟨v, World.cell?_setCell_same w p v h⟩
    · exact ⟨old, by rw [World.cell?_setCell_other w p a v hp]; exact h⟩, fun a h _ => by rw [World.frozen?_setCell]; exact h⟩
theorem Shp.ext {w w' : World} (h : Ext w w') : Shp w w' :=
  ⟨fun a old ho => ⟨old, h.cell ho⟩, fun a hf ⟨old, ho⟩ => by
    have hb : w'.heap[a.block]? = w.heap[a.block]? := h.same (cell_lt ho)
    unfold World.frozen? at hf ⊢
    rw [hb]; exact hf⟩

theorem Wr.shp {w w' : World} {s : Sl} {sz : Nat} (h : Wr w s sz) (hs : Shp w w') : Wr w' s sz := fun j hj => by
  obtain ⟨a, ha, ⟨old, hc⟩, hf⟩ := h j hj
  exact ⟨a, ha, hs.1 _ _ hc, hs.2 _ hf ⟨old, hc⟩⟩

theorem OwnL.wr {α : Type} [Flat α] {w : World} {base : Nat} {e : TypeId} {s : Sl} {l : List α} (h : OwnL w base e s l) : Wr w s (Rep.sz α) := fun j hj => by
  rcases h.2.2 with ⟨hv, h0⟩ | ⟨g, cap, cur, hv, hb, hg, hle, _, hsz, htake⟩
  · rw [h0] at hj; simp at hj
  · simp [Sl.v] at hv
    obtain ⟨ha, rfl⟩ := hv
    have hlen := h.2.length
    have hlt : j < (l.flatMap Flat.cells).length := by rw [hlen]; exact hj
    have hown : w.ownsRow base e (Rep.sz α) s.v s.len (l.flatMap Flat.cells) := h.2
    refine ⟨_, ha, ⟨_, World.ownsRow.cells hown (g := g) (by simp [Sl.v, ha, Value.ownBlock]) j _ (List.getElem?_eq_getElem hlt)⟩, ?_⟩
    simp [World.frozen?, add_block, hg]

/-- The block of a slice. -/
def blkOf (s : Sl) (b : Nat) : Prop := ∃ a, s.a = some a ∧ a.block = b

/-- One cell written. -/
theorem ST_wr1 {w : World} {s : Sl} {sz i : Nat} (h : Wr w s sz) {a : Addr} (ha : s.a = some a) {p : Addr} {k : Nat} (hp : p.add k = a.add i) (hi : i < s.len * sz) {v : Value} (h1 : v.oneCell' = true) {K : World → Prop}
    (hk : ∀ w', Shp w w' → Chg w w' (blkOf s) → w'.heap.size = w.heap.size → K w') : ST p k [v] w K := by
  obtain ⟨a', ha', hc, hf⟩ := h i hi
  rw [ha] at ha'; cases ha'
  refine ⟨h1, by rw [hp]; exact hc, by rw [hp]; exact hf, ?_⟩
  rw [hp]
  refine hk _ (Shp.setCell _ _ _) ⟨rfl, rfl, rfl, by rw [setCell_size]; exact Nat.le_refl _, fun b _ hD => ?_⟩ (setCell_size _ _ _)
  refine setCell_other _ _ _ fun he => hD ⟨a, ha, ?_⟩
  rw [he, add_block]

theorem IX_wr {w : World} {s : Sl} {sz i : Nat} (h : Wr w s sz) (hsz : 0 < sz) (hi : i < s.len) {K : Addr → Prop} (hk : ∀ a, s.a = some a → K (a.add (i * sz))) : IX s i sz K := by
  have hj : i * sz < s.len * sz := Nat.mul_lt_mul_of_pos_right hi hsz
  obtain ⟨a, ha, _⟩ := h _ hj
  exact ⟨a, ha, by omega, by omega, by simpa using hk a ha⟩

/-- Numbers in a row. -/
def marks (k : Int) (n : Nat) : List Int := (List.range n).map fun (i : Nat) => k + (i : Int)

theorem marks_length (k : Int) (n : Nat) : (marks k n).length = n := by simp [marks]
theorem marks_get (k : Int) (n i : Nat) (h : i < (marks k n).length) : (marks k n)[i] = k + i := by simp [marks]
theorem marks_I64 {k : Int} {n : Nat} (h0 : 0 ≤ k) (h1 : k + n ≤ 9223372036854775807) : ∀ x ∈ marks k n, I64 x := fun x hx => by
  simp [marks] at hx
  obtain ⟨i, hi, rfl⟩ := hx
  unfold I64; omega

theorem marks_step {k : Int} {l : List Int} {i : Nat} (hi : i < l.length) : (marks k i ++ l.drop i).set i (k + i) = marks k (i + 1) ++ l.drop (i + 1) := by
  have h1 : (marks k i).length = i := marks_length _ _
  rw [List.set_append_right _ _ (by omega), h1, Nat.sub_self, List.drop_eq_getElem_cons hi, List.set_cons_zero]
  simp [marks, List.range_succ]

theorem Chg.extR {w0 w w' : World} {lo hi : Nat} (h : Chg w w' (fun b => lo ≤ b ∧ b < hi)) (hE : Ext w0 w) (hl : w0.heap.size ≤ lo) : Ext w0 w' := h.ext0 hE fun k hk => by have := hk.1; omega
theorem Chg.extB {w0 w w' : World} {lo : Nat} (h : Chg w w' (fun b => lo ≤ b)) (hE : Ext w0 w) (hl : w0.heap.size ≤ lo) : Ext w0 w' := h.ext0 hE fun k hk => by have : lo ≤ k := hk; omega

/-! ### Lists that are filled from the front -/

/-! ### Boxes and lists of the call's own, apart by their types -/

def oB (s : Sl) (b : Nat) : Prop := s.v.ownBlock = some b

theorem Box.notOwn {w : World} {p : Addr} {t : TypeId} {cs : List Value} {α : Type} [Flat α] {base : Nat} {e : TypeId} {s : Sl} {l : List α} (h : Box w p t cs) (hO : OwnL w base e s l) (hne : t ≠ e) : ¬ oB s p.block := fun he => by
  obtain ⟨c1, e1⟩ := hO.type he
  rw [h.2.2] at e1
  exact hne (Obj.cells.inj (Option.some.inj e1)).2.1

theorem Box.stepT {w w' : World} {p : Addr} {t : TypeId} {cs : List Value} {α : Type} [Flat α] {base : Nat} {e : TypeId} {s : Sl} {l : List α} (h : Box w p t cs) (hO : OwnL w base e s l) (hne : t ≠ e) (hs : Step w w' s.v.ownBlock) : Box w' p t cs :=
  h.of_block (hs.block _ h.lt fun he => h.notOwn hO hne he.symm)

theorem OwnL.stepB {w w' : World} {p : Addr} {t : TypeId} {cs : List Value} {α : Type} [Flat α] {base : Nat} {e : TypeId} {s : Sl} {l : List α} (hO : OwnL w base e s l) (h : Box w p t cs) (hne : t ≠ e) (hs : Step w w' (some p.block)) : OwnL w' base e s l :=
  hO.keep fun k hk => hs.block k (hO.blk k hk).2 fun he => h.notOwn hO hne (by cases he; exact hk)

theorem SlR.stepD {α : Type} [RepP α] {D : Nat → Prop} {w w' : World} {s : Sl} {l : List α} {g : Option Nat} (h : SlR D w s l) (hs : Step w w' g) (hD : ∀ b, D b → g ≠ some b) : SlR D w' s l :=
  (h.below.agr fun b hb => hs.block b hb.2 fun he => hD b hb.1 he.symm).weak (fun _ hb _ => hb.1) RepP.pos

/-! ### Answers that hold only where something holds -/

structure AnsG {α : Type} (g : Prop) (x d y : α) (ok : Bool) : Prop where
  ok : ok = true ↔ g
  val : g → y = x
  non : ¬ g → y = d

theorem AnsG.yes {α : Type} {g : Prop} {x d : α} (h : g) : AnsG g x d x true := ⟨by simp [h], fun _ => rfl, fun hn => absurd h hn⟩
theorem AnsG.no {α : Type} {g : Prop} {x d : α} (h : ¬ g) : AnsG g x d d false := ⟨by simp [h], fun hg => absurd hg h, fun _ => rfl⟩
theorem AnsG.eq {α : Type} {g : Prop} {x d y y' : α} {ok ok' : Bool} (h : AnsG g x d y ok) (h' : AnsG g x d y' ok') : y = y' ∧ ok = ok' := by
  constructor
  · by_cases hg : g
    · rw [h.val hg, h'.val hg]
    · rw [h.non hg, h'.non hg]
  · rw [Bool.eq_iff_iff, h.ok, h'.ok]

end Go.GX
end

section
/- The laws' marks: what they write into copies and answers, and what they look for again. -/
namespace Go.Proofs.YtndebacmnpghkaaGreat
open Go.GX Go.RowKit
set_option maxRecDepth 100000

theorem markIntS_ok {w : World} {base : Nat} {s : Sl} {l : List Int} (h : OwnL w base T.t_int s l) (k : Int) (h0 : 0 ≤ k) (h1 : k ≤ 1152921504606846976) (hl : l.length ≤ 1048576) :
    Calls Tryz.prog F.l_markIntS #[s.v, .int .i64 k] w (Ret [.at (.int .i64)] fun (r : Int) w' => r = k + l.length ∧ OwnL w' base T.t_int s (marks k l.length) ∧ Step w w' s.v.ownBlock) := by
  refine C_l_markIntS ?_
  unfold V_l_markIntS
  rw [h.1]
  refine ⟨IN2 l.length fun i r w' => r = k + i ∧ OwnL w' base T.t_int s (marks k i ++ l.drop i) ∧ Step w w' s.v.ownBlock, MN2 l.length, IN2_zero ⟨by simp, by simpa [marks] using h, Step.refl _ _⟩, ?_⟩
  rintro _ _ w1 ⟨i, rfl, hi, rfl, hO, hs⟩
  intros
  refine cond_dec (fun hlt => ?_) (fun hge => ?_)
  · have hi' : i < l.length := by omega
    have hml : (marks k i ++ l.drop i).length = l.length := by rw [List.length_append, marks_length, List.length_drop]; omega
    refine IX_own hO (by rw [hml]; exact hi') rfl fun p hp => ?_
    refine ST_own hO (by rw [hml]; exact hi') hp (k + i) rfl fun w2 hO2 hs2 => ?_
    rw [marks_step hi'] at hO2
    rw [wrap_of (n := k + i + 1) (by omega) (by omega)]
    exact IN2_next (by omega) hi' ⟨by omega, hO2, hs.trans hs2⟩
  · have : i = l.length := by omega
    subst this
    exact ⟨rfl, by simpa using hO, hs⟩

theorem heldIntS_ok {w : World} {s : Sl} {n : Nat} (k : Int) (h : R w s (marks k n)) (h0 : 0 ≤ k) (h1 : k ≤ 1152921504606846976) (hl : n ≤ 1048576) :
    Calls Tryz.prog F.l_heldIntS #[s.v, .int .i64 k] w (Ret [.at (.int .i64)] fun (r : Int) w' => r = k + n ∧ w = w') := by
  refine C_l_heldIntS ?_
  unfold V_l_heldIntS
  rw [h.len, marks_length]
  refine ⟨IN2 n fun i r w' => r = k + i ∧ w = w', MN2 n, IN2_zero ⟨by simp, rfl⟩, ?_⟩
  rintro _ _ w1 ⟨i, rfl, hi, rfl, rfl⟩
  intros
  refine cond_dec (fun hlt => ?_) (fun hge => ?_)
  · have hi' : i < (marks k n).length := by rw [marks_length]; omega
    refine h.ixI hi' fun p _ hc => LD_int hc ?_
    rw [marks_get]
    refine cond_ne (fun hne => absurd rfl hne) (fun _ => ?_)
    rw [wrap_of (n := k + i + 1) (by omega) (by omega)]
    exact IN2_next (by omega) (by omega) ⟨by omega, rfl⟩
  · have : i = n := by omega
    subst this
    exact ⟨rfl, rfl⟩

theorem markIntS_wr {w : World} {s : Sl} (h : Wr w s 1) (k : Int) (h0 : 0 ≤ k) (h1 : k ≤ 1152921504606846976) (hl : s.len ≤ 1048576) :
    Calls Tryz.prog F.l_markIntS #[s.v, .int .i64 k] w (Ret [.at (.int .i64)] fun (r : Int) w' => r = k + s.len ∧ Shp w w' ∧ Chg w w' (blkOf s)) := by
  refine C_l_markIntS ?_
  unfold V_l_markIntS
  refine ⟨IN2 s.len fun i r w' => r = k + i ∧ Shp w w' ∧ Chg w w' (blkOf s), MN2 s.len, IN2_zero ⟨by simp, Shp.refl _, Chg.refl _ _⟩, ?_⟩
  rintro _ _ w1 ⟨i, rfl, hi, rfl, hS, hC⟩
  intros
  refine cond_dec (fun hlt => ?_) (fun hge => ?_)
  · have hi' : i < s.len := by omega
    refine IX_wr (h.shp hS) (by decide) hi' fun a ha => ?_
    refine ST_wr1 (i := i) (h.shp hS) ha (by rw [add_add]; simp) (by omega) rfl fun w2 hS2 hC2 _ => ?_
    rw [wrap_of (n := k + i + 1) (by omega) (by omega)]
    exact IN2_next (by omega) hi' ⟨by omega, hS.trans hS2, hC.trans hC2⟩
  · have : i = s.len := by omega
    subst this
    exact ⟨rfl, hS, hC⟩

theorem markEndS_wr {w : World} {s : Sl} (h : Wr w s 2) (k : Int) (h0 : 0 ≤ k) (h1 : k ≤ 1152921504606846976) (hl : s.len ≤ 1048576) :
    Calls Tryz.prog F.l_markEndS #[s.v, .int .i64 k] w (Ret [.at (.int .i64)] fun (r : Int) w' => r = k + 2 * s.len ∧ Shp w w' ∧ Chg w w' (blkOf s)) := by
  refine C_l_markEndS ?_
  unfold V_l_markEndS
  refine ⟨IN2 s.len fun i r w' => r = k + 2 * i ∧ Shp w w' ∧ Chg w w' (blkOf s), MN2 s.len, IN2_zero ⟨by simp, Shp.refl _, Chg.refl _ _⟩, ?_⟩
  rintro _ _ w1 ⟨i, rfl, hi, rfl, hS, hC⟩
  intros
  refine cond_dec (fun hlt => ?_) (fun hge => ?_)
  · have hi' : i < s.len := by omega
    refine IX_wr (h.shp hS) (by decide) hi' fun a ha => ?_
    refine ST_wr1 (i := i * 2) (h.shp hS) ha (by rw [add_add, add_add]; simp) (by omega) rfl fun w2 hS2 hC2 _ => ?_
    have hS' := hS.trans hS2
    refine IX_wr (h.shp hS') (by decide) hi' fun a' ha' => ?_
    rw [wrap_of (n := k + 2 * i + 1) (by omega) (by omega)]
    refine ST_wr1 (i := i * 2 + 1) (h.shp hS') ha' (by rw [add_add, add_add]) (by omega) rfl fun w3 hS3 hC3 _ => ?_
    rw [wrap_of (n := k + 2 * i + 1 + 1) (by omega) (by omega)]
    exact IN2_next (by omega) hi' ⟨by omega, hS'.trans hS3, (hC.trans hC2).trans hC3⟩
  · have : i = s.len := by omega
    subst this
    exact ⟨rfl, hS, hC⟩

/-- A slice of numbers that may be marked: its blocks lie between two bounds. -/
structure MInt (w : World) (s : Sl) (lo hi : Nat) : Prop where
  wr : Wr w s 1
  len : s.len ≤ 1048576
  blk : ∀ b, blkOf s b → lo ≤ b ∧ b < hi

theorem MInt.shp {w w' : World} {s : Sl} {lo hi : Nat} (h : MInt w s lo hi) (hs : Shp w w') : MInt w' s lo hi := ⟨h.wr.shp hs, h.len, h.blk⟩
theorem MInt.ext {w w' : World} {s : Sl} {lo hi : Nat} (h : MInt w s lo hi) (hE : Ext w w') : MInt w' s lo hi := h.shp (Shp.ext hE)

theorem blkOf_own {α : Type} [Flat α] {w : World} {base : Nat} {e : TypeId} {s : Sl} {l : List α} (h : OwnL w base e s l) {b : Nat} (hb : blkOf s b) : s.v.ownBlock = some b := by
  obtain ⟨a, ha, rfl⟩ := hb
  rcases h.2.2 with ⟨hv, _⟩ | ⟨g, cap, cur, hv, _⟩
  · simp [Sl.v] at hv; rw [ha] at hv; cases hv.1
  · simp [Sl.v] at hv
    rw [ha] at hv
    simp [Sl.v, ha, Value.ownBlock]

theorem mint_of {w : World} {base : Nat} {s : Sl} {l : List Int} (h : OwnL w base T.t_int s l) (hl : l.length ≤ 1048576) : MInt w s base w.heap.size :=
  ⟨h.wr, by rw [h.1]; exact hl, fun b hb => h.blk b (blkOf_own h hb)⟩

/-- A slice of slices of numbers that may be marked. -/
structure MIntSS (w : World) (s : Sl) (lo hi : Nat) : Prop where
  ex : ∃ ss : List Sl, OwnL w lo T.t_sl_int s ss ∧ ss.length ≤ 1048576 ∧ ∀ r ∈ ss, MInt w r lo hi ∧ ∀ b, blkOf r b → s.v.ownBlock ≠ some b

/-- A network that may be marked. -/
structure MNet (w : World) (x y z : Sl) (lo hi : Nat) : Prop where
  ends : ∃ ss : List Sl, OwnL w lo T.t_sl_i_End x ss ∧ ss.length ≤ 1048576 ∧ ∀ r ∈ ss, Wr w r 2 ∧ r.len ≤ 1048576 ∧ ∀ b, blkOf r b → (lo ≤ b ∧ b < hi) ∧ x.v.ownBlock ≠ some b
  ids : MInt w y lo hi
  inputs : MInt w z lo hi

theorem MNet.ext {w w' : World} {x y z : Sl} {lo hi : Nat} (h : MNet w x y z lo hi) (hE : Ext w w') : MNet w' x y z lo hi := by
  obtain ⟨⟨ss, h1, h2, h3⟩, h4, h5⟩ := h
  exact ⟨⟨ss, h1.ext hE, h2, fun r hr => ⟨(h3 r hr).1.shp (Shp.ext hE), (h3 r hr).2⟩⟩, h4.ext hE, h5.ext hE⟩

theorem OwnNet.mnet {w : World} {base : Nat} {x y z : Sl} {n : Net} (h : OwnNet w base x y z n) (hs : Small n) : MNet w x y z base w.heap.size := by
  obtain ⟨⟨ss, h1, h2, h3⟩, h4, h5⟩ := h
  refine ⟨⟨ss, h1, by rw [h2]; exact hs.1, fun r hr => ?_⟩, mint_of h4 hs.2.2.1, mint_of h5 hs.2.2.2⟩
  obtain ⟨i, hi, rfl⟩ := List.mem_iff_getElem.1 hr
  have hi2 : i < n.ends.length := by omega
  have hO := h3 i ss[i] n.ends[i] (by simp [hi]) (by simp [hi2])
  refine ⟨hO.wr, by rw [hO.1]; exact hs.2.1 _ (List.getElem_mem hi2), fun b hb => ?_⟩
  have hb' := blkOf_own hO hb
  refine ⟨hO.blk b hb', fun he => ?_⟩
  obtain ⟨c1, e1⟩ := hO.type hb'
  obtain ⟨c2, e2⟩ := h1.type he
  rw [e1] at e2
  exact absurd (Obj.cells.inj (Option.some.inj e2)).2.1 (by decide)

theorem markEndSS_at (k0 : Int) (hk0 : 0 ≤ k0) (hk1 : k0 ≤ 4503599627370496) {w : World} {x : Sl} {lo hi : Nat} {ss : List Sl} (hO : OwnL w lo T.t_sl_i_End x ss) (hl : ss.length ≤ 1048576)
    (hr : ∀ r ∈ ss, Wr w r 2 ∧ r.len ≤ 1048576 ∧ ∀ b, blkOf r b → (lo ≤ b ∧ b < hi) ∧ x.v.ownBlock ≠ some b) :
    Calls Tryz.prog F.l_markEndSS #[x.v, .int .i64 k0] w (Ret [.at (.int .i64)] fun (r : Int) w' => 0 ≤ r ∧ r ≤ k0 + 4503599627370496 ∧ Shp w w' ∧ Chg w w' (fun b => lo ≤ b ∧ b < hi)) := by
  refine C_l_markEndSS ?_
  unfold V_l_markEndSS
  rw [hO.1]
  refine ⟨IN2 ss.length fun i r w' => 0 ≤ r ∧ r ≤ k0 + 2097152 * i ∧ Shp w w' ∧ Chg w w' (fun b => (lo ≤ b ∧ b < hi) ∧ x.v.ownBlock ≠ some b), MN2 ss.length, IN2_zero ⟨by omega, by omega, Shp.refl _, Chg.refl _ _⟩, ?_⟩
  rintro k _ w1 ⟨i, rfl, hi', h0, h1, hS, hC⟩
  intros
  refine cond_dec (fun hlt => ?_) (fun hge => ?_)
  · have hi2 : i < ss.length := by omega
    have hO1 : OwnL w1 lo T.t_sl_i_End x ss := hO.chg hC fun b hb hD => hD.2 hb
    have hR := hO1.rep fun _ _ => trivial
    refine hR.ix (n := 1) rfl (by omega) (by omega) fun p cs hrep hc => ?_
    simp only [Int.toNat_natCast] at hrep
    have hcs : cs = [ss[i].v] := hrep
    subst hcs
    refine LD_sl (hc 0 _ rfl) ?_
    obtain ⟨hw, hlen, hb⟩ := hr _ (List.getElem_mem hi2)
    refine call (markEndS_wr (hw.shp hS) k h0 (by omega) hlen) ?_
    rintro r w2 ⟨rfl, hS2, hC2⟩
    exact IN2_next (by omega) hi2 ⟨by omega, by omega, hS.trans hS2, hC.trans (hC2.mono fun b hb' => hb b hb')⟩
  · have : i = ss.length := by omega
    subst this
    exact ⟨h0, by omega, hS, hC.mono fun b hb => hb.1⟩

theorem markNetwork_at (k0 : Int) (hk0 : 0 ≤ k0) (hk1 : k0 ≤ 4503599627370496) {w : World} {x y z : Sl} {lo hi : Nat} (h : MNet w x y z lo hi) (hw : hi ≤ w.heap.size) :
    Calls Tryz.prog F.l_markNetwork #[.agg #[x.v, y.v, z.v], .int .i64 k0] w (Ret [.at (.int .i64)] fun (r : Int) w' => 0 ≤ r ∧ r ≤ k0 + 9007199254740992 ∧ Shp w w' ∧ Chg w w' (fun b => lo ≤ b ∧ b < hi)) := by
  refine C_l_markNetwork ?_
  unfold V_l_markNetwork
  refine NEW_intro fun p w1 hp hs hE hb => ?_
  obtain ⟨⟨ss, h1, h2, h3⟩, h4, h5⟩ := h.ext hE
  refine LD_bs0 hb ?_
  refine call (markEndSS_at k0 hk0 hk1 h1 h2 h3) ?_
  rintro r1 w2 ⟨ha, hb2, hS, hC⟩
  have hbx := hb.chg hC (by rw [hp]; intro hh; omega)
  refine LD_bs1 hbx ?_
  refine call (markIntS_wr (h4.wr.shp hS) r1 ha (by omega) h4.len) ?_
  rintro r2 w3 ⟨rfl, hS2, hC2⟩
  have hC2' := hC2.mono h4.blk
  have hbx2 := hbx.chg hC2' (by rw [hp]; intro hh; omega)
  have := h4.len
  have := h5.len
  refine LD_bs2 hbx2 ?_
  refine call (markIntS_wr (h5.wr.shp (hS.trans hS2)) _ (by omega) (by omega) h5.len) ?_
  rintro r3 w4 ⟨rfl, hS3, hC3⟩
  exact ⟨by omega, by omega, (((Shp.ext hE).trans hS).trans hS2).trans hS3, (((Chg.of_ext hE).trans hC).trans hC2').trans (hC3.mono h5.blk)⟩

/-! ### Answers that are lists -/

/-- An answer of the call's own: its blocks lie from base on. -/
structure OutL (base : Nat) (w : World) (s : Sl) (l : List Int) : Prop where
  own : OwnL w base T.t_int s l
  i64 : ∀ x ∈ l, I64 x
  small : l.length ≤ 1048576

theorem OutL.rep {base : Nat} {w : World} {s : Sl} {l : List Int} (h : OutL base w s l) : R w s l := (h.own.rep h.i64).any
theorem OutL.ext {base : Nat} {w w' : World} {s : Sl} {l : List Int} (h : OutL base w s l) (hE : Ext w w') : OutL base w' s l := ⟨h.own.ext hE, h.i64, h.small⟩
theorem OutL.chgR {base lo hi : Nat} {w w' : World} {s : Sl} {l : List Int} (h : OutL base w s l) (hC : Chg w w' (fun b => lo ≤ b ∧ b < hi)) (hh : hi ≤ base) : OutL base w' s l :=
  ⟨h.own.chg hC fun b hb hD => by have := (h.own.blk b hb).1; have := hD.2; omega, h.i64, h.small⟩
theorem OutL.nil (base : Nat) (w : World) : OutL base w ⟨none, 0, 0⟩ [] := ⟨OwnL.nil _ _ _, by simp, by simp⟩
theorem OutL.low {base b : Nat} {w : World} {s : Sl} {l : List Int} (h : OutL base w s l) (hb : b ≤ base) : OutL b w s l := ⟨h.own.low hb, h.i64, h.small⟩

end Go.Proofs.YtndebacmnpghkaaGreat
end
