/- Rules for proving the propositions that functions compute to: memory read as lists, loops over indexes, calls. No program is named here. -/
import Derived.Test.YtghibjghjjnchaaBase
import Derived.Laws.OwnMore
namespace Go.GX
open Go.RowKit

/-! ### Numbers -/

def I64 (n : Int) : Prop := -9223372036854775808 ≤ n ∧ n ≤ 9223372036854775807

theorem wrap_of {n : Int} (h1 : -9223372036854775808 ≤ n) (h2 : n ≤ 9223372036854775807) : IntKind.i64.wrap n = n := by
  have e1 : (2 : Int) ^ 64 = 18446744073709551616 := rfl
  have e2 : (2 : Int) ^ 63 = 9223372036854775808 := rfl
  simp only [IntKind.wrap, IntKind.bits, IntKind.signed, Bool.true_and, decide_eq_true_eq, Nat.reduceSub, e1, e2]
  by_cases h : 0 ≤ n
  · have : n % 18446744073709551616 = n := Int.emod_eq_of_lt h (by omega)
    rw [this, if_neg (by omega)]
  · have : n % 18446744073709551616 = n + 18446744073709551616 := by omega
    rw [this, if_pos (by omega)]; omega

theorem wrap_I64 {n : Int} (h : I64 n) : IntKind.i64.wrap n = n := wrap_of h.1 h.2

theorem add_zero' (a : Addr) : a.add 0 = a := rfl
theorem add_add (a : Addr) (m n : Nat) : (a.add m).add n = a.add (m + n) := by
  unfold Addr.add
  by_cases hm : m = 0
  · subst hm; simp
  · by_cases hn : n = 0
    · subst hn; simp [hm]
    · simp [hm, hn, Nat.add_assoc]


/-! ### Worlds -/

theorem Ext.size_le {w w' : World} (h : Ext w w') : w.heap.size ≤ w'.heap.size := h.size

theorem Ext.same {w w' : World} (h : Ext w w') {b : Nat} (hb : b < w.heap.size) : w'.heap[b]? = w.heap[b]? := h.block b hb

theorem cell_lt {w : World} {a : Addr} {v : Value} (h : w.cell? a = some v) : a.block < w.heap.size := World.block_lt_of_cell? w a h

theorem ext_push (w : World) (o : Obj) : Ext w { w with heap := w.heap.push o } :=
  ⟨rfl, rfl, rfl, by simp, fun k hk => by simp [Array.getElem?_push, Nat.ne_of_lt hk]⟩

theorem ext_setCell {w0 w : World} (h : Ext w0 w) {a : Addr} (ha : w0.heap.size ≤ a.block) (v : Value) : Ext w0 (w.setCell a v) := Below.setCell h ha v

/-- A block that the call itself has made: its cells, not frozen. -/
def Box (w : World) (p : Addr) (t : TypeId) (cs : List Value) : Prop := p.off = 0 ∧ p.spot = none ∧ w.heap[p.block]? = some (.cells ⟨cs⟩ t (0, 0))

theorem Box.cell {w : World} {p : Addr} {t : TypeId} {cs : List Value} (h : Box w p t cs) {i : Nat} {v : Value} (hi : cs[i]? = some v) : w.cell? (p.add i) = some v := by
  obtain ⟨h1, h2, h3⟩ := h
  unfold Addr.add
  by_cases h0 : i = 0
  · subst h0; simp [World.cell?, h3, h2, h1, hi]
  · simp [World.cell?, h3, h0, h1, hi]

theorem Box.frozen {w : World} {p : Addr} {t : TypeId} {cs : List Value} (h : Box w p t cs) (i : Nat) : w.frozen? (p.add i) = false := by
  obtain ⟨h1, h2, h3⟩ := h
  have : (p.add i).block = p.block := by unfold Addr.add; split <;> rfl
  simp [World.frozen?, this, h3]

theorem Box.lt {w : World} {p : Addr} {t : TypeId} {cs : List Value} (h : Box w p t cs) : p.block < w.heap.size := (Array.getElem?_eq_some_iff.1 h.2.2).1

theorem Box.ext {w w' : World} {p : Addr} {t : TypeId} {cs : List Value} (h : Box w p t cs) (hE : Ext w w') : Box w' p t cs :=
  ⟨h.1, h.2.1, (hE.same h.lt).trans h.2.2⟩

theorem Box.of_block {w w' : World} {p : Addr} {t : TypeId} {cs : List Value} (h : Box w p t cs) (hE : w'.heap[p.block]? = w.heap[p.block]?) : Box w' p t cs :=
  ⟨h.1, h.2.1, hE.trans h.2.2⟩

theorem add_block (p : Addr) (i : Nat) : (p.add i).block = p.block := by unfold Addr.add; split <;> rfl

theorem Box.set {w : World} {p : Addr} {t : TypeId} {cs : List Value} (h : Box w p t cs) (i : Nat) (v : Value) : Box (w.setCell (p.add i) v) p t (cs.set i v) := by
  obtain ⟨h1, h2, h3⟩ := h
  refine ⟨h1, h2, ?_⟩
  have hb : (p.add i).block = p.block := add_block p i
  have ho : (p.add i).off = i := by unfold Addr.add; split <;> simp_all
  have hs : (p.add i).spot = none := by unfold Addr.add; split <;> simp_all
  have hlt := (Array.getElem?_eq_some_iff.1 h3).1
  have hv := (Array.getElem?_eq_some_iff.1 h3).2
  simp only [World.setCell, Array.getElem?_modify, hb, ho, hs]
  simp [h3]

/-- A new variable: its block is the next one. -/
theorem NEW_intro {t : TypeId} {cs : List Value} {w : World} {K : Addr → World → Prop}
    (h : ∀ p w', p.block = w.heap.size → w'.heap.size = w.heap.size + 1 → Ext w w' → Box w' p t cs → K p w') : NEW t ⟨cs⟩ w K :=
  h _ _ rfl (by simp) (ext_push w _) ⟨rfl, rfl, by simp⟩

theorem setCell_size (w : World) (a : Addr) (v : Value) : (w.setCell a v).heap.size = w.heap.size := by simp [World.setCell]

theorem setCell_other (w : World) (a : Addr) (v : Value) {b : Nat} (h : b ≠ a.block) : (w.setCell a v).heap[b]? = w.heap[b]? := Below.heap_setCell w a v b h

/-- A store of one cell into a block of the call's own. -/
theorem ST_box1 {w : World} {p : Addr} {t : TypeId} {cs : List Value} {i : Nat} {v : Value} {K : World → Prop} (h : Box w p t cs) (hi : i < cs.length) (h1 : v.oneCell' = true)
    (hk : ∀ w', w'.heap.size = w.heap.size → (∀ b, b ≠ p.block → w'.heap[b]? = w.heap[b]?) → (∀ w0, Ext w0 w → w0.heap.size ≤ p.block → Ext w0 w') → Box w' p t (cs.set i v) → K w') : ST (p.add i) 0 [v] w K := by
  refine ⟨h1, ⟨cs[i], ?_⟩, ?_, hk _ (setCell_size _ _ _) (fun b hb => setCell_other _ _ _ (by rw [add_add, add_block]; exact hb)) (fun w0 h0 hle => ext_setCell h0 (by rw [add_add, add_block]; exact hle) v) (by rw [add_add]; exact h.set _ v)⟩
  · rw [add_add]; exact h.cell (by simp [hi])
  · rw [add_add]; exact h.frozen _

/-! ### Loads -/

section
variable {w : World} {a : Addr}

theorem LD_sl {K : Sl → Prop} {s : Sl} (hc : w.cell? a = some s.v) (hk : K s) : LD [.sl] a w K :=
  ⟨[s.v], rfl, fun i v hi => by match i, hi with | 0, hi => simp at hi; subst hi; exact hc, hk⟩
theorem LD_int {K : Int → Prop} {n : Int} (hc : w.cell? a = some (.int .i64 n)) (hk : K n) : LD [.int .i64] a w K :=
  ⟨[.int .i64 n], rfl, fun i v hi => by match i, hi with | 0, hi => simp at hi; subst hi; exact hc, hk⟩
theorem LD_bool {K : Bool → Prop} {n : Bool} (hc : w.cell? a = some (.bool n)) (hk : K n) : LD [.bool] a w K :=
  ⟨[.bool n], rfl, fun i v hi => by match i, hi with | 0, hi => simp at hi; subst hi; exact hc, hk⟩
theorem LD_val {K : Value → Prop} {v : Value} (hc : w.cell? a = some v) (hk : K v) : LD [.val] a w K :=
  ⟨[v], rfl, fun i v hi => by match i, hi with | 0, hi => simp at hi; subst hi; exact hc, hk⟩
theorem LD_int2 {K : Int → Int → Prop} {x y : Int} (h0 : w.cell? (a.add 0) = some (.int .i64 x)) (h1 : w.cell? (a.add 1) = some (.int .i64 y)) (hk : K x y) : LD [.int .i64, .int .i64] a w K :=
  ⟨[.int .i64 x, .int .i64 y], rfl, fun i v hi => by
    match i, hi with
    | 0, hi => simp at hi; subst hi; exact h0
    | 1, hi => simp at hi; subst hi; exact h1, hk⟩
theorem LD_int4 {K : Int → Int → Int → Int → Prop} {x y z u : Int} (h0 : w.cell? (a.add 0) = some (.int .i64 x)) (h1 : w.cell? (a.add 1) = some (.int .i64 y)) (h2 : w.cell? (a.add 2) = some (.int .i64 z)) (h3 : w.cell? (a.add 3) = some (.int .i64 u)) (hk : K x y z u) : LD [.int .i64, .int .i64, .int .i64, .int .i64] a w K :=
  ⟨[.int .i64 x, .int .i64 y, .int .i64 z, .int .i64 u], rfl, fun i v hi => by
    match i, hi with
    | 0, hi => simp at hi; subst hi; exact h0
    | 1, hi => simp at hi; subst hi; exact h1
    | 2, hi => simp at hi; subst hi; exact h2
    | 3, hi => simp at hi; subst hi; exact h3, hk⟩
theorem LD_sl3 {K : Sl → Sl → Sl → Prop} {x y z : Sl} (h0 : w.cell? (a.add 0) = some x.v) (h1 : w.cell? (a.add 1) = some y.v) (h2 : w.cell? (a.add 2) = some z.v) (hk : K x y z) : LD [.sl, .sl, .sl] a w K :=
  ⟨[x.v, y.v, z.v], rfl, fun i v hi => by
    match i, hi with
    | 0, hi => simp at hi; subst hi; exact h0
    | 1, hi => simp at hi; subst hi; exact h1
    | 2, hi => simp at hi; subst hi; exact h2, hk⟩
end

/-! ### Memory read as data -/

class Rep (α : Type) where
  sz : Nat
  rep : (Nat → Prop) → World → List Value → α → Prop
  len : ∀ {D w cs a}, rep D w cs a → cs.length = sz
  agr : ∀ {D : Nat → Prop} {w w' : World} {cs a}, (∀ b, D b → w'.heap[b]? = w.heap[b]?) → rep D w cs a → rep D w' cs a
  weak : ∀ {D D' : Nat → Prop} {w cs a}, (∀ b, D b → b < w.heap.size → D' b) → rep D w cs a → rep D' w cs a

/-- The slice s reads as the list l, by blocks in D. -/
def SlR {α : Type} [Rep α] (D : Nat → Prop) (w : World) (s : Sl) (l : List α) : Prop :=
  s.len = l.length ∧ s.len ≤ s.cap ∧ ∀ i x, l[i]? = some x → ∃ a cs, s.a = some a ∧ D a.block ∧ Rep.rep D w cs x ∧ ∀ j v, cs[j]? = some v → w.cell? (a.add (i * Rep.sz α + j)) = some v

instance : Rep Int where
  sz := 1
  rep _ _ cs n := cs = [.int .i64 n] ∧ I64 n
  len h := by rw [h.1]; rfl
  agr _ h := h
  weak _ h := h

instance : Rep Bool where
  sz := 1
  rep _ _ cs n := cs = [.bool n]
  len h := by rw [h]; rfl
  agr _ h := h
  weak _ h := h

instance : Rep (Int × Int) where
  sz := 2
  rep _ _ cs n := cs = [.int .i64 n.1, .int .i64 n.2] ∧ I64 n.1 ∧ I64 n.2
  len h := by rw [h.1]; rfl
  agr _ h := h
  weak _ h := h

instance : Rep (Int × Int × Int × Int) where
  sz := 4
  rep _ _ cs n := cs = [.int .i64 n.1, .int .i64 n.2.1, .int .i64 n.2.2.1, .int .i64 n.2.2.2] ∧ I64 n.1 ∧ I64 n.2.1 ∧ I64 n.2.2.1 ∧ I64 n.2.2.2
  len h := by rw [h.1]; rfl
  agr _ h := h
  weak _ h := h

section
variable {α : Type} [Rep α] {D D' : Nat → Prop} {w w' : World} {s : Sl} {l : List α}

theorem SlR.agr (hE : ∀ b, D b → w'.heap[b]? = w.heap[b]?) (h : SlR D w s l) : SlR D w' s l :=
  ⟨h.1, h.2.1, fun i x hx => by
    obtain ⟨a, cs, h1, h2, h3, h4⟩ := h.2.2 i x hx
    exact ⟨a, cs, h1, h2, Rep.agr hE h3, fun j v hj => by
      have hb : w'.heap[(a.add (i * Rep.sz α + j)).block]? = w.heap[(a.add (i * Rep.sz α + j)).block]? := by rw [add_block]; exact hE _ h2
      rw [World.cell?_of_block hb]; exact h4 j v hj⟩⟩

theorem SlR.weak (hD : ∀ b, D b → b < w.heap.size → D' b) (h : SlR D w s l) (hsz : 0 < Rep.sz α) : SlR D' w s l :=
  ⟨h.1, h.2.1, fun i x hx => by
    obtain ⟨a, cs, h1, h2, h3, h4⟩ := h.2.2 i x hx
    have hl : cs.length = Rep.sz α := Rep.len h3
    have hlt : a.block < w.heap.size := by
      have := cell_lt (h4 0 cs[0] (by simp))
      rwa [add_block] at this
    exact ⟨a, cs, h1, hD _ h2 hlt, Rep.weak hD h3, h4⟩⟩
end

class RepP (α : Type) extends Rep α where
  pos : 0 < sz

instance : RepP Int := ⟨by decide⟩
instance : RepP Bool := ⟨by decide⟩
instance : RepP (Int × Int) := ⟨by decide⟩
instance : RepP (Int × Int × Int × Int) := ⟨by decide⟩

instance {α : Type} [RepP α] : Rep (List α) where
  sz := 1
  rep D w cs l := ∃ s : Sl, cs = [s.v] ∧ SlR D w s l
  len h := by obtain ⟨s, rfl, _⟩ := h; rfl
  agr hE h := by obtain ⟨s, rfl, h⟩ := h; exact ⟨s, rfl, h.agr hE⟩
  weak hD h := by obtain ⟨s, rfl, h⟩ := h; exact ⟨s, rfl, h.weak hD RepP.pos⟩

instance {α : Type} [RepP α] : RepP (List α) := ⟨by show 0 < 1; decide⟩

/-- The slice s reads as the list l. -/
abbrev R {α : Type} [Rep α] (w : World) (s : Sl) (l : List α) : Prop := SlR (fun _ => True) w s l

section
variable {α : Type} [RepP α] {D : Nat → Prop} {w w' : World} {s : Sl} {l : List α}

theorem SlR.any (h : SlR D w s l) : R w s l := h.weak (fun _ _ _ => trivial) RepP.pos
theorem SlR.below (h : SlR D w s l) : SlR (fun b => D b ∧ b < w.heap.size) w s l := h.weak (fun _ h1 h2 => ⟨h1, h2⟩) RepP.pos
theorem SlR.ext (hE : Ext w w') (h : SlR D w s l) : SlR D w' s l := by
  have h1 := h.below.agr (w' := w') fun b hb => hE.same hb.2
  exact h1.weak (fun _ h2 _ => h2.1) RepP.pos
theorem SlR.len (h : SlR D w s l) : s.len = l.length := h.1
end

/-- The element of a slice: its address, and what lies there. -/
theorem SlR.ix {α : Type} [RepP α] {D : Nat → Prop} {w : World} {s : Sl} {l : List α} (h : SlR D w s l) {i : Int} {n : Nat} (hn : n = Rep.sz α) (h0 : 0 ≤ i) (hi : i < l.length) {K : Addr → Prop}
    (hk : ∀ p cs, Rep.rep D w cs (l[i.toNat]'(by omega)) → (∀ j v, cs[j]? = some v → w.cell? (p.add j) = some v) → K p) : IX s i n K := by
  obtain ⟨a, cs, h1, h2, h3, h4⟩ := h.2.2 i.toNat (l[i.toNat]'(by omega)) (by simp)
  refine ⟨a, h1, h0, by rw [h.1]; exact hi, hk _ cs h3 fun j v hj => ?_⟩
  subst hn
  rw [add_add]
  exact h4 j v hj

theorem SlR.ixI {D : Nat → Prop} {w : World} {s : Sl} {l : List Int} (h : SlR D w s l) {i : Nat} (hi : i < l.length) {K : Addr → Prop}
    (hk : ∀ p, I64 l[i] → w.cell? p = some (.int .i64 l[i]) → K p) : IX s i 1 K :=
  h.ix rfl (by omega) (by omega) fun p cs hr hc => by
    obtain ⟨rfl, h64⟩ := hr
    exact hk p h64 (hc 0 _ rfl)

theorem SlR.ixB {D : Nat → Prop} {w : World} {s : Sl} {l : List Bool} (h : SlR D w s l) {i : Nat} (hi : i < l.length) {K : Addr → Prop}
    (hk : ∀ p, w.cell? p = some (.bool l[i]) → K p) : IX s i 1 K :=
  h.ix rfl (by omega) (by omega) fun p cs hr hc => by
    have hr' : cs = [.bool l[i]] := hr
    subst hr'
    exact hk p (hc 0 _ rfl)

theorem SlR.ixE {D : Nat → Prop} {w : World} {s : Sl} {l : List (Int × Int)} (h : SlR D w s l) {i : Nat} (hi : i < l.length) {K : Addr → Prop}
    (hk : ∀ p, I64 l[i].1 → I64 l[i].2 → w.cell? (p.add 0) = some (.int .i64 l[i].1) → w.cell? (p.add 1) = some (.int .i64 l[i].2) → K p) : IX s i 2 K :=
  h.ix rfl (by omega) (by omega) fun p cs hr hc => by
    obtain ⟨rfl, ha, hb⟩ := hr
    exact hk p ha hb (hc 0 _ rfl) (hc 1 _ rfl)

theorem SlR.ixQ {D : Nat → Prop} {w : World} {s : Sl} {l : List (Int × Int × Int × Int)} (h : SlR D w s l) {i : Nat} (hi : i < l.length) {K : Addr → Prop}
    (hk : ∀ p, w.cell? (p.add 0) = some (.int .i64 l[i].1) → w.cell? (p.add 1) = some (.int .i64 l[i].2.1) → w.cell? (p.add 2) = some (.int .i64 l[i].2.2.1) → w.cell? (p.add 3) = some (.int .i64 l[i].2.2.2) → K p) : IX s i 4 K :=
  h.ix rfl (by omega) (by omega) fun p cs hr hc => by
    obtain ⟨rfl, _⟩ := hr
    exact hk p (hc 0 _ rfl) (hc 1 _ rfl) (hc 2 _ rfl) (hc 3 _ rfl)

theorem SlR.ixL {α : Type} [RepP α] {D : Nat → Prop} {w : World} {s : Sl} {l : List (List α)} (h : SlR D w s l) {i : Nat} (hi : i < l.length) {K : Addr → Prop}
    (hk : ∀ p (s' : Sl), SlR D w s' l[i] → w.cell? p = some s'.v → K p) : IX s i 1 K :=
  h.ix rfl (by omega) (by omega) fun p cs hr hc => by
    obtain ⟨s', rfl, hs⟩ := hr
    exact hk p s' hs (hc 0 _ rfl)

theorem not_mem_take_succ {α : Type} {l : List α} {n : α} {i : Nat} (hi : i < l.length) (h : n ∉ l.take i) (hne : l[i] ≠ n) : n ∉ l.take (i + 1) := by
  rw [List.take_succ_eq_append_getElem hi]
  intro hm
  rcases List.mem_append.1 hm with h1 | h1
  · exact h h1
  · exact hne (List.mem_singleton.1 h1).symm

/-! ### Loops over an index -/

def IN (N : Nat) (I : Nat → World → Prop) (x : Int) (w : World) : Prop := ∃ i : Nat, x = i ∧ i ≤ N ∧ I i w
def MN (N : Nat) (x : Int) (_ : World) : Nat := N - x.toNat

theorem IN_zero {N : Nat} {I : Nat → World → Prop} {w : World} (h : I 0 w) : IN N I 0 w := ⟨0, rfl, Nat.zero_le _, h⟩

theorem IN_next {N i : Nat} {I : Nat → World → Prop} {w w' : World} (hN : N ≤ 9223372036854775806) (hi : i < N) (h : I (i + 1) w) :
    IN N I (IntKind.i64.wrap ((i : Int) + 1)) w ∧ MN N (IntKind.i64.wrap ((i : Int) + 1)) w < MN N i w' := by
  rw [wrap_of (by omega) (by omega)]
  exact ⟨⟨i + 1, by omega, hi, h⟩, by unfold MN; omega⟩

/-- A call that only computes, or that makes memory, in a region whose order is open. -/
theorem QCALL_bool {P : Program} {f : FuncId} {args : Array Value} {w : World} {K : Bool → Prop} (b : Bool)
    (h : ∀ w', Ext w w' → Calls P f args w' (Ret [.at .bool] fun (c : Bool) w'' => c = b ∧ Ext w' w'')) (hk : K b) : QCALL P f args w [.at .bool] K :=
  ⟨.bool b, [.bool b], rfl, fun w' hw => (h w' hw).mono fun e w'' he => by
    cases e with
    | returned v =>
      simp only [Ret] at he
      cases v <;> simp [unR, Sh.cells, app, At.un, atsR, botW] at he
      obtain ⟨rfl, h2⟩ := he
      exact ⟨rfl, h2⟩
    | panicked _ => exact he.elim
    | outgrown => exact he.elim, hk⟩

theorem QCALL_int {P : Program} {f : FuncId} {args : Array Value} {w : World} {K : Int → Prop} (b : Int)
    (h : ∀ w', Ext w w' → Calls P f args w' (Ret [.at (.int .i64)] fun (c : Int) w'' => c = b ∧ Ext w' w'')) (hk : K b) : QCALL P f args w [.at (.int .i64)] K :=
  ⟨.int .i64 b, [.int .i64 b], rfl, fun w' hw => (h w' hw).mono fun e w'' he => by
    cases e with
    | returned v =>
      simp only [Ret] at he
      cases v with
      | int k n =>
        cases k <;> simp [unR, Sh.cells, app, At.un, atsR, botW] at he
        obtain ⟨rfl, h2⟩ := he
        exact ⟨rfl, h2⟩
      | _ => simp [unR, Sh.cells, app, At.un, atsR, botW] at he
    | panicked _ => exact he.elim
    | outgrown => exact he.elim, hk⟩

theorem CALLV_mk {P : Program} {g : FuncId} {caps : List Value} {args : Array Value} {w : World} {R : Ending → World → Prop} (hc : callable P g = true) (h : Calls P g ⟨args.toList ++ caps⟩ w R) : CALLV P (.func (.func g) #[] ⟨caps⟩) args w R :=
  ⟨g, caps, rfl, hc, h⟩


/-! ### Branches -/

section
variable {X Y : Prop}
theorem cond_t {b : Bool} (h : b = true) (hx : X) : cond b X Y := by subst h; exact hx
theorem cond_f {b : Bool} (h : b = false) (hy : Y) : cond b X Y := by subst h; exact hy
theorem cond_b {b : Bool} (ht : b = true → X) (hf : b = false → Y) : cond b X Y := by cases b; exact hf rfl; exact ht rfl
theorem cond_not {b : Bool} (hf : b = false → X) (ht : b = true → Y) : cond (!b) X Y := by cases b; exact hf rfl; exact ht rfl
theorem cond_dec {p : Prop} [Decidable p] (ht : p → X) (hf : ¬ p → Y) : cond (decide p) X Y := by
  by_cases h : p
  · rw [decide_eq_true h]; exact ht h
  · rw [decide_eq_false h]; exact hf h
theorem cond_dt {p : Prop} [Decidable p] (h : p) (hx : X) : cond (decide p) X Y := by rw [decide_eq_true h]; exact hx
theorem cond_df {p : Prop} [Decidable p] (h : ¬ p) (hy : Y) : cond (decide p) X Y := by rw [decide_eq_false h]; exact hy
theorem cond_eq {a b : Int} (ht : a = b → X) (hf : a ≠ b → Y) : cond (a == b) X Y := by
  by_cases h : a = b
  · rw [beq_iff_eq.2 h]; exact ht h
  · rw [beq_eq_false_iff_ne.2 h]; exact hf h
theorem cond_ne {a b : Int} (ht : a ≠ b → X) (hf : a = b → Y) : cond (a != b) X Y := by
  by_cases h : a = b
  · rw [bne_eq_false_iff_eq.2 h]; exact hf h
  · rw [bne_iff_ne.2 h]; exact ht h
end

/-! ### Small builtins -/

theorem RUN_min {P : Program} {t : TypeId} {ts : Array TypeId} {x y : Int} {w : World} {K : Int → World → Prop} (h : K (if y < x then y else x) w) : RUN P (.at (.int .i64)) (bsem .min ts t #[.int .i64 x, .int .i64 y]) w K := h
theorem RUN_max {P : Program} {t : TypeId} {ts : Array TypeId} {x y : Int} {w : World} {K : Int → World → Prop} (h : K (if x < y then y else x) w) : RUN P (.at (.int .i64)) (bsem .max ts t #[.int .i64 x, .int .i64 y]) w K := h


theorem Ret_bool {Q : Bool → World → Prop} {e : Ending} {w : World} (h : Ret [.at .bool] Q e w) : ∃ b, e = .returned (.bool b) ∧ Q b w := by
  cases e with
  | returned v =>
    simp only [Ret] at h
    cases v <;> simp [unR, Sh.cells, app, At.un, atsR, botW] at h
    exact ⟨_, rfl, h⟩
  | panicked _ => exact h.elim
  | outgrown => exact h.elim

end Go.GX
