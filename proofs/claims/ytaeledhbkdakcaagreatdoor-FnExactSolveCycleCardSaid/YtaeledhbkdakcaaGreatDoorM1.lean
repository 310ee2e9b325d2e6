/- Own texts, merged: Rules, Bits, Names, V0. -/
import Derived.Test.YtaeledhbkdakcaaGreatDoorM0
import Derived.Laws.OwnMore
import Derived.Great.BuildSlice
import Derived.Laws.StructEq
import Derived.Test.YtaeledhbkdakcaaGreatDoorProg
set_option linter.unusedVariables false
section
/- Rules for proving the propositions that functions compute to: memory read as lists, loops over indexes, calls. No program is named here. -/
namespace Go.GX
open Go.RowKit

/-! ### Numbers -/

def I64 (n : Int) : Prop := -9223372036854775808 ≤ n ∧ n ≤ 9223372036854775807

theorem wrap_of {n : Int} (h1 : -9223372036854775808 ≤ n) (h2 : n ≤ 9223372036854775807) : IntKind.i64.wrap n = n := by
  have e1 : (2 : Int) ^ 64 = 18446744073709551616 := rfl
  have e2 : (2 : Int) ^ 63 = 9223372036854775808 := rfl
  simp only [IntKind.wrap, IntKind.bits, IntKind.signed, Bool.true_and, decide_eq_true_eq, Nat.reduceSub, e1, e2]
  by_cases h : 0 ≤ n
  · have : n % 18446744073709551616 = n := Int.emod_eq_of_lt h (by omega)
    rw [this, if_neg (by omega)]
  · have : n % 18446744073709551616 = n + 18446744073709551616 := by omega
    rw [this, if_pos (by omega)]; omega

theorem add_zero' (a : Addr) : a.add 0 = a := rfl
theorem add_add (a : Addr) (m n : Nat) : (a.add m).add n = a.add (m + n) := by
  unfold Addr.add
  by_cases hm : m = 0
  · subst hm; simp
  · by_cases hn : n = 0
    · subst hn; simp [hm]
    · simp [hm, hn, Nat.add_assoc]


/-! ### Worlds -/

theorem Ext.size_le {w w' : World} (h : Ext w w') : w.heap.size ≤ w'.heap.size := h.size

theorem Ext.same {w w' : World} (h : Ext w w') {b : Nat} (hb : b < w.heap.size) : w'.heap[b]? = w.heap[b]? := h.block b hb

theorem cell_lt {w : World} {a : Addr} {v : Value} (h : w.cell? a = some v) : a.block < w.heap.size := World.block_lt_of_cell? w a h

theorem ext_push (w : World) (o : Obj) : Ext w { w with heap := w.heap.push o } :=
  ⟨rfl, rfl, rfl, by simp, fun k hk => by simp [Array.getElem?_push, Nat.ne_of_lt hk]⟩

theorem ext_setCell {w0 w : World} (h : Ext w0 w) {a : Addr} (ha : w0.heap.size ≤ a.block) (v : Value) : Ext w0 (w.setCell a v) := Below.setCell h ha v

/-- A block that the call itself has made: its cells, not frozen. -/
def Box (w : World) (p : Addr) (t : TypeId) (cs : List Value) : Prop := p.off = 0 ∧ p.spot = none ∧ w.heap[p.block]? = some (.cells ⟨cs⟩ t (0, 0))

theorem Box.cell {w : World} {p : Addr} {t : TypeId} {cs : List Value} (h : Box w p t cs) {i : Nat} {v : Value} (hi : cs[i]? = some v) : w.cell? (p.add i) = some v := by
  obtain ⟨h1, h2, h3⟩ := h
  unfold Addr.add
  by_cases h0 : i = 0
  · subst h0; simp [World.cell?, h3, h2, h1, hi]
  · simp [World.cell?, h3, h0, h1, hi]

theorem Box.frozen {w : World} {p : Addr} {t : TypeId} {cs : List Value} (h : Box w p t cs) (i : Nat) : w.frozen? (p.add i) = false := by
  obtain ⟨h1, h2, h3⟩ := h
  have : (p.add i).block = p.block := by unfold Addr.add; split <;> rfl
  simp [World.frozen?, this, h3]

theorem Box.lt {w : World} {p : Addr} {t : TypeId} {cs : List Value} (h : Box w p t cs) : p.block < w.heap.size := (Array.getElem?_eq_some_iff.1 h.2.2).1

theorem Box.ext {w w' : World} {p : Addr} {t : TypeId} {cs : List Value} (h : Box w p t cs) (hE : Ext w w') : Box w' p t cs :=
  ⟨h.1, h.2.1, (hE.same h.lt).trans h.2.2⟩

theorem Box.of_block {w w' : World} {p : Addr} {t : TypeId} {cs : List Value} (h : Box w p t cs) (hE : w'.heap[p.block]? = w.heap[p.block]?) : Box w' p t cs :=
  ⟨h.1, h.2.1, hE.trans h.2.2⟩

theorem add_block (p : Addr) (i : Nat) : (p.add i).block = p.block := by unfold Addr.add; split <;> rfl

theorem Box.set {w : World} {p : Addr} {t : TypeId} {cs : List Value} (h : Box w p t cs) (i : Nat) (v : Value) : Box (w.setCell (p.add i) v) p t (cs.set i v) := by
  obtain ⟨h1, h2, h3⟩ := h
  refine ⟨h1, h2, ?_⟩
  have hb : (p.add i).block = p.block := add_block p i
  have ho : (p.add i).off = i := by unfold Addr.add; split <;> simp_all
  have hs : (p.add i).spot = none := by unfold Addr.add; split <;> simp_all
  have hlt := (Array.getElem?_eq_some_iff.1 h3).1
  have hv := (Array.getElem?_eq_some_iff.1 h3).2
  simp only [World.setCell, Array.getElem?_modify, hb, ho, hs]
  simp [h3]

/-- A new variable: its block is the next one. -/
theorem NEW_intro {t : TypeId} {cs : List Value} {w : World} {K : Addr → World → Prop}
    (h : ∀ p w', p.block = w.heap.size → w'.heap.size = w.heap.size + 1 → Ext w w' → Box w' p t cs → K p w') : NEW t ⟨cs⟩ w K :=
  h _ _ rfl (by simp) (ext_push w _) ⟨rfl, rfl, by simp⟩

theorem setCell_size (w : World) (a : Addr) (v : Value) : (w.setCell a v).heap.size = w.heap.size := by simp [World.setCell]

theorem setCell_other (w : World) (a : Addr) (v : Value) {b : Nat} (h : b ≠ a.block) : (w.setCell a v).heap[b]? = w.heap[b]? := Below.heap_setCell w a v b h

/-- A store of one cell into a block of the call's own. -/
theorem ST_box1 {w : World} {p : Addr} {t : TypeId} {cs : List Value} {i : Nat} {v : Value} {K : World → Prop} (h : Box w p t cs) (hi : i < cs.length) (h1 : v.oneCell' = true)
    (hk : ∀ w', w'.heap.size = w.heap.size → (∀ b, b ≠ p.block → w'.heap[b]? = w.heap[b]?) → (∀ w0, Ext w0 w → w0.heap.size ≤ p.block → Ext w0 w') → Box w' p t (cs.set i v) → K w') : ST (p.add i) 0 [v] w K := by
  refine ⟨h1, ⟨cs[i], ?_⟩, ?_, hk _ (setCell_size _ _ _) (fun b hb => setCell_other _ _ _ (by rw [add_add, add_block]; exact hb)) (fun w0 h0 hle => ext_setCell h0 (by rw [add_add, add_block]; exact hle) v) (by rw [add_add]; exact h.set _ v)⟩
  · rw [add_add]; exact h.cell (by simp [hi])
  · rw [add_add]; exact h.frozen _

/-! ### Loads -/

section
variable {w : World} {a : Addr}

theorem LD_sl {K : Sl → Prop} {s : Sl} (hc : w.cell? a = some s.v) (hk : K s) : LD [.sl] a w K :=
  ⟨[s.v], rfl, fun i v hi => by match i, hi with | 0, hi => simp at hi; subst hi; exact hc, hk⟩
theorem LD_int {K : Int → Prop} {n : Int} (hc : w.cell? a = some (.int .i64 n)) (hk : K n) : LD [.int .i64] a w K :=
  ⟨[.int .i64 n], rfl, fun i v hi => by match i, hi with | 0, hi => simp at hi; subst hi; exact hc, hk⟩
theorem LD_bool {K : Bool → Prop} {n : Bool} (hc : w.cell? a = some (.bool n)) (hk : K n) : LD [.bool] a w K :=
  ⟨[.bool n], rfl, fun i v hi => by match i, hi with | 0, hi => simp at hi; subst hi; exact hc, hk⟩
end

/-! ### Memory read as data -/

class Rep (α : Type) where
  sz : Nat
  rep : (Nat → Prop) → World → List Value → α → Prop
  len : ∀ {D w cs a}, rep D w cs a → cs.length = sz
  agr : ∀ {D : Nat → Prop} {w w' : World} {cs a}, (∀ b, D b → w'.heap[b]? = w.heap[b]?) → rep D w cs a → rep D w' cs a
  weak : ∀ {D D' : Nat → Prop} {w cs a}, (∀ b, D b → b < w.heap.size → D' b) → rep D w cs a → rep D' w cs a

/-- The slice s reads as the list l, by blocks in D. -/
def SlR {α : Type} [Rep α] (D : Nat → Prop) (w : World) (s : Sl) (l : List α) : Prop :=
  s.len = l.length ∧ (s.len ≤ s.cap ∧ s.cap ≤ 9223372036854775807) ∧ ∀ i x, l[i]? = some x → ∃ a cs, s.a = some a ∧ D a.block ∧ Rep.rep D w cs x ∧ ∀ j v, cs[j]? = some v → w.cell? (a.add (i * Rep.sz α + j)) = some v

instance : Rep Int where
  sz := 1
  rep _ _ cs n := cs = [.int .i64 n] ∧ I64 n
  len h := by rw [h.1]; rfl
  agr _ h := h
  weak _ h := h

instance : Rep Bool where
  sz := 1
  rep _ _ cs n := cs = [.bool n]
  len h := by rw [h]; rfl
  agr _ h := h
  weak _ h := h

instance : Rep (Int × Int) where
  sz := 2
  rep _ _ cs n := cs = [.int .i64 n.1, .int .i64 n.2] ∧ I64 n.1 ∧ I64 n.2
  len h := by rw [h.1]; rfl
  agr _ h := h
  weak _ h := h

instance : Rep (Int × Int × Int × Int) where
  sz := 4
  rep _ _ cs n := cs = [.int .i64 n.1, .int .i64 n.2.1, .int .i64 n.2.2.1, .int .i64 n.2.2.2] ∧ I64 n.1 ∧ I64 n.2.1 ∧ I64 n.2.2.1 ∧ I64 n.2.2.2
  len h := by rw [h.1]; rfl
  agr _ h := h
  weak _ h := h

section
variable {α : Type} [Rep α] {D D' : Nat → Prop} {w w' : World} {s : Sl} {l : List α}

theorem SlR.agr (hE : ∀ b, D b → w'.heap[b]? = w.heap[b]?) (h : SlR D w s l) : SlR D w' s l :=
  ⟨h.1, h.2.1, fun i x hx => by
    obtain ⟨a, cs, h1, h2, h3, h4⟩ := h.2.2 i x hx
    exact ⟨a, cs, h1, h2, Rep.agr hE h3, fun j v hj => by
      have hb : w'.heap[(a.add (i * Rep.sz α + j)).block]? = w.heap[(a.add (i * Rep.sz α + j)).block]? := by rw [add_block]; exact hE _ h2
      rw [World.cell?_of_block hb]; exact h4 j v hj⟩⟩

theorem SlR.weak (hD : ∀ b, D b → b < w.heap.size → D' b) (h : SlR D w s l) (hsz : 0 < Rep.sz α) : SlR D' w s l :=
  ⟨h.1, h.2.1, fun i x hx => by
    obtain ⟨a, cs, h1, h2, h3, h4⟩ := h.2.2 i x hx
    have hl : cs.length = Rep.sz α := Rep.len h3
    have hlt : a.block < w.heap.size := by
      have := cell_lt (h4 0 cs[0] (by simp))
      rwa [add_block] at this
    exact ⟨a, cs, h1, hD _ h2 hlt, Rep.weak hD h3, h4⟩⟩
end

class RepP (α : Type) extends Rep α where
  pos : 0 < sz

instance : RepP Int := ⟨by decide⟩
instance : RepP Bool := ⟨by decide⟩
instance : RepP (Int × Int) := ⟨by decide⟩
instance : RepP (Int × Int × Int × Int) := ⟨by decide⟩

instance {α : Type} [RepP α] : Rep (List α) where
  sz := 1
  rep D w cs l := ∃ s : Sl, cs = [s.v] ∧ SlR D w s l
  len h := by obtain ⟨s, rfl, _⟩ := h; rfl
  agr hE h := by obtain ⟨s, rfl, h⟩ := h; exact ⟨s, rfl, h.agr hE⟩
  weak hD h := by obtain ⟨s, rfl, h⟩ := h; exact ⟨s, rfl, h.weak hD RepP.pos⟩

instance {α : Type} [RepP α] : RepP (List α) := ⟨by show 0 < 1; decide⟩

abbrev R {α : Type} [Rep α] (w : World) (s : Sl) (l : List α) : Prop := SlR (fun _ => True) w s l

section
variable {α : Type} [RepP α] {D : Nat → Prop} {w w' : World} {s : Sl} {l : List α}

theorem SlR.any (h : SlR D w s l) : R w s l := h.weak (fun _ _ _ => trivial) RepP.pos
theorem SlR.below (h : SlR D w s l) : SlR (fun b => D b ∧ b < w.heap.size) w s l := h.weak (fun _ h1 h2 => ⟨h1, h2⟩) RepP.pos
theorem SlR.ext (hE : Ext w w') (h : SlR D w s l) : SlR D w' s l := by
  have h1 := h.below.agr (w' := w') fun b hb => hE.same hb.2
  exact h1.weak (fun _ h2 _ => h2.1) RepP.pos
theorem SlR.len (h : SlR D w s l) : s.len = l.length := h.1
theorem SlR.le (h : SlR D w s l) : l.length ≤ 9223372036854775807 := by have := h.1; have := h.2.1; omega
end

/-- The element of a slice: its address, and what lies there. -/
theorem SlR.ix {α : Type} [RepP α] {D : Nat → Prop} {w : World} {s : Sl} {l : List α} (h : SlR D w s l) {i : Int} {n : Nat} (hn : n = Rep.sz α) (h0 : 0 ≤ i) (hi : i < l.length) {K : Addr → Prop}
    (hk : ∀ p cs, Rep.rep D w cs (l[i.toNat]'(by omega)) → (∀ j v, cs[j]? = some v → w.cell? (p.add j) = some v) → K p) : IX s i n K := by
  obtain ⟨a, cs, h1, h2, h3, h4⟩ := h.2.2 i.toNat (l[i.toNat]'(by omega)) (by simp)
  refine ⟨a, h1, h0, by rw [h.1]; exact hi, hk _ cs h3 fun j v hj => ?_⟩
  subst hn
  rw [add_add]
  exact h4 j v hj

theorem SlR.ixI {D : Nat → Prop} {w : World} {s : Sl} {l : List Int} (h : SlR D w s l) {i : Nat} (hi : i < l.length) {K : Addr → Prop}
    (hk : ∀ p, I64 l[i] → w.cell? p = some (.int .i64 l[i]) → K p) : IX s i 1 K :=
  h.ix rfl (by omega) (by omega) fun p cs hr hc => by
    obtain ⟨rfl, h64⟩ := hr
    exact hk p h64 (hc 0 _ rfl)

theorem SlR.ixB {D : Nat → Prop} {w : World} {s : Sl} {l : List Bool} (h : SlR D w s l) {i : Nat} (hi : i < l.length) {K : Addr → Prop}
    (hk : ∀ p, w.cell? p = some (.bool l[i]) → K p) : IX s i 1 K :=
  h.ix rfl (by omega) (by omega) fun p cs hr hc => by
    have hr' : cs = [.bool l[i]] := hr
    subst hr'
    exact hk p (hc 0 _ rfl)

theorem SlR.ixL {α : Type} [RepP α] {D : Nat → Prop} {w : World} {s : Sl} {l : List (List α)} (h : SlR D w s l) {i : Nat} (hi : i < l.length) {K : Addr → Prop}
    (hk : ∀ p (s' : Sl), SlR D w s' l[i] → w.cell? p = some s'.v → K p) : IX s i 1 K :=
  h.ix rfl (by omega) (by omega) fun p cs hr hc => by
    obtain ⟨s', rfl, hs⟩ := hr
    exact hk p s' hs (hc 0 _ rfl)

theorem not_mem_take_succ {α : Type} {l : List α} {n : α} {i : Nat} (hi : i < l.length) (h : n ∉ l.take i) (hne : l[i] ≠ n) : n ∉ l.take (i + 1) := by
  rw [List.take_succ_eq_append_getElem hi]
  intro hm
  rcases List.mem_append.1 hm with h1 | h1
  · exact h h1
  · exact hne (List.mem_singleton.1 h1).symm

/-! ### Loops over an index -/

def IN (N : Nat) (I : Nat → World → Prop) (x : Int) (w : World) : Prop := ∃ i : Nat, x = i ∧ i ≤ N ∧ I i w
def MN (N : Nat) (x : Int) (_ : World) : Nat := N - x.toNat

theorem IN_zero {N : Nat} {I : Nat → World → Prop} {w : World} (h : I 0 w) : IN N I 0 w := ⟨0, rfl, Nat.zero_le _, h⟩

theorem IN_next {N i : Nat} {I : Nat → World → Prop} {w w' : World} (hN : N ≤ 9223372036854775807) (hi : i < N) (h : I (i + 1) w) :
    IN N I (IntKind.i64.wrap ((i : Int) + 1)) w ∧ MN N (IntKind.i64.wrap ((i : Int) + 1)) w < MN N i w' := by
  rw [wrap_of (by omega) (by omega)]
  exact ⟨⟨i + 1, by omega, hi, h⟩, by unfold MN; omega⟩

/-- A call that only computes, or that makes memory, in a region whose order is open. -/
theorem QCALL_bool {P : Program} {f : FuncId} {args : Array Value} {w : World} {K : Bool → Prop} (b : Bool)
    (h : ∀ w', Ext w w' → Calls P f args w' (Ret [.at .bool] fun (c : Bool) w'' => c = b ∧ Ext w' w'')) (hk : K b) : QCALL P f args w [.at .bool] K :=
  ⟨.bool b, [.bool b], rfl, fun w' hw => (h w' hw).mono fun e w'' he => by
    cases e with
    | returned v =>
      simp only [Ret] at he
      cases v <;> simp [unR, Sh.cells, app, At.un, atsR, botW] at he
      obtain ⟨rfl, h2⟩ := he
      exact ⟨rfl, h2⟩
    | panicked _ => exact he.elim
    | outgrown => exact he.elim, hk⟩

theorem QCALL_int {P : Program} {f : FuncId} {args : Array Value} {w : World} {K : Int → Prop} (b : Int)
    (h : ∀ w', Ext w w' → Calls P f args w' (Ret [.at (.int .i64)] fun (c : Int) w'' => c = b ∧ Ext w' w'')) (hk : K b) : QCALL P f args w [.at (.int .i64)] K :=
  ⟨.int .i64 b, [.int .i64 b], rfl, fun w' hw => (h w' hw).mono fun e w'' he => by
    cases e with
    | returned v =>
      simp only [Ret] at he
      cases v with
      | int k n =>
        cases k <;> simp [unR, Sh.cells, app, At.un, atsR, botW] at he
        obtain ⟨rfl, h2⟩ := he
        exact ⟨rfl, h2⟩
      | _ => simp [unR, Sh.cells, app, At.un, atsR, botW] at he
    | panicked _ => exact he.elim
    | outgrown => exact he.elim, hk⟩

theorem CALLV_mk {P : Program} {g : FuncId} {caps : List Value} {args : Array Value} {w : World} {R : Ending → World → Prop} (hc : callable P g = true) (h : Calls P g ⟨args.toList ++ caps⟩ w R) : CALLV P (.func (.func g) #[] ⟨caps⟩) args w R :=
  ⟨g, caps, rfl, hc, h⟩


/-! ### Branches -/

section
variable {X Y : Prop}
theorem cond_t {b : Bool} (h : b = true) (hx : X) : cond b X Y := by subst h; exact hx
theorem cond_f {b : Bool} (h : b = false) (hy : Y) : cond b X Y := by subst h; exact hy
theorem cond_b {b : Bool} (ht : b = true → X) (hf : b = false → Y) : cond b X Y := by cases b; exact hf rfl; exact ht rfl
theorem cond_not {b : Bool} (hf : b = false → X) (ht : b = true → Y) : cond (!b) X Y := by cases b; exact hf rfl; exact ht rfl
theorem cond_dec {p : Prop} [Decidable p] (ht : p → X) (hf : ¬ p → Y) : cond (decide p) X Y := by
  by_cases h : p
  · rw [decide_eq_true h]; exact ht h
  · rw [decide_eq_false h]; exact hf h
theorem cond_dt {p : Prop} [Decidable p] (h : p) (hx : X) : cond (decide p) X Y := by rw [decide_eq_true h]; exact hx
theorem cond_df {p : Prop} [Decidable p] (h : ¬ p) (hy : Y) : cond (decide p) X Y := by rw [decide_eq_false h]; exact hy
theorem cond_eq {a b : Int} (ht : a = b → X) (hf : a ≠ b → Y) : cond (a == b) X Y := by
  by_cases h : a = b
  · rw [beq_iff_eq.2 h]; exact ht h
  · rw [beq_eq_false_iff_ne.2 h]; exact hf h
theorem cond_ne {a b : Int} (ht : a ≠ b → X) (hf : a = b → Y) : cond (a != b) X Y := by
  by_cases h : a = b
  · rw [bne_eq_false_iff_eq.2 h]; exact hf h
  · rw [bne_iff_ne.2 h]; exact ht h
end

/-! ### Small builtins -/

theorem RUN_min {P : Program} {t : TypeId} {ts : Array TypeId} {x y : Int} {w : World} {K : Int → World → Prop} (h : K (if y < x then y else x) w) : RUN P (.at (.int .i64)) (bsem .min ts t #[.int .i64 x, .int .i64 y]) w K := h
theorem RUN_max {P : Program} {t : TypeId} {ts : Array TypeId} {x y : Int} {w : World} {K : Int → World → Prop} (h : K (if x < y then y else x) w) : RUN P (.at (.int .i64)) (bsem .max ts t #[.int .i64 x, .int .i64 y]) w K := h


theorem Ret_bool {Q : Bool → World → Prop} {e : Ending} {w : World} (h : Ret [.at .bool] Q e w) : ∃ b, e = .returned (.bool b) ∧ Q b w := by
  cases e with
  | returned v =>
    simp only [Ret] at h
    cases v <;> simp [unR, Sh.cells, app, At.un, atsR, botW] at h
    exact ⟨_, rfl, h⟩
  | panicked _ => exact h.elim
  | outgrown => exact h.elim


/-! ### Slices of the call's own -/

/-- What is asked of a slice type: its elements' type, their cells and bytes, their zero value. -/
structure SlT (P : Program) (t e : TypeId) (size bytes : Nat) (z : Value) : Prop where
  under : P.underlying t = some (.slice e)
  info : (P.info? e).map (fun i => (i.zero, i.size, i.bytes)) = some (some z, size, bytes)
  zs : z.cells.size = size
  pos : 0 < size

theorem SlT.parts {P : Program} {t e : TypeId} {size bytes : Nat} {z : Value} (h : SlT P t e size bytes z) : ∃ i, P.info? e = some i ∧ i.zero = some z ∧ i.size = size ∧ i.bytes = bytes := by
  have := h.info
  cases hi : P.info? e with
  | none => rw [hi] at this; cases this
  | some i => rw [hi] at this; simp at this; exact ⟨i, rfl, this.1, this.2.1, this.2.2⟩

/-- The slice s is the call's own: its cells. -/
def Own (w : World) (base : Nat) (e : TypeId) (size : Nat) (s : Sl) (xs : List Value) : Prop := w.ownsRow base e size s.v s.len xs

theorem Own.nil (w : World) (base : Nat) (e : TypeId) (size : Nat) : Own w base e size ⟨none, 0, 0⟩ [] := World.ownsRow_nil w base e size

theorem Own.length {w : World} {base : Nat} {e : TypeId} {size : Nat} {s : Sl} {xs : List Value} (h : Own w base e size s xs) : xs.length = s.len * size := h.1

/-- What is behind a step that may write to one block of the call's own, and may make blocks. -/
structure Step (w w' : World) (g : Option Nat) : Prop where
  os : w'.os = w.os
  tape : w'.tape = w.tape
  output : w'.output = w.output
  size : w.heap.size ≤ w'.heap.size
  block : ∀ k, k < w.heap.size → some k ≠ g → w'.heap[k]? = w.heap[k]?

theorem Step.of_grown {w w' : World} {g : Option Nat} (h : w.grownBy w' g) : Step w w' g := ⟨h.os, h.tape, h.output, h.size, h.block⟩
theorem Step.ext {w w' : World} (h : Step w w' none) : Ext w w' := ⟨h.os, h.tape, h.output, h.size, fun k hk => h.block k hk (by simp)⟩
theorem Step.of_ext {w w' : World} (h : Ext w w') (g : Option Nat) : Step w w' g := ⟨h.os, h.tape, h.output, h.size, fun k hk _ => h.block k hk⟩
theorem Step.ext0 {w0 w w' : World} {g : Option Nat} (h : Step w w' g) (hE : Ext w0 w) (hg : ∀ k, g = some k → w0.heap.size ≤ k) : Ext w0 w' :=
  ⟨h.os.trans hE.os, h.tape.trans hE.tape, h.output.trans hE.output, Nat.le_trans hE.size h.size, fun k hk => (h.block k (Nat.lt_of_lt_of_le hk hE.size) (fun e => by have := hg k e.symm; omega)).trans (hE.block k hk)⟩

theorem Step.trans {a b c : World} {g : Option Nat} (h : Step a b g) (k : Step b c g) : Step a c g :=
  ⟨k.os.trans h.os, k.tape.trans h.tape, k.output.trans h.output, Nat.le_trans h.size k.size, fun b hb hne => (k.block b (Nat.lt_of_lt_of_le hb h.size) hne).trans (h.block b hb hne)⟩

theorem Step.refl (w : World) (g : Option Nat) : Step w w g := ⟨rfl, rfl, rfl, Nat.le_refl _, fun _ _ _ => rfl⟩

theorem Own.blk {w : World} {base : Nat} {e : TypeId} {size : Nat} {s : Sl} {xs : List Value} (h : Own w base e size s xs) : ∀ k, s.v.ownBlock = some k → base ≤ k ∧ k < w.heap.size := World.ownsRow.lt h

theorem Own.keep {w w' : World} {base : Nat} {e : TypeId} {size : Nat} {s : Sl} {xs : List Value} (h : Own w base e size s xs) (hb : ∀ k, s.v.ownBlock = some k → w'.heap[k]? = w.heap[k]?) : Own w' base e size s xs := by
  refine ⟨h.1, ?_⟩
  rcases h.2 with hn | ⟨g, cap, cur, hv, hb', hg, rest⟩
  · exact .inl hn
  · refine .inr ⟨g, cap, cur, hv, hb', ?_, rest⟩
    rw [hb g (by rw [hv]; rfl)]; exact hg

theorem Own.ext {w w' : World} {base : Nat} {e : TypeId} {size : Nat} {s : Sl} {xs : List Value} (h : Own w base e size s xs) (hE : Ext w w') : Own w' base e size s xs :=
  h.keep fun k hk => hE.same (h.blk k hk).2

class Flat (α : Type) extends RepP α where
  cells : α → List Value
  ok : α → Prop
  size : ∀ a, (cells a).length = sz
  one : ∀ a, ∀ v ∈ cells a, v.oneCell' = true
  repOk : ∀ {D w a}, ok a → rep D w (cells a) a
  ofRep : ∀ {D w cs a}, rep D w cs a → cs = cells a ∧ ok a

instance : Flat Int where
  cells n := [.int .i64 n]
  ok n := I64 n
  size _ := rfl
  one _ v hv := by simp at hv; subst hv; rfl
  repOk h := ⟨rfl, h⟩
  ofRep h := ⟨h.1, h.2⟩

instance : Flat Bool where
  cells n := [.bool n]
  ok _ := True
  size _ := rfl
  one _ v hv := by simp at hv; subst hv; rfl
  repOk _ := rfl
  ofRep h := ⟨h, trivial⟩

instance : Flat (Int × Int) where
  cells n := [.int .i64 n.1, .int .i64 n.2]
  ok n := I64 n.1 ∧ I64 n.2
  size _ := rfl
  one _ v hv := by simp at hv; rcases hv with rfl | rfl <;> rfl
  repOk h := ⟨rfl, h⟩
  ofRep h := ⟨h.1, h.2⟩

instance : Flat (Int × Int × Int × Int) where
  cells n := [.int .i64 n.1, .int .i64 n.2.1, .int .i64 n.2.2.1, .int .i64 n.2.2.2]
  ok n := I64 n.1 ∧ I64 n.2.1 ∧ I64 n.2.2.1 ∧ I64 n.2.2.2
  size _ := rfl
  one _ v hv := by simp at hv; rcases hv with rfl | rfl | rfl | rfl <;> rfl
  repOk h := ⟨rfl, h⟩
  ofRep h := ⟨h.1, h.2⟩

/-- The call's own slice s holds the list l. -/
def OwnL {α : Type} [Flat α] (w : World) (base : Nat) (e : TypeId) (s : Sl) (l : List α) : Prop :=
  s.len = l.length ∧ Own w base e (Rep.sz α) s (l.flatMap Flat.cells)

section
variable {α : Type} [Flat α] {w w' : World} {base : Nat} {e : TypeId} {s : Sl} {l : List α}

theorem flat_get (l : List α) {i j : Nat} {x : α} {v : Value} (hx : l[i]? = some x) (hv : (Flat.cells x)[j]? = some v) : (l.flatMap Flat.cells)[i * Rep.sz α + j]? = some v := by
  induction l generalizing i with
  | nil => cases hx
  | cons y r ih =>
    simp only [List.flatMap_cons]
    cases i with
    | zero =>
      simp at hx; subst hx
      have hlt := (List.getElem?_eq_some_iff.1 hv).1
      rw [List.getElem?_append_left (by simpa using hlt)]
      simpa using hv
    | succ i =>
      have hl : (Flat.cells y).length = Rep.sz α := Flat.size y
      rw [List.getElem?_append_right (by rw [hl, Nat.succ_mul]; omega), hl, show (i + 1) * Rep.sz α + j - Rep.sz α = i * Rep.sz α + j by rw [Nat.succ_mul]; omega]
      exact ih (by simpa using hx)

theorem OwnL.ext (h : OwnL w base e s l) (hE : Ext w w') : OwnL w' base e s l := ⟨h.1, h.2.ext hE⟩
theorem OwnL.keep (h : OwnL w base e s l) (hb : ∀ k, s.v.ownBlock = some k → w'.heap[k]? = w.heap[k]?) : OwnL w' base e s l := ⟨h.1, h.2.keep hb⟩
theorem OwnL.blk (h : OwnL w base e s l) : ∀ k, s.v.ownBlock = some k → base ≤ k ∧ k < w.heap.size := h.2.blk
theorem OwnL.nil (w : World) (base : Nat) (e : TypeId) : OwnL w base e ⟨none, 0, 0⟩ ([] : List α) := ⟨rfl, Own.nil _ _ _ _⟩

/-- What is owned reads as a list. -/
theorem OwnL.rep (h : OwnL w base e s l) (hok : ∀ x ∈ l, Flat.ok x) : SlR (fun b => base ≤ b) w s l := by
  obtain ⟨h1, h2⟩ := h
  refine ⟨h1, ?_, fun i x hx => ?_⟩
  · rcases h2.2 with ⟨hv, h0⟩ | ⟨g, cap, cur, hv, _, _, hle, hmx, _⟩
    · simp [Sl.v] at hv; omega
    · simp [Sl.v] at hv; obtain ⟨_, rfl⟩ := hv; exact ⟨hle, hmx⟩
  · rcases h2.2 with ⟨hv, h0⟩ | ⟨g, cap, cur, hv, hb, hg, hle, _, hsz, htake⟩
    · rw [h0] at h1; have : l = [] := by cases l; rfl; simp at h1
      subst this; cases hx
    · simp [Sl.v] at hv
      obtain ⟨ha, rfl⟩ := hv
      refine ⟨⟨g, 0, none⟩, Flat.cells x, ha, hb, Flat.repOk (hok x (List.mem_of_getElem? hx)), fun j v hj => ?_⟩
      have hown : w.ownsRow base e (Rep.sz α) s.v s.len (l.flatMap Flat.cells) := h2
      exact World.ownsRow.cells hown (g := g) (by simp [Sl.v, ha, Value.ownBlock]) _ v (flat_get l hx hj)

/-- The place of an element. -/
def Plc (s : Sl) (i size : Nat) (p : Addr) : Prop := ∃ a, s.a = some a ∧ p = a.add (i * size)

theorem IX_own (h : OwnL w base e s l) {i : Nat} (hi : i < l.length) {n : Nat} (hn : n = Rep.sz α) {K : Addr → Prop} (hk : ∀ p, Plc s i (Rep.sz α) p → K p) : IX s i n K := by
  subst hn
  rcases h.2.2 with ⟨hv, h0⟩ | ⟨g, cap, cur, hv, _⟩
  · rw [h.1] at h0; omega
  · simp [Sl.v] at hv
    exact ⟨_, hv.1, by omega, by rw [h.1]; omega, hk _ ⟨_, hv.1, by simp⟩⟩

end

theorem setMany_own {base : Nat} {e : TypeId} {size : Nat} {g n cap : Nat} : ∀ (vs : List Value) (i : Nat) (xs : List Value) (w : World) (K : World → Prop),
    w.ownsRow base e size (.slice (some ⟨g, 0, none⟩) n cap) n xs → (∀ v ∈ vs, v.oneCell' = true) → i + vs.length ≤ xs.length →
    (∀ w', w'.ownsRow base e size (.slice (some ⟨g, 0, none⟩) n cap) n (xs.take i ++ vs ++ xs.drop (i + vs.length)) → Step w w' (some g) → K w') → ∀ (a : Addr) (k : Nat), a.add k = ⟨g, i, none⟩ → ST a k vs w K
  | [], i, xs, w, K, h, _, hl, hk, a, k, _ => by
    refine hk w (by simpa using h) ⟨rfl, rfl, rfl, Nat.le_refl _, fun _ _ _ => rfl⟩
  | v :: vs, i, xs, w, K, h, h1, hl, hk, a, k, ha => by
    have hil : i < xs.length := by simp at hl; omega
    have hin : i < n * size := by rw [← h.1]; exact hil
    refine ⟨h1 v (by simp), ⟨xs[i], ?_⟩, ?_, ?_⟩
    · rw [ha, h.cellAt i hin]; simp [hil]
    · rw [ha]; exact h.frozenAt i
    · rw [ha]
      obtain ⟨hst, hgr⟩ := h.stored i v
      have hak : a.add (k + 1) = ⟨g, i + 1, none⟩ := by rw [← add_add, ha]; rfl
      refine setMany_own vs (i + 1) (xs.set i v) _ K hst (fun u hu => h1 u (by simp [hu])) (by simp at hl ⊢; omega) (fun w' hw' hs' => hk w' ?_ ?_) a (k + 1) hak
      · have e1 : (xs.set i v).take (i + 1) ++ vs ++ (xs.set i v).drop (i + 1 + vs.length) = xs.take i ++ v :: vs ++ xs.drop (i + (v :: vs).length) := by
          rw [List.drop_set_of_lt (by omega), List.take_set, List.take_succ_eq_append_getElem hil, List.set_append_right _ _ (by simp; omega)]
          simp [Nat.min_eq_left (Nat.le_of_lt hil), Nat.add_assoc, Nat.add_comm 1]
        rw [← e1]; exact hw'
      · refine ⟨hs'.os.trans hgr.os, hs'.tape.trans hgr.tape, hs'.output.trans hgr.output, Nat.le_trans hgr.size hs'.size, fun b hb hne => ?_⟩
        rw [hs'.block b (Nat.lt_of_lt_of_le hb hgr.size) hne, hgr.block b hb hne]

theorem flat_set {α : Type} [Flat α] (l : List α) {i : Nat} (hi : i < l.length) (x : α) :
    (l.set i x).flatMap Flat.cells = (l.flatMap Flat.cells).take (i * Rep.sz α) ++ Flat.cells x ++ (l.flatMap Flat.cells).drop (i * Rep.sz α + (Flat.cells x).length) := by
  have hl : ∀ y : α, (Flat.cells y).length = Rep.sz α := Flat.size
  induction l generalizing i with
  | nil => simp at hi
  | cons y r ih =>
    cases i with
    | zero => simp [hl]
    | succ i =>
      have := ih (i := i) (by simpa using hi)
      simp only [List.set_cons_succ, List.flatMap_cons, this, hl]
      rw [show (i + 1) * Rep.sz α = Rep.sz α + i * Rep.sz α by rw [Nat.succ_mul, Nat.add_comm]]
      have e1 : (Flat.cells y ++ List.flatMap Flat.cells r).take (Rep.sz α + i * Rep.sz α) = Flat.cells y ++ (List.flatMap Flat.cells r).take (i * Rep.sz α) := by
        rw [← hl y, List.take_length_add_append]
      have e2 : (Flat.cells y ++ List.flatMap Flat.cells r).drop (Rep.sz α + i * Rep.sz α + Rep.sz α) = (List.flatMap Flat.cells r).drop (i * Rep.sz α + Rep.sz α) := by
        rw [Nat.add_assoc, ← hl y, List.drop_length_add_append]
      rw [e1, e2]
      simp

section
variable {α : Type} [Flat α] {w w' : World} {base : Nat} {e : TypeId} {s : Sl} {l : List α}

/-- A store into the call's own slice. -/
theorem ST_own (h : OwnL w base e s l) {i : Nat} (hi : i < l.length) {p : Addr} (hp : Plc s i (Rep.sz α) p) (x : α) {vs : List Value} (hvs : vs = Flat.cells x) {K : World → Prop}
    (hk : ∀ w', OwnL w' base e s (l.set i x) → Step w w' s.v.ownBlock → K w') : ST p 0 vs w K := by
  subst hvs
  obtain ⟨a, ha, rfl⟩ := hp
  rcases h.2.2 with ⟨hv, h0⟩ | ⟨g, cap, cur, hv, _⟩
  · rw [h.1] at h0; omega
  · have hv' := hv
    simp [Sl.v] at hv
    obtain ⟨hsa, rfl⟩ := hv
    rw [hsa] at ha; cases ha
    have hown : w.ownsRow base e (Rep.sz α) (.slice (some ⟨g, 0, none⟩) s.len s.cap) s.len (l.flatMap Flat.cells) := by
      have := h.2; unfold Own at this; rw [hv'] at this; exact this
    have hlen : (l.flatMap Flat.cells).length = l.length * Rep.sz α := by have := h.2.length; rwa [h.1] at this
    have hcl : (Flat.cells x).length = Rep.sz α := Flat.size x
    refine setMany_own (Flat.cells x) (i * Rep.sz α) _ w K hown (Flat.one x) ?_ (fun w' hw' hs => hk w' ⟨by simp [h.1], ?_⟩ (by rw [hv']; exact hs)) _ 0 (by rw [add_zero']; simp only [Addr.add]; split <;> simp_all)
    · rw [hlen, hcl]
      have : (i + 1) * Rep.sz α ≤ l.length * Rep.sz α := Nat.mul_le_mul_right _ hi
      rw [Nat.succ_mul] at this; omega
    · unfold Own
      rw [hv', flat_set l hi x]
      exact hw'
end

/-- make([]T, n). -/
theorem RUN_make {α : Type} [Flat α] {P : Program} {t e : TypeId} {bytes : Nat} {z : Value} {d : α} (hT : SlT P t e (Rep.sz α) bytes z) (hz : z.cells.toList = Flat.cells d) {n : Nat} (hb : bytes * n ≤ 281474976710656) (h63 : n ≤ maxLen) {w : World} {K : Sl → World → Prop}
    (hk : ∀ s w', Ext w w' → OwnL w' w.heap.size e s (List.replicate n d) → K s w') : RUN P (.at .sl) (Instr.makeSlice t (.int .i64 (n : Int)) (.int .i64 (n : Int))) w K := by
  obtain ⟨i, hi, hz0, hs, hby⟩ := hT.parts
  obtain ⟨w', hr, hown, hg⟩ := run_make_full (P := P) w w.heap.size t e i z (Rep.sz α) hT.under hi hz0 hs .i64 .i64 n (by rw [hby]; exact hb) h63 (Nat.le_refl _)
  unfold RUN
  rw [hr]
  refine hk ⟨some ⟨w.heap.size, 0, none⟩, n, n⟩ w' (Step.of_grown hg).ext ⟨by simp, ?_⟩
  unfold Own
  have hcells : (madeCells z.cells (n * Rep.sz α)).toList = (List.replicate n d).flatMap Flat.cells := by
    have hsz : z.cells.size = Rep.sz α := hT.zs
    have hpos := hT.pos
    apply List.ext_getElem?
    intro j
    by_cases hj : j < n * Rep.sz α
    · have hlt : j % Rep.sz α < Rep.sz α := Nat.mod_lt _ hpos
      have hdl : (Flat.cells d).length = Rep.sz α := Flat.size d
      have h1 : (List.replicate n d)[j / Rep.sz α]? = some d := by
        rw [List.getElem?_replicate, if_pos ((Nat.div_lt_iff_lt_mul hpos).2 hj)]
      have h2 : (Flat.cells d)[j % Rep.sz α]? = some (Flat.cells d)[j % Rep.sz α] := by simp [hdl, hlt]
      have h3 := flat_get (List.replicate n d) h1 h2
      rw [Nat.div_add_mod' j (Rep.sz α)] at h3
      rw [h3]
      simp only [madeCells]
      simp [hj, hsz]
      have : z.cells[j % Rep.sz α]! = (Flat.cells d)[j % Rep.sz α] := by
        have hh : j % Rep.sz α < z.cells.size := by rw [hsz]; exact hlt
        rw [getElem!_pos z.cells _ hh]
        have : z.cells[j % Rep.sz α] = z.cells.toList[j % Rep.sz α]'(by simpa using hh) := by simp
        rw [this]
        simp only [hz]
      exact this
    · have hl2 : ((List.replicate n d).flatMap Flat.cells).length = n * Rep.sz α := by
        have : ∀ m, ((List.replicate m d).flatMap Flat.cells).length = m * Rep.sz α := by
          intro m
          induction m with
          | zero => simp
          | succ m ih => rw [List.replicate_succ, List.flatMap_cons, List.length_append, ih, Flat.size d, Nat.succ_mul, Nat.add_comm]
        exact this n
      rw [List.getElem?_eq_none (by simp [madeCells]; omega), List.getElem?_eq_none (by rw [hl2]; omega)]
  show w'.ownsRow w.heap.size e (Rep.sz α) (.slice (some ⟨w.heap.size, 0, none⟩) n n) n _
  rw [← hcells]
  exact hown


/-! ### Literals and append -/

theorem foldl_sets : ∀ (l : List Value) (k : Nat) (ys : List Value), k + l.length ≤ ys.length →
    (l.zipIdx k).foldl (fun (cs : List Value) x => cs.set (0 + x.2) x.1) ys = ys.take k ++ l ++ ys.drop (k + l.length)
  | [], k, ys, h => by simp
  | v :: l, k, ys, h => by
    have hk : k < ys.length := by simp at h; omega
    simp only [List.zipIdx_cons, List.foldl_cons]
    rw [foldl_sets l (k + 1) _ (by simp at h ⊢; omega)]
    rw [Nat.zero_add, List.drop_set_of_lt (by omega), List.take_set, List.take_succ_eq_append_getElem hk, List.set_append_right _ _ (by simp; omega)]
    simp [Nat.min_eq_left (Nat.le_of_lt hk), Nat.add_assoc, Nat.add_comm 1]

theorem fill_one (arr : Array Value) (v : Value) (sz : Nat) (h1 : arr.size = sz) (h2 : v.cells.size = sz) : Instr.fill (fun i => some (i * sz, sz)) arr [(0, v)] = some v.cells := by
  simp only [Instr.fill, Nat.zero_mul]
  rw [if_neg (by simp [h1, h2])]
  congr 1
  apply Array.ext'
  rw [← Array.foldl_toList]
  have : ∀ (l : List (Value × Nat)) (a : Array Value), (l.foldl (fun (cs : Array Value) x => cs.setIfInBounds (0 + x.2) x.1) a).toList = l.foldl (fun (cs : List Value) x => cs.set (0 + x.2) x.1) a.toList := by
    intro l
    induction l with
    | nil => intro a; rfl
    | cons x r ih => intro a; simp only [List.foldl_cons]; rw [ih]; simp
  have e : v.cells.zipIdx.toList = v.cells.toList.zipIdx 0 := by simp
  rw [e, this, foldl_sets _ _ _ (by simp; omega)]
  simp
  omega

/-- A literal of one element: []T{x}. -/
theorem RUN_lit1 {α : Type} [Flat α] {P : Program} {t e : TypeId} {bytes : Nat} {z v : Value} (hT : SlT P t e (Rep.sz α) bytes z) (x : α) (hv : v.cells.toList = Flat.cells x) (hs : Rep.sz α ≤ 1000) {w : World} {K : Sl → World → Prop}
    (hk : ∀ s w', Ext w w' → OwnL w' w.heap.size e s [x] → K s w') : RUN P (.at .sl) (Instr.buildSlice t 1 #[(0, v)]) w K := by
  obtain ⟨i, hi, hz0, hsz, hby⟩ := hT.parts
  have hvs : v.cells.size = Rep.sz α := by rw [← Array.length_toList, hv, Flat.size]
  have hr := run_buildSlice (P := P) w t e 1 #[(0, v)] v.cells i z hT.under hi hz0 (by rw [hsz]; omega) (by rw [hsz]; have := hT.pos; omega) (by rw [hsz]; exact fill_one _ v _ (by simp) hvs)
  unfold RUN
  rw [hr]
  refine hk ⟨some ⟨w.heap.size, 0, none⟩, 1, 1⟩ _ (ext_push w _) ⟨rfl, ?_⟩
  have := World.ownsRow_lit (base := w.heap.size) (e := e) (size := Rep.sz α) w v.cells 1 (Nat.le_refl _) (by unfold maxLen; omega) (by rw [hvs]; omega)
  unfold Own
  simpa [hv] using this

/-- The cells of a slice that reads as a list. -/
theorem SlR.flat {α : Type} [Flat α] {D : Nat → Prop} {w : World} {y : Sl} {m : List α} (h : SlR D w y m) {a : Addr} (ha : y.a = some a) : ∀ j u, (m.flatMap Flat.cells)[j]? = some u → w.cell? (a.add j) = some u := by
  intro j u hu
  have hpos : 0 < Rep.sz α := RepP.pos
  have hlen : (m.flatMap Flat.cells).length = m.length * Rep.sz α := by
    clear hu h
    induction m with
    | nil => simp
    | cons x r ih => rw [List.flatMap_cons, List.length_append, ih, Flat.size x, List.length_cons, Nat.succ_mul, Nat.add_comm]
  have hj : j < m.length * Rep.sz α := by rw [← hlen]; exact (List.getElem?_eq_some_iff.1 hu).1
  have hi : j / Rep.sz α < m.length := (Nat.div_lt_iff_lt_mul hpos).2 hj
  obtain ⟨a', cs, ha', _, hr, hc⟩ := h.2.2 (j / Rep.sz α) m[j / Rep.sz α] (by simp [hi])
  rw [ha] at ha'; cases ha'
  obtain ⟨rfl, _⟩ := Flat.ofRep hr
  have hmod : j % Rep.sz α < (Flat.cells m[j / Rep.sz α]).length := by rw [Flat.size]; exact Nat.mod_lt _ hpos
  have h2 : (Flat.cells m[j / Rep.sz α])[j % Rep.sz α]? = some (Flat.cells m[j / Rep.sz α])[j % Rep.sz α] := by simp [hmod]
  have h3 := flat_get m (i := j / Rep.sz α) (by simp [hi]) h2
  rw [Nat.div_add_mod' j (Rep.sz α), hu] at h3
  cases h3
  have := hc _ _ h2
  rwa [Nat.div_add_mod' j (Rep.sz α)] at this

/-- What a slice became by appending lies in the same block or in a new one. -/
def NewOr (w : World) (s s' : Sl) : Prop := s'.v.ownBlock = s.v.ownBlock ∨ ∀ k, s'.v.ownBlock = some k → w.heap.size ≤ k

/-- append(s, y...) on a slice of the call's own; what is appended reads as a list. -/
theorem RUN_appendF {α : Type} [Flat α] {P : Program} {t e : TypeId} {bytes : Nat} {z : Value} (hT : SlT P t e (Rep.sz α) bytes z) {w : World} {base : Nat} {s y : Sl} {l m : List α} (h : OwnL w base e s l) (hbase : base ≤ w.heap.size)
    {D : Nat → Prop} (hy : SlR D w y m) (hlen : (l.length + m.length) * bytes ≤ 140737488355328) (hmax : l.length + m.length ≤ maxLen) {K : Sl → World → Prop}
    (hk : ∀ s' w', OwnL w' base e s' (l ++ m) → Step w w' s.v.ownBlock → NewOr w s s' → K s' w') : RUN P (.at .sl) (bsem .append #[t, t] t #[s.v, y.v]) w K := by
  obtain ⟨i, hi, hz0, hsz, hby⟩ := hT.parts
  have hyl : (m.flatMap Flat.cells).length = m.length * Rep.sz α := by
    clear hy hlen hmax hk
    induction m with
    | nil => simp
    | cons x r ih => rw [List.flatMap_cons, List.length_append, ih, Flat.size x, List.length_cons, Nat.succ_mul, Nat.add_comm]
  have hone : ∀ u ∈ m.flatMap Flat.cells, u.oneCell' = true := by
    intro u hu
    obtain ⟨x, _, hx⟩ := List.mem_flatMap.1 hu
    exact Flat.one x u hx
  have hown : w.ownsRow base e (Rep.sz α) s.v l.length (l.flatMap Flat.cells) := by have := h.2; unfold Own at this; rwa [h.1] at this
  have fin : ∀ v' w', (Builtin.append_ #[t, t] t #[s.v, y.v]).run P w = .ok v' w' → w'.ownsRow base e (Rep.sz α) v' (l.length + m.length) (l.flatMap Flat.cells ++ m.flatMap Flat.cells) → Step w w' s.v.ownBlock → (v'.ownBlock = s.v.ownBlock ∨ ∀ k, v'.ownBlock = some k → w.heap.size ≤ k) → RUN P (.at .sl) (bsem .append #[t, t] t #[s.v, y.v]) w K := by
    intro v' w' hr ho hst hnw
    have hsl : ∃ s' : Sl, v' = s'.v ∧ s'.len = l.length + m.length := by
      rcases ho.2 with ⟨rfl, h0⟩ | ⟨g', cap', cur', rfl, _⟩
      · exact ⟨⟨none, 0, 0⟩, rfl, h0.symm⟩
      · exact ⟨⟨some ⟨g', 0, none⟩, l.length + m.length, cap'⟩, rfl, rfl⟩
    obtain ⟨s', rfl, hs'⟩ := hsl
    unfold RUN
    show (match (Builtin.append_ #[t, t] t #[s.v, y.v]).run P w with | .ok v w' => _ | .halt _ _ => False)
    rw [hr]
    refine hk s' w' ⟨by simp [hs'], ?_⟩ hst hnw
    unfold Own
    rw [hs', List.flatMap_append]
    exact ho
  cases hya : y.a with
  | none =>
    have hm : m = [] := by
      cases m with
      | nil => rfl
      | cons x r => obtain ⟨a, _, ha, _⟩ := hy.2.2 0 x rfl; rw [hya] at ha; cases ha
    subst hm
    have hyv : y.v = .slice none 0 y.cap := by have := hy.1; simp at this; simp [Sl.v, hya, this]
    refine fin s.v w ?_ (by simpa using hown) (Step.refl _ _) (.inl rfl)
    rw [hyv]
    obtain ⟨sa, sl, sc⟩ := s
    have hle : sl ≤ sc := by
      rcases hown.2 with ⟨h0, h1⟩ | ⟨g, cap, cur, h0, _, _, h1, _⟩
      · simp [Sl.v] at h0; omega
      · simp [Sl.v] at h0; omega
    cases sa <;> simp [Builtin.append_, underlying_run hT.under, sizeOf_run hi, Builtin.lenOf, hle, Builtin.firstCells, storeCells]
  | some a =>
    have hyv : y.v = .slice (some a) m.length y.cap := by rw [← hy.1]; simp [Sl.v, hya]
    obtain ⟨v', w', hr, ho, hg, _⟩ := run_append_own (P := P) w base t t e i z (Rep.sz α) bytes hT.under hi hz0 hsz hby hT.zs hT.pos s.v l.length _ hown a m.length y.cap (m.flatMap Flat.cells) hyl (hy.flat hya) hone hmax hlen hbase
    refine fin v' w' (by rw [hyv]; exact hr) ho (Step.of_grown hg) ?_
    rcases hown.2 with ⟨h0, h1⟩ | ⟨g, cap, cur, h0, hbg, hgg, hnc, hcm, hcs, htake⟩
    · right
      have hown' : w.ownsRow w.heap.size e (Rep.sz α) s.v l.length (l.flatMap Flat.cells) := ⟨hown.1, .inl ⟨h0, h1⟩⟩
      obtain ⟨v2, w2, hr2, ho2, _⟩ := run_append_own (P := P) w w.heap.size t t e i z (Rep.sz α) bytes hT.under hi hz0 hsz hby hT.zs hT.pos s.v l.length _ hown' a m.length y.cap (m.flatMap Flat.cells) hyl (hy.flat hya) hone hmax hlen (Nat.le_refl _)
      rw [hr] at hr2
      cases hr2
      exact fun k hk => (World.ownsRow.lt ho2 k hk).1
    · have hyl' : (m.flatMap Flat.cells).length = m.length * i.size := by rw [hsz]; exact hyl
      have hol' : (l.flatMap Flat.cells).length = l.length * i.size := by rw [hsz]; exact hown.1
      subst hby
      rw [h0] at hr ⊢
      by_cases hroom : l.length + m.length ≤ cap
      · left
        have hr2 := run_append_room (P := P) w t t e i hT.under hi g l.length cap cur hgg a m.length y.cap (m.flatMap Flat.cells) hyl' (hy.flat hya) hone hroom (by rw [hyl, hcs, hsz, ← Nat.add_mul]; exact Nat.mul_le_mul_right _ hroom)
        rw [hr] at hr2
        cases hr2
        rfl
      · right
        have hr2 := run_append_grow (P := P) w t t e i z hT.under hi hz0 ⟨g, 0, none⟩ l.length cap (l.flatMap Flat.cells) hol' (hown.cells (g := g) (by rw [h0]; rfl)) a m.length y.cap (m.flatMap Flat.cells) hyl' (hy.flat hya) (by omega) (by simp only [maxLen] at hmax; omega) (growslice_fits (by simp only [maxLen] at hmax; omega) hlen)
        rw [hr] at hr2
        cases hr2
        intro k hk
        simp [Value.ownBlock] at hk
        omega

theorem RUN_append {α : Type} [Flat α] {P : Program} {t e : TypeId} {bytes : Nat} {z : Value} (hT : SlT P t e (Rep.sz α) bytes z) {w : World} {base : Nat} {s y : Sl} {l m : List α} (h : OwnL w base e s l) (hbase : base ≤ w.heap.size)
    {D : Nat → Prop} (hy : SlR D w y m) (hlen : (l.length + m.length) * bytes ≤ 140737488355328) (hmax : l.length + m.length ≤ maxLen) {K : Sl → World → Prop}
    (hk : ∀ s' w', OwnL w' base e s' (l ++ m) → Step w w' s.v.ownBlock → K s' w') : RUN P (.at .sl) (bsem .append #[t, t] t #[s.v, y.v]) w K :=
  RUN_appendF hT h hbase hy hlen hmax fun s' w' h1 h2 _ => hk s' w' h1 h2

/-- An empty literal: []T{}. -/
theorem RUN_lit0 {α : Type} [Flat α] {P : Program} {t e : TypeId} {bytes : Nat} {z : Value} (hT : SlT P t e (Rep.sz α) bytes z) {w : World} {K : Sl → World → Prop}
    (hk : ∀ s w', Ext w w' → OwnL w' w.heap.size e s ([] : List α) → K s w') : RUN P (.at .sl) (Instr.buildSlice t 0 #[]) w K := by
  obtain ⟨i, hi, hz0, hsz, hby⟩ := hT.parts
  have hr : (Instr.buildSlice t 0 #[]).run P w = .ok (.slice (some ⟨w.heap.size, 0, none⟩) 0 0) { w with heap := w.heap.push (.cells #[] e) } := by
    simp [Instr.buildSlice, underlying_run hT.under, sizeOf_run hi, Instr.fill, newRow, newObj, Sem.run]
    have : (Array.range 0) = #[] := rfl
    rw [this]; simp
  unfold RUN
  rw [hr]
  refine hk ⟨some ⟨w.heap.size, 0, none⟩, 0, 0⟩ _ (ext_push w _) ⟨rfl, ?_⟩
  have := World.ownsRow_lit (base := w.heap.size) (e := e) (size := Rep.sz α) w #[] 0 (Nat.le_refl _) (by unfold maxLen; omega) (by simp)
  unfold Own
  simpa using this

/-- A slice's first elements. -/
theorem SlR.take {α : Type} [RepP α] {D : Nat → Prop} {w : World} {s : Sl} {l : List α} (h : SlR D w s l) {i : Nat} (hi : i ≤ l.length) {sz : Nat} (_ : sz = Rep.sz α) {K : Sl → Prop} (hk : ∀ s', SlR D w s' (l.take i) → K s') : SLC s none (some (i : Int)) sz K := by
  have h1 := h.1
  have h2 := h.2.1
  refine ⟨by simp, by simp, by simp; omega, hk _ ⟨by simp; omega, by simp; omega, fun j x hx => ?_⟩⟩
  rw [List.getElem?_take] at hx
  split at hx
  · obtain ⟨a, cs, ha, hb, hr, hc⟩ := h.2.2 j x hx
    refine ⟨a, cs, ?_, hb, hr, hc⟩
    simp [ha, add_zero']
  · cases hx

/-- Slices as elements. -/
instance : Rep Sl where
  sz := 1
  rep _ _ cs s := cs = [s.v]
  len h := by rw [h]; rfl
  agr _ h := h
  weak _ h := h
instance : RepP Sl := ⟨by decide⟩
instance : Flat Sl where
  cells s := [s.v]
  ok _ := True
  size _ := rfl
  one _ v hv := by simp at hv; subst hv; rfl
  repOk _ := rfl
  ofRep h := ⟨h, trivial⟩

/-- The call's own slice of slices reads as a list of lists. -/
theorem OwnL.rows {α : Type} [RepP α] {D : Nat → Prop} {w : World} {base : Nat} {e : TypeId} {s : Sl} {ss : List Sl} {l : List (List α)} (h : OwnL w base e s ss) (hlen : ss.length = l.length)
    (hr : ∀ i (h1 : i < ss.length) (h2 : i < l.length), SlR D w ss[i] l[i]) (hD : ∀ b, base ≤ b → D b) : SlR D w s l := by
  have h0 := h.rep (fun _ _ => trivial)
  refine ⟨by rw [h0.1, hlen], h0.2.1, fun i x hx => ?_⟩
  obtain ⟨h2, rfl⟩ := List.getElem?_eq_some_iff.1 hx
  have h1 : i < ss.length := by omega
  obtain ⟨a, cs, ha, hb, hcs, hc⟩ := h0.2.2 i ss[i] (by simp [h1])
  have hcs' : cs = [ss[i].v] := hcs
  subst hcs'
  exact ⟨a, _, ha, hD _ hb, ⟨ss[i], rfl, hr i h1 h2⟩, hc⟩


/-! ### Boxes -/

section
variable {w : World} {p : Addr} {t : TypeId}

theorem LD_bs0 {x : Sl} {r : List Value} {K : Sl → Prop} (hb : Box w p t (x.v :: r)) (hk : K x) : LD [.sl] (p.add 0) w K := LD_sl (hb.cell (i := 0) rfl) hk
theorem LD_bs1 {x : Sl} {v0 : Value} {r : List Value} {K : Sl → Prop} (hb : Box w p t (v0 :: x.v :: r)) (hk : K x) : LD [.sl] (p.add 1) w K := LD_sl (hb.cell (i := 1) rfl) hk
theorem LD_bs2 {x : Sl} {v0 v1 : Value} {r : List Value} {K : Sl → Prop} (hb : Box w p t (v0 :: v1 :: x.v :: r)) (hk : K x) : LD [.sl] (p.add 2) w K := LD_sl (hb.cell (i := 2) rfl) hk
theorem LD_bi {x : Int} {r : List Value} {K : Int → Prop} (hb : Box w p t (.int .i64 x :: r)) (hk : K x) : LD [.int .i64] p w K := LD_int (hb.cell (i := 0) rfl) hk
theorem LD_bi0 {x : Int} {r : List Value} {K : Int → Prop} (hb : Box w p t (.int .i64 x :: r)) (hk : K x) : LD [.int .i64] (p.add 0) w K := LD_int (hb.cell (i := 0) rfl) hk
theorem LD_bi1 {x : Int} {v0 : Value} {r : List Value} {K : Int → Prop} (hb : Box w p t (v0 :: .int .i64 x :: r)) (hk : K x) : LD [.int .i64] (p.add 1) w K := LD_int (hb.cell (i := 1) rfl) hk
end

theorem ST_box {p : Addr} {t : TypeId} : ∀ (vs : List Value) (i : Nat) (cs : List Value) (w : World) (K : World → Prop), Box w p t cs → (∀ v ∈ vs, v.oneCell' = true) → i + vs.length ≤ cs.length →
    (∀ w', Step w w' (some p.block) → w'.heap.size = w.heap.size → Box w' p t (cs.take i ++ vs ++ cs.drop (i + vs.length)) → K w') → ST p i vs w K
  | [], i, cs, w, K, hb, _, _, hk => hk w (Step.refl _ _) rfl (by simpa using hb)
  | v :: vs, i, cs, w, K, hb, h1, hl, hk => by
    have hi : i < cs.length := by simp at hl; omega
    refine ⟨h1 v (by simp), ⟨cs[i], hb.cell (by simp [hi])⟩, hb.frozen i, ?_⟩
    refine ST_box vs (i + 1) (cs.set i v) _ K (hb.set i v) (fun u hu => h1 u (by simp [hu])) (by simp at hl ⊢; omega) fun w' hs hsz hb' => hk w' ?_ ?_ ?_
    · have h0 : Step w (w.setCell (p.add i) v) (some p.block) := ⟨rfl, rfl, rfl, by rw [setCell_size]; exact Nat.le_refl _, fun k _ hne => setCell_other _ _ _ (by rw [add_block]; intro he; exact hne (by rw [he]))⟩
      exact h0.trans hs
    · rw [hsz, setCell_size]
    · have e1 : (cs.set i v).take (i + 1) ++ vs ++ (cs.set i v).drop (i + 1 + vs.length) = cs.take i ++ v :: vs ++ cs.drop (i + (v :: vs).length) := by
        rw [List.drop_set_of_lt (by omega), List.take_set, List.take_succ_eq_append_getElem hi, List.set_append_right _ _ (by simp; omega)]
        simp [Nat.min_eq_left (Nat.le_of_lt hi), Nat.add_assoc, Nat.add_comm 1]
      rw [← e1]; exact hb'

/-- All cells of a box. -/
theorem ST_all {w : World} {p : Addr} {t : TypeId} {cs vs : List Value} {K : World → Prop} (hb : Box w p t cs) (h1 : ∀ v ∈ vs, v.oneCell' = true) (hl : vs.length = cs.length)
    (hk : ∀ w', Step w w' (some p.block) → w'.heap.size = w.heap.size → Box w' p t vs → K w') : ST p 0 vs w K :=
  ST_box vs 0 cs w K hb h1 (by omega) fun w' h2 h3 h4 => hk w' h2 h3 (by simpa [List.drop_of_length_le (Nat.le_of_eq hl.symm)] using h4)

/-- A new variable that is filled at once. -/
theorem NEW_ST {t : TypeId} {zs vs : List Value} {w : World} {K : Addr → World → Prop} (h1 : ∀ v ∈ vs, v.oneCell' = true) (hl : vs.length = zs.length)
    (hk : ∀ p w', p.block = w.heap.size → Ext w w' → Box w' p t vs → K p w') : NEW t ⟨zs⟩ w fun p w1 => ST p 0 vs w1 fun w2 => K p w2 :=
  NEW_intro fun p w1 hp hsz hE hb => ST_all hb h1 hl fun w2 hs _ hb2 => hk p w2 hp (hs.ext0 hE (fun k hk => by cases hk; omega)) hb2

theorem one2 (x y : Int) : ∀ v ∈ [Value.int .i64 x, .int .i64 y], v.oneCell' = true := by intro v hv; simp at hv; rcases hv with rfl | rfl <;> rfl
/-- One step of filling. -/
theorem fill_step {α : Type} {l : List α} {i : Nat} (hi : i < l.length) (d : α) : (l.take i ++ List.replicate (l.length - i) d).set i l[i] = l.take (i + 1) ++ List.replicate (l.length - (i + 1)) d := by
  have h1 : (l.take i).length = i := by simp; omega
  rw [List.set_append_right _ _ (by omega), h1, Nat.sub_self, show l.length - i = (l.length - (i + 1)) + 1 by omega, List.replicate_succ, List.set_cons_zero, List.take_succ_eq_append_getElem hi, List.append_assoc]
  rfl

theorem fill_len {α : Type} {l : List α} {i : Nat} (hi : i ≤ l.length) (d : α) : (l.take i ++ List.replicate (l.length - i) d).length = l.length := by simp; omega

/-! ### Structs of numbers compared -/

/-! ### Loops with an accumulator ahead of the index -/

def IN2 {α : Type} (N : Nat) (I : Nat → α → World → Prop) (a : α) (x : Int) (w : World) : Prop := ∃ i : Nat, x = i ∧ i ≤ N ∧ I i a w
def MN2 {α : Type} (N : Nat) (_ : α) (x : Int) (_ : World) : Nat := N - x.toNat

theorem IN2_zero {α : Type} {N : Nat} {I : Nat → α → World → Prop} {a : α} {w : World} (h : I 0 a w) : IN2 N I a 0 w := ⟨0, rfl, Nat.zero_le _, h⟩

theorem IN2_next {α : Type} {N i : Nat} {I : Nat → α → World → Prop} {a a' : α} {w w' : World} (hN : N ≤ 9223372036854775807) (hi : i < N) (h : I (i + 1) a w) :
    IN2 N I a (IntKind.i64.wrap ((i : Int) + 1)) w ∧ MN2 N a (IntKind.i64.wrap ((i : Int) + 1)) w < MN2 N a' i w' := by
  rw [wrap_of (by omega) (by omega)]
  exact ⟨⟨i + 1, by omega, hi, h⟩, by unfold MN2; omega⟩

theorem Ext.ext {a b c : World} (h : Ext a b) (hE : Ext b c) : Ext a c := h.trans hE

theorem all_succ {p : Nat → Prop} {v : Nat} (h : ∀ u < v, p u) (hv : p v) : ∀ u < v + 1, p u := fun u hu => by
  rcases Nat.lt_or_eq_of_le (Nat.le_of_lt_succ hu) with h1 | h1
  · exact h u h1
  · subst h1; exact hv

theorem OwnL.low {α : Type} [Flat α] {w : World} {base base' : Nat} {e : TypeId} {s : Sl} {l : List α} (h : OwnL w base e s l) (hb : base' ≤ base) : OwnL w base' e s l := by
  refine ⟨h.1, h.2.1, ?_⟩
  rcases h.2.2 with h1 | ⟨g, cap, cur, h1, h2, h3⟩
  · exact .inl h1
  · exact .inr ⟨g, cap, cur, h1, Nat.le_trans hb h2, h3⟩

/-! ### Literals of several one-cell elements -/

theorem fill_ones : ∀ (vs : List Value) (k : Nat) (arr : Array Value), (∀ v ∈ vs, v.cells = #[v]) → k + vs.length ≤ arr.size →
    Instr.fill (fun i => some (i * 1, 1)) arr ((vs.zipIdx k).map fun x => (x.2, x.1)) = some ⟨arr.toList.take k ++ vs ++ arr.toList.drop (k + vs.length)⟩
  | [], k, arr, _, _ => by simp [Instr.fill]
  | v :: vs, k, arr, hv, hk => by
    have h1 := hv v (by simp)
    have hk' : k < arr.toList.length := by simp at hk ⊢; omega
    simp only [List.zipIdx_cons, List.map_cons, Instr.fill, Nat.mul_one]
    rw [if_neg (by simp [h1] at hk ⊢; omega), h1]
    have e : ((#[v] : Array Value).zipIdx.foldl (fun (cs : Array Value) (x : Value × Nat) => cs.setIfInBounds (k + x.2) x.1) arr) = arr.setIfInBounds k v := by simp [Array.zipIdx]
    have e' : (fun (i : Nat) => some (i, 1)) = fun i => some (i * 1, 1) := by funext i; rw [Nat.mul_one]
    rw [e, e', fill_ones vs (k + 1) _ (fun u hu => hv u (by simp [hu])) (by simp at hk ⊢; omega)]
    congr 2
    rw [Array.toList_setIfInBounds, List.drop_set_of_lt (by omega), List.take_set, List.take_succ_eq_append_getElem hk', List.set_append_right _ _ (by simp; omega)]
    simp at hk'
    simp [Nat.min_eq_left (Nat.le_of_lt hk'), Nat.add_assoc, Nat.add_comm 1]

/-- A literal of numbers: []int{a, b, ..}. -/
theorem RUN_lits {P : Program} {t e : TypeId} {bytes : Nat} {z : Value} (hT : SlT P t e 1 bytes z) (l : List Int) (h0 : l ≠ []) (hl : l.length ≤ 1000) {n : Nat} (hn : n = l.length) {parts : Array (Nat × Value)} (hp : parts.toList = ((l.map (Value.int .i64)).zipIdx 0).map fun x => (x.2, x.1)) {w : World} {K : Sl → World → Prop}
    (hk : ∀ s w', Ext w w' → OwnL w' w.heap.size e s l → K s w') : RUN P (.at .sl) (Instr.buildSlice t n parts) w K := by
  obtain ⟨i, hi, hz0, hsz, hby⟩ := hT.parts
  subst hn
  have hpos : 0 < l.length := List.length_pos_iff.2 h0
  have hr := run_buildSlice (P := P) w t e l.length parts ⟨l.map (Value.int .i64)⟩ i z hT.under hi hz0 (by rw [hsz]; omega) (by rw [hsz]; omega) (by
    rw [hsz, hp, fill_ones _ 0 _ (by intro v hv; obtain ⟨x, _, rfl⟩ := List.mem_map.1 hv; rfl) (by simp)]
    simp)
  unfold RUN
  rw [hr]
  refine hk ⟨some ⟨w.heap.size, 0, none⟩, l.length, l.length⟩ _ (ext_push w _) ⟨rfl, ?_⟩
  have := World.ownsRow_lit (base := w.heap.size) (e := e) (size := 1) w ⟨l.map (Value.int .i64)⟩ l.length (Nat.le_refl _) (by unfold maxLen; omega) (by simp)
  have hf : l.flatMap Flat.cells = l.map (Value.int .i64) := by
    clear this hr hk hp h0 hl hpos
    induction l with
    | nil => rfl
    | cons x r ih => rw [List.flatMap_cons, ih]; rfl
  unfold Own
  rw [hf]
  exact this

/-! ### Own lists of own lists -/

theorem OwnL.type {α : Type} [Flat α] {w : World} {base : Nat} {e : TypeId} {s : Sl} {l : List α} (h : OwnL w base e s l) {k : Nat} (hk : s.v.ownBlock = some k) : ∃ cs, w.heap[k]? = some (.cells cs e (0, 0)) := by
  rcases h.2.2 with ⟨h1, _⟩ | ⟨g, cap, cur, h1, _, h3, _⟩
  · rw [h1] at hk; cases hk
  · rw [h1] at hk
    cases hk
    exact ⟨cur, h3⟩

/-- A list of another element type is not touched. -/
theorem OwnL.step {α β : Type} [Flat α] [Flat β] {w w' : World} {base base' : Nat} {e e' : TypeId} {s s' : Sl} {l : List α} {l' : List β} (h : OwnL w base e s l) (h' : OwnL w base' e' s' l') (he : e ≠ e') (hs : Step w w' s'.v.ownBlock) : OwnL w' base e s l :=
  h.keep fun k hk => by
    refine hs.block k (h.blk k hk).2 fun hk' => ?_
    obtain ⟨c1, h1⟩ := h.type hk
    obtain ⟨c2, h2⟩ := h'.type hk'.symm
    rw [h1] at h2
    cases h2
    exact he rfl

def Own2 {α : Type} [Flat α] (w : World) (base : Nat) (e e' : TypeId) (s : Sl) (ls : List (List α)) : Prop :=
  ∃ ss : List Sl, OwnL w base e' s ss ∧ ss.length = ls.length ∧ ∀ (i : Nat) (r : Sl) (l : List α), ss[i]? = some r → ls[i]? = some l → OwnL w base e r l

section
variable {α : Type} [Flat α] {w w' : World} {base : Nat} {e e' : TypeId} {s : Sl} {ls : List (List α)}
theorem Own2.nil (w : World) (base : Nat) (e e' : TypeId) : Own2 w base e e' ⟨none, 0, 0⟩ ([] : List (List α)) := ⟨[], OwnL.nil _ _ _, rfl, fun i r l h => by simp at h⟩
theorem Own2.ext (h : Own2 w base e e' s ls) (hE : Ext w w') : Own2 w' base e e' s ls := by
  obtain ⟨ss, h1, h2, h3⟩ := h
  exact ⟨ss, h1.ext hE, h2, fun i r l hr hl => (h3 i r l hr hl).ext hE⟩
theorem Own2.low (h : Own2 w base e e' s ls) {b : Nat} (hb : b ≤ base) : Own2 w b e e' s ls := by
  obtain ⟨ss, h1, h2, h3⟩ := h
  exact ⟨ss, h1.low hb, h2, fun i r l hr hl => (h3 i r l hr hl).low hb⟩
theorem Own2.blk (h : Own2 w base e e' s ls) : ∀ k, s.v.ownBlock = some k → base ≤ k ∧ k < w.heap.size := by
  obtain ⟨ss, h1, _⟩ := h
  exact h1.blk
theorem Own2.repD (h : Own2 w base e e' s ls) (hok : ∀ l ∈ ls, ∀ x ∈ l, Flat.ok x) : SlR (fun b => base ≤ b) w s ls := by
  obtain ⟨ss, h1, h2, h3⟩ := h
  refine (OwnL.rows h1 h2 (fun i hi hj => ?_) (fun _ hb => hb))
  exact (h3 i ss[i] ls[i] (by simp [hi]) (by simp [hj])).rep (hok _ (List.getElem_mem hj))
theorem Own2.rep (h : Own2 w base e e' s ls) (hok : ∀ l ∈ ls, ∀ x ∈ l, Flat.ok x) : R w s ls := (h.repD hok).any
theorem Own2.keep (h : Own2 w base e e' s ls) (hk : ∀ k, base ≤ k → k < w.heap.size → w'.heap[k]? = w.heap[k]?) : Own2 w' base e e' s ls := by
  obtain ⟨ss, h1, h2, h3⟩ := h
  exact ⟨ss, h1.keep fun k hb => hk k (h1.blk k hb).1 (h1.blk k hb).2, h2, fun i r l hr hl => (h3 i r l hr hl).keep fun k hb => hk k ((h3 i r l hr hl).blk k hb).1 ((h3 i r l hr hl).blk k hb).2⟩
end

/-! ### Rows of a list of lists, as they were in an earlier world -/

/-! ### Changes within a set of blocks -/

theorem Chg.of_step {w w' : World} {g : Option Nat} {D : Nat → Prop} (h : Step w w' g) (hg : ∀ k, g = some k → D k) : Chg w w' D :=
  ⟨h.os, h.tape, h.output, h.size, fun k hk hD => h.block k hk (fun he => hD (hg k he.symm))⟩
theorem Chg.of_ext {w w' : World} {D : Nat → Prop} (h : Ext w w') : Chg w w' D := ⟨h.os, h.tape, h.output, h.size, fun k hk _ => h.block k hk⟩
theorem Chg.trans {a b c : World} {D : Nat → Prop} (h : Chg a b D) (k : Chg b c D) : Chg a c D :=
  ⟨k.os.trans h.os, k.tape.trans h.tape, k.output.trans h.output, Nat.le_trans h.size k.size, fun i hi hD => (k.block i (Nat.lt_of_lt_of_le hi h.size) hD).trans (h.block i hi hD)⟩
theorem Chg.mono {a b : World} {D D' : Nat → Prop} (h : Chg a b D) (hD : ∀ k, D k → D' k) : Chg a b D' := ⟨h.os, h.tape, h.output, h.size, fun k hk hn => h.block k hk (fun hd => hn (hD k hd))⟩
theorem Chg.ext0 {w0 w w' : World} {D : Nat → Prop} (h : Chg w w' D) (hE : Ext w0 w) (hD : ∀ k, D k → w0.heap.size ≤ k) : Ext w0 w' :=
  ⟨h.os.trans hE.os, h.tape.trans hE.tape, h.output.trans hE.output, Nat.le_trans hE.size h.size, fun k hk => (h.block k (Nat.lt_of_lt_of_le hk hE.size) (fun hd => by have := hD k hd; omega)).trans (hE.block k hk)⟩

theorem SlR.chg {α : Type} [RepP α] {D0 D : Nat → Prop} {w w' : World} {s : Sl} {l : List α} (h : SlR D0 w s l) (hc : Chg w w' D) (hD : ∀ b, D0 b → b < w.heap.size → ¬ D b) : SlR D0 w' s l :=
  (h.below.agr fun b hb => hc.block b hb.2 (hD b hb.1 hb.2)).weak (fun _ hb _ => hb.1) RepP.pos
theorem OwnL.chg {α : Type} [Flat α] {D : Nat → Prop} {w w' : World} {base : Nat} {e : TypeId} {s : Sl} {l : List α} (h : OwnL w base e s l) (hc : Chg w w' D) (hD : ∀ b, s.v.ownBlock = some b → ¬ D b) : OwnL w' base e s l :=
  h.keep fun k hk => hc.block k (h.blk k hk).2 (hD k hk)
theorem Box.chg {D : Nat → Prop} {w w' : World} {p : Addr} {t : TypeId} {cs : List Value} (h : Box w p t cs) (hc : Chg w w' D) (hD : ¬ D p.block) : Box w' p t cs :=
  h.of_block (hc.block _ h.lt hD)

end Go.GX
end

section
/- Sets of labels as numbers, in plain words: no program in sight. -/
namespace Go.Proofs.YtaeledhbkdakcaaGreatDoor
open Go.GX

theorem bits64 : IntKind.i64.bits = 64 := rfl

theorem ofInt_nat (a : Nat) (h : a < 4611686018427387904) : (BitVec.ofInt 64 (a : Int)).toNat = a := by
  rw [BitVec.toNat_ofInt]
  omega

theorem and_nat {a b : Nat} (ha : a < 4611686018427387904) (hb : b < 4611686018427387904) : bitAnd .i64 (a : Int) (b : Int) = ((a &&& b : Nat) : Int) := by
  unfold bitAnd
  rw [bits64, BitVec.toNat_and, ofInt_nat a ha, ofInt_nat b hb]
  have := Nat.and_le_left (n := a) (m := b)
  rw [wrap_of (by omega) (by omega)]

theorem or_lt {a b : Nat} (ha : a < 4611686018427387904) (hb : b < 4611686018427387904) : a ||| b < 4611686018427387904 := Nat.or_lt_two_pow (n := 62) ha hb

theorem or_nat {a b : Nat} (ha : a < 4611686018427387904) (hb : b < 4611686018427387904) : bitOr .i64 (a : Int) (b : Int) = ((a ||| b : Nat) : Int) := by
  unfold bitOr
  rw [bits64, BitVec.toNat_or, ofInt_nat a ha, ofInt_nat b hb]
  have := or_lt ha hb
  rw [wrap_of (by omega) (by omega)]

theorem shl_one {a : Nat} (h : a ≤ 61) : shlI .i64 1 (a : Int) = ((2 ^ a : Nat) : Int) := by
  unfold shlI
  have h1 : 2 ^ a ≤ 2 ^ 61 := Nat.pow_le_pow_right (by decide) h
  have h2 : (2 : Nat) ^ 61 = 2305843009213693952 := by decide
  have e : min (a : Int).toNat IntKind.i64.bits = a := by rw [bits64]; omega
  rw [e, Int.one_mul]
  have e2 : (2 : Int) ^ a = ((2 ^ a : Nat) : Int) := by push_cast; rfl
  rw [e2]
  generalize 2 ^ a = m at h1
  rw [h2] at h1
  rw [wrap_of (by omega) (by omega)]

/-- The set of the numbers below another one that a test tells. -/
def maskOf : Nat → (Nat → Bool) → Nat
  | 0, _ => 0
  | n + 1, f => maskOf n f ||| (if f n then 2 ^ n else 0)

theorem testBit_maskOf : ∀ (n : Nat) (f : Nat → Bool) (a : Nat), (maskOf n f).testBit a = (decide (a < n) && f a)
  | 0, f, a => by simp [maskOf]
  | n + 1, f, a => by
    unfold maskOf
    rw [Nat.testBit_or, testBit_maskOf n f a]
    by_cases hf : f n = true
    · rw [if_pos hf, Nat.testBit_two_pow]
      by_cases ha : a = n
      · subst ha; simp [hf]
      · have : ¬ n = a := fun h => ha h.symm
        have h2 : (a < n + 1) ↔ a < n := by omega
        simp [this, h2]
    · rw [if_neg hf, Nat.zero_testBit]
      by_cases ha : a = n
      · subst ha; simp [hf]
      · have h2 : (a < n + 1) ↔ a < n := by omega
        simp [h2]

theorem maskOf_lt (n : Nat) (f : Nat → Bool) : maskOf n f < 2 ^ n := by
  apply Nat.lt_pow_two_of_testBit
  intro i hi
  rw [testBit_maskOf]
  have : ¬ i < n := by omega
  simp [this]

theorem mask_ext {n m m' : Nat} (h : m < 2 ^ n) (h' : m' < 2 ^ n) (he : ∀ a < n, m.testBit a = m'.testBit a) : m = m' := by
  apply Nat.eq_of_testBit_eq
  intro i
  by_cases hi : i < n
  · exact he i hi
  · have hp : 2 ^ n ≤ 2 ^ i := Nat.pow_le_pow_right (by decide) (by omega)
    rw [Nat.testBit_lt_two_pow (by omega), Nat.testBit_lt_two_pow (by omega)]

inductive Two2 {α β : Type} (R : α → β → Prop) : List α → List β → Prop
  | nil : Two2 R [] []
  | cons {x : α} {y : β} {l : List α} {m : List β} : R x y → Two2 R l m → Two2 R (x :: l) (y :: m)

theorem Two2.length {α β : Type} {R : α → β → Prop} {l : List α} {m : List β} (h : Two2 R l m) : l.length = m.length := by
  induction h with
  | nil => rfl
  | cons _ _ ih => simp [ih]

end Go.Proofs.YtaeledhbkdakcaaGreatDoor
end

section
/- The numbers of functions and types of this seat by their names, and of which kind a type's values are. Printed by a program. -/
namespace Go.Proofs.YtaeledhbkdakcaaGreatDoor
open Go.GX Go.RowKit

abbrev F.l_FnExactSolveCycle : FuncId := 3
abbrev F.l_szWalkProblem : FuncId := 5
abbrev F.s_SolveCycle : FuncId := 6
abbrev F.l_toWalkProblem : FuncId := 7
abbrev F.l_toIntS : FuncId := 8
abbrev F.i_SolveCycle : FuncId := 9
abbrev F.l_eqIntS : FuncId := 10
abbrev F.l_eqWalkProblem : FuncId := 11
abbrev F.l_markWalkProblem : FuncId := 12
abbrev F.l_markIntS : FuncId := 13
abbrev F.l_heldIntS : FuncId := 14
abbrev F.l_szIntSS : FuncId := 20
abbrev F.s_waGood : FuncId := 21
abbrev F.s_cyIds : FuncId := 22
abbrev F.s_LoopOf : FuncId := 23
abbrev F.s_cyLevels : FuncId := 24
abbrev F.s_cyFill : FuncId := 25
abbrev F.s_cySpaced : FuncId := 26
abbrev F.s_FirstCycleLabeling : FuncId := 27
abbrev F.l_toIntSS : FuncId := 28
abbrev F.i_IsWalkProblem : FuncId := 29
abbrev F.i_areRingIds : FuncId := 30
abbrev F.i_WalkProblem_loopOf : FuncId := 31
abbrev F.slices_Repeat_sl_int_int : FuncId := 32
abbrev F.i_LevelsFor : FuncId := 33
abbrev F.i_FillCycle : FuncId := 34
abbrev F.i_WalkProblem_flexibleLabels : FuncId := 35
abbrev F.i_spacedMarks : FuncId := 36
abbrev F.i_FirstCycleLabeling : FuncId := 37
abbrev F.slices_Index_sl_int_int : FuncId := 38
abbrev F.slices_Min_sl_int_int : FuncId := 39
abbrev F.slices_Concat_sl_int_int : FuncId := 40
abbrev F.l_eqIntSS : FuncId := 41
abbrev F.l_markIntSS : FuncId := 42
abbrev F.l_szIntS : FuncId := 55
abbrev F.s_l1In : FuncId := 56
abbrev F.s_waArcs : FuncId := 57
abbrev F.s_l1Has : FuncId := 58
abbrev F.s_cyLong : FuncId := 59
abbrev F.s_waLoop : FuncId := 60
abbrev F.s_FlexibleLabels : FuncId := 61
abbrev F.s_FlexibilityOf : FuncId := 62
abbrev F.s_cyGaps : FuncId := 63
abbrev F.s_WalkBetween : FuncId := 64
abbrev F.s_coThrough : FuncId := 65
abbrev F.s_cyThree : FuncId := 66
abbrev F.s_cyMark : FuncId := 67
abbrev F.s_waBetween : FuncId := 68
abbrev F.s_l1Own : FuncId := 69
abbrev F.i_within : FuncId := 70
abbrev F.i_WalkProblem_hasLabels : FuncId := 71
abbrev F.slices_Compare_sl_int_int : FuncId := 72
abbrev F.i_isRing : FuncId := 73
abbrev F.i_idsOk : FuncId := 74
abbrev F.slices_IndexFunc_sl_int_int : FuncId := 75
abbrev F.i_numbersTo : FuncId := 76
abbrev F.i_WalkProblem_loopOf_1 : FuncId := 77
abbrev F.i_WalkProblem_after : FuncId := 78
abbrev F.math_bits_Mul : FuncId := 79
abbrev F.i_WalkProblem_flexibilityOf : FuncId := 80
abbrev F.i_marksOk : FuncId := 81
abbrev F.i_gapsOf : FuncId := 82
abbrev F.i_WalkProblem_walkBetween : FuncId := 83
abbrev F.i_WalkProblem_walkComponents : FuncId := 84
abbrev F.slices_Sort_sl_int_int : FuncId := 85
abbrev F.i_threeColours : FuncId := 86
abbrev F.i_images : FuncId := 87
abbrev F.i_cycleMarks : FuncId := 88
abbrev F.slices_Grow_sl_int_int : FuncId := 89
abbrev F.s_l1All : FuncId := 106
abbrev F.s_prOrder : FuncId := 107
abbrev F.s_waFlexible : FuncId := 108
abbrev F.s_waFlexibility : FuncId := 109
abbrev F.s_cyBit : FuncId := 110
abbrev F.s_cyFree : FuncId := 111
abbrev F.s_waPowers : FuncId := 112
abbrev F.s_waMay : FuncId := 113
abbrev F.i_allWithin : FuncId := 114
abbrev F.cmp_Compare_int : FuncId := 115
abbrev F.slices_Clone_sl_int_int : FuncId := 116
abbrev F.i_increasing : FuncId := 117
abbrev F.math_bits_Mul64 : FuncId := 119
abbrev F.i_WalkProblem_reached : FuncId := 120
abbrev F.i_labelsIn : FuncId := 121
abbrev F.i_WalkProblem_closure : FuncId := 122
abbrev F.i_setOf : FuncId := 123
abbrev F.i_WalkProblem_periodOf : FuncId := 124
abbrev F.slices_Max_sl_int_int : FuncId := 127
abbrev F.i_bitStep : FuncId := 128
abbrev F.s_l1Sign : FuncId := 141
abbrev F.s_waParts : FuncId := 142
abbrev F.s_l1Put : FuncId := 143
abbrev F.s_nuDiffer : FuncId := 144
abbrev F.s_nuBit : FuncId := 145
abbrev F.s_waTimes : FuncId := 146
abbrev F.slices_ContainsFunc_sl_int_int : FuncId := 147
abbrev F.i_allWithin_1 : FuncId := 148
abbrev F.cmp_isNaN_int : FuncId := 149
abbrev F.i_WalkProblem_distancesIn : FuncId := 150
abbrev F.slices_Contains_sl_int_int : FuncId := 151
abbrev F.i_gcd : FuncId := 152
abbrev F.math_bits_TrailingZeros64 : FuncId := 164
abbrev F.s_waReach : FuncId := 178
abbrev F.s_waDepths : FuncId := 179
abbrev F.s_waGcd : FuncId := 180
abbrev F.s_l1Abs : FuncId := 181
abbrev F.s_l1Most : FuncId := 205
abbrev T.t_int : TypeId := 3
abbrev T.t_bool : TypeId := 4
abbrev T.t_sl_sl_int : TypeId := 22
abbrev T.t_l_WalkProblem : TypeId := 24
abbrev T.t_sl_int : TypeId := 25
abbrev T.t_i_WalkProblem : TypeId := 29
abbrev T.t_sl_bool : TypeId := 127
abbrev T.t_sl_sl_sl_bool : TypeId := 128
abbrev T.t_sl_sl_bool : TypeId := 130
abbrev T.t_sl_s_waPart : TypeId := 151
abbrev T.t_s_waPart : TypeId := 154
def hints0 : List (List Sh) := [
  [],
  [.at .val],
  [.at (.int .i64)],
  [.at (.int .i64)],
  [.at .bool],
  [.at (.int .u8)],
  [.at (.int .u8)],
  [.agg [.int .i64, .int .i64, .bool, .int .u8]],
  [.agg [.int .i64, .int .i64, .bool, .int .u8]],
  [.at .str],
  [.at .str],
  [.at .str],
  [.at (.int .u64)],
  [.agg [.str, .int .u64]],
  [.agg [.str, .int .u64]],
  [.at .ptr]]
def hints1 : List (List Sh) := [
  [.at .ptr],
  [.at .ptr],
  [.agg [.ptr]],
  [.agg [.ptr]],
  [.at .val],
  [.at (.int .i32)],
  [.at .sl],
  [.agg [.int .i64, .sl]],
  [.agg [.int .i64, .sl]],
  [.at .sl],
  [.at .val],
  [.at .sl, .at .bool],
  [.at .val],
  [.agg [.int .i64, .sl]],
  [.at .val],
  [.at .val]]
def hints2 : List (List Sh) := [
  [.at .val],
  [.at .val],
  [.at .val],
  [.at .val],
  [.at .val],
  [.at .sl],
  [.agg [.sl, .sl, .sl]],
  [.agg [.sl, .sl, .sl]],
  [.agg [.sl, .sl, .sl], .at .bool],
  [.at .val],
  [.at .val],
  [.at .val],
  [.at .val],
  [.at .val],
  [.at .val],
  [.at .val]]
def hints3 : List (List Sh) := [
  [.at (.int .i64), .at .bool],
  [.at .val],
  [.at (.int .i64), .at (.int .i64), .at .bool],
  [.at .val],
  [.at .val],
  [.at .val],
  [.at .val],
  [.at .val],
  [.at .val],
  [.at .val],
  [.at .val],
  [.at .val],
  [.at .val],
  [.at .sl],
  [.at .val],
  [.agg [.int .i64, .int .i64, .sl, .sl]]]
def hints4 : List (List Sh) := [
  [.agg [.int .i64, .int .i64, .sl, .sl]],
  [.agg [.int .i64, .int .i64, .sl, .sl], .at .bool],
  [.at .val],
  [.at .val],
  [.at .val],
  [.at .val],
  [.at .sl, .at .bool],
  [.at .val],
  [.at .val],
  [.at .ptr],
  [.at .str, .at .bool],
  [.at .val],
  [.at .val],
  [.at .val],
  [.at .val],
  [.at .val]]
def hints5 : List (List Sh) := [
  [.at .val],
  [.at .val],
  [.at .val],
  [.at .val],
  [.at (.int .u64)],
  [.at .val],
  [.at .val],
  [.at .val],
  [.at .sl, .at (.int .i64)],
  [.at .val],
  [.at .val],
  [.at .val],
  [.at .val],
  [.at .val],
  [.at .val],
  [.at (.int .u64), .at (.int .u64)]]
def hints6 : List (List Sh) := [
  [.at .val],
  [.at .val],
  [.at .val],
  [.at .val],
  [.at .sl, .at .sl],
  [.at .val],
  [.at .val],
  [.at .val],
  [.at .val],
  [.at .val],
  [.at .val],
  [.at .val],
  [.at .val],
  [.at .val],
  [.at .val],
  [.at .ptr]]
def hints7 : List (List Sh) := [
  [.at .val],
  [.at .ptr],
  [.at .sl],
  [.agg [.ptr, .sl]],
  [.agg [.ptr, .sl]],
  [.at .val],
  [.at .val],
  [.at (.int .i64), .at .val],
  [.at .val],
  [.at .val],
  [.at .val],
  [.at .val],
  [.at .val],
  [.at .val],
  [.at .val],
  [.at .sl]]
def hints8 : List (List Sh) := [
  [.at .sl],
  [.at .val],
  [.at .sl],
  [.at .val],
  [.at (.int .u32)],
  [.at (.int .u32), .at (.int .u32)],
  [.at .val],
  [.at (.int .u64)],
  [.at (.int .u64), .at (.int .u64)],
  [.at .val],
  [.at .val],
  [.at .val],
  [.at .val],
  [.at .val],
  [.at .val],
  [.at .val]]
def hints9 : List (List Sh) := [
  [.at .val],
  [.at .val],
  [.at .val],
  [.at .bool, .at .bool],
  [.at .val],
  [.at .val],
  [.at .ptr],
  [.at .sl],
  [.at .val],
  [.agg [.sl, .int .i64, .sl]],
  [.agg [.sl, .int .i64, .sl]],
  [.at .val],
  [.at .val],
  [.at .val],
  [.at .val],
  [.at (.int .i64)]]
def hints10 : List (List Sh) := [
  [.at (.int .i64), .at (.int .i64)],
  [.at .val],
  [.at .val],
  [.at .val],
  [.at .val],
  [.at .val],
  [.at .val],
  [.at .val],
  [.agg [.int .i64, .int .i64, .sl, .sl], .at .sl, .at .sl, .at .bool],
  [.at .val],
  [.at .val],
  [.at .val],
  [.at .val],
  [.at .ptr],
  [.at .val],
  [.at .val]]
def hints11 : List (List Sh) := [
  [.at .val],
  [.at (.int .u64)],
  [.at .val],
  [.at .val],
  [.at .val],
  [.at .ptr],
  [.at .val],
  [.agg [.int .u8, .int .u8, .int .u8, .int .u8, .int .u8, .int .u8, .int .u8, .int .u8, .int .u8, .int .u8, .int .u8, .int .u8, .int .u8, .int .u8, .int .u8, .int .u8, .int .u8, .int .u8, .int .u8, .int .u8, .int .u8, .int .u8, .int .u8, .int .u8, .int .u8, .int .u8, .int .u8, .int .u8, .int .u8, .int .u8, .int .u8, .int .u8, .int .u8, .int .u8, .int .u8, .int .u8, .int .u8, .int .u8, .int .u8, .int .u8, .int .u8, .int .u8, .int .u8, .int .u8, .int .u8, .int .u8, .int .u8, .int .u8, .int .u8, .int .u8, .int .u8, .int .u8, .int .u8, .int .u8, .int .u8, .int .u8, .int .u8, .int .u8, .int .u8, .int .u8, .int .u8, .int .u8, .int .u8, .int .u8]],
  [.at .val],
  [.agg [.int .i64, .int .i64, .sl, .sl], .at .sl, .at .bool],
  [.at .val],
  [.at .val],
  [.at (.int .i32), .at (.int .i64)],
  [.at .val],
  [.at .val],
  [.at .val]]
def hints12 : List (List Sh) := [
  [.at .val],
  [.at .val],
  [.at .ptr],
  [.at (.int .i64), .at (.int .i64)],
  [.at .val],
  [.at .val],
  [.agg [.int .i64, .int .i64, .sl, .sl, .sl]],
  [.agg [.int .i64, .int .i64, .sl, .sl, .sl]],
  [.at .val],
  [.at .val],
  [.at .val],
  [.at .val],
  [.at (.int .i64)],
  [.at (.int .i64), .at .val],
  [.at .val],
  [.at .ptr]]
def hints13 : List (List Sh) := [
  [.at .val],
  [.at .val],
  [.at .val],
  [.at .val],
  [.at .val],
  [.agg [.int .u8, .int .u8, .int .u8, .int .u8, .int .u8, .int .u8, .int .u8, .int .u8, .int .u8, .int .u8, .int .u8, .int .u8, .int .u8, .int .u8, .int .u8, .int .u8, .int .u8, .int .u8, .int .u8, .int .u8, .int .u8, .int .u8, .int .u8, .int .u8]],
  [.at .val],
  [.at .sl, .at .str],
  [.at .val],
  [.at .val],
  [.at .val],
  [.at .val],
  [.at .val],
  [.agg [.int .u8, .int .u8, .int .u8, .int .u8, .int .u8, .int .u8, .int .u8, .int .u8, .int .u8, .int .u8, .int .u8, .int .u8, .int .u8, .int .u8, .int .u8, .int .u8, .int .u8, .int .u8, .int .u8, .int .u8, .int .u8, .int .u8, .int .u8, .int .u8, .int .u8, .int .u8, .int .u8, .int .u8, .int .u8, .int .u8, .int .u8, .int .u8, .int .u8, .int .u8, .int .u8, .int .u8, .int .u8, .int .u8, .int .u8, .int .u8, .int .u8, .int .u8, .int .u8, .int .u8, .int .u8, .int .u8, .int .u8, .int .u8, .int .u8, .int .u8, .int .u8, .int .u8, .int .u8, .int .u8, .int .u8, .int .u8, .int .u8, .int .u8, .int .u8, .int .u8, .int .u8, .int .u8, .int .u8, .int .u8, .int .u8, .int .u8, .int .u8, .int .u8, .int .u8, .int .u8, .int .u8, .int .u8, .int .u8, .int .u8, .int .u8, .int .u8, .int .u8, .int .u8, .int .u8, .int .u8, .int .u8, .int .u8, .int .u8, .int .u8, .int .u8, .int .u8, .int .u8, .int .u8, .int .u8, .int .u8, .int .u8, .int .u8, .int .u8, .int .u8, .int .u8, .int .u8, .int .u8, .int .u8, .int .u8, .int .u8, .int .u8, .int .u8, .int .u8, .int .u8, .int .u8, .int .u8, .int .u8, .int .u8, .int .u8, .int .u8, .int .u8, .int .u8, .int .u8, .int .u8, .int .u8, .int .u8, .int .u8, .int .u8, .int .u8, .int .u8, .int .u8, .int .u8, .int .u8, .int .u8, .int .u8, .int .u8, .int .u8, .int .u8, .int .u8, .int .u8, .int .u8, .int .u8, .int .u8, .int .u8, .int .u8, .int .u8, .int .u8, .int .u8, .int .u8, .int .u8, .int .u8, .int .u8, .int .u8, .int .u8, .int .u8, .int .u8, .int .u8, .int .u8, .int .u8, .int .u8, .int .u8, .int .u8, .int .u8, .int .u8, .int .u8, .int .u8, .int .u8, .int .u8, .int .u8, .int .u8, .int .u8, .int .u8, .int .u8, .int .u8, .int .u8, .int .u8, .int .u8, .int .u8, .int .u8, .int .u8, .int .u8, .int .u8, .int .u8, .int .u8, .int .u8, .int .u8, .int .u8, .int .u8, .int .u8, .int .u8, .int .u8, .int .u8, .int .u8, .int .u8, .int .u8, .int .u8, .int .u8, .int .u8, .int .u8, .int .u8, .int .u8, .int .u8, .int .u8, .int .u8, .int .u8, .int .u8, .int .u8, .int .u8, .int .u8, .int .u8, .int .u8, .int .u8, .int .u8, .int .u8, .int .u8, .int .u8, .int .u8, .int .u8, .int .u8, .int .u8, .int .u8, .int .u8, .int .u8, .int .u8, .int .u8, .int .u8, .int .u8, .int .u8, .int .u8, .int .u8, .int .u8, .int .u8, .int .u8, .int .u8, .int .u8, .int .u8, .int .u8, .int .u8, .int .u8, .int .u8, .int .u8, .int .u8, .int .u8, .int .u8, .int .u8, .int .u8, .int .u8, .int .u8, .int .u8, .int .u8, .int .u8, .int .u8, .int .u8, .int .u8, .int .u8, .int .u8, .int .u8, .int .u8, .int .u8, .int .u8, .int .u8, .int .u8, .int .u8, .int .u8, .int .u8, .int .u8]],
  [.agg [.int .u8, .int .u8]],
  [.agg [.int .u8, .int .u8]]]
def hints14 : List (List Sh) := [
  [.agg [.int .u8, .int .u8, .int .u8, .int .u8, .int .u8, .int .u8, .int .u8, .int .u8, .int .u8, .int .u8, .int .u8, .int .u8, .int .u8, .int .u8, .int .u8, .int .u8, .int .u8, .int .u8, .int .u8, .int .u8, .int .u8, .int .u8, .int .u8, .int .u8, .int .u8, .int .u8, .int .u8, .int .u8, .int .u8, .int .u8, .int .u8, .int .u8]],
  [.at .val],
  [.at (.int .u64), .at .val],
  [.at .val],
  [.at .val],
  [.agg [.str, .str, .val]],
  [.agg [.str, .str, .val]],
  [.at .val],
  [.at .sl, .at .sl],
  [.at .val],
  [.at .val],
  [.at .val],
  [.at .val],
  [.at .ptr],
  [.at .val],
  [.at .val]]
def hints15 : List (List Sh) := [
  [.at .val],
  [.at .val],
  [.at .val],
  [.agg [.int .u64, .int .u64, .int .u64, .int .u64, .int .u64, .int .u64, .int .u64, .int .u64, .int .u64, .int .u64, .int .u64, .int .u64, .int .u64, .int .u64, .int .u64, .int .u64, .int .u64, .int .u64, .int .u64, .int .u64]],
  [.agg [.int .u8, .int .u8, .int .u8, .int .u8, .int .u8, .int .u8, .int .u8, .int .u8, .int .u8, .int .u8, .int .u8, .int .u8, .int .u8, .int .u8, .int .u8, .int .u8, .int .u8, .int .u8, .int .u8, .int .u8, .int .u8, .int .u8, .int .u8, .int .u8, .int .u8, .int .u8, .int .u8, .int .u8, .int .u8, .int .u8, .int .u8, .int .u8, .int .u8, .int .u8, .int .u8, .int .u8, .int .u8, .int .u8, .int .u8, .int .u8, .int .u8, .int .u8, .int .u8, .int .u8, .int .u8, .int .u8, .int .u8, .int .u8, .int .u8, .int .u8, .int .u8, .int .u8, .int .u8, .int .u8, .int .u8, .int .u8, .int .u8, .int .u8, .int .u8, .int .u8, .int .u8, .int .u8, .int .u8, .int .u8, .int .u8]],
  [.at .val],
  [.at .val],
  [.at .ptr],
  [.agg [.str]],
  [.agg [.str]],
  [.at .val],
  [.at .val],
  [.at .val],
  [.at .val],
  [.agg [.int .i64, .int .i64, .sl, .sl, .sl]],
  [.agg [.int .i64, .int .i64, .sl, .sl, .sl]]]
def hints16 : List (List Sh) := [
  [.at .val],
  [.at .val],
  [.at .val],
  [.at .val],
  [.at .val],
  [.at .val],
  [.at .val],
  [.at .val],
  [.at .val],
  [.at .val],
  [.agg [.int .u8, .int .u8, .int .u8, .int .u8, .int .u8, .int .u8, .int .u8, .int .u8, .int .u8, .int .u8, .int .u8, .int .u8, .int .u8, .int .u8, .int .u8, .int .u8, .int .u8, .int .u8, .int .u8, .int .u8, .int .u8, .int .u8, .int .u8, .int .u8, .int .u8, .int .u8, .int .u8, .int .u8, .int .u8, .int .u8, .int .u8, .int .u8]],
  [.at .val],
  [.at .val],
  [.at .val],
  [.at .val],
  [.at .val]]
def hints17 : List (List Sh) := [
  [.at .val],
  [.at .val],
  [.at .val],
  [.at .val],
  [.at .val],
  [.agg [.ptr, .ptr, .ptr, .str]],
  [.agg [.ptr, .ptr, .ptr, .str]],
  [.agg []],
  [.agg []],
  [.agg []],
  [.at (.int .u8)],
  [.at (.int .u8)],
  [.at .val],
  [.at (.int .i32)],
  [.at (.int .i32)],
  [.agg [.int .u64, .int .u64, .int .u32, .int .u8, .int .u8, .int .u8, .int .u8, .val, .ptr, .int .i32, .int .i32]]]
def hints18 : List (List Sh) := [
  [.agg [.int .u64, .int .u64, .int .u32, .int .u8, .int .u8, .int .u8, .int .u8, .val, .ptr, .int .i32, .int .i32]]]
def hint : Hint := hintOf [hints0, hints1, hints2, hints3, hints4, hints5, hints6, hints7, hints8, hints9, hints10, hints11, hints12, hints13, hints14, hints15, hints16, hints17, hints18]
end Go.Proofs.YtaeledhbkdakcaaGreatDoor
end

section
/- What each function's code computes to. Printed by a program. -/
namespace Go.Proofs.YtaeledhbkdakcaaGreatDoor
open Go.GX Go.RowKit
set_option linter.unusedVariables false
set_option maxRecDepth 100000

def V_l_FnExactSolveCycle_k7 (x1 : Sl) (Q : Bool → World → Prop) (px2 : Addr) (x30_0 : Sl) (x30_1 : Bool) (x40_0 : Sl) (w21 : World) : Prop :=
  Calls Tryz.prog F.l_markIntS #[x40_0.v, .int .i64 1] w21 (Ret [.at (.int .i64)] fun (x83 : Int) w22 =>
  Calls Tryz.prog F.l_heldIntS #[x40_0.v, .int .i64 1] w22 (Ret [.at (.int .i64)] fun (x86 : Int) w23 =>
  cond (decide ((x86 : Int) < 0)) (
  Q false w23) (
  cond ((x86 : Int) != x83) (
  Q false w23) (
  LD [.int .i64, .sl] px2 w23 fun (x93_0 : Int) (x93_1 : Sl) =>
  Calls Tryz.prog F.l_toWalkProblem #[.agg #[.int .i64 x93_0, x93_1.v]] w23 (Ret [.agg [.int .i64, .sl]] fun (x94_0 : Int) (x94_1 : Sl) w24 =>
  Calls Tryz.prog F.l_toIntS #[x1.v] w24 (Ret [.at .sl] fun (x96 : Sl) w25 =>
  Calls Tryz.prog F.i_SolveCycle #[.agg #[.int .i64 x94_0, x94_1.v], x96.v] w25 (Ret [.at .sl, .at .bool] fun (x97_0 : Sl) (x97_1 : Bool) w26 =>
  Calls Tryz.prog F.l_eqIntS #[x97_0.v, x30_0.v] w26 (Ret [.at .bool] fun (x102 : Bool) w27 =>
  cond (!x102) (
  Q false w27) (
  cond (!(x97_1 == x30_1)) (
  Q false w27) (
  Calls Tryz.prog F.l_heldIntS #[x40_0.v, .int .i64 1] w27 (Ret [.at (.int .i64)] fun (x111_2 : Int) w29 =>
  cond (decide ((x111_2 : Int) < 0)) (
  Q false w29) (
  cond ((x111_2 : Int) != x83) (
  Q false w29) (
  Q true w29)))))))))))))

def V_l_FnExactSolveCycle_k3 (x1 : Sl) (Q : Bool → World → Prop) (px2 : Addr) (x30_0 : Sl) (x30_1 : Bool) (px8 : Addr) (x36 : Sl) (x40_0 : Sl) (x40_1 : Bool) (w12 : World) : Prop :=
  ∀ w13, Ext w12 w13 → w13.heap = w12.heap →
  LD [.int .i64, .sl] px8 w13 fun (x52_0 : Int) (x52_1 : Sl) =>
  LD [.int .i64, .sl] px2 w13 fun (x53_0 : Int) (x53_1 : Sl) =>
  Ext w13 w13 ∧ (
  Calls Tryz.prog F.l_toWalkProblem #[.agg #[.int .i64 x53_0, x53_1.v]] w13 (Ret [.agg [.int .i64, .sl]] fun (x54_0 : Int) (x54_1 : Sl) w14 =>
  Ext w13 w14 ∧ (
  Calls Tryz.prog F.l_eqWalkProblem #[.agg #[.int .i64 x52_0, x52_1.v], .agg #[.int .i64 x54_0, x54_1.v]] w14 (Ret [.at .bool] fun (x55 : Bool) w15 =>
  Ext w13 w15 ∧ (
  cond (!x55) (
  Q false w15) (
  Calls Tryz.prog F.l_toIntS #[x1.v] w15 (Ret [.at .sl] fun (x59 : Sl) w16 =>
  Calls Tryz.prog F.l_eqIntS #[x36.v, x59.v] w16 (Ret [.at .bool] fun (x60 : Bool) w17 =>
  cond (!x60) (
  Q false w17) (
  LD [.int .i64, .sl] px8 w17 fun (x62_0 : Int) (x62_1 : Sl) =>
  Calls Tryz.prog F.l_markWalkProblem #[.agg #[.int .i64 x62_0, x62_1.v], .int .i64 1] w17 (Ret [.at (.int .i64)] fun (x64 : Int) w18 =>
  Calls Tryz.prog F.l_markIntS #[x36.v, .int .i64 x64] w18 (Ret [.at (.int .i64)] fun (x67 : Int) w19 =>
  cond (decide ((x67 : Int) < 0)) (
  Q false w19) (
  Calls Tryz.prog F.l_eqIntS #[x40_0.v, x30_0.v] w19 (Ret [.at .bool] fun (x73 : Bool) w20 =>
  cond (!x73) (
  Q false w20) (
  cond (!(x40_1 == x30_1)) (
  Q false w20) (
  V_l_FnExactSolveCycle_k7 x1 Q px2 x30_0 x30_1 x40_0 w20)))))))))))))))

def V_l_FnExactSolveCycle (Q : Bool → World → Prop) (x0_0 : Int) (x0_1 : Sl) (x1 : Sl) (w : World) : Prop :=
  NEW T.t_l_WalkProblem #[.int .i64 x0_0, x0_1.v] w fun (px2 : Addr) w1 =>
  cond (decide ((x1.len : Int) > 1048576)) (
  Q true w1) (
  LD [.int .i64, .sl] px2 w1 fun (x20_0 : Int) (x20_1 : Sl) =>
  Calls Tryz.prog F.l_szWalkProblem #[.agg #[.int .i64 x20_0, x20_1.v], .int .i64 1048576] w1 (Ret [.at (.int .i64)] fun (x22 : Int) w2 =>
  cond (decide ((x22 : Int) < 0)) (
  Q true w2) (
  LD [.int .i64, .sl] px2 w2 fun (x26_0 : Int) (x26_1 : Sl) =>
  Calls Tryz.prog F.l_toWalkProblem #[.agg #[.int .i64 x26_0, x26_1.v]] w2 (Ret [.agg [.int .i64, .sl]] fun (x27_0 : Int) (x27_1 : Sl) w3 =>
  Calls Tryz.prog F.l_toIntS #[x1.v] w3 (Ret [.at .sl] fun (x29 : Sl) w4 =>
  Calls Tryz.prog F.s_SolveCycle #[.agg #[.int .i64 x27_0, x27_1.v], x29.v] w4 (Ret [.at .sl, .at .bool] fun (x30_0 : Sl) (x30_1 : Bool) w5 =>
  LD [.int .i64, .sl] px2 w5 fun (x33_0 : Int) (x33_1 : Sl) =>
  Calls Tryz.prog F.l_toWalkProblem #[.agg #[.int .i64 x33_0, x33_1.v]] w5 (Ret [.agg [.int .i64, .sl]] fun (x34_0 : Int) (x34_1 : Sl) w6 =>
  NEW T.t_i_WalkProblem #[.int .i64 0, .slice none 0 0] w6 fun (px8 : Addr) w7 =>
  ST px8 0 [.int .i64 x34_0, x34_1.v] w7 fun w8 =>
  Calls Tryz.prog F.l_toIntS #[x1.v] w8 (Ret [.at .sl] fun (x36 : Sl) w9 =>
  LD [.int .i64, .sl] px8 w9 fun (x38_0 : Int) (x38_1 : Sl) =>
  Calls Tryz.prog F.i_SolveCycle #[.agg #[.int .i64 x38_0, x38_1.v], x36.v] w9 (Ret [.at .sl, .at .bool] fun (x40_0 : Sl) (x40_1 : Bool) w10 =>
  Calls Tryz.prog F.l_eqIntS #[x40_0.v, x30_0.v] w10 (Ret [.at .bool] fun (x45 : Bool) w11 =>
  cond (!x45) (
  Q false w11) (
  cond (!(x40_1 == x30_1)) (
  Q false w11) (
  V_l_FnExactSolveCycle_k3 x1 Q px2 x30_0 x30_1 px8 x36 x40_0 x40_1 w11))))))))))))

theorem C_l_FnExactSolveCycle {Q : Bool → World → Prop} {x0_0 : Int} {x0_1 : Sl} {x1 : Sl} {w : World} (h : V_l_FnExactSolveCycle Q x0_0 x0_1 x1 w) : Calls Tryz.prog F.l_FnExactSolveCycle #[.agg #[.int .i64 x0_0, x0_1.v], x1.v] w (Ret [.at .bool] Q) :=
  mkC (hint := hint) (ann := annOf []) (args := [.agg #[.int .i64 x0_0, x0_1.v], x1.v]) (rs := [.at .bool]) Tryz.func3 (by kernel_rfl) (by kernel_rfl) h

def V_l_szWalkProblem (Q : Int → World → Prop) (a_0 : Int) (a_1 : Sl) (left : Int) (w : World) : Prop :=
  NEW T.t_l_WalkProblem #[.int .i64 a_0, a_1.v] w fun (p_a : Addr) w1 =>
  LD [.sl] (p_a.add 1) w1 fun (x6 : Sl) =>
  Calls Tryz.prog F.l_szIntSS #[x6.v, .int .i64 left] w1 (Ret [.at (.int .i64)] fun (x8 : Int) w2 =>
  cond (decide ((x8 : Int) < 0)) (
  Q (-1) w2) (
  Q x8 w2))

theorem C_l_szWalkProblem {Q : Int → World → Prop} {a_0 : Int} {a_1 : Sl} {left : Int} {w : World} (h : V_l_szWalkProblem Q a_0 a_1 left w) : Calls Tryz.prog F.l_szWalkProblem #[.agg #[.int .i64 a_0, a_1.v], .int .i64 left] w (Ret [.at (.int .i64)] Q) :=
  mkC (hint := hint) (ann := annOf []) (args := [.agg #[.int .i64 a_0, a_1.v], .int .i64 left]) (rs := [.at (.int .i64)]) Tryz.func5 (by kernel_rfl) (by kernel_rfl) h

def V_s_SolveCycle_k1 (x1 : Sl) (Q : Sl → Bool → World → Prop) (px2 : Addr) (w4 : World) : Prop :=
  LD [.int .i64, .sl] px2 w4 fun (x30_0 : Int) (x30_1 : Sl) =>
  Calls Tryz.prog F.s_LoopOf #[.agg #[.int .i64 x30_0, x30_1.v]] w4 (Ret [.at (.int .i64), .at .bool] fun (x31_0 : Int) (x31_1 : Bool) w5 =>
  cond x31_1 (
  RUN Tryz.prog (.at .sl) (Instr.makeSlice T.t_sl_int (.int .i64 x1.len) (.int .i64 x1.len)) w5 fun (x37 : Sl) w6 =>
  ∃ (I7 : Int → World → Prop) (m7 : Int → World → Nat), I7 0 w6 ∧ ∀ (x40 : Int) w7, I7 x40 w7 → ∀ _ _ _ _ _ _ _ _ : Value,
  cond (decide ((x40 : Int) < x37.len)) (
  IX x37 x40 1 fun (px46 : Addr) =>
  ST px46 0 [.int .i64 x31_0] w7 fun w8 =>
  I7 (IntKind.i64.wrap (x40 + 1)) w8 ∧ m7 (IntKind.i64.wrap (x40 + 1)) w8 < m7 x40 w7) (
  Q x37 true w7)) (
  LD [.int .i64, .sl] px2 w5 fun (x50_0 : Int) (x50_1 : Sl) =>
  Calls Tryz.prog F.s_cyLevels #[.agg #[.int .i64 x50_0, x50_1.v]] w5 (Ret [.at (.int .i64), .at (.int .i64), .at .bool] fun (x51_0 : Int) (x51_1 : Int) (x51_2 : Bool) w9 =>
  cond x51_2 (
  ∀ w10, Ext w9 w10 → w10.heap = w9.heap →
  LD [.int .i64, .sl] px2 w10 fun (x56_0 : Int) (x56_1 : Sl) =>
  Ext w10 w10 ∧ (
  Calls Tryz.prog F.s_cySpaced #[x1.v, .int .i64 x51_1] w10 (Ret [.at .sl] fun (x62 : Sl) w11 =>
  Ext w10 w11 ∧ (
  Calls Tryz.prog F.s_cyFill #[.agg #[.int .i64 x56_0, x56_1.v], .int .i64 x51_0, .int .i64 x1.len, x62.v] w11 (Ret [.at .sl, .at .bool] fun (x63_0 : Sl) (x63_1 : Bool) w12 =>
  Ext w10 w12 ∧ (
  Ext w10 w12 ∧ (
  Q x63_0 x63_1 w12))))))) (
  LD [.int .i64, .sl] px2 w9 fun (x67_0 : Int) (x67_1 : Sl) =>
  Calls Tryz.prog F.s_FirstCycleLabeling #[.agg #[.int .i64 x67_0, x67_1.v], .int .i64 x1.len] w9 (Ret [.at .sl, .at .bool] fun (x70_0 : Sl) (x70_1 : Bool) w13 =>
  cond (!x70_1) (
  Q (⟨none, 0, 0⟩) false w13) (
  ∃ (I20 : Int → Int → World → Prop) (m20 : Int → Int → World → Nat), I20 0 0 w13 ∧ ∀ (x15 : Int) (x77 : Int) w14, I20 x15 x77 w14 → ∀ _ _ _ _ _ _ _ _ _ _ _ _ _ _ : Value,
  cond (decide ((x77 : Int) < x1.len)) (
  IX x1 x77 1 fun (px80 : Addr) =>
  LD [.int .i64] px80 w14 fun (x81 : Int) =>
  IX x1 x15 1 fun (px85 : Addr) =>
  LD [.int .i64] px85 w14 fun (x86 : Int) =>
  cond (decide ((x81 : Int) < x86)) (
  I20 x77 (IntKind.i64.wrap (x77 + 1)) w14 ∧ m20 x77 (IntKind.i64.wrap (x77 + 1)) w14 < m20 x15 x77 w14) (
  I20 x15 (IntKind.i64.wrap (x77 + 1)) w14 ∧ m20 x15 (IntKind.i64.wrap (x77 + 1)) w14 < m20 x15 x77 w14)) (
  RUN Tryz.prog (.at .sl) (Instr.makeSlice T.t_sl_int (.int .i64 x1.len) (.int .i64 x1.len)) w14 fun (x92 : Sl) w15 =>
  ∃ (I27 : Int → World → Prop) (m27 : Int → World → Nat), I27 0 w15 ∧ ∀ (x95 : Int) w16, I27 x95 w16 → ∀ _ _ _ _ _ _ _ _ _ _ _ _ _ _ _ _ : Value,
  cond (decide ((x95 : Int) < x70_0.len)) (
  IX x70_0 x95 1 fun (px98 : Addr) =>
  LD [.int .i64] px98 w16 fun (x99 : Int) =>
  (x1.len : Int) ≠ 0 ∧ (
  IX x92 (Int.tmod (IntKind.i64.wrap (x15 + x95)) x1.len) 1 fun (px108 : Addr) =>
  ST px108 0 [.int .i64 x99] w16 fun w17 =>
  I27 (IntKind.i64.wrap (x95 + 1)) w17 ∧ m27 (IntKind.i64.wrap (x95 + 1)) w17 < m27 x95 w16)) (
  Q x92 true w16))))))))

def V_s_SolveCycle (Q : Sl → Bool → World → Prop) (x0_0 : Int) (x0_1 : Sl) (x1 : Sl) (w : World) : Prop :=
  NEW T.t_i_WalkProblem #[.int .i64 x0_0, x0_1.v] w fun (px2 : Addr) w1 =>
  LD [.int .i64, .sl] px2 w1 fun (x21_0 : Int) (x21_1 : Sl) =>
  Calls Tryz.prog F.s_waGood #[.agg #[.int .i64 x21_0, x21_1.v]] w1 (Ret [.at .bool] fun (x22 : Bool) w2 =>
  cond (!x22) (
  Q (⟨none, 0, 0⟩) false w2) (
  Calls Tryz.prog F.s_cyIds #[x1.v] w2 (Ret [.at .bool] fun (x26 : Bool) w3 =>
  cond (!x26) (
  Q (⟨none, 0, 0⟩) false w3) (
  V_s_SolveCycle_k1 x1 Q px2 w3))))

theorem C_s_SolveCycle {Q : Sl → Bool → World → Prop} {x0_0 : Int} {x0_1 : Sl} {x1 : Sl} {w : World} (h : V_s_SolveCycle Q x0_0 x0_1 x1 w) : Calls Tryz.prog F.s_SolveCycle #[.agg #[.int .i64 x0_0, x0_1.v], x1.v] w (Ret [.at .sl, .at .bool] Q) :=
  mkC (hint := hint) (ann := annOf [(7, ⟨[(40, .int .i64)], [9, 41, 42, 43, 44, 45, 46, 47]⟩), (20, ⟨[(15, .int .i64), (77, .int .i64)], [16, 17, 78, 79, 80, 81, 82, 83, 84, 85, 86, 87, 88, 89]⟩), (27, ⟨[(95, .int .i64)], [19, 20, 96, 97, 98, 99, 100, 101, 102, 103, 104, 105, 106, 107, 108, 109]⟩)]) (args := [.agg #[.int .i64 x0_0, x0_1.v], x1.v]) (rs := [.at .sl, .at .bool]) Tryz.func6 (by kernel_rfl) (by kernel_rfl) h

def V_l_toWalkProblem (Q : Int → Sl → World → Prop) (a_0 : Int) (a_1 : Sl) (w : World) : Prop :=
  NEW T.t_l_WalkProblem #[.int .i64 a_0, a_1.v] w fun (p_a : Addr) w1 =>
  NEW T.t_i_WalkProblem #[.int .i64 0, .slice none 0 0] w1 fun (px2 : Addr) w2 =>
  NEW T.t_i_WalkProblem #[.int .i64 0, .slice none 0 0] w2 fun (p_out : Addr) w3 =>
  LD [.int .i64] (p_a.add 0) w3 fun (x5 : Int) =>
  ST (p_out.add 0) 0 [.int .i64 x5] w3 fun w4 =>
  LD [.sl] (p_a.add 1) w4 fun (x8 : Sl) =>
  Calls Tryz.prog F.l_toIntSS #[x8.v] w4 (Ret [.at .sl] fun (x9 : Sl) w5 =>
  ST (p_out.add 1) 0 [x9.v] w5 fun w6 =>
  LD [.int .i64, .sl] p_out w6 fun (x11_0 : Int) (x11_1 : Sl) =>
  ST px2 0 [.int .i64 x11_0, x11_1.v] w6 fun w7 =>
  LD [.int .i64, .sl] px2 w7 fun (r0_0 : Int) (r0_1 : Sl) =>
  Q r0_0 r0_1 w7)

theorem C_l_toWalkProblem {Q : Int → Sl → World → Prop} {a_0 : Int} {a_1 : Sl} {w : World} (h : V_l_toWalkProblem Q a_0 a_1 w) : Calls Tryz.prog F.l_toWalkProblem #[.agg #[.int .i64 a_0, a_1.v]] w (Ret [.agg [.int .i64, .sl]] Q) :=
  mkC (hint := hint) (ann := annOf []) (args := [.agg #[.int .i64 a_0, a_1.v]]) (rs := [.agg [.int .i64, .sl]]) Tryz.func7 (by kernel_rfl) (by kernel_rfl) h

def V_l_toIntS (Q : Sl → World → Prop) (a : Sl) (w : World) : Prop :=
  RUN Tryz.prog (.at .sl) (Instr.makeSlice T.t_sl_int (.int .i64 a.len) (.int .i64 a.len)) w fun (x7 : Sl) w1 =>
  ∃ (I3 : Int → World → Prop) (m3 : Int → World → Nat), I3 0 w1 ∧ ∀ (i : Int) w2, I3 i w2 → ∀ _ _ _ _ _ _ _ _ _ _ _ _ _ : Value,
  cond (decide ((i : Int) < a.len)) (
  IX a i 1 fun (px18 : Addr) =>
  LD [.int .i64] px18 w2 fun (x19 : Int) =>
  IX x7 i 1 fun (px20 : Addr) =>
  ST px20 0 [.int .i64 x19] w2 fun w3 =>
  I3 (IntKind.i64.wrap (i + 1)) w3 ∧ m3 (IntKind.i64.wrap (i + 1)) w3 < m3 i w2) (
  Q x7 w2)

theorem C_l_toIntS {Q : Sl → World → Prop} {a : Sl} {w : World} (h : V_l_toIntS Q a w) : Calls Tryz.prog F.l_toIntS #[a.v] w (Ret [.at .sl] Q) :=
  mkC (hint := hint) (ann := annOf [(3, ⟨[(4, .int .i64)], [8, 9, 10, 11, 12, 13, 14, 15, 16, 17, 18, 19, 20]⟩)]) (args := [a.v]) (rs := [.at .sl]) Tryz.func8 (by kernel_rfl) (by kernel_rfl) h

def V_i_SolveCycle_k1 (x1 : Sl) (Q : Sl → Bool → World → Prop) (px2 : Addr) (w4 : World) : Prop :=
  LD [.int .i64, .sl] px2 w4 fun (x23_0 : Int) (x23_1 : Sl) =>
  Calls Tryz.prog F.i_WalkProblem_loopOf #[.agg #[.int .i64 x23_0, x23_1.v]] w4 (Ret [.at (.int .i64)] fun (x24 : Int) w5 =>
  cond (decide ((x24 : Int) ≥ 0)) (
  RUN Tryz.prog (.at .sl) (Instr.buildSlice T.t_sl_int 1 #[(0, .int .i64 x24)]) w5 fun (x28 : Sl) w6 =>
  Calls Tryz.prog F.slices_Repeat_sl_int_int #[x28.v, .int .i64 x1.len] w6 (Ret [.at .sl] fun (x30 : Sl) w7 =>
  Q x30 true w7)) (
  LD [.int .i64, .sl] px2 w5 fun (x32_0 : Int) (x32_1 : Sl) =>
  Calls Tryz.prog F.i_LevelsFor #[.agg #[.int .i64 x32_0, x32_1.v]] w5 (Ret [.at (.int .i64), .at .bool] fun (x33_0 : Int) (x33_1 : Bool) w8 =>
  cond x33_1 (
  ∀ w9, Ext w8 w9 → w9.heap = w8.heap →
  LD [.int .i64, .sl] px2 w9 fun (x37_0 : Int) (x37_1 : Sl) =>
  LD [.int .i64, .sl] px2 w9 fun (x38_0 : Int) (x38_1 : Sl) =>
  Calls Tryz.prog F.i_WalkProblem_flexibleLabels #[.agg #[.int .i64 x38_0, x38_1.v]] w9 (Ret [.at .sl] fun (x39 : Sl) w10 =>
  Ext w9 w10 ∧ (
  IX x39 0 1 fun (px40 : Addr) =>
  LD [.int .i64] px40 w10 fun (x41 : Int) =>
  Calls Tryz.prog F.i_spacedMarks #[x1.v, .int .i64 x33_0] w10 (Ret [.at .sl] fun (x45 : Sl) w11 =>
  Ext w10 w11 ∧ (
  Calls Tryz.prog F.i_FillCycle #[.agg #[.int .i64 x37_0, x37_1.v], .int .i64 x41, .int .i64 x1.len, x45.v] w11 (Ret [.at .sl, .at .bool] fun (x46_0 : Sl) (x46_1 : Bool) w12 =>
  Ext w11 w12 ∧ (
  Ext w12 w12 ∧ (
  Ext w12 w12 ∧ (
  Ext w12 w12 ∧ (
  Q x46_0 x46_1 w12)))))))))) (
  LD [.int .i64, .sl] px2 w8 fun (x50_0 : Int) (x50_1 : Sl) =>
  Calls Tryz.prog F.i_FirstCycleLabeling #[.agg #[.int .i64 x50_0, x50_1.v], .int .i64 x1.len] w8 (Ret [.at .sl, .at .bool] fun (x52_0 : Sl) (x52_1 : Bool) w13 =>
  cond (!x52_1) (
  Q (⟨none, 0, 0⟩) false w13) (
  Calls Tryz.prog F.slices_Min_sl_int_int #[x1.v] w13 (Ret [.at (.int .i64)] fun (x59 : Int) w14 =>
  Calls Tryz.prog F.slices_Index_sl_int_int #[x1.v, .int .i64 x59] w14 (Ret [.at (.int .i64)] fun (x60 : Int) w15 =>
  ∀ w16, Ext w15 w16 → w16.heap = w15.heap →
  SLC x52_0 (some (IntKind.i64.wrap (x1.len - x60))) none 1 fun (x65 : Sl) =>
  Ext w16 w16 ∧ (
  Ext w16 w16 ∧ (
  SLC x52_0 none (some (IntKind.i64.wrap (x1.len - x60))) 1 fun (x70 : Sl) =>
  Ext w16 w16 ∧ (
  RUN Tryz.prog (.at .sl) (Instr.buildSlice T.t_sl_sl_int 2 #[(0, x65.v), (1, x70.v)]) w16 fun (x71 : Sl) w17 =>
  Ext w16 w17 ∧ (
  Calls Tryz.prog F.slices_Concat_sl_int_int #[x71.v] w17 (Ret [.at .sl] fun (x72 : Sl) w18 =>
  Ext w17 w18 ∧ (
  Ext w18 w18 ∧ (
  Ext w18 w18 ∧ (
  Q x72 true w18))))))))))))))))

def V_i_SolveCycle (Q : Sl → Bool → World → Prop) (x0_0 : Int) (x0_1 : Sl) (x1 : Sl) (w : World) : Prop :=
  NEW T.t_i_WalkProblem #[.int .i64 x0_0, x0_1.v] w fun (px2 : Addr) w1 =>
  LD [.int .i64, .sl] px2 w1 fun (x13_0 : Int) (x13_1 : Sl) =>
  Calls Tryz.prog F.i_IsWalkProblem #[.agg #[.int .i64 x13_0, x13_1.v]] w1 (Ret [.at .bool] fun (x14 : Bool) w2 =>
  cond (!x14) (
  Q (⟨none, 0, 0⟩) false w2) (
  Calls Tryz.prog F.i_areRingIds #[x1.v] w2 (Ret [.at .bool] fun (x18 : Bool) w3 =>
  cond (!x18) (
  Q (⟨none, 0, 0⟩) false w3) (
  V_i_SolveCycle_k1 x1 Q px2 w3))))

theorem C_i_SolveCycle {Q : Sl → Bool → World → Prop} {x0_0 : Int} {x0_1 : Sl} {x1 : Sl} {w : World} (h : V_i_SolveCycle Q x0_0 x0_1 x1 w) : Calls Tryz.prog F.i_SolveCycle #[.agg #[.int .i64 x0_0, x0_1.v], x1.v] w (Ret [.at .sl, .at .bool] Q) :=
  mkC (hint := hint) (ann := annOf [(800009, ⟨[], [1]⟩), (800014, ⟨[], [1]⟩)]) (args := [.agg #[.int .i64 x0_0, x0_1.v], x1.v]) (rs := [.at .sl, .at .bool]) Tryz.func9 (by kernel_rfl) (by kernel_rfl) h

def V_l_eqIntS (Q : Bool → World → Prop) (a : Sl) (b : Sl) (w : World) : Prop :=
  cond ((a.len : Int) != b.len) (
  Q false w) (
  ∃ (I4 : Int → World → Prop) (m4 : Int → World → Nat), I4 0 w ∧ ∀ (i : Int) w1, I4 i w1 → ∀ _ _ _ _ _ _ _ _ _ _ _ _ _ _ _ _ : Value,
  cond (decide ((i : Int) < a.len)) (
  IX a i 1 fun (px19 : Addr) =>
  LD [.int .i64] px19 w1 fun (x20 : Int) =>
  IX b i 1 fun (px23 : Addr) =>
  LD [.int .i64] px23 w1 fun (x24 : Int) =>
  ∀ w2, Ext w1 w2 →
  cond ((x20 : Int) != x24) (
  Q false w2) (
  I4 (IntKind.i64.wrap (i + 1)) w2 ∧ m4 (IntKind.i64.wrap (i + 1)) w2 < m4 i w1)) (
  Q true w1))

theorem C_l_eqIntS {Q : Bool → World → Prop} {a : Sl} {b : Sl} {w : World} (h : V_l_eqIntS Q a b w) : Calls Tryz.prog F.l_eqIntS #[a.v, b.v] w (Ret [.at .bool] Q) :=
  mkC (hint := hint) (ann := annOf [(4, ⟨[(5, .int .i64)], [4, 11, 12, 13, 14, 15, 16, 17, 18, 19, 20, 21, 22, 23, 24, 25]⟩)]) (args := [a.v, b.v]) (rs := [.at .bool]) Tryz.func10 (by kernel_rfl) (by kernel_rfl) h

def V_l_eqWalkProblem (Q : Bool → World → Prop) (a_0 : Int) (a_1 : Sl) (b_0 : Int) (b_1 : Sl) (w : World) : Prop :=
  NEW T.t_i_WalkProblem #[.int .i64 a_0, a_1.v] w fun (p_a : Addr) w1 =>
  NEW T.t_i_WalkProblem #[.int .i64 b_0, b_1.v] w1 fun (p_b : Addr) w2 =>
  LD [.int .i64] (p_a.add 0) w2 fun (x6 : Int) =>
  LD [.int .i64] (p_b.add 0) w2 fun (x8 : Int) =>
  cond ((x6 : Int) != x8) (
  Q false w2) (
  LD [.sl] (p_a.add 1) w2 fun (x11 : Sl) =>
  LD [.sl] (p_b.add 1) w2 fun (x13 : Sl) =>
  Calls Tryz.prog F.l_eqIntSS #[x11.v, x13.v] w2 (Ret [.at .bool] fun (x14 : Bool) w3 =>
  cond (!x14) (
  Q false w3) (
  Q true w3)))

theorem C_l_eqWalkProblem {Q : Bool → World → Prop} {a_0 : Int} {a_1 : Sl} {b_0 : Int} {b_1 : Sl} {w : World} (h : V_l_eqWalkProblem Q a_0 a_1 b_0 b_1 w) : Calls Tryz.prog F.l_eqWalkProblem #[.agg #[.int .i64 a_0, a_1.v], .agg #[.int .i64 b_0, b_1.v]] w (Ret [.at .bool] Q) :=
  mkC (hint := hint) (ann := annOf []) (args := [.agg #[.int .i64 a_0, a_1.v], .agg #[.int .i64 b_0, b_1.v]]) (rs := [.at .bool]) Tryz.func11 (by kernel_rfl) (by kernel_rfl) h

def V_l_markWalkProblem (Q : Int → World → Prop) (a_0 : Int) (a_1 : Sl) (k : Int) (w : World) : Prop :=
  NEW T.t_i_WalkProblem #[.int .i64 a_0, a_1.v] w fun (p_a : Addr) w1 =>
  LD [.sl] (p_a.add 1) w1 fun (x6 : Sl) =>
  Calls Tryz.prog F.l_markIntSS #[x6.v, .int .i64 k] w1 (Ret [.at (.int .i64)] fun (x8 : Int) w2 =>
  Q x8 w2)

theorem C_l_markWalkProblem {Q : Int → World → Prop} {a_0 : Int} {a_1 : Sl} {k : Int} {w : World} (h : V_l_markWalkProblem Q a_0 a_1 k w) : Calls Tryz.prog F.l_markWalkProblem #[.agg #[.int .i64 a_0, a_1.v], .int .i64 k] w (Ret [.at (.int .i64)] Q) :=
  mkC (hint := hint) (ann := annOf []) (args := [.agg #[.int .i64 a_0, a_1.v], .int .i64 k]) (rs := [.at (.int .i64)]) Tryz.func12 (by kernel_rfl) (by kernel_rfl) h

def V_l_markIntS (Q : Int → World → Prop) (a : Sl) (k : Int) (w : World) : Prop :=
  ∃ (I2 : Int → Int → World → Prop) (m2 : Int → Int → World → Nat), I2 k 0 w ∧ ∀ (k_2 : Int) (i : Int) w1, I2 k_2 i w1 → ∀ _ _ _ _ _ _ _ _ _ _ _ _ : Value,
  cond (decide ((i : Int) < a.len)) (
  IX a i 1 fun (px15 : Addr) =>
  ST px15 0 [.int .i64 k_2] w1 fun w2 =>
  I2 (IntKind.i64.wrap (k_2 + 1)) (IntKind.i64.wrap (i + 1)) w2 ∧ m2 (IntKind.i64.wrap (k_2 + 1)) (IntKind.i64.wrap (i + 1)) w2 < m2 k_2 i w1) (
  Q k_2 w1)

theorem C_l_markIntS {Q : Int → World → Prop} {a : Sl} {k : Int} {w : World} (h : V_l_markIntS Q a k w) : Calls Tryz.prog F.l_markIntS #[a.v, .int .i64 k] w (Ret [.at (.int .i64)] Q) :=
  mkC (hint := hint) (ann := annOf [(2, ⟨[(1, .int .i64), (5, .int .i64)], [6, 7, 8, 9, 10, 11, 12, 13, 14, 15, 16, 17]⟩)]) (args := [a.v, .int .i64 k]) (rs := [.at (.int .i64)]) Tryz.func13 (by kernel_rfl) (by kernel_rfl) h

def V_l_heldIntS (Q : Int → World → Prop) (a : Sl) (k : Int) (w : World) : Prop :=
  ∃ (I2 : Int → Int → World → Prop) (m2 : Int → Int → World → Nat), I2 k 0 w ∧ ∀ (k_2 : Int) (i : Int) w1, I2 k_2 i w1 → ∀ _ _ _ _ _ _ _ _ _ _ _ _ _ _ _ : Value,
  cond (decide ((i : Int) < a.len)) (
  IX a i 1 fun (px14 : Addr) =>
  LD [.int .i64] px14 w1 fun (x15 : Int) =>
  cond ((x15 : Int) != k_2) (
  Q (-1) w1) (
  I2 (IntKind.i64.wrap (k_2 + 1)) (IntKind.i64.wrap (i + 1)) w1 ∧ m2 (IntKind.i64.wrap (k_2 + 1)) (IntKind.i64.wrap (i + 1)) w1 < m2 k_2 i w1)) (
  Q k_2 w1)

theorem C_l_heldIntS {Q : Int → World → Prop} {a : Sl} {k : Int} {w : World} (h : V_l_heldIntS Q a k w) : Calls Tryz.prog F.l_heldIntS #[a.v, .int .i64 k] w (Ret [.at (.int .i64)] Q) :=
  mkC (hint := hint) (ann := annOf [(2, ⟨[(1, .int .i64), (5, .int .i64)], [4, 6, 7, 8, 9, 10, 11, 12, 13, 14, 15, 16, 17, 18, 19]⟩)]) (args := [a.v, .int .i64 k]) (rs := [.at (.int .i64)]) Tryz.func14 (by kernel_rfl) (by kernel_rfl) h

def V_l_szIntSS (Q : Int → World → Prop) (a : Sl) (left : Int) (w : World) : Prop :=
  cond (decide (((IntKind.i64.wrap (left - a.len)) : Int) < 0)) (
  Q (-1) w) (
  ∃ (I5 : Int → Int → World → Prop) (m5 : Int → Int → World → Nat), I5 (IntKind.i64.wrap (left - a.len)) 0 w ∧ ∀ (left_2 : Int) (i : Int) w1, I5 left_2 i w1 → ∀ _ _ _ _ _ _ _ _ _ _ _ _ _ _ _ : Value,
  cond (decide ((i : Int) < a.len)) (
  IX a i 1 fun (px20 : Addr) =>
  LD [.sl] px20 w1 fun (x21 : Sl) =>
  Calls Tryz.prog F.l_szIntS #[x21.v, .int .i64 left_2] w1 (Ret [.at (.int .i64)] fun (x23 : Int) w2 =>
  cond (decide ((x23 : Int) < 0)) (
  Q (-1) w2) (
  I5 x23 (IntKind.i64.wrap (i + 1)) w2 ∧ m5 x23 (IntKind.i64.wrap (i + 1)) w2 < m5 left_2 i w1))) (
  Q left_2 w1))

theorem C_l_szIntSS {Q : Int → World → Prop} {a : Sl} {left : Int} {w : World} (h : V_l_szIntSS Q a left w) : Calls Tryz.prog F.l_szIntSS #[a.v, .int .i64 left] w (Ret [.at (.int .i64)] Q) :=
  mkC (hint := hint) (ann := annOf [(5, ⟨[(1, .int .i64), (5, .int .i64)], [4, 12, 13, 14, 15, 16, 17, 18, 19, 20, 21, 22, 23, 24, 25]⟩)]) (args := [a.v, .int .i64 left]) (rs := [.at (.int .i64)]) Tryz.func20 (by kernel_rfl) (by kernel_rfl) h

def V_s_waGood (Q : Bool → World → Prop) (p_0 : Int) (p_1 : Sl) (w : World) : Prop :=
  NEW T.t_i_WalkProblem #[.int .i64 p_0, p_1.v] w fun (p_p : Addr) w1 =>
  LD [.int .i64] (p_p.add 0) w1 fun (x4 : Int) =>
  Calls Tryz.prog F.s_l1In #[.int .i64 x4, .int .i64 1, .int .i64 12] w1 (Ret [.at .bool] fun (x5 : Bool) w2 =>
  cond x5 (
  LD [.sl] (p_p.add 1) w2 fun (x8 : Sl) =>
  LD [.int .i64] (p_p.add 0) w2 fun (x10 : Int) =>
  Calls Tryz.prog F.s_waArcs #[x8.v, .int .i64 x10] w2 (Ret [.at .bool] fun (x11 : Bool) w3 =>
  Q x11 w3)) (
  Q false w2))

theorem C_s_waGood {Q : Bool → World → Prop} {p_0 : Int} {p_1 : Sl} {w : World} (h : V_s_waGood Q p_0 p_1 w) : Calls Tryz.prog F.s_waGood #[.agg #[.int .i64 p_0, p_1.v]] w (Ret [.at .bool] Q) :=
  mkC (hint := hint) (ann := annOf []) (args := [.agg #[.int .i64 p_0, p_1.v]]) (rs := [.at .bool]) Tryz.func21 (by kernel_rfl) (by kernel_rfl) h

def V_s_cyIds (Q : Bool → World → Prop) (l : Sl) (w : World) : Prop :=
  ∃ (I2 : Int → World → Prop) (m2 : Int → World → Nat), I2 0 w ∧ ∀ (x7 : Int) w1, I2 x7 w1 → ∀ _ _ _ _ _ _ _ _ _ _ _ _ _ _ _ _ _ _ : Value,
  cond (decide ((x7 : Int) < l.len)) (
  IX l x7 1 fun (px10 : Addr) =>
  LD [.int .i64] px10 w1 fun (x11 : Int) =>
  Calls Tryz.prog F.s_l1In #[.int .i64 x11, .int .i64 1, .int .i64 999999] w1 (Ret [.at .bool] fun (x13 : Bool) w2 =>
  cond (!x13) (
  Q false w2) (
  SLC l none (some x7) 1 fun (x18 : Sl) =>
  Calls Tryz.prog F.s_l1Has #[x18.v, .int .i64 x11] w2 (Ret [.at .bool] fun (x20 : Bool) w3 =>
  cond x20 (
  Q false w3) (
  I2 (IntKind.i64.wrap (x7 + 1)) w3 ∧ m2 (IntKind.i64.wrap (x7 + 1)) w3 < m2 x7 w1))))) (
  Calls Tryz.prog F.s_cyLong #[l.v] w1 (Ret [.at .bool] fun (x24 : Bool) w4 =>
  Q x24 w4))

theorem C_s_cyIds {Q : Bool → World → Prop} {l : Sl} {w : World} (h : V_s_cyIds Q l w) : Calls Tryz.prog F.s_cyIds #[l.v] w (Ret [.at .bool] Q) :=
  mkC (hint := hint) (ann := annOf [(2, ⟨[(7, .int .i64)], [2, 3, 4, 8, 9, 10, 11, 12, 13, 14, 15, 16, 17, 18, 19, 20, 21, 22]⟩)]) (args := [l.v]) (rs := [.at .bool]) Tryz.func22 (by kernel_rfl) (by kernel_rfl) h

def V_s_LoopOf (Q : Int → Bool → World → Prop) (p_0 : Int) (p_1 : Sl) (w : World) : Prop :=
  NEW T.t_i_WalkProblem #[.int .i64 p_0, p_1.v] w fun (p_p : Addr) w1 =>
  LD [.int .i64, .sl] p_p w1 fun (x4_0 : Int) (x4_1 : Sl) =>
  Calls Tryz.prog F.s_waGood #[.agg #[.int .i64 x4_0, x4_1.v]] w1 (Ret [.at .bool] fun (x5 : Bool) w2 =>
  cond (!x5) (
  Q 0 false w2) (
  LD [.int .i64, .sl] p_p w2 fun (x8_0 : Int) (x8_1 : Sl) =>
  Calls Tryz.prog F.s_waLoop #[.agg #[.int .i64 x8_0, x8_1.v]] w2 (Ret [.at (.int .i64)] fun (x9 : Int) w3 =>
  cond (decide ((x9 : Int) < 0)) (
  Q 0 false w3) (
  LD [.int .i64, .sl] p_p w3 fun (x12_0_2 : Int) (x12_1_2 : Sl) =>
  Calls Tryz.prog F.s_waLoop #[.agg #[.int .i64 x12_0_2, x12_1_2.v]] w3 (Ret [.at (.int .i64)] fun (x13_2 : Int) w5 =>
  Q x13_2 true w5)))))

theorem C_s_LoopOf {Q : Int → Bool → World → Prop} {p_0 : Int} {p_1 : Sl} {w : World} (h : V_s_LoopOf Q p_0 p_1 w) : Calls Tryz.prog F.s_LoopOf #[.agg #[.int .i64 p_0, p_1.v]] w (Ret [.at (.int .i64), .at .bool] Q) :=
  mkC (hint := hint) (ann := annOf []) (args := [.agg #[.int .i64 p_0, p_1.v]]) (rs := [.at (.int .i64), .at .bool]) Tryz.func23 (by kernel_rfl) (by kernel_rfl) h

def V_s_cyLevels_k1 (Q : Int → Int → Bool → World → Prop) (p_p : Addr) (x12_0 : Sl) (w3 : World) : Prop :=
  LD [.int .i64, .sl] p_p w3 fun (x23_0 : Int) (x23_1 : Sl) =>
  IX x12_0 0 1 fun (px25 : Addr) =>
  LD [.int .i64] px25 w3 fun (x26 : Int) =>
  QCALL Tryz.prog F.s_FlexibilityOf #[.agg #[.int .i64 x23_0, x23_1.v], .int .i64 x26] w3 [.at (.int .i64), .at .bool] fun (x27_0 : Int) (x27_1 : Bool) =>
  ∀ w4, Ext w3 w4 →
  ∃ (I6 : Int → World → Prop) (m6 : Int → World → Nat), I6 0 w4 ∧ ∀ (levels : Int) w5, I6 levels w5 → ∀ _ _ _ _ _ _ _ : Value,
  (0 : Int) ≤ (IntKind.u64.wrap levels) ∧ (
  cond (decide (((shlI .i64 1 (IntKind.u64.wrap levels)) : Int) < x27_0)) (
  I6 (IntKind.i64.wrap (levels + 1)) w5 ∧ m6 (IntKind.i64.wrap (levels + 1)) w5 < m6 levels w5) (
  IX x12_0 0 1 fun (px38 : Addr) =>
  LD [.int .i64] px38 w5 fun (x39 : Int) =>
  Q x39 levels true w5))

def V_s_cyLevels (Q : Int → Int → Bool → World → Prop) (p_0 : Int) (p_1 : Sl) (w : World) : Prop :=
  NEW T.t_i_WalkProblem #[.int .i64 p_0, p_1.v] w fun (p_p : Addr) w1 =>
  LD [.int .i64, .sl] p_p w1 fun (x11_0 : Int) (x11_1 : Sl) =>
  Calls Tryz.prog F.s_FlexibleLabels #[.agg #[.int .i64 x11_0, x11_1.v]] w1 (Ret [.at .sl, .at .bool] fun (x12_0 : Sl) (x12_1 : Bool) w2 =>
  cond (!x12_1) (
  Q 0 0 false w2) (
  cond ((x12_0.len : Int) == 0) (
  Q 0 0 false w2) (
  V_s_cyLevels_k1 Q p_p x12_0 w2)))

theorem C_s_cyLevels {Q : Int → Int → Bool → World → Prop} {p_0 : Int} {p_1 : Sl} {w : World} (h : V_s_cyLevels Q p_0 p_1 w) : Calls Tryz.prog F.s_cyLevels #[.agg #[.int .i64 p_0, p_1.v]] w (Ret [.at (.int .i64), .at (.int .i64), .at .bool] Q) :=
  mkC (hint := hint) (ann := annOf [(6, ⟨[(9, .int .i64)], [30, 31, 32, 33, 34, 35, 36]⟩)]) (args := [.agg #[.int .i64 p_0, p_1.v]]) (rs := [.at (.int .i64), .at (.int .i64), .at .bool]) Tryz.func24 (by kernel_rfl) (by kernel_rfl) h

def V_s_cyFill (Q : Sl → Bool → World → Prop) (p_0 : Int) (p_1 : Sl) (a : Int) (k : Int) (marks : Sl) (w : World) : Prop :=
  NEW T.t_i_WalkProblem #[.int .i64 p_0, p_1.v] w fun (p_p : Addr) w1 =>
  RUN Tryz.prog (.at .sl) (Instr.makeSlice T.t_sl_int (.int .i64 k) (.int .i64 k)) w1 fun (x18 : Sl) w2 =>
  Calls Tryz.prog F.s_cyGaps #[.int .i64 k, marks.v] w2 (Ret [.at .sl] fun (x21 : Sl) w3 =>
  ∃ (I3 : Int → World → Prop) (m3 : Int → World → Nat), I3 0 w3 ∧ ∀ (x23 : Int) w4, I3 x23 w4 → ∀ _ _ _ _ _ _ _ _ _ _ _ _ _ _ _ _ _ _ _ _ _ _ _ _ _ _ _ _ _ _ _ _ _ _ _ _ _ _ _ _ _ _ : Value,
  cond (decide ((x23 : Int) < x21.len)) (
  IX x21 x23 1 fun (px26 : Addr) =>
  LD [.int .i64] px26 w4 fun (x27 : Int) =>
  LD [.int .i64, .sl] p_p w4 fun (x29_0 : Int) (x29_1 : Sl) =>
  Calls Tryz.prog F.s_WalkBetween #[.agg #[.int .i64 x29_0, x29_1.v], .int .i64 a, .int .i64 a, .int .i64 x27] w4 (Ret [.at .sl, .at .bool] fun (x33_0 : Sl) (x33_1 : Bool) w5 =>
  cond (!x33_1) (
  Q (⟨none, 0, 0⟩) false w5) (
  ∃ (I9 : Int → World → Prop) (m9 : Int → World → Nat), I9 0 w5 ∧ ∀ (x40 : Int) w6, I9 x40 w6 → ∀ _ _ _ _ _ _ _ _ _ _ _ _ _ _ _ _ _ _ : Value,
  cond (decide ((x40 : Int) < x33_0.len)) (
  IX x33_0 x40 1 fun (px43 : Addr) =>
  LD [.int .i64] px43 w6 fun (x44 : Int) =>
  IX marks x23 1 fun (px48 : Addr) =>
  LD [.int .i64] px48 w6 fun (x49 : Int) =>
  (k : Int) ≠ 0 ∧ (
  IX x18 (Int.tmod (IntKind.i64.wrap (x49 + x40)) k) 1 fun (px55 : Addr) =>
  ST px55 0 [.int .i64 x44] w6 fun w7 =>
  I9 (IntKind.i64.wrap (x40 + 1)) w7 ∧ m9 (IntKind.i64.wrap (x40 + 1)) w7 < m9 x40 w6)) (
  I3 (IntKind.i64.wrap (x23 + 1)) w6 ∧ m3 (IntKind.i64.wrap (x23 + 1)) w6 < m3 x23 w4)))) (
  Q x18 true w4))

theorem C_s_cyFill {Q : Sl → Bool → World → Prop} {p_0 : Int} {p_1 : Sl} {a : Int} {k : Int} {marks : Sl} {w : World} (h : V_s_cyFill Q p_0 p_1 a k marks w) : Calls Tryz.prog F.s_cyFill #[.agg #[.int .i64 p_0, p_1.v], .int .i64 a, .int .i64 k, marks.v] w (Ret [.at .sl, .at .bool] Q) :=
  mkC (hint := hint) (ann := annOf [(3, ⟨[(23, .int .i64)], [8, 9, 11, 12, 13, 14, 15, 16, 24, 25, 26, 27, 28, 29, 30, 31, 32, 33, 34, 35, 36, 37, 38, 39, 40, 41, 42, 43, 44, 45, 46, 47, 48, 49, 50, 51, 52, 53, 54, 55, 56, 57]⟩), (9, ⟨[(40, .int .i64)], [15, 16, 41, 42, 43, 44, 45, 46, 47, 48, 49, 50, 51, 52, 53, 54, 55, 56]⟩)]) (args := [.agg #[.int .i64 p_0, p_1.v], .int .i64 a, .int .i64 k, marks.v]) (rs := [.at .sl, .at .bool]) Tryz.func25 (by kernel_rfl) (by kernel_rfl) h

def V_s_cySpaced (Q : Sl → World → Prop) (ids : Sl) (levels : Int) (w : World) : Prop :=
  ∃ (I3 : Sl → Int → World → Prop) (m3 : Sl → Int → World → Nat), I3 (⟨none, 0, 0⟩) 0 w ∧ ∀ (marks : Sl) (x12 : Int) w1, I3 marks x12 w1 → ∀ _ _ _ _ _ _ _ _ : Value,
  cond (decide ((x12 : Int) < ids.len)) (
  RUN Tryz.prog (.at .sl) (Instr.buildSlice T.t_sl_int 1 #[(0, .int .i64 x12)]) w1 fun (x17 : Sl) w2 =>
  RUN Tryz.prog (.at .sl) (bsem .append #[T.t_sl_int, T.t_sl_int] T.t_sl_int #[marks.v, x17.v]) w2 fun (x18 : Sl) w3 =>
  I3 x18 (IntKind.i64.wrap (x12 + 1)) w3 ∧ m3 x18 (IntKind.i64.wrap (x12 + 1)) w3 < m3 marks x12 w1) (
  ∃ (I7 : Int → Sl → World → Prop) (m7 : Int → Sl → World → Nat), I7 levels marks w1 ∧ ∀ (levels_2 : Int) (marks_2 : Sl) w4, I7 levels_2 marks_2 w4 → ∀ _ _ _ _ _ _ _ _ _ _ _ _ _ _ _ _ _ _ _ _ _ _ _ _ : Value,
  cond (decide ((levels_2 : Int) > 0)) (
  cond (decide ((marks_2.len : Int) > 1)) (
  Calls Tryz.prog F.s_coThrough #[ids.v, marks_2.v] w4 (Ret [.at .sl] fun (x31_2 : Sl) w9 =>
  Calls Tryz.prog F.s_cyThree #[x31_2.v] w9 (Ret [.at .sl, .at (.int .i64)] fun (x34_0_2 : Sl) (x34_1_2 : Int) w10 =>
  Calls Tryz.prog F.s_cyMark #[x34_0_2.v] w10 (Ret [.at .sl] fun (x39_2 : Sl) w11 =>
  Calls Tryz.prog F.s_coThrough #[marks_2.v, x39_2.v] w11 (Ret [.at .sl] fun (x40_2 : Sl) w12 =>
  I7 (IntKind.i64.wrap (levels_2 - 1)) x40_2 w12 ∧ m7 (IntKind.i64.wrap (levels_2 - 1)) x40_2 w12 < m7 levels_2 marks_2 w4))))) (
  Q marks_2 w4)) (
  Q marks_2 w4))

theorem C_s_cySpaced {Q : Sl → World → Prop} {ids : Sl} {levels : Int} {w : World} (h : V_s_cySpaced Q ids levels w) : Calls Tryz.prog F.s_cySpaced #[ids.v, .int .i64 levels] w (Ret [.at .sl] Q) :=
  mkC (hint := hint) (ann := annOf [(3, ⟨[(5, .sl), (12, .int .i64)], [6, 13, 14, 15, 16, 17, 18, 19]⟩), (7, ⟨[(1, .int .i64), (5, .sl)], [7, 8, 9, 20, 21, 22, 23, 24, 25, 26, 27, 28, 29, 30, 31, 32, 33, 34, 35, 36, 37, 38, 39, 40]⟩)]) (args := [ids.v, .int .i64 levels]) (rs := [.at .sl]) Tryz.func26 (by kernel_rfl) (by kernel_rfl) h

def V_s_FirstCycleLabeling_k1 (k : Int) (Q : Sl → Bool → World → Prop) (p_p : Addr) (w4 : World) : Prop :=
  ∃ (I4 : Int → World → Prop) (m4 : Int → World → Nat), I4 0 w4 ∧ ∀ (a : Int) w5, I4 a w5 → ∀ _ _ _ _ _ _ _ _ _ _ _ _ _ _ _ _ _ _ _ _ _ _ _ : Value,
  LD [.int .i64] (p_p.add 0) w5 fun (x19 : Int) =>
  cond (decide ((a : Int) < x19)) (
  LD [.int .i64, .sl] p_p w5 fun (x24_0 : Int) (x24_1 : Sl) =>
  Calls Tryz.prog F.s_waBetween #[.agg #[.int .i64 x24_0, x24_1.v], .int .i64 a, .int .i64 a, .int .i64 k] w5 (Ret [.at .sl, .at .bool] fun (x28_0 : Sl) (x28_1 : Bool) w6 =>
  cond x28_1 (
  SLC x28_0 none (some k) 1 fun (x34 : Sl) =>
  Calls Tryz.prog F.s_l1Own #[x34.v] w6 (Ret [.at .sl] fun (x35 : Sl) w7 =>
  Q x35 true w7)) (
  I4 (IntKind.i64.wrap (a + 1)) w6 ∧ m4 (IntKind.i64.wrap (a + 1)) w6 < m4 a w5))) (
  Q (⟨none, 0, 0⟩) false w5)

def V_s_FirstCycleLabeling (Q : Sl → Bool → World → Prop) (p_0 : Int) (p_1 : Sl) (k : Int) (w : World) : Prop :=
  NEW T.t_i_WalkProblem #[.int .i64 p_0, p_1.v] w fun (p_p : Addr) w1 =>
  LD [.int .i64, .sl] p_p w1 fun (x9_0 : Int) (x9_1 : Sl) =>
  Calls Tryz.prog F.s_waGood #[.agg #[.int .i64 x9_0, x9_1.v]] w1 (Ret [.at .bool] fun (x10 : Bool) w2 =>
  cond (!x10) (
  Q (⟨none, 0, 0⟩) false w2) (
  Calls Tryz.prog F.s_l1In #[.int .i64 k, .int .i64 1, .int .i64 60] w2 (Ret [.at .bool] fun (x14 : Bool) w3 =>
  cond (!x14) (
  Q (⟨none, 0, 0⟩) false w3) (
  V_s_FirstCycleLabeling_k1 k Q p_p w3))))

theorem C_s_FirstCycleLabeling {Q : Sl → Bool → World → Prop} {p_0 : Int} {p_1 : Sl} {k : Int} {w : World} (h : V_s_FirstCycleLabeling Q p_0 p_1 k w) : Calls Tryz.prog F.s_FirstCycleLabeling #[.agg #[.int .i64 p_0, p_1.v], .int .i64 k] w (Ret [.at .sl, .at .bool] Q) :=
  mkC (hint := hint) (ann := annOf [(4, ⟨[(6, .int .i64)], [4, 5, 7, 8, 17, 18, 19, 20, 21, 22, 23, 24, 25, 26, 27, 28, 29, 30, 31, 32, 33, 34, 35]⟩)]) (args := [.agg #[.int .i64 p_0, p_1.v], .int .i64 k]) (rs := [.at .sl, .at .bool]) Tryz.func27 (by kernel_rfl) (by kernel_rfl) h

def V_l_toIntSS (Q : Sl → World → Prop) (a : Sl) (w : World) : Prop :=
  RUN Tryz.prog (.at .sl) (Instr.makeSlice T.t_sl_sl_int (.int .i64 a.len) (.int .i64 a.len)) w fun (x7 : Sl) w1 =>
  ∃ (I3 : Int → World → Prop) (m3 : Int → World → Nat), I3 0 w1 ∧ ∀ (i : Int) w2, I3 i w2 → ∀ _ _ _ _ _ _ _ _ _ _ _ _ _ _ : Value,
  cond (decide ((i : Int) < a.len)) (
  IX a i 1 fun (px18 : Addr) =>
  LD [.sl] px18 w2 fun (x19 : Sl) =>
  Calls Tryz.prog F.l_toIntS #[x19.v] w2 (Ret [.at .sl] fun (x20 : Sl) w3 =>
  IX x7 i 1 fun (px21 : Addr) =>
  ST px21 0 [x20.v] w3 fun w4 =>
  I3 (IntKind.i64.wrap (i + 1)) w4 ∧ m3 (IntKind.i64.wrap (i + 1)) w4 < m3 i w2)) (
  Q x7 w2)

theorem C_l_toIntSS {Q : Sl → World → Prop} {a : Sl} {w : World} (h : V_l_toIntSS Q a w) : Calls Tryz.prog F.l_toIntSS #[a.v] w (Ret [.at .sl] Q) :=
  mkC (hint := hint) (ann := annOf [(3, ⟨[(4, .int .i64)], [8, 9, 10, 11, 12, 13, 14, 15, 16, 17, 18, 19, 20, 21]⟩)]) (args := [a.v]) (rs := [.at .sl]) Tryz.func28 (by kernel_rfl) (by kernel_rfl) h

def V_i_IsWalkProblem (Q : Bool → World → Prop) (p_0 : Int) (p_1 : Sl) (w : World) : Prop :=
  NEW T.t_i_WalkProblem #[.int .i64 p_0, p_1.v] w fun (p_p : Addr) w1 =>
  LD [.int .i64] (p_p.add 0) w1 fun (x6 : Int) =>
  Calls Tryz.prog F.i_within #[.int .i64 x6, .int .i64 1, .int .i64 12] w1 (Ret [.at .bool] fun (x7 : Bool) w2 =>
  cond (!x7) (
  Q false w2) (
  LD [.sl] (p_p.add 1) w2 fun (x10 : Sl) =>
  ∃ (I4 : Int → World → Prop) (m4 : Int → World → Nat), I4 0 w2 ∧ ∀ (x12 : Int) w3, I4 x12 w3 → ∀ _ _ _ _ _ _ _ _ _ _ _ _ _ _ _ _ _ _ _ _ _ _ _ _ _ _ _ _ _ _ _ _ : Value,
  cond (decide ((x12 : Int) < x10.len)) (
  IX x10 x12 1 fun (px15 : Addr) =>
  LD [.sl] px15 w3 fun (x16 : Sl) =>
  cond ((x16.len : Int) != 2) (
  Q false w3) (
  LD [.int .i64, .sl] p_p w3 fun (x21_0 : Int) (x21_1 : Sl) =>
  Calls Tryz.prog F.i_WalkProblem_hasLabels #[.agg #[.int .i64 x21_0, x21_1.v], x16.v] w3 (Ret [.at .bool] fun (x23 : Bool) w4 =>
  cond (!x23) (
  Q false w4) (
  cond (decide ((x12 : Int) > 0)) (
  LD [.sl] (p_p.add 1) w4 fun (x31 : Sl) =>
  IX x31 (IntKind.i64.wrap (x12 - 1)) 1 fun (px34 : Addr) =>
  LD [.sl] px34 w4 fun (x35 : Sl) =>
  Calls Tryz.prog F.slices_Compare_sl_int_int #[x35.v, x16.v] w4 (Ret [.at (.int .i64)] fun (x37 : Int) w5 =>
  cond (decide ((x37 : Int) ≥ 0)) (
  Q false w5) (
  I4 (IntKind.i64.wrap (x12 + 1)) w5 ∧ m4 (IntKind.i64.wrap (x12 + 1)) w5 < m4 x12 w3))) (
  I4 (IntKind.i64.wrap (x12 + 1)) w4 ∧ m4 (IntKind.i64.wrap (x12 + 1)) w4 < m4 x12 w3))))) (
  Q true w3)))

theorem C_i_IsWalkProblem {Q : Bool → World → Prop} {p_0 : Int} {p_1 : Sl} {w : World} (h : V_i_IsWalkProblem Q p_0 p_1 w) : Calls Tryz.prog F.i_IsWalkProblem #[.agg #[.int .i64 p_0, p_1.v]] w (Ret [.at .bool] Q) :=
  mkC (hint := hint) (ann := annOf [(4, ⟨[(12, .int .i64)], [2, 3, 4, 13, 14, 15, 16, 17, 18, 19, 20, 21, 22, 23, 24, 25, 26, 27, 28, 29, 30, 31, 32, 33, 34, 35, 36, 37, 38, 39, 40, 41]⟩)]) (args := [.agg #[.int .i64 p_0, p_1.v]]) (rs := [.at .bool]) Tryz.func29 (by kernel_rfl) (by kernel_rfl) h

def V_i_areRingIds (Q : Bool → World → Prop) (ids : Sl) (w : World) : Prop :=
  Calls Tryz.prog F.i_isRing #[ids.v] w (Ret [.at .bool] fun (x4 : Bool) w1 =>
  cond x4 (
  Calls Tryz.prog F.i_idsOk #[ids.v, .int .i64 ids.len] w1 (Ret [.at .bool] fun (x9 : Bool) w2 =>
  Q x9 w2)) (
  Q false w1))

theorem C_i_areRingIds {Q : Bool → World → Prop} {ids : Sl} {w : World} (h : V_i_areRingIds Q ids w) : Calls Tryz.prog F.i_areRingIds #[ids.v] w (Ret [.at .bool] Q) :=
  mkC (hint := hint) (ann := annOf []) (args := [ids.v]) (rs := [.at .bool]) Tryz.func30 (by kernel_rfl) (by kernel_rfl) h

def V_i_WalkProblem_loopOf (Q : Int → World → Prop) (p_0 : Int) (p_1 : Sl) (w : World) : Prop :=
  NEW T.t_i_WalkProblem #[.int .i64 p_0, p_1.v] w fun (p_p : Addr) w1 =>
  LD [.int .i64] (p_p.add 0) w1 fun (x4 : Int) =>
  Calls Tryz.prog F.i_numbersTo #[.int .i64 x4] w1 (Ret [.at .sl] fun (x5 : Sl) w2 =>
  Calls Tryz.prog F.slices_IndexFunc_sl_int_int #[x5.v, .func (.func F.i_WalkProblem_loopOf_1) #[] #[.pointer (some p_p)]] w2 (Ret [.at (.int .i64)] fun (x7 : Int) w3 =>
  Q x7 w3))

theorem C_i_WalkProblem_loopOf {Q : Int → World → Prop} {p_0 : Int} {p_1 : Sl} {w : World} (h : V_i_WalkProblem_loopOf Q p_0 p_1 w) : Calls Tryz.prog F.i_WalkProblem_loopOf #[.agg #[.int .i64 p_0, p_1.v]] w (Ret [.at (.int .i64)] Q) :=
  mkC (hint := hint) (ann := annOf []) (args := [.agg #[.int .i64 p_0, p_1.v]]) (rs := [.at (.int .i64)]) Tryz.func31 (by kernel_rfl) (by kernel_rfl) h

def V_slices_Repeat_sl_int_int_k2 (x : Sl) (Q : Sl → World → Prop) (x18_1 : Int) (w2 : World) : Prop :=
  RUN Tryz.prog (.at .sl) (Instr.makeSlice T.t_sl_int (.int .i64 (IntKind.i64.wrap x18_1)) (.int .i64 (IntKind.i64.wrap x18_1))) w2 fun (x30 : Sl) w3 =>
  RUN Tryz.prog (.at (.int .i64)) (bsem .copy #[T.t_sl_int, T.t_sl_int] T.t_int #[x30.v, x.v]) w3 fun (x33 : Int) w4 =>
  ∃ (I8 : Int → World → Prop) (m8 : Int → World → Nat), I8 x33 w4 ∧ ∀ (n : Int) w5, I8 n w5 → ∀ _ _ _ _ _ _ _ _ _ _ _ _ _ : Value,
  cond (decide ((n : Int) < x30.len)) (
  ∀ w6, Ext w5 w6 → w6.heap = w5.heap → ∃ (D6 : Nat → Prop),
  SLC x30 (some n) none 1 fun (x41 : Sl) =>
  Chg w6 w6 D6 ∧ (
  SLC x30 none (some n) 1 fun (x44 : Sl) =>
  Chg w6 w6 D6 ∧ (
  RUN Tryz.prog (.at (.int .i64)) (bsem .copy #[T.t_sl_int, T.t_sl_int] T.t_int #[x41.v, x44.v]) w6 fun (x45 : Int) w7 =>
  Chg w6 w7 D6 ∧ (
  Chg w6 w7 D6 ∧ (
  I8 (IntKind.i64.wrap (n + x45)) w7 ∧ m8 (IntKind.i64.wrap (n + x45)) w7 < m8 n w5))))) (
  Q x30 w5)

def V_slices_Repeat_sl_int_int (Q : Sl → World → Prop) (x : Sl) (count : Int) (w : World) : Prop :=
  cond (decide ((count : Int) < 0)) (
  False) (
  Calls Tryz.prog F.math_bits_Mul #[.int .u64 (IntKind.u64.wrap x.len), .int .u64 (IntKind.u64.wrap count)] w (Ret [.at (.int .u64), .at (.int .u64)] fun (x18_0 : Int) (x18_1 : Int) w1 =>
  cond (decide ((x18_0 : Int) > 0)) (
  False) (
  cond (decide ((x18_1 : Int) > 9223372036854775807)) (
  False) (
  V_slices_Repeat_sl_int_int_k2 x Q x18_1 w1))))

theorem C_slices_Repeat_sl_int_int {Q : Sl → World → Prop} {x : Sl} {count : Int} {w : World} (h : V_slices_Repeat_sl_int_int Q x count w) : Calls Tryz.prog F.slices_Repeat_sl_int_int #[x.v, .int .i64 count] w (Ret [.at .sl] Q) :=
  mkC (hint := hint) (ann := annOf [(8, ⟨[(8, .int .i64)], [34, 35, 36, 37, 38, 39, 40, 41, 42, 43, 44, 45, 46]⟩)]) (args := [x.v, .int .i64 count]) (rs := [.at .sl]) Tryz.func32 (by kernel_rfl) (by kernel_rfl) h

def V_i_LevelsFor_k1 (Q : Int → Bool → World → Prop) (p_p : Addr) (w4 : World) : Prop :=
  ∀ w5, Ext w4 w5 → w5.heap = w4.heap →
  LD [.int .i64, .sl] p_p w5 fun (x15_0 : Int) (x15_1 : Sl) =>
  LD [.int .i64, .sl] p_p w5 fun (x16_0 : Int) (x16_1 : Sl) =>
  Ext w5 w5 ∧ (
  Calls Tryz.prog F.i_WalkProblem_flexibleLabels #[.agg #[.int .i64 x16_0, x16_1.v]] w5 (Ret [.at .sl] fun (x17 : Sl) w6 =>
  Ext w5 w6 ∧ (
  IX x17 0 1 fun (px18 : Addr) =>
  Ext w5 w6 ∧ (
  LD [.int .i64] px18 w6 fun (x19 : Int) =>
  Ext w5 w6 ∧ (
  Calls Tryz.prog F.i_WalkProblem_flexibilityOf #[.agg #[.int .i64 x15_0, x15_1.v], .int .i64 x19] w6 (Ret [.at (.int .i64)] fun (x20 : Int) w7 =>
  ∃ (I5 : Int → World → Prop) (m5 : Int → World → Nat), I5 0 w7 ∧ ∀ (levels : Int) w8, I5 levels w8 → ∀ _ _ _ _ _ _ : Value,
  (0 : Int) ≤ levels ∧ (
  cond (decide (((shlI .i64 1 levels) : Int) < x20)) (
  I5 (IntKind.i64.wrap (levels + 1)) w8 ∧ m5 (IntKind.i64.wrap (levels + 1)) w8 < m5 levels w8) (
  Q levels true w8))))))))

def V_i_LevelsFor (Q : Int → Bool → World → Prop) (p_0 : Int) (p_1 : Sl) (w : World) : Prop :=
  NEW T.t_i_WalkProblem #[.int .i64 p_0, p_1.v] w fun (p_p : Addr) w1 =>
  LD [.int .i64, .sl] p_p w1 fun (x6_0 : Int) (x6_1 : Sl) =>
  Calls Tryz.prog F.i_IsWalkProblem #[.agg #[.int .i64 x6_0, x6_1.v]] w1 (Ret [.at .bool] fun (x7 : Bool) w2 =>
  cond (!x7) (
  Q 0 false w2) (
  LD [.int .i64, .sl] p_p w2 fun (x10_0 : Int) (x10_1 : Sl) =>
  Calls Tryz.prog F.i_WalkProblem_flexibleLabels #[.agg #[.int .i64 x10_0, x10_1.v]] w2 (Ret [.at .sl] fun (x11 : Sl) w3 =>
  cond ((x11.len : Int) == 0) (
  Q 0 false w3) (
  V_i_LevelsFor_k1 Q p_p w3))))

theorem C_i_LevelsFor {Q : Int → Bool → World → Prop} {p_0 : Int} {p_1 : Sl} {w : World} (h : V_i_LevelsFor Q p_0 p_1 w) : Calls Tryz.prog F.i_LevelsFor #[.agg #[.int .i64 p_0, p_1.v]] w (Ret [.at (.int .i64), .at .bool] Q) :=
  mkC (hint := hint) (ann := annOf [(5, ⟨[(5, .int .i64)], [21, 22, 23, 24, 25, 26]⟩)]) (args := [.agg #[.int .i64 p_0, p_1.v]]) (rs := [.at (.int .i64), .at .bool]) Tryz.func33 (by kernel_rfl) (by kernel_rfl) h

def V_i_FillCycle_k1 (x1 : Int) (x2 : Int) (x3 : Sl) (Q : Sl → Bool → World → Prop) (px4 : Addr) (w6 : World) : Prop :=
  RUN Tryz.prog (.at .sl) (Instr.makeSlice T.t_sl_int (.int .i64 x2) (.int .i64 x2)) w6 fun (x32 : Sl) w7 =>
  Calls Tryz.prog F.i_gapsOf #[.int .i64 x2, x3.v] w7 (Ret [.at .sl] fun (x35 : Sl) w8 =>
  ∃ (I5 : Int → World → Prop) (m5 : Int → World → Nat), I5 0 w8 ∧ ∀ (x37 : Int) w9, I5 x37 w9 → ∀ _ _ _ _ _ _ _ _ _ _ _ _ _ _ _ _ _ _ _ _ _ _ _ _ _ _ _ _ _ _ _ _ _ _ _ _ _ : Value,
  cond (decide ((x37 : Int) < x35.len)) (
  IX x35 x37 1 fun (px40 : Addr) =>
  LD [.int .i64] px40 w9 fun (x41 : Int) =>
  LD [.int .i64, .sl] px4 w9 fun (x42_0 : Int) (x42_1 : Sl) =>
  Calls Tryz.prog F.i_WalkProblem_walkBetween #[.agg #[.int .i64 x42_0, x42_1.v], .int .i64 x1, .int .i64 x1, .int .i64 x41] w9 (Ret [.at .sl] fun (x46 : Sl) w10 =>
  cond x46.a.isNone (
  Q (⟨none, 0, 0⟩) false w10) (
  ∃ (I11 : Int → World → Prop) (m11 : Int → World → Nat), I11 0 w10 ∧ ∀ (x50 : Int) w11, I11 x50 w11 → ∀ _ _ _ _ _ _ _ _ _ _ _ _ _ _ _ _ _ _ : Value,
  cond (decide ((x50 : Int) < x41)) (
  ∀ w12, Ext w11 w12 → w12.heap = w11.heap → ∃ (D12 : Nat → Prop),
  IX x3 x37 1 fun (px56 : Addr) =>
  ¬ D12 px56.block ∧ (
  LD [.int .i64] px56 w12 fun (x57 : Int) =>
  (x2 : Int) ≠ 0 ∧ (
  Chg w12 w12 D12 ∧ (
  IX x46 x50 1 fun (px64 : Addr) =>
  Chg w12 w12 D12 ∧ (
  LD [.int .i64] px64 w12 fun (x65 : Int) =>
  Chg w12 w12 D12 ∧ (
  IX x32 (Int.tmod (IntKind.i64.wrap (x57 + x50)) x2) 1 fun (px66 : Addr) =>
  ST px66 0 [.int .i64 x65] w12 fun w13 =>
  I11 (IntKind.i64.wrap (x50 + 1)) w13 ∧ m11 (IntKind.i64.wrap (x50 + 1)) w13 < m11 x50 w11)))))) (
  I5 (IntKind.i64.wrap (x37 + 1)) w11 ∧ m5 (IntKind.i64.wrap (x37 + 1)) w11 < m5 x37 w9)))) (
  Q x32 true w9))

def V_i_FillCycle (Q : Sl → Bool → World → Prop) (x0_0 : Int) (x0_1 : Sl) (x1 : Int) (x2 : Int) (x3 : Sl) (w : World) : Prop :=
  NEW T.t_i_WalkProblem #[.int .i64 x0_0, x0_1.v] w fun (px4 : Addr) w1 =>
  LD [.int .i64, .sl] px4 w1 fun (x15_0 : Int) (x15_1 : Sl) =>
  Calls Tryz.prog F.i_IsWalkProblem #[.agg #[.int .i64 x15_0, x15_1.v]] w1 (Ret [.at .bool] fun (x16 : Bool) w2 =>
  cond (!x16) (
  Q (⟨none, 0, 0⟩) false w2) (
  LD [.int .i64, .sl] px4 w2 fun (x19_0 : Int) (x19_1 : Sl) =>
  RUN Tryz.prog (.at .sl) (Instr.buildSlice T.t_sl_int 1 #[(0, .int .i64 x1)]) w2 fun (x21 : Sl) w3 =>
  Calls Tryz.prog F.i_WalkProblem_hasLabels #[.agg #[.int .i64 x19_0, x19_1.v], x21.v] w3 (Ret [.at .bool] fun (x22 : Bool) w4 =>
  cond (!x22) (
  Q (⟨none, 0, 0⟩) false w4) (
  Calls Tryz.prog F.i_marksOk #[.int .i64 x2, x3.v] w4 (Ret [.at .bool] fun (x28 : Bool) w5 =>
  cond (!x28) (
  Q (⟨none, 0, 0⟩) false w5) (
  V_i_FillCycle_k1 x1 x2 x3 Q px4 w5))))))

theorem C_i_FillCycle {Q : Sl → Bool → World → Prop} {x0_0 : Int} {x0_1 : Sl} {x1 : Int} {x2 : Int} {x3 : Sl} {w : World} (h : V_i_FillCycle Q x0_0 x0_1 x1 x2 x3 w) : Calls Tryz.prog F.i_FillCycle #[.agg #[.int .i64 x0_0, x0_1.v], .int .i64 x1, .int .i64 x2, x3.v] w (Ret [.at .sl, .at .bool] Q) :=
  mkC (hint := hint) (ann := annOf [(5, ⟨[(37, .int .i64)], [8, 9, 11, 12, 13, 14, 38, 39, 40, 41, 42, 43, 44, 45, 46, 47, 48, 49, 50, 51, 52, 53, 54, 55, 56, 57, 58, 59, 60, 61, 62, 63, 64, 65, 66, 67, 68]⟩), (11, ⟨[(50, .int .i64)], [14, 51, 52, 53, 54, 55, 56, 57, 58, 59, 60, 61, 62, 63, 64, 65, 66, 67]⟩)]) (args := [.agg #[.int .i64 x0_0, x0_1.v], .int .i64 x1, .int .i64 x2, x3.v]) (rs := [.at .sl, .at .bool]) Tryz.func34 (by kernel_rfl) (by kernel_rfl) h

def V_i_WalkProblem_flexibleLabels (Q : Sl → World → Prop) (p_0 : Int) (p_1 : Sl) (w : World) : Prop :=
  NEW T.t_i_WalkProblem #[.int .i64 p_0, p_1.v] w fun (p_p : Addr) w1 =>
  LD [.int .i64, .sl] p_p w1 fun (x9_0 : Int) (x9_1 : Sl) =>
  Calls Tryz.prog F.i_WalkProblem_walkComponents #[.agg #[.int .i64 x9_0, x9_1.v]] w1 (Ret [.at .sl, .at .sl] fun (x10_0 : Sl) (x10_1 : Sl) w2 =>
  ∃ (I4 : Sl → Int → World → Prop) (m4 : Sl → Int → World → Nat), I4 (⟨none, 0, 0⟩) 0 w2 ∧ ∀ (out : Sl) (x15 : Int) w3, I4 out x15 w3 → ∀ _ _ _ _ _ _ _ _ _ _ _ _ _ _ _ : Value,
  cond (decide ((x15 : Int) < x10_0.len)) (
  IX x10_0 x15 1 fun (px18 : Addr) =>
  LD [.sl] px18 w3 fun (x19 : Sl) =>
  IX x10_1 x15 1 fun (px22 : Addr) =>
  LD [.int .i64] px22 w3 fun (x23 : Int) =>
  cond ((x23 : Int) == 1) (
  RUN Tryz.prog (.at .sl) (bsem .append #[T.t_sl_int, T.t_sl_int] T.t_sl_int #[out.v, x19.v]) w3 fun (x27 : Sl) w4 =>
  I4 x27 (IntKind.i64.wrap (x15 + 1)) w4 ∧ m4 x27 (IntKind.i64.wrap (x15 + 1)) w4 < m4 out x15 w3) (
  I4 out (IntKind.i64.wrap (x15 + 1)) w3 ∧ m4 out (IntKind.i64.wrap (x15 + 1)) w3 < m4 out x15 w3)) (
  Calls Tryz.prog F.slices_Sort_sl_int_int #[out.v] w3 (Ret [] fun w5 =>
  Q out w5)))

theorem C_i_WalkProblem_flexibleLabels {Q : Sl → World → Prop} {p_0 : Int} {p_1 : Sl} {w : World} (h : V_i_WalkProblem_flexibleLabels Q p_0 p_1 w) : Calls Tryz.prog F.i_WalkProblem_flexibleLabels #[.agg #[.int .i64 p_0, p_1.v]] w (Ret [.at .sl] Q) :=
  mkC (hint := hint) (ann := annOf [(4, ⟨[(3, .sl), (15, .int .i64)], [6, 7, 16, 17, 18, 19, 20, 21, 22, 23, 24, 25, 26, 27, 28]⟩)]) (args := [.agg #[.int .i64 p_0, p_1.v]]) (rs := [.at .sl]) Tryz.func35 (by kernel_rfl) (by kernel_rfl) h

def V_i_spacedMarks (Q : Sl → World → Prop) (ids : Sl) (levels : Int) (w : World) : Prop :=
  Calls Tryz.prog F.i_numbersTo #[.int .i64 ids.len] w (Ret [.at .sl] fun (x10 : Sl) w1 =>
  ∃ (I3 : Sl → Int → World → Prop) (m3 : Sl → Int → World → Nat), I3 x10 0 w1 ∧ ∀ (marks : Sl) (x12 : Int) w2, I3 marks x12 w2 → ∀ _ _ _ _ _ _ _ _ _ _ _ _ _ _ _ _ _ _ : Value,
  cond (decide ((x12 : Int) < levels)) (
  cond (decide ((marks.len : Int) < 2)) (
  Q marks w2) (
  Calls Tryz.prog F.i_images #[marks.v, ids.v] w2 (Ret [.at .sl] fun (x20 : Sl) w3 =>
  Calls Tryz.prog F.i_threeColours #[x20.v] w3 (Ret [.at .sl, .at (.int .i64)] fun (x21_0 : Sl) (x21_1 : Int) w4 =>
  Calls Tryz.prog F.i_cycleMarks #[x21_0.v] w4 (Ret [.at .sl] fun (x25 : Sl) w5 =>
  Calls Tryz.prog F.i_images #[x25.v, marks.v] w5 (Ret [.at .sl] fun (x27 : Sl) w6 =>
  I3 x27 (IntKind.i64.wrap (x12 + 1)) w6 ∧ m3 x27 (IntKind.i64.wrap (x12 + 1)) w6 < m3 marks x12 w2)))))) (
  Q marks w2))

theorem C_i_spacedMarks {Q : Sl → World → Prop} {ids : Sl} {levels : Int} {w : World} (h : V_i_spacedMarks Q ids levels w) : Calls Tryz.prog F.i_spacedMarks #[ids.v, .int .i64 levels] w (Ret [.at .sl] Q) :=
  mkC (hint := hint) (ann := annOf [(3, ⟨[(5, .sl), (12, .int .i64)], [6, 7, 13, 14, 15, 16, 17, 18, 19, 20, 21, 22, 23, 24, 25, 26, 27, 28]⟩)]) (args := [ids.v, .int .i64 levels]) (rs := [.at .sl]) Tryz.func36 (by kernel_rfl) (by kernel_rfl) h

def V_i_FirstCycleLabeling_k1 (k : Int) (Q : Sl → Bool → World → Prop) (p_p : Addr) (w4 : World) : Prop :=
  LD [.int .i64] (p_p.add 0) w4 fun (x17 : Int) =>
  ∃ (I4 : Int → World → Prop) (m4 : Int → World → Nat), I4 0 w4 ∧ ∀ (x18 : Int) w5, I4 x18 w5 → ∀ _ _ _ _ _ _ _ _ _ _ _ _ _ _ _ _ _ : Value,
  cond (decide ((x18 : Int) < x17)) (
  LD [.int .i64, .sl] p_p w5 fun (x21_0 : Int) (x21_1 : Sl) =>
  Calls Tryz.prog F.i_WalkProblem_walkBetween #[.agg #[.int .i64 x21_0, x21_1.v], .int .i64 x18, .int .i64 x18, .int .i64 k] w5 (Ret [.at .sl] fun (x25 : Sl) w6 =>
  cond (!x25.a.isNone) (
  SLC x25 none (some k) 1 fun (x30 : Sl) =>
  Q x30 true w6) (
  I4 (IntKind.i64.wrap (x18 + 1)) w6 ∧ m4 (IntKind.i64.wrap (x18 + 1)) w6 < m4 x18 w5))) (
  Q (⟨none, 0, 0⟩) false w5)

def V_i_FirstCycleLabeling (Q : Sl → Bool → World → Prop) (p_0 : Int) (p_1 : Sl) (k : Int) (w : World) : Prop :=
  NEW T.t_i_WalkProblem #[.int .i64 p_0, p_1.v] w fun (p_p : Addr) w1 =>
  LD [.int .i64, .sl] p_p w1 fun (x8_0 : Int) (x8_1 : Sl) =>
  Calls Tryz.prog F.i_IsWalkProblem #[.agg #[.int .i64 x8_0, x8_1.v]] w1 (Ret [.at .bool] fun (x9 : Bool) w2 =>
  cond (!x9) (
  Q (⟨none, 0, 0⟩) false w2) (
  Calls Tryz.prog F.i_within #[.int .i64 k, .int .i64 1, .int .i64 60] w2 (Ret [.at .bool] fun (x13 : Bool) w3 =>
  cond (!x13) (
  Q (⟨none, 0, 0⟩) false w3) (
  V_i_FirstCycleLabeling_k1 k Q p_p w3))))

theorem C_i_FirstCycleLabeling {Q : Sl → Bool → World → Prop} {p_0 : Int} {p_1 : Sl} {k : Int} {w : World} (h : V_i_FirstCycleLabeling Q p_0 p_1 k w) : Calls Tryz.prog F.i_FirstCycleLabeling #[.agg #[.int .i64 p_0, p_1.v], .int .i64 k] w (Ret [.at .sl, .at .bool] Q) :=
  mkC (hint := hint) (ann := annOf [(4, ⟨[(18, .int .i64)], [4, 5, 6, 7, 19, 20, 21, 22, 23, 24, 25, 26, 27, 28, 29, 30, 31]⟩)]) (args := [.agg #[.int .i64 p_0, p_1.v], .int .i64 k]) (rs := [.at .sl, .at .bool]) Tryz.func37 (by kernel_rfl) (by kernel_rfl) h

def V_slices_Index_sl_int_int (Q : Int → World → Prop) (s : Sl) (v : Int) (w : World) : Prop :=
  ∃ (I2 : Int → World → Prop) (m2 : Int → World → Nat), I2 0 w ∧ ∀ (x8 : Int) w1, I2 x8 w1 → ∀ _ _ _ _ _ _ _ _ _ _ _ _ : Value,
  cond (decide ((x8 : Int) < s.len)) (
  IX s x8 1 fun (px14 : Addr) =>
  LD [.int .i64] px14 w1 fun (x15 : Int) =>
  cond ((v : Int) == x15) (
  Q x8 w1) (
  I2 (IntKind.i64.wrap (x8 + 1)) w1 ∧ m2 (IntKind.i64.wrap (x8 + 1)) w1 < m2 x8 w1)) (
  Q (-1) w1)

theorem C_slices_Index_sl_int_int {Q : Int → World → Prop} {s : Sl} {v : Int} {w : World} (h : V_slices_Index_sl_int_int Q s v w) : Calls Tryz.prog F.slices_Index_sl_int_int #[s.v, .int .i64 v] w (Ret [.at (.int .i64)] Q) :=
  mkC (hint := hint) (ann := annOf [(2, ⟨[(8, .int .i64)], [4, 5, 9, 10, 11, 12, 13, 14, 15, 16, 17, 18]⟩)]) (args := [s.v, .int .i64 v]) (rs := [.at (.int .i64)]) Tryz.func38 (by kernel_rfl) (by kernel_rfl) h

def V_slices_Min_sl_int_int (Q : Int → World → Prop) (x : Sl) (w : World) : Prop :=
  cond (decide ((x.len : Int) < 1)) (
  False) (
  IX x 0 1 fun (px10 : Addr) =>
  LD [.int .i64] px10 w fun (x11 : Int) =>
  ∃ (I5 : Int → Int → World → Prop) (m5 : Int → Int → World → Nat), I5 x11 1 w ∧ ∀ (m : Int) (i : Int) w1, I5 m i w1 → ∀ _ _ _ _ _ _ _ _ _ _ _ _ : Value,
  cond (decide ((i : Int) < x.len)) (
  IX x i 1 fun (px21 : Addr) =>
  LD [.int .i64] px21 w1 fun (x22 : Int) =>
  RUN Tryz.prog (.at (.int .i64)) (bsem .min #[T.t_int, T.t_int] T.t_int #[.int .i64 m, .int .i64 x22]) w1 fun (x23 : Int) w2 =>
  I5 x23 (IntKind.i64.wrap (i + 1)) w2 ∧ m5 x23 (IntKind.i64.wrap (i + 1)) w2 < m5 m i w1) (
  Q m w1))

theorem C_slices_Min_sl_int_int {Q : Int → World → Prop} {x : Sl} {w : World} (h : V_slices_Min_sl_int_int Q x w) : Calls Tryz.prog F.slices_Min_sl_int_int #[x.v] w (Ret [.at (.int .i64)] Q) :=
  mkC (hint := hint) (ann := annOf [(5, ⟨[(3, .int .i64), (4, .int .i64)], [12, 13, 14, 15, 16, 17, 18, 19, 20, 21, 22, 23]⟩)]) (args := [x.v]) (rs := [.at (.int .i64)]) Tryz.func39 (by kernel_rfl) (by kernel_rfl) h

def V_slices_Concat_sl_int_int (Q : Sl → World → Prop) (slices : Sl) (w : World) : Prop :=
  ∃ (I3 : Int → Int → World → Prop) (m3 : Int → Int → World → Nat), I3 0 0 w ∧ ∀ (size1 : Int) (x11 : Int) w1, I3 size1 x11 w1 → ∀ _ _ _ _ _ _ _ _ _ _ _ _ : Value,
  cond (decide ((x11 : Int) < slices.len)) (
  IX slices x11 1 fun (px13 : Addr) =>
  LD [.sl] px13 w1 fun (x14 : Sl) =>
  cond (decide (((IntKind.i64.wrap (size1 + x14.len)) : Int) < 0)) (
  False) (
  I3 (IntKind.i64.wrap (size1 + x14.len)) (IntKind.i64.wrap (x11 + 1)) w1 ∧ m3 (IntKind.i64.wrap (size1 + x14.len)) (IntKind.i64.wrap (x11 + 1)) w1 < m3 size1 x11 w1)) (
  Calls Tryz.prog F.slices_Grow_sl_int_int #[.slice none 0 0, .int .i64 size1] w1 (Ret [.at .sl] fun (x24 : Sl) w2 =>
  ∃ (I11 : Sl → Int → World → Prop) (m11 : Sl → Int → World → Nat), I11 x24 0 w2 ∧ ∀ (newslice : Sl) (x27 : Int) w3, I11 newslice x27 w3 → ∀ _ _ _ _ _ _ _ _ : Value,
  cond (decide ((x27 : Int) < slices.len)) (
  IX slices x27 1 fun (px29 : Addr) =>
  LD [.sl] px29 w3 fun (x30 : Sl) =>
  RUN Tryz.prog (.at .sl) (bsem .append #[T.t_sl_int, T.t_sl_int] T.t_sl_int #[newslice.v, x30.v]) w3 fun (x33 : Sl) w4 =>
  I11 x33 (IntKind.i64.wrap (x27 + 1)) w4 ∧ m11 x33 (IntKind.i64.wrap (x27 + 1)) w4 < m11 newslice x27 w3) (
  Q newslice w3)))

theorem C_slices_Concat_sl_int_int {Q : Sl → World → Prop} {slices : Sl} {w : World} (h : V_slices_Concat_sl_int_int Q slices w) : Calls Tryz.prog F.slices_Concat_sl_int_int #[slices.v] w (Ret [.at .sl] Q) :=
  mkC (hint := hint) (ann := annOf [(3, ⟨[(3, .int .i64), (11, .int .i64)], [5, 12, 13, 14, 15, 16, 17, 18, 19, 20, 21, 22]⟩), (11, ⟨[(6, .sl), (27, .int .i64)], [8, 28, 29, 30, 31, 32, 33, 34]⟩)]) (args := [slices.v]) (rs := [.at .sl]) Tryz.func40 (by kernel_rfl) (by kernel_rfl) h

def V_l_eqIntSS (Q : Bool → World → Prop) (a : Sl) (b : Sl) (w : World) : Prop :=
  cond ((a.len : Int) != b.len) (
  Q false w) (
  ∃ (I4 : Int → World → Prop) (m4 : Int → World → Nat), I4 0 w ∧ ∀ (i : Int) w1, I4 i w1 → ∀ _ _ _ _ _ _ _ _ _ _ _ _ _ _ _ _ _ : Value,
  cond (decide ((i : Int) < a.len)) (
  IX a i 1 fun (px19 : Addr) =>
  LD [.sl] px19 w1 fun (x20 : Sl) =>
  IX b i 1 fun (px23 : Addr) =>
  LD [.sl] px23 w1 fun (x24 : Sl) =>
  QCALL Tryz.prog F.l_eqIntS #[x20.v, x24.v] w1 [.at .bool] fun (x25 : Bool) =>
  ∀ w2, Ext w1 w2 →
  cond (!x25) (
  Q false w2) (
  I4 (IntKind.i64.wrap (i + 1)) w2 ∧ m4 (IntKind.i64.wrap (i + 1)) w2 < m4 i w1)) (
  Q true w1))

theorem C_l_eqIntSS {Q : Bool → World → Prop} {a : Sl} {b : Sl} {w : World} (h : V_l_eqIntSS Q a b w) : Calls Tryz.prog F.l_eqIntSS #[a.v, b.v] w (Ret [.at .bool] Q) :=
  mkC (hint := hint) (ann := annOf [(4, ⟨[(5, .int .i64)], [4, 11, 12, 13, 14, 15, 16, 17, 18, 19, 20, 21, 22, 23, 24, 25, 26]⟩)]) (args := [a.v, b.v]) (rs := [.at .bool]) Tryz.func41 (by kernel_rfl) (by kernel_rfl) h

def V_l_markIntSS (Q : Int → World → Prop) (a : Sl) (k : Int) (w : World) : Prop :=
  ∃ (I2 : Int → Int → World → Prop) (m2 : Int → Int → World → Nat), I2 k 0 w ∧ ∀ (k_2 : Int) (i : Int) w1, I2 k_2 i w1 → ∀ _ _ _ _ _ _ _ _ _ _ _ _ : Value,
  cond (decide ((i : Int) < a.len)) (
  IX a i 1 fun (px14 : Addr) =>
  LD [.sl] px14 w1 fun (x15 : Sl) =>
  Calls Tryz.prog F.l_markIntS #[x15.v, .int .i64 k_2] w1 (Ret [.at (.int .i64)] fun (x17 : Int) w2 =>
  I2 x17 (IntKind.i64.wrap (i + 1)) w2 ∧ m2 x17 (IntKind.i64.wrap (i + 1)) w2 < m2 k_2 i w1)) (
  Q k_2 w1)

theorem C_l_markIntSS {Q : Int → World → Prop} {a : Sl} {k : Int} {w : World} (h : V_l_markIntSS Q a k w) : Calls Tryz.prog F.l_markIntSS #[a.v, .int .i64 k] w (Ret [.at (.int .i64)] Q) :=
  mkC (hint := hint) (ann := annOf [(2, ⟨[(1, .int .i64), (5, .int .i64)], [6, 7, 8, 9, 10, 11, 12, 13, 14, 15, 16, 17]⟩)]) (args := [a.v, .int .i64 k]) (rs := [.at (.int .i64)]) Tryz.func42 (by kernel_rfl) (by kernel_rfl) h

def V_l_szIntS (Q : Int → World → Prop) (a : Sl) (left : Int) (w : World) : Prop :=
  cond (decide (((IntKind.i64.wrap (left - a.len)) : Int) < 0)) (
  Q (-1) w) (
  Q (IntKind.i64.wrap (left - a.len)) w)

theorem C_l_szIntS {Q : Int → World → Prop} {a : Sl} {left : Int} {w : World} (h : V_l_szIntS Q a left w) : Calls Tryz.prog F.l_szIntS #[a.v, .int .i64 left] w (Ret [.at (.int .i64)] Q) :=
  mkC (hint := hint) (ann := annOf []) (args := [a.v, .int .i64 left]) (rs := [.at (.int .i64)]) Tryz.func55 (by kernel_rfl) (by kernel_rfl) h

def V_s_l1In (Q : Bool → World → Prop) (n : Int) (lo : Int) (hi : Int) (w : World) : Prop :=
  cond (decide ((n : Int) ≥ lo)) (
  Q (decide ((n : Int) ≤ hi)) w) (
  Q false w)

theorem C_s_l1In {Q : Bool → World → Prop} {n : Int} {lo : Int} {hi : Int} {w : World} (h : V_s_l1In Q n lo hi w) : Calls Tryz.prog F.s_l1In #[.int .i64 n, .int .i64 lo, .int .i64 hi] w (Ret [.at .bool] Q) :=
  mkC (hint := hint) (ann := annOf []) (args := [.int .i64 n, .int .i64 lo, .int .i64 hi]) (rs := [.at .bool]) Tryz.func56 (by kernel_rfl) (by kernel_rfl) h

def V_s_waArcs (Q : Bool → World → Prop) (l : Sl) (labels : Int) (w : World) : Prop :=
  ∃ (I2 : Int → World → Prop) (m2 : Int → World → Nat), I2 0 w ∧ ∀ (x9 : Int) w1, I2 x9 w1 → ∀ _ _ _ _ _ _ _ _ _ _ _ _ _ _ _ _ _ _ _ _ _ _ _ _ _ _ _ _ _ _ _ _ : Value,
  cond (decide ((x9 : Int) < l.len)) (
  IX l x9 1 fun (px12 : Addr) =>
  LD [.sl] px12 w1 fun (x13 : Sl) =>
  cond ((x13.len : Int) != 2) (
  Q false w1) (
  Calls Tryz.prog F.s_l1All #[x13.v, .int .i64 0, .int .i64 (IntKind.i64.wrap (labels - 1))] w1 (Ret [.at .bool] fun (x21 : Bool) w2 =>
  cond (!x21) (
  Q false w2) (
  cond (decide ((x9 : Int) > 0)) (
  IX l (IntKind.i64.wrap (x9 - 1)) 1 fun (px31 : Addr) =>
  LD [.sl] px31 w2 fun (x32 : Sl) =>
  Calls Tryz.prog F.s_prOrder #[x32.v, x13.v] w2 (Ret [.at (.int .i64)] fun (x34 : Int) w3 =>
  cond (decide ((x34 : Int) ≥ 0)) (
  Q false w3) (
  I2 (IntKind.i64.wrap (x9 + 1)) w3 ∧ m2 (IntKind.i64.wrap (x9 + 1)) w3 < m2 x9 w1))) (
  I2 (IntKind.i64.wrap (x9 + 1)) w2 ∧ m2 (IntKind.i64.wrap (x9 + 1)) w2 < m2 x9 w1))))) (
  Q true w1)

theorem C_s_waArcs {Q : Bool → World → Prop} {l : Sl} {labels : Int} {w : World} (h : V_s_waArcs Q l labels w) : Calls Tryz.prog F.s_waArcs #[l.v, .int .i64 labels] w (Ret [.at .bool] Q) :=
  mkC (hint := hint) (ann := annOf [(2, ⟨[(9, .int .i64)], [4, 5, 6, 10, 11, 12, 13, 14, 15, 16, 17, 18, 19, 20, 21, 22, 23, 24, 25, 26, 27, 28, 29, 30, 31, 32, 33, 34, 35, 36, 37, 38]⟩)]) (args := [l.v, .int .i64 labels]) (rs := [.at .bool]) Tryz.func57 (by kernel_rfl) (by kernel_rfl) h

def V_s_l1Has (Q : Bool → World → Prop) (l : Sl) (n : Int) (w : World) : Prop :=
  ∃ (I2 : Int → World → Prop) (m2 : Int → World → Nat), I2 0 w ∧ ∀ (x9 : Int) w1, I2 x9 w1 → ∀ _ _ _ _ _ _ _ _ _ : Value,
  cond (decide ((x9 : Int) < l.len)) (
  IX l x9 1 fun (px11 : Addr) =>
  LD [.int .i64] px11 w1 fun (x12 : Int) =>
  cond ((x12 : Int) == n) (
  Q true w1) (
  I2 (IntKind.i64.wrap (x9 + 1)) w1 ∧ m2 (IntKind.i64.wrap (x9 + 1)) w1 < m2 x9 w1)) (
  Q false w1)

theorem C_s_l1Has {Q : Bool → World → Prop} {l : Sl} {n : Int} {w : World} (h : V_s_l1Has Q l n w) : Calls Tryz.prog F.s_l1Has #[l.v, .int .i64 n] w (Ret [.at .bool] Q) :=
  mkC (hint := hint) (ann := annOf [(2, ⟨[(9, .int .i64)], [4, 6, 10, 11, 12, 13, 14, 15, 16]⟩)]) (args := [l.v, .int .i64 n]) (rs := [.at .bool]) Tryz.func58 (by kernel_rfl) (by kernel_rfl) h

def V_s_cyLong (Q : Bool → World → Prop) (l : Sl) (w : World) : Prop :=
  Calls Tryz.prog F.s_l1In #[.int .i64 l.len, .int .i64 2, .int .i64 180] w (Ret [.at .bool] fun (x5 : Bool) w1 =>
  Q x5 w1)

theorem C_s_cyLong {Q : Bool → World → Prop} {l : Sl} {w : World} (h : V_s_cyLong Q l w) : Calls Tryz.prog F.s_cyLong #[l.v] w (Ret [.at .bool] Q) :=
  mkC (hint := hint) (ann := annOf []) (args := [l.v]) (rs := [.at .bool]) Tryz.func59 (by kernel_rfl) (by kernel_rfl) h

def V_s_waLoop (Q : Int → World → Prop) (p_0 : Int) (p_1 : Sl) (w : World) : Prop :=
  NEW T.t_i_WalkProblem #[.int .i64 p_0, p_1.v] w fun (p_p : Addr) w1 =>
  LD [.sl] (p_p.add 1) w1 fun (x6 : Sl) =>
  ∃ (I2 : Int → World → Prop) (m2 : Int → World → Nat), I2 0 w1 ∧ ∀ (x8 : Int) w2, I2 x8 w2 → ∀ _ _ _ _ _ _ _ _ _ _ _ _ _ _ _ _ : Value,
  cond (decide ((x8 : Int) < x6.len)) (
  IX x6 x8 1 fun (px10 : Addr) =>
  LD [.sl] px10 w2 fun (x11 : Sl) =>
  IX x11 0 1 fun (px13 : Addr) =>
  LD [.int .i64] px13 w2 fun (x14 : Int) =>
  IX x11 1 1 fun (px16 : Addr) =>
  LD [.int .i64] px16 w2 fun (x17 : Int) =>
  ∀ w3, Ext w2 w3 →
  cond ((x14 : Int) == x17) (
  IX x11 0 1 fun (px20 : Addr) =>
  LD [.int .i64] px20 w3 fun (x21 : Int) =>
  Q x21 w3) (
  I2 (IntKind.i64.wrap (x8 + 1)) w3 ∧ m2 (IntKind.i64.wrap (x8 + 1)) w3 < m2 x8 w2)) (
  Q (-1) w2)

theorem C_s_waLoop {Q : Int → World → Prop} {p_0 : Int} {p_1 : Sl} {w : World} (h : V_s_waLoop Q p_0 p_1 w) : Calls Tryz.prog F.s_waLoop #[.agg #[.int .i64 p_0, p_1.v]] w (Ret [.at (.int .i64)] Q) :=
  mkC (hint := hint) (ann := annOf [(2, ⟨[(8, .int .i64)], [2, 4, 9, 10, 11, 12, 13, 14, 15, 16, 17, 18, 19, 20, 21, 22]⟩)]) (args := [.agg #[.int .i64 p_0, p_1.v]]) (rs := [.at (.int .i64)]) Tryz.func60 (by kernel_rfl) (by kernel_rfl) h

def V_s_FlexibleLabels (Q : Sl → Bool → World → Prop) (p_0 : Int) (p_1 : Sl) (w : World) : Prop :=
  NEW T.t_i_WalkProblem #[.int .i64 p_0, p_1.v] w fun (p_p : Addr) w1 =>
  LD [.int .i64, .sl] p_p w1 fun (x4_0 : Int) (x4_1 : Sl) =>
  Calls Tryz.prog F.s_waGood #[.agg #[.int .i64 x4_0, x4_1.v]] w1 (Ret [.at .bool] fun (x5 : Bool) w2 =>
  cond (!x5) (
  Q (⟨none, 0, 0⟩) false w2) (
  LD [.int .i64, .sl] p_p w2 fun (x7_0 : Int) (x7_1 : Sl) =>
  Calls Tryz.prog F.s_waFlexible #[.agg #[.int .i64 x7_0, x7_1.v]] w2 (Ret [.at .sl] fun (x8 : Sl) w3 =>
  Q x8 true w3)))

theorem C_s_FlexibleLabels {Q : Sl → Bool → World → Prop} {p_0 : Int} {p_1 : Sl} {w : World} (h : V_s_FlexibleLabels Q p_0 p_1 w) : Calls Tryz.prog F.s_FlexibleLabels #[.agg #[.int .i64 p_0, p_1.v]] w (Ret [.at .sl, .at .bool] Q) :=
  mkC (hint := hint) (ann := annOf []) (args := [.agg #[.int .i64 p_0, p_1.v]]) (rs := [.at .sl, .at .bool]) Tryz.func61 (by kernel_rfl) (by kernel_rfl) h

def V_s_FlexibilityOf (Q : Int → Bool → World → Prop) (p_0 : Int) (p_1 : Sl) (a : Int) (w : World) : Prop :=
  NEW T.t_i_WalkProblem #[.int .i64 p_0, p_1.v] w fun (p_p : Addr) w1 =>
  LD [.int .i64, .sl] p_p w1 fun (x6_0 : Int) (x6_1 : Sl) =>
  Calls Tryz.prog F.s_waGood #[.agg #[.int .i64 x6_0, x6_1.v]] w1 (Ret [.at .bool] fun (x7 : Bool) w2 =>
  cond (!x7) (
  Q 0 false w2) (
  LD [.int .i64, .sl] p_p w2 fun (x10_0 : Int) (x10_1 : Sl) =>
  Calls Tryz.prog F.s_waFlexible #[.agg #[.int .i64 x10_0, x10_1.v]] w2 (Ret [.at .sl] fun (x11 : Sl) w3 =>
  Calls Tryz.prog F.s_l1Has #[x11.v, .int .i64 a] w3 (Ret [.at .bool] fun (x13 : Bool) w4 =>
  cond (!x13) (
  Q 0 false w4) (
  LD [.int .i64, .sl] p_p w4 fun (x16_0_2 : Int) (x16_1_2 : Sl) =>
  Calls Tryz.prog F.s_waFlexibility #[.agg #[.int .i64 x16_0_2, x16_1_2.v], .int .i64 a] w4 (Ret [.at (.int .i64)] fun (x18_2 : Int) w6 =>
  Q x18_2 true w6))))))

theorem C_s_FlexibilityOf {Q : Int → Bool → World → Prop} {p_0 : Int} {p_1 : Sl} {a : Int} {w : World} (h : V_s_FlexibilityOf Q p_0 p_1 a w) : Calls Tryz.prog F.s_FlexibilityOf #[.agg #[.int .i64 p_0, p_1.v], .int .i64 a] w (Ret [.at (.int .i64), .at .bool] Q) :=
  mkC (hint := hint) (ann := annOf []) (args := [.agg #[.int .i64 p_0, p_1.v], .int .i64 a]) (rs := [.at (.int .i64), .at .bool]) Tryz.func62 (by kernel_rfl) (by kernel_rfl) h

def V_s_cyGaps (Q : Sl → World → Prop) (k : Int) (marks : Sl) (w : World) : Prop :=
  ∃ (I3 : Sl → Int → World → Prop) (m3 : Sl → Int → World → Nat), I3 (⟨none, 0, 0⟩) 0 w ∧ ∀ (out : Sl) (x10 : Int) w1, I3 out x10 w1 → ∀ _ _ _ _ _ _ _ _ _ _ _ _ _ _ _ _ _ _ _ _ _ _ _ _ _ _ _ _ _ _ _ _ : Value,
  cond (decide ((x10 : Int) < marks.len)) (
  IX marks x10 1 fun (px13 : Addr) =>
  LD [.int .i64] px13 w1 fun (x14 : Int) =>
  cond (decide (((IntKind.i64.wrap (x10 + 1)) : Int) < marks.len)) (
  IX marks (IntKind.i64.wrap (x10 + 1)) 1 fun (px24 : Addr) =>
  LD [.int .i64] px24 w1 fun (x25 : Int) =>
  RUN Tryz.prog (.at .sl) (Instr.buildSlice T.t_sl_int 1 #[(0, .int .i64 (IntKind.i64.wrap (x25 - x14)))]) w1 fun (x28 : Sl) w2 =>
  RUN Tryz.prog (.at .sl) (bsem .append #[T.t_sl_int, T.t_sl_int] T.t_sl_int #[out.v, x28.v]) w2 fun (x29 : Sl) w3 =>
  I3 x29 (IntKind.i64.wrap (x10 + 1)) w3 ∧ m3 x29 (IntKind.i64.wrap (x10 + 1)) w3 < m3 out x10 w1) (
  IX marks 0 1 fun (px32 : Addr) =>
  LD [.int .i64] px32 w1 fun (x33 : Int) =>
  RUN Tryz.prog (.at .sl) (Instr.buildSlice T.t_sl_int 1 #[(0, .int .i64 (IntKind.i64.wrap ((IntKind.i64.wrap (x33 + k)) - x14)))]) w1 fun (x38 : Sl) w4 =>
  RUN Tryz.prog (.at .sl) (bsem .append #[T.t_sl_int, T.t_sl_int] T.t_sl_int #[out.v, x38.v]) w4 fun (x39 : Sl) w5 =>
  I3 x39 (IntKind.i64.wrap (x10 + 1)) w5 ∧ m3 x39 (IntKind.i64.wrap (x10 + 1)) w5 < m3 out x10 w1)) (
  Q out w1)

theorem C_s_cyGaps {Q : Sl → World → Prop} {k : Int} {marks : Sl} {w : World} (h : V_s_cyGaps Q k marks w) : Calls Tryz.prog F.s_cyGaps #[.int .i64 k, marks.v] w (Ret [.at .sl] Q) :=
  mkC (hint := hint) (ann := annOf [(3, ⟨[(5, .sl), (10, .int .i64)], [6, 7, 11, 12, 13, 14, 15, 16, 17, 18, 19, 20, 21, 22, 23, 24, 25, 26, 27, 28, 29, 30, 31, 32, 33, 34, 35, 36, 37, 38, 39, 40]⟩)]) (args := [.int .i64 k, marks.v]) (rs := [.at .sl]) Tryz.func63 (by kernel_rfl) (by kernel_rfl) h

def V_s_WalkBetween (Q : Sl → Bool → World → Prop) (p_0 : Int) (p_1 : Sl) (a : Int) (b : Int) (k : Int) (w : World) : Prop :=
  NEW T.t_i_WalkProblem #[.int .i64 p_0, p_1.v] w fun (p_p : Addr) w1 =>
  LD [.int .i64, .sl] p_p w1 fun (x10_0 : Int) (x10_1 : Sl) =>
  Calls Tryz.prog F.s_waGood #[.agg #[.int .i64 x10_0, x10_1.v]] w1 (Ret [.at .bool] fun (x11 : Bool) w2 =>
  cond (!x11) (
  Q (⟨none, 0, 0⟩) false w2) (
  RUN Tryz.prog (.at .sl) (Instr.buildSlice T.t_sl_int 2 #[(0, .int .i64 a), (1, .int .i64 b)]) w2 fun (x16 : Sl) w3 =>
  LD [.int .i64] (p_p.add 0) w3 fun (x18 : Int) =>
  Calls Tryz.prog F.s_l1All #[x16.v, .int .i64 0, .int .i64 (IntKind.i64.wrap (x18 - 1))] w3 (Ret [.at .bool] fun (x20 : Bool) w4 =>
  cond (!x20) (
  Q (⟨none, 0, 0⟩) false w4) (
  Calls Tryz.prog F.s_l1In #[.int .i64 k, .int .i64 0, .int .i64 199] w4 (Ret [.at .bool] fun (x25 : Bool) w5 =>
  cond (!x25) (
  Q (⟨none, 0, 0⟩) false w5) (
  LD [.int .i64, .sl] p_p w5 fun (x28_0_2 : Int) (x28_1_2 : Sl) =>
  Calls Tryz.prog F.s_waBetween #[.agg #[.int .i64 x28_0_2, x28_1_2.v], .int .i64 a, .int .i64 b, .int .i64 k] w5 (Ret [.at .sl, .at .bool] fun (x32_0_2 : Sl) (x32_1_2 : Bool) w7 =>
  Q x32_0_2 x32_1_2 w7)))))))

theorem C_s_WalkBetween {Q : Sl → Bool → World → Prop} {p_0 : Int} {p_1 : Sl} {a : Int} {b : Int} {k : Int} {w : World} (h : V_s_WalkBetween Q p_0 p_1 a b k w) : Calls Tryz.prog F.s_WalkBetween #[.agg #[.int .i64 p_0, p_1.v], .int .i64 a, .int .i64 b, .int .i64 k] w (Ret [.at .sl, .at .bool] Q) :=
  mkC (hint := hint) (ann := annOf []) (args := [.agg #[.int .i64 p_0, p_1.v], .int .i64 a, .int .i64 b, .int .i64 k]) (rs := [.at .sl, .at .bool]) Tryz.func64 (by kernel_rfl) (by kernel_rfl) h

def V_s_coThrough (Q : Sl → World → Prop) (l : Sl) (at1 : Sl) (w : World) : Prop :=
  ∃ (I3 : Sl → Int → World → Prop) (m3 : Sl → Int → World → Nat), I3 (⟨none, 0, 0⟩) 0 w ∧ ∀ (out : Sl) (x10 : Int) w1, I3 out x10 w1 → ∀ _ _ _ _ _ _ _ _ _ _ _ _ : Value,
  cond (decide ((x10 : Int) < at1.len)) (
  IX at1 x10 1 fun (px12 : Addr) =>
  LD [.int .i64] px12 w1 fun (x13 : Int) =>
  IX l x13 1 fun (px17 : Addr) =>
  LD [.int .i64] px17 w1 fun (x18 : Int) =>
  RUN Tryz.prog (.at .sl) (Instr.buildSlice T.t_sl_int 1 #[(0, .int .i64 x18)]) w1 fun (x19 : Sl) w2 =>
  RUN Tryz.prog (.at .sl) (bsem .append #[T.t_sl_int, T.t_sl_int] T.t_sl_int #[out.v, x19.v]) w2 fun (x20 : Sl) w3 =>
  I3 x20 (IntKind.i64.wrap (x10 + 1)) w3 ∧ m3 x20 (IntKind.i64.wrap (x10 + 1)) w3 < m3 out x10 w1) (
  Q out w1)

theorem C_s_coThrough {Q : Sl → World → Prop} {l : Sl} {at1 : Sl} {w : World} (h : V_s_coThrough Q l at1 w) : Calls Tryz.prog F.s_coThrough #[l.v, at1.v] w (Ret [.at .sl] Q) :=
  mkC (hint := hint) (ann := annOf [(3, ⟨[(5, .sl), (10, .int .i64)], [7, 11, 12, 13, 14, 15, 16, 17, 18, 19, 20, 21]⟩)]) (args := [l.v, at1.v]) (rs := [.at .sl]) Tryz.func65 (by kernel_rfl) (by kernel_rfl) h

def V_s_cyThree (Q : Sl → Int → World → Prop) (ids : Sl) (w : World) : Prop :=
  Calls Tryz.prog F.s_l1Own #[ids.v] w (Ret [.at .sl] fun (x11 : Sl) w1 =>
  ∃ (I2 : Sl → Int → World → Prop) (m2 : Sl → Int → World → Nat), I2 x11 0 w1 ∧ ∀ (l : Sl) (rounds : Int) w2, I2 l rounds w2 → ∀ _ _ _ _ _ _ _ : Value,
  Calls Tryz.prog F.s_l1All #[l.v, .int .i64 0, .int .i64 5] w2 (Ret [.at .bool] fun (x13 : Bool) w3 =>
  cond (!x13) (
  Calls Tryz.prog F.s_cyBit #[l.v] w3 (Ret [.at .sl] fun (x18 : Sl) w4 =>
  I2 x18 (IntKind.i64.wrap (rounds + 1)) w4 ∧ m2 x18 (IntKind.i64.wrap (rounds + 1)) w4 < m2 l rounds w2)) (
  ∃ (I6 : Sl → Int → Int → World → Prop) (m6 : Sl → Int → Int → World → Nat), I6 l rounds 5 w3 ∧ ∀ (l_2 : Sl) (rounds_2 : Int) (c : Int) w5, I6 l_2 rounds_2 c w5 → ∀ _ _ _ _ _ _ _ _ _ _ _ _ _ _ _ _ _ _ _ _ _ _ _ _ _ _ _ _ _ _ _ _ _ _ _ _ _ _ _ _ _ _ _ _ _ _ : Value,
  cond (decide ((c : Int) ≥ 3)) (
  Calls Tryz.prog F.s_l1Own #[l_2.v] w5 (Ret [.at .sl] fun (x24 : Sl) w6 =>
  ∃ (I10 : Int → World → Prop) (m10 : Int → World → Nat), I10 0 w6 ∧ ∀ (x27 : Int) w7, I10 x27 w7 → ∀ _ _ _ _ _ _ _ _ _ _ _ _ _ _ _ _ _ _ _ _ _ _ _ _ _ _ _ _ _ _ _ _ _ : Value,
  cond (decide ((x27 : Int) < l_2.len)) (
  IX l_2 x27 1 fun (px30 : Addr) =>
  LD [.int .i64] px30 w7 fun (x31 : Int) =>
  cond ((x31 : Int) == c) (
  ∀ w8, Ext w7 w8 → w8.heap = w7.heap → ∃ (D8 : Nat → Prop),
  (l_2.len : Int) ≠ 0 ∧ (
  IX l_2 (Int.tmod (IntKind.i64.wrap ((IntKind.i64.wrap (x27 + l_2.len)) - 1)) l_2.len) 1 fun (px46 : Addr) =>
  ¬ D8 px46.block ∧ (
  LD [.int .i64] px46 w8 fun (x47 : Int) =>
  Chg w8 w8 D8 ∧ (
  Chg w8 w8 D8 ∧ (
  (l_2.len : Int) ≠ 0 ∧ (
  Chg w8 w8 D8 ∧ (
  IX l_2 (Int.tmod (IntKind.i64.wrap (x27 + 1)) l_2.len) 1 fun (px54 : Addr) =>
  Chg w8 w8 D8 ∧ (
  LD [.int .i64] px54 w8 fun (x55 : Int) =>
  Chg w8 w8 D8 ∧ (
  Calls Tryz.prog F.s_cyFree #[.int .i64 x47, .int .i64 x55] w8 (Ret [.at (.int .i64)] fun (x56 : Int) w9 =>
  Chg w8 w9 D8 ∧ (
  IX x24 x27 1 fun (px57 : Addr) =>
  ST px57 0 [.int .i64 x56] w9 fun w10 =>
  I10 (IntKind.i64.wrap (x27 + 1)) w10 ∧ m10 (IntKind.i64.wrap (x27 + 1)) w10 < m10 x27 w7))))))))))) (
  I10 (IntKind.i64.wrap (x27 + 1)) w7 ∧ m10 (IntKind.i64.wrap (x27 + 1)) w7 < m10 x27 w7)) (
  I6 x24 (IntKind.i64.wrap (rounds_2 + 1)) (IntKind.i64.wrap (c - 1)) w7 ∧ m6 x24 (IntKind.i64.wrap (rounds_2 + 1)) (IntKind.i64.wrap (c - 1)) w7 < m6 l_2 rounds_2 c w5))) (
  Q l_2 rounds_2 w5))))

theorem C_s_cyThree {Q : Sl → Int → World → Prop} {ids : Sl} {w : World} (h : V_s_cyThree Q ids w) : Calls Tryz.prog F.s_cyThree #[ids.v] w (Ret [.at .sl, .at (.int .i64)] Q) :=
  mkC (hint := hint) (ann := annOf [(2, ⟨[(4, .sl), (5, .int .i64)], [12, 13, 14, 15, 16, 17, 18]⟩), (6, ⟨[(4, .sl), (5, .int .i64), (6, .int .i64)], [7, 8, 9, 19, 20, 21, 22, 23, 24, 25, 26, 27, 28, 29, 30, 31, 32, 33, 34, 35, 36, 37, 38, 39, 40, 41, 42, 43, 44, 45, 46, 47, 48, 49, 50, 51, 52, 53, 54, 55, 56, 57, 58, 59, 60, 61]⟩), (10, ⟨[(27, .int .i64)], [8, 9, 28, 29, 30, 31, 32, 33, 34, 35, 36, 37, 38, 39, 40, 41, 42, 43, 44, 45, 46, 47, 48, 49, 50, 51, 52, 53, 54, 55, 56, 57, 58]⟩)]) (args := [ids.v]) (rs := [.at .sl, .at (.int .i64)]) Tryz.func66 (by kernel_rfl) (by kernel_rfl) h

def V_s_cyMark (Q : Sl → World → Prop) (x0 : Sl) (w : World) : Prop :=
  RUN Tryz.prog (.at .sl) (Instr.makeSlice T.t_sl_bool (.int .i64 x0.len) (.int .i64 x0.len)) w fun (x11 : Sl) w1 =>
  ∃ (I3 : Int → World → Prop) (m3 : Int → World → Nat), I3 0 w1 ∧ ∀ (x4 : Int) w2, I3 x4 w2 → ∀ _ _ _ _ _ _ _ _ _ _ _ _ _ _ _ _ _ _ _ _ _ _ _ _ _ _ _ _ _ _ _ _ _ _ _ _ _ _ _ _ _ _ _ _ _ : Value,
  cond (decide ((x4 : Int) ≤ 2)) (
  ∃ (I6 : Int → World → Prop) (m6 : Int → World → Nat), I6 0 w2 ∧ ∀ (x18 : Int) w3, I6 x18 w3 → ∀ _ _ _ _ _ _ _ _ _ _ _ _ _ _ _ _ _ _ _ _ _ _ _ _ _ _ _ _ _ _ _ _ _ _ _ _ _ _ : Value,
  cond (decide ((x18 : Int) < x0.len)) (
  IX x0 x18 1 fun (px21 : Addr) =>
  LD [.int .i64] px21 w3 fun (x22 : Int) =>
  cond ((x22 : Int) == x4) (
  (x0.len : Int) ≠ 0 ∧ (
  IX x11 (Int.tmod (IntKind.i64.wrap ((IntKind.i64.wrap (x18 + x0.len)) - 1)) x0.len) 1 fun (px36 : Addr) =>
  LD [.bool] px36 w3 fun (x37 : Bool) =>
  cond (!x37) (
  (x0.len : Int) ≠ 0 ∧ (
  IX x11 (Int.tmod (IntKind.i64.wrap (x18 + 1)) x0.len) 1 fun (px47 : Addr) =>
  LD [.bool] px47 w3 fun (x48 : Bool) =>
  cond (!x48) (
  IX x11 x18 1 fun (px53 : Addr) =>
  ST px53 0 [.bool true] w3 fun w4 =>
  I6 (IntKind.i64.wrap (x18 + 1)) w4 ∧ m6 (IntKind.i64.wrap (x18 + 1)) w4 < m6 x18 w3) (
  I6 (IntKind.i64.wrap (x18 + 1)) w3 ∧ m6 (IntKind.i64.wrap (x18 + 1)) w3 < m6 x18 w3))) (
  I6 (IntKind.i64.wrap (x18 + 1)) w3 ∧ m6 (IntKind.i64.wrap (x18 + 1)) w3 < m6 x18 w3))) (
  I6 (IntKind.i64.wrap (x18 + 1)) w3 ∧ m6 (IntKind.i64.wrap (x18 + 1)) w3 < m6 x18 w3)) (
  I3 (IntKind.i64.wrap (x4 + 1)) w3 ∧ m3 (IntKind.i64.wrap (x4 + 1)) w3 < m3 x4 w2)) (
  ∃ (I13 : Sl → Int → World → Prop) (m13 : Sl → Int → World → Nat), I13 (⟨none, 0, 0⟩) 0 w2 ∧ ∀ (x7 : Sl) (x57 : Int) w5, I13 x7 x57 w5 → ∀ _ _ _ _ _ _ _ _ _ _ _ _ : Value,
  cond (decide ((x57 : Int) < x11.len)) (
  IX x11 x57 1 fun (px62 : Addr) =>
  LD [.bool] px62 w5 fun (x63 : Bool) =>
  cond x63 (
  RUN Tryz.prog (.at .sl) (Instr.buildSlice T.t_sl_int 1 #[(0, .int .i64 x57)]) w5 fun (x66 : Sl) w6 =>
  RUN Tryz.prog (.at .sl) (bsem .append #[T.t_sl_int, T.t_sl_int] T.t_sl_int #[x7.v, x66.v]) w6 fun (x67 : Sl) w7 =>
  I13 x67 (IntKind.i64.wrap (x57 + 1)) w7 ∧ m13 x67 (IntKind.i64.wrap (x57 + 1)) w7 < m13 x7 x57 w5) (
  I13 x7 (IntKind.i64.wrap (x57 + 1)) w5 ∧ m13 x7 (IntKind.i64.wrap (x57 + 1)) w5 < m13 x7 x57 w5)) (
  Q x7 w5))

theorem C_s_cyMark {Q : Sl → World → Prop} {x0 : Sl} {w : World} (h : V_s_cyMark Q x0 w) : Calls Tryz.prog F.s_cyMark #[x0.v] w (Ret [.at .sl] Q) :=
  mkC (hint := hint) (ann := annOf [(3, ⟨[(4, .int .i64)], [5, 6, 12, 13, 14, 15, 16, 17, 18, 19, 20, 21, 22, 23, 24, 25, 26, 27, 28, 29, 30, 31, 32, 33, 34, 35, 36, 37, 38, 39, 40, 41, 42, 43, 44, 45, 46, 47, 48, 49, 50, 51, 52, 53, 54]⟩), (6, ⟨[(18, .int .i64)], [5, 6, 19, 20, 21, 22, 23, 24, 25, 26, 27, 28, 29, 30, 31, 32, 33, 34, 35, 36, 37, 38, 39, 40, 41, 42, 43, 44, 45, 46, 47, 48, 49, 50, 51, 52, 53, 54]⟩), (13, ⟨[(7, .sl), (57, .int .i64)], [8, 58, 59, 60, 61, 62, 63, 64, 65, 66, 67, 68]⟩)]) (args := [x0.v]) (rs := [.at .sl]) Tryz.func67 (by kernel_rfl) (by kernel_rfl) h

def V_s_waBetween (Q : Sl → Bool → World → Prop) (x0_0 : Int) (x0_1 : Sl) (x1 : Int) (x2 : Int) (x3 : Int) (w : World) : Prop :=
  NEW T.t_i_WalkProblem #[.int .i64 x0_0, x0_1.v] w fun (px4 : Addr) w1 =>
  LD [.int .i64, .sl] px4 w1 fun (x15_0 : Int) (x15_1 : Sl) =>
  Calls Tryz.prog F.s_waPowers #[.agg #[.int .i64 x15_0, x15_1.v], .int .i64 x3] w1 (Ret [.at .sl] fun (x17 : Sl) w2 =>
  IX x17 x3 1 fun (px20 : Addr) =>
  LD [.sl] px20 w2 fun (x21 : Sl) =>
  IX x21 x1 1 fun (px23 : Addr) =>
  LD [.sl] px23 w2 fun (x24 : Sl) =>
  IX x24 x2 1 fun (px26 : Addr) =>
  LD [.bool] px26 w2 fun (x27 : Bool) =>
  cond (!x27) (
  Q (⟨none, 0, 0⟩) false w2) (
  LD [.int .i64, .sl] px4 w2 fun (x29_0 : Int) (x29_1 : Sl) =>
  Calls Tryz.prog F.s_waMay #[.agg #[.int .i64 x29_0, x29_1.v]] w2 (Ret [.at .sl] fun (x30 : Sl) w3 =>
  RUN Tryz.prog (.at .sl) (Instr.buildSlice T.t_sl_int 1 #[(0, .int .i64 x1)]) w3 fun (x32 : Sl) w4 =>
  ∃ (I7 : Sl → Int → World → Prop) (m7 : Sl → Int → World → Nat), I7 x32 (IntKind.i64.wrap (x3 - 1)) w4 ∧ ∀ (x12 : Sl) (x13 : Int) w5, I7 x12 x13 w5 → ∀ _ _ _ _ _ _ _ _ _ _ _ _ _ _ _ _ _ _ _ _ _ _ _ _ _ _ _ _ _ _ _ _ _ _ _ _ _ _ _ : Value,
  cond (decide ((x13 : Int) ≥ 0)) (
  ∃ (I10 : Sl → Int → World → Prop) (m10 : Sl → Int → World → Nat), I10 x12 0 w5 ∧ ∀ (x12_2 : Sl) (x14 : Int) w6, I10 x12_2 x14 w6 → ∀ _ _ _ _ _ _ _ _ _ _ _ _ _ _ _ _ _ _ _ _ _ _ _ _ _ _ _ _ _ _ _ _ _ _ : Value,
  LD [.int .i64] (px4.add 0) w6 fun (x41 : Int) =>
  cond (decide ((x14 : Int) < x41)) (
  IX x12_2 (IntKind.i64.wrap (x12_2.len - 1)) 1 fun (px50 : Addr) =>
  LD [.int .i64] px50 w6 fun (x51 : Int) =>
  IX x30 x51 1 fun (px52 : Addr) =>
  LD [.sl] px52 w6 fun (x53 : Sl) =>
  IX x53 x14 1 fun (px55 : Addr) =>
  LD [.bool] px55 w6 fun (x56 : Bool) =>
  cond x56 (
  IX x17 x13 1 fun (px60 : Addr) =>
  LD [.sl] px60 w6 fun (x61 : Sl) =>
  IX x61 x14 1 fun (px63 : Addr) =>
  LD [.sl] px63 w6 fun (x64 : Sl) =>
  IX x64 x2 1 fun (px66 : Addr) =>
  LD [.bool] px66 w6 fun (x67 : Bool) =>
  cond x67 (
  RUN Tryz.prog (.at .sl) (Instr.buildSlice T.t_sl_int 1 #[(0, .int .i64 x14)]) w6 fun (x71 : Sl) w7 =>
  RUN Tryz.prog (.at .sl) (bsem .append #[T.t_sl_int, T.t_sl_int] T.t_sl_int #[x12_2.v, x71.v]) w7 fun (x72 : Sl) w8 =>
  I7 x72 (IntKind.i64.wrap (x13 - 1)) w8 ∧ m7 x72 (IntKind.i64.wrap (x13 - 1)) w8 < m7 x12 x13 w5) (
  I10 x12_2 (IntKind.i64.wrap (x14 + 1)) w6 ∧ m10 x12_2 (IntKind.i64.wrap (x14 + 1)) w6 < m10 x12_2 x14 w6)) (
  I10 x12_2 (IntKind.i64.wrap (x14 + 1)) w6 ∧ m10 x12_2 (IntKind.i64.wrap (x14 + 1)) w6 < m10 x12_2 x14 w6)) (
  I7 x12_2 (IntKind.i64.wrap (x13 - 1)) w6 ∧ m7 x12_2 (IntKind.i64.wrap (x13 - 1)) w6 < m7 x12 x13 w5)) (
  Q x12 true w5))))

theorem C_s_waBetween {Q : Sl → Bool → World → Prop} {x0_0 : Int} {x0_1 : Sl} {x1 : Int} {x2 : Int} {x3 : Int} {w : World} (h : V_s_waBetween Q x0_0 x0_1 x1 x2 x3 w) : Calls Tryz.prog F.s_waBetween #[.agg #[.int .i64 x0_0, x0_1.v], .int .i64 x1, .int .i64 x2, .int .i64 x3] w (Ret [.at .sl, .at .bool] Q) :=
  mkC (hint := hint) (ann := annOf [(7, ⟨[(12, .sl), (13, .int .i64)], [14, 35, 36, 37, 38, 39, 40, 41, 42, 43, 44, 45, 46, 47, 48, 49, 50, 51, 52, 53, 54, 55, 56, 57, 58, 59, 60, 61, 62, 63, 64, 65, 66, 67, 68, 69, 70, 71, 72]⟩), (10, ⟨[(12, .sl), (14, .int .i64)], [39, 40, 41, 42, 43, 44, 45, 46, 47, 48, 49, 50, 51, 52, 53, 54, 55, 56, 57, 58, 59, 60, 61, 62, 63, 64, 65, 66, 67, 68, 69, 70, 71, 72]⟩)]) (args := [.agg #[.int .i64 x0_0, x0_1.v], .int .i64 x1, .int .i64 x2, .int .i64 x3]) (rs := [.at .sl, .at .bool]) Tryz.func68 (by kernel_rfl) (by kernel_rfl) h

def V_s_l1Own (Q : Sl → World → Prop) (l : Sl) (w : World) : Prop :=
  RUN Tryz.prog (.at .sl) (Instr.buildSlice T.t_sl_int 0 #[]) w fun (x3 : Sl) w1 =>
  RUN Tryz.prog (.at .sl) (bsem .append #[T.t_sl_int, T.t_sl_int] T.t_sl_int #[x3.v, l.v]) w1 fun (x5 : Sl) w2 =>
  Q x5 w2

theorem C_s_l1Own {Q : Sl → World → Prop} {l : Sl} {w : World} (h : V_s_l1Own Q l w) : Calls Tryz.prog F.s_l1Own #[l.v] w (Ret [.at .sl] Q) :=
  mkC (hint := hint) (ann := annOf []) (args := [l.v]) (rs := [.at .sl]) Tryz.func69 (by kernel_rfl) (by kernel_rfl) h

def V_i_within (Q : Bool → World → Prop) (n : Int) (low : Int) (high : Int) (w : World) : Prop :=
  cond (decide ((low : Int) ≤ n)) (
  Q (decide ((n : Int) ≤ high)) w) (
  Q false w)

theorem C_i_within {Q : Bool → World → Prop} {n : Int} {low : Int} {high : Int} {w : World} (h : V_i_within Q n low high w) : Calls Tryz.prog F.i_within #[.int .i64 n, .int .i64 low, .int .i64 high] w (Ret [.at .bool] Q) :=
  mkC (hint := hint) (ann := annOf []) (args := [.int .i64 n, .int .i64 low, .int .i64 high]) (rs := [.at .bool]) Tryz.func70 (by kernel_rfl) (by kernel_rfl) h

def V_i_WalkProblem_hasLabels (Q : Bool → World → Prop) (p_0 : Int) (p_1 : Sl) (labels : Sl) (w : World) : Prop :=
  NEW T.t_i_WalkProblem #[.int .i64 p_0, p_1.v] w fun (p_p : Addr) w1 =>
  LD [.int .i64] (p_p.add 0) w1 fun (x7 : Int) =>
  Calls Tryz.prog F.i_allWithin #[labels.v, .int .i64 0, .int .i64 (IntKind.i64.wrap (x7 - 1))] w1 (Ret [.at .bool] fun (x9 : Bool) w2 =>
  Q x9 w2)

theorem C_i_WalkProblem_hasLabels {Q : Bool → World → Prop} {p_0 : Int} {p_1 : Sl} {labels : Sl} {w : World} (h : V_i_WalkProblem_hasLabels Q p_0 p_1 labels w) : Calls Tryz.prog F.i_WalkProblem_hasLabels #[.agg #[.int .i64 p_0, p_1.v], labels.v] w (Ret [.at .bool] Q) :=
  mkC (hint := hint) (ann := annOf []) (args := [.agg #[.int .i64 p_0, p_1.v], labels.v]) (rs := [.at .bool]) Tryz.func71 (by kernel_rfl) (by kernel_rfl) h

def V_slices_Compare_sl_int_int (Q : Int → World → Prop) (s1 : Sl) (s2 : Sl) (w : World) : Prop :=
  ∃ (I2 : Int → World → Prop) (m2 : Int → World → Nat), I2 0 w ∧ ∀ (x11 : Int) w1, I2 x11 w1 → ∀ _ _ _ _ _ _ _ _ _ _ _ _ _ _ _ _ _ _ _ _ _ _ _ _ : Value,
  cond (decide ((x11 : Int) < s1.len)) (
  IX s1 x11 1 fun (px14 : Addr) =>
  LD [.int .i64] px14 w1 fun (x15 : Int) =>
  cond (decide ((x11 : Int) ≥ s2.len)) (
  Q 1 w1) (
  IX s2 x11 1 fun (px22 : Addr) =>
  LD [.int .i64] px22 w1 fun (x23 : Int) =>
  Calls Tryz.prog F.cmp_Compare_int #[.int .i64 x15, .int .i64 x23] w1 (Ret [.at (.int .i64)] fun (x26 : Int) w2 =>
  cond ((x26 : Int) != 0) (
  Q x26 w2) (
  I2 (IntKind.i64.wrap (x11 + 1)) w2 ∧ m2 (IntKind.i64.wrap (x11 + 1)) w2 < m2 x11 w1)))) (
  cond (decide ((s1.len : Int) < s2.len)) (
  Q (-1) w1) (
  Q 0 w1))

theorem C_slices_Compare_sl_int_int {Q : Int → World → Prop} {s1 : Sl} {s2 : Sl} {w : World} (h : V_slices_Compare_sl_int_int Q s1 s2 w) : Calls Tryz.prog F.slices_Compare_sl_int_int #[s1.v, s2.v] w (Ret [.at (.int .i64)] Q) :=
  mkC (hint := hint) (ann := annOf [(2, ⟨[(11, .int .i64)], [4, 5, 6, 7, 8, 12, 13, 14, 15, 16, 17, 18, 19, 20, 21, 22, 23, 24, 25, 26, 27, 28, 29, 30]⟩)]) (args := [s1.v, s2.v]) (rs := [.at (.int .i64)]) Tryz.func72 (by kernel_rfl) (by kernel_rfl) h

def V_i_isRing (Q : Bool → World → Prop) (list : Sl) (w : World) : Prop :=
  Calls Tryz.prog F.i_within #[.int .i64 list.len, .int .i64 2, .int .i64 180] w (Ret [.at .bool] fun (x5 : Bool) w1 =>
  Q x5 w1)

theorem C_i_isRing {Q : Bool → World → Prop} {list : Sl} {w : World} (h : V_i_isRing Q list w) : Calls Tryz.prog F.i_isRing #[list.v] w (Ret [.at .bool] Q) :=
  mkC (hint := hint) (ann := annOf []) (args := [list.v]) (rs := [.at .bool]) Tryz.func73 (by kernel_rfl) (by kernel_rfl) h

end Go.Proofs.YtaeledhbkdakcaaGreatDoor
end
