/- Own texts, merged: Rules, Bits, Names. -/
import Derived.Test.YtfiginahjofdnaaGreatM0
import Derived.Laws.OwnMore
import Derived.Great.BuildSlice
import Derived.Laws.StructEq
import Derived.Test.YtfiginahjofdnaaGreatProg
set_option linter.unusedVariables false
section
/- Rules for proving the propositions that functions compute to: memory read as lists, loops over indexes, calls. No program is named here. -/
namespace Go.GX
open Go.RowKit

/-! ### Numbers -/

def I64 (n : Int) : Prop := -9223372036854775808 ≤ n ∧ n ≤ 9223372036854775807

theorem wrap_of {n : Int} (h1 : -9223372036854775808 ≤ n) (h2 : n ≤ 9223372036854775807) : IntKind.i64.wrap n = n := by
  have e1 : (2 : Int) ^ 64 = 18446744073709551616 := rfl
  have e2 : (2 : Int) ^ 63 = 9223372036854775808 := rfl
  simp only [IntKind.wrap, IntKind.bits, IntKind.signed, Bool.true_and, decide_eq_true_eq, Nat.reduceSub, e1, e2]
  by_cases h : 0 ≤ n
  · have : n % 18446744073709551616 = n := Int.emod_eq_of_lt h (by omega)
    rw [this, if_neg (by omega)]
  · have : n % 18446744073709551616 = n + 18446744073709551616 := by omega
    rw [this, if_pos (by omega)]; omega

theorem add_zero' (a : Addr) : a.add 0 = a := rfl
theorem add_add (a : Addr) (m n : Nat) : (a.add m).add n = a.add (m + n) := by
  unfold Addr.add
  by_cases hm : m = 0
  · subst hm; simp
  · by_cases hn : n = 0
    · subst hn; simp [hm]
    · simp [hm, hn, Nat.add_assoc]


/-! ### Worlds -/

theorem Ext.size_le {w w' : World} (h : Ext w w') : w.heap.size ≤ w'.heap.size := h.size

theorem Ext.same {w w' : World} (h : Ext w w') {b : Nat} (hb : b < w.heap.size) : w'.heap[b]? = w.heap[b]? := h.block b hb

theorem cell_lt {w : World} {a : Addr} {v : Value} (h : w.cell? a = some v) : a.block < w.heap.size := World.block_lt_of_cell? w a h

theorem ext_push (w : World) (o : Obj) : Ext w { w with heap := w.heap.push o } :=
  ⟨rfl, rfl, rfl, by simp, fun k hk => by simp [Array.getElem?_push, Nat.ne_of_lt hk]⟩

theorem ext_setCell {w0 w : World} (h : Ext w0 w) {a : Addr} (ha : w0.heap.size ≤ a.block) (v : Value) : Ext w0 (w.setCell a v) := Below.setCell h ha v

/-- A block that the call itself has made: its cells, not frozen. -/
def Box (w : World) (p : Addr) (t : TypeId) (cs : List Value) : Prop := p.off = 0 ∧ p.spot = none ∧ w.heap[p.block]? = some (.cells ⟨cs⟩ t (0, 0))

theorem Box.cell {w : World} {p : Addr} {t : TypeId} {cs : List Value} (h : Box w p t cs) {i : Nat} {v : Value} (hi : cs[i]? = some v) : w.cell? (p.add i) = some v := by
  obtain ⟨h1, h2, h3⟩ := h
  unfold Addr.add
  by_cases h0 : i = 0
  · subst h0; simp [World.cell?, h3, h2, h1, hi]
  · simp [World.cell?, h3, h0, h1, hi]

theorem Box.frozen {w : World} {p : Addr} {t : TypeId} {cs : List Value} (h : Box w p t cs) (i : Nat) : w.frozen? (p.add i) = false := by
  obtain ⟨h1, h2, h3⟩ := h
  have : (p.add i).block = p.block := by unfold Addr.add; split <;> rfl
  simp [World.frozen?, this, h3]

theorem Box.lt {w : World} {p : Addr} {t : TypeId} {cs : List Value} (h : Box w p t cs) : p.block < w.heap.size := (Array.getElem?_eq_some_iff.1 h.2.2).1

theorem Box.ext {w w' : World} {p : Addr} {t : TypeId} {cs : List Value} (h : Box w p t cs) (hE : Ext w w') : Box w' p t cs :=
  ⟨h.1, h.2.1, (hE.same h.lt).trans h.2.2⟩

theorem Box.of_block {w w' : World} {p : Addr} {t : TypeId} {cs : List Value} (h : Box w p t cs) (hE : w'.heap[p.block]? = w.heap[p.block]?) : Box w' p t cs :=
  ⟨h.1, h.2.1, hE.trans h.2.2⟩

theorem add_block (p : Addr) (i : Nat) : (p.add i).block = p.block := by unfold Addr.add; split <;> rfl

theorem Box.set {w : World} {p : Addr} {t : TypeId} {cs : List Value} (h : Box w p t cs) (i : Nat) (v : Value) : Box (w.setCell (p.add i) v) p t (cs.set i v) := by
  obtain ⟨h1, h2, h3⟩ := h
  refine ⟨h1, h2, ?_⟩
  have hb : (p.add i).block = p.block := add_block p i
  have ho : (p.add i).off = i := by unfold Addr.add; split <;> simp_all
  have hs : (p.add i).spot = none := by unfold Addr.add; split <;> simp_all
  have hlt := (Array.getElem?_eq_some_iff.1 h3).1
  have hv := (Array.getElem?_eq_some_iff.1 h3).2
  simp only [World.setCell, Array.getElem?_modify, hb, ho, hs]
  simp [h3]

/-- A new variable: its block is the next one. -/
theorem NEW_intro {t : TypeId} {cs : List Value} {w : World} {K : Addr → World → Prop}
    (h : ∀ p w', p.block = w.heap.size → w'.heap.size = w.heap.size + 1 → Ext w w' → Box w' p t cs → K p w') : NEW t ⟨cs⟩ w K :=
  h _ _ rfl (by simp) (ext_push w _) ⟨rfl, rfl, by simp⟩

theorem setCell_size (w : World) (a : Addr) (v : Value) : (w.setCell a v).heap.size = w.heap.size := by simp [World.setCell]

theorem setCell_other (w : World) (a : Addr) (v : Value) {b : Nat} (h : b ≠ a.block) : (w.setCell a v).heap[b]? = w.heap[b]? := Below.heap_setCell w a v b h

/-- A store of one cell into a block of the call's own. -/
theorem ST_box1 {w : World} {p : Addr} {t : TypeId} {cs : List Value} {i : Nat} {v : Value} {K : World → Prop} (h : Box w p t cs) (hi : i < cs.length) (h1 : v.oneCell' = true)
    (hk : ∀ w', w'.heap.size = w.heap.size → (∀ b, b ≠ p.block → w'.heap[b]? = w.heap[b]?) → (∀ w0, Ext w0 w → w0.heap.size ≤ p.block → Ext w0 w') → Box w' p t (cs.set i v) → K w') : ST (p.add i) 0 [v] w K := by
  refine ⟨h1, ⟨cs[i], ?_⟩, ?_, hk _ (setCell_size _ _ _) (fun b hb => setCell_other _ _ _ (by rw [add_add, add_block]; exact hb)) (fun w0 h0 hle => ext_setCell h0 (by rw [add_add, add_block]; exact hle) v) (by rw [add_add]; exact h.set _ v)⟩
  · rw [add_add]; exact h.cell (by simp [hi])
  · rw [add_add]; exact h.frozen _

/-! ### Loads -/

section
variable {w : World} {a : Addr}

theorem LD_sl {K : Sl → Prop} {s : Sl} (hc : w.cell? a = some s.v) (hk : K s) : LD [.sl] a w K :=
  ⟨[s.v], rfl, fun i v hi => by match i, hi with | 0, hi => simp at hi; subst hi; exact hc, hk⟩
theorem LD_int {K : Int → Prop} {n : Int} (hc : w.cell? a = some (.int .i64 n)) (hk : K n) : LD [.int .i64] a w K :=
  ⟨[.int .i64 n], rfl, fun i v hi => by match i, hi with | 0, hi => simp at hi; subst hi; exact hc, hk⟩
theorem LD_bool {K : Bool → Prop} {n : Bool} (hc : w.cell? a = some (.bool n)) (hk : K n) : LD [.bool] a w K :=
  ⟨[.bool n], rfl, fun i v hi => by match i, hi with | 0, hi => simp at hi; subst hi; exact hc, hk⟩
end

/-! ### Memory read as data -/

class Rep (α : Type) where
  sz : Nat
  rep : (Nat → Prop) → World → List Value → α → Prop
  len : ∀ {D w cs a}, rep D w cs a → cs.length = sz
  agr : ∀ {D : Nat → Prop} {w w' : World} {cs a}, (∀ b, D b → w'.heap[b]? = w.heap[b]?) → rep D w cs a → rep D w' cs a
  weak : ∀ {D D' : Nat → Prop} {w cs a}, (∀ b, D b → b < w.heap.size → D' b) → rep D w cs a → rep D' w cs a

/-- The slice s reads as the list l, by blocks in D. -/
def SlR {α : Type} [Rep α] (D : Nat → Prop) (w : World) (s : Sl) (l : List α) : Prop :=
  s.len = l.length ∧ (s.len ≤ s.cap ∧ s.cap ≤ 9223372036854775807) ∧ ∀ i x, l[i]? = some x → ∃ a cs, s.a = some a ∧ D a.block ∧ Rep.rep D w cs x ∧ ∀ j v, cs[j]? = some v → w.cell? (a.add (i * Rep.sz α + j)) = some v

instance : Rep Int where
  sz := 1
  rep _ _ cs n := cs = [.int .i64 n] ∧ I64 n
  len h := by rw [h.1]; rfl
  agr _ h := h
  weak _ h := h

instance : Rep Bool where
  sz := 1
  rep _ _ cs n := cs = [.bool n]
  len h := by rw [h]; rfl
  agr _ h := h
  weak _ h := h

instance : Rep (Int × Int) where
  sz := 2
  rep _ _ cs n := cs = [.int .i64 n.1, .int .i64 n.2] ∧ I64 n.1 ∧ I64 n.2
  len h := by rw [h.1]; rfl
  agr _ h := h
  weak _ h := h

instance : Rep (Int × Int × Int × Int) where
  sz := 4
  rep _ _ cs n := cs = [.int .i64 n.1, .int .i64 n.2.1, .int .i64 n.2.2.1, .int .i64 n.2.2.2] ∧ I64 n.1 ∧ I64 n.2.1 ∧ I64 n.2.2.1 ∧ I64 n.2.2.2
  len h := by rw [h.1]; rfl
  agr _ h := h
  weak _ h := h

section
variable {α : Type} [Rep α] {D D' : Nat → Prop} {w w' : World} {s : Sl} {l : List α}

theorem SlR.agr (hE : ∀ b, D b → w'.heap[b]? = w.heap[b]?) (h : SlR D w s l) : SlR D w' s l :=
  ⟨h.1, h.2.1, fun i x hx => by
    obtain ⟨a, cs, h1, h2, h3, h4⟩ := h.2.2 i x hx
    exact ⟨a, cs, h1, h2, Rep.agr hE h3, fun j v hj => by
      have hb : w'.heap[(a.add (i * Rep.sz α + j)).block]? = w.heap[(a.add (i * Rep.sz α + j)).block]? := by rw [add_block]; exact hE _ h2
      rw [World.cell?_of_block hb]; exact h4 j v hj⟩⟩

theorem SlR.weak (hD : ∀ b, D b → b < w.heap.size → D' b) (h : SlR D w s l) (hsz : 0 < Rep.sz α) : SlR D' w s l :=
  ⟨h.1, h.2.1, fun i x hx => by
    obtain ⟨a, cs, h1, h2, h3, h4⟩ := h.2.2 i x hx
    have hl : cs.length = Rep.sz α := Rep.len h3
    have hlt : a.block < w.heap.size := by
      have := cell_lt (h4 0 cs[0] (by simp))
      rwa [add_block] at this
    exact ⟨a, cs, h1, hD _ h2 hlt, Rep.weak hD h3, h4⟩⟩
end

class RepP (α : Type) extends Rep α where
  pos : 0 < sz

instance : RepP Int := ⟨by decide⟩
instance : RepP Bool := ⟨by decide⟩
instance : RepP (Int × Int) := ⟨by decide⟩
instance : RepP (Int × Int × Int × Int) := ⟨by decide⟩

instance {α : Type} [RepP α] : Rep (List α) where
  sz := 1
  rep D w cs l := ∃ s : Sl, cs = [s.v] ∧ SlR D w s l
  len h := by obtain ⟨s, rfl, _⟩ := h; rfl
  agr hE h := by obtain ⟨s, rfl, h⟩ := h; exact ⟨s, rfl, h.agr hE⟩
  weak hD h := by obtain ⟨s, rfl, h⟩ := h; exact ⟨s, rfl, h.weak hD RepP.pos⟩

instance {α : Type} [RepP α] : RepP (List α) := ⟨by show 0 < 1; decide⟩

abbrev R {α : Type} [Rep α] (w : World) (s : Sl) (l : List α) : Prop := SlR (fun _ => True) w s l

section
variable {α : Type} [RepP α] {D : Nat → Prop} {w w' : World} {s : Sl} {l : List α}

theorem SlR.any (h : SlR D w s l) : R w s l := h.weak (fun _ _ _ => trivial) RepP.pos
theorem SlR.below (h : SlR D w s l) : SlR (fun b => D b ∧ b < w.heap.size) w s l := h.weak (fun _ h1 h2 => ⟨h1, h2⟩) RepP.pos
theorem SlR.ext (hE : Ext w w') (h : SlR D w s l) : SlR D w' s l := by
  have h1 := h.below.agr (w' := w') fun b hb => hE.same hb.2
  exact h1.weak (fun _ h2 _ => h2.1) RepP.pos
theorem SlR.len (h : SlR D w s l) : s.len = l.length := h.1
theorem SlR.le (h : SlR D w s l) : l.length ≤ 9223372036854775807 := by have := h.1; have := h.2.1; omega
end

/-- The element of a slice: its address, and what lies there. -/
theorem SlR.ix {α : Type} [RepP α] {D : Nat → Prop} {w : World} {s : Sl} {l : List α} (h : SlR D w s l) {i : Int} {n : Nat} (hn : n = Rep.sz α) (h0 : 0 ≤ i) (hi : i < l.length) {K : Addr → Prop}
    (hk : ∀ p cs, Rep.rep D w cs (l[i.toNat]'(by omega)) → (∀ j v, cs[j]? = some v → w.cell? (p.add j) = some v) → K p) : IX s i n K := by
  obtain ⟨a, cs, h1, h2, h3, h4⟩ := h.2.2 i.toNat (l[i.toNat]'(by omega)) (by simp)
  refine ⟨a, h1, h0, by rw [h.1]; exact hi, hk _ cs h3 fun j v hj => ?_⟩
  subst hn
  rw [add_add]
  exact h4 j v hj

theorem SlR.ixI {D : Nat → Prop} {w : World} {s : Sl} {l : List Int} (h : SlR D w s l) {i : Nat} (hi : i < l.length) {K : Addr → Prop}
    (hk : ∀ p, I64 l[i] → w.cell? p = some (.int .i64 l[i]) → K p) : IX s i 1 K :=
  h.ix rfl (by omega) (by omega) fun p cs hr hc => by
    obtain ⟨rfl, h64⟩ := hr
    exact hk p h64 (hc 0 _ rfl)

theorem SlR.ixB {D : Nat → Prop} {w : World} {s : Sl} {l : List Bool} (h : SlR D w s l) {i : Nat} (hi : i < l.length) {K : Addr → Prop}
    (hk : ∀ p, w.cell? p = some (.bool l[i]) → K p) : IX s i 1 K :=
  h.ix rfl (by omega) (by omega) fun p cs hr hc => by
    have hr' : cs = [.bool l[i]] := hr
    subst hr'
    exact hk p (hc 0 _ rfl)

theorem SlR.ixL {α : Type} [RepP α] {D : Nat → Prop} {w : World} {s : Sl} {l : List (List α)} (h : SlR D w s l) {i : Nat} (hi : i < l.length) {K : Addr → Prop}
    (hk : ∀ p (s' : Sl), SlR D w s' l[i] → w.cell? p = some s'.v → K p) : IX s i 1 K :=
  h.ix rfl (by omega) (by omega) fun p cs hr hc => by
    obtain ⟨s', rfl, hs⟩ := hr
    exact hk p s' hs (hc 0 _ rfl)

theorem not_mem_take_succ {α : Type} {l : List α} {n : α} {i : Nat} (hi : i < l.length) (h : n ∉ l.take i) (hne : l[i] ≠ n) : n ∉ l.take (i + 1) := by
  rw [List.take_succ_eq_append_getElem hi]
  intro hm
  rcases List.mem_append.1 hm with h1 | h1
  · exact h h1
  · exact hne (List.mem_singleton.1 h1).symm

/-! ### Loops over an index -/

def IN (N : Nat) (I : Nat → World → Prop) (x : Int) (w : World) : Prop := ∃ i : Nat, x = i ∧ i ≤ N ∧ I i w
def MN (N : Nat) (x : Int) (_ : World) : Nat := N - x.toNat

theorem IN_zero {N : Nat} {I : Nat → World → Prop} {w : World} (h : I 0 w) : IN N I 0 w := ⟨0, rfl, Nat.zero_le _, h⟩

theorem IN_next {N i : Nat} {I : Nat → World → Prop} {w w' : World} (hN : N ≤ 9223372036854775807) (hi : i < N) (h : I (i + 1) w) :
    IN N I (IntKind.i64.wrap ((i : Int) + 1)) w ∧ MN N (IntKind.i64.wrap ((i : Int) + 1)) w < MN N i w' := by
  rw [wrap_of (by omega) (by omega)]
  exact ⟨⟨i + 1, by omega, hi, h⟩, by unfold MN; omega⟩

/-- A call that only computes, or that makes memory, in a region whose order is open. -/
theorem QCALL_bool {P : Program} {f : FuncId} {args : Array Value} {w : World} {K : Bool → Prop} (b : Bool)
    (h : ∀ w', Ext w w' → Calls P f args w' (Ret [.at .bool] fun (c : Bool) w'' => c = b ∧ Ext w' w'')) (hk : K b) : QCALL P f args w [.at .bool] K :=
  ⟨.bool b, [.bool b], rfl, fun w' hw => (h w' hw).mono fun e w'' he => by
    cases e with
    | returned v =>
      simp only [Ret] at he
      cases v <;> simp [unR, Sh.cells, app, At.un, atsR, botW] at he
      obtain ⟨rfl, h2⟩ := he
      exact ⟨rfl, h2⟩
    | panicked _ => exact he.elim
    | outgrown => exact he.elim, hk⟩

theorem QCALL_int {P : Program} {f : FuncId} {args : Array Value} {w : World} {K : Int → Prop} (b : Int)
    (h : ∀ w', Ext w w' → Calls P f args w' (Ret [.at (.int .i64)] fun (c : Int) w'' => c = b ∧ Ext w' w'')) (hk : K b) : QCALL P f args w [.at (.int .i64)] K :=
  ⟨.int .i64 b, [.int .i64 b], rfl, fun w' hw => (h w' hw).mono fun e w'' he => by
    cases e with
    | returned v =>
      simp only [Ret] at he
      cases v with
      | int k n =>
        cases k <;> simp [unR, Sh.cells, app, At.un, atsR, botW] at he
        obtain ⟨rfl, h2⟩ := he
        exact ⟨rfl, h2⟩
      | _ => simp [unR, Sh.cells, app, At.un, atsR, botW] at he
    | panicked _ => exact he.elim
    | outgrown => exact he.elim, hk⟩

theorem CALLV_mk {P : Program} {g : FuncId} {caps : List Value} {args : Array Value} {w : World} {R : Ending → World → Prop} (hc : callable P g = true) (h : Calls P g ⟨args.toList ++ caps⟩ w R) : CALLV P (.func (.func g) #[] ⟨caps⟩) args w R :=
  ⟨g, caps, rfl, hc, h⟩


/-! ### Branches -/

section
variable {X Y : Prop}
theorem cond_t {b : Bool} (h : b = true) (hx : X) : cond b X Y := by subst h; exact hx
theorem cond_f {b : Bool} (h : b = false) (hy : Y) : cond b X Y := by subst h; exact hy
theorem cond_b {b : Bool} (ht : b = true → X) (hf : b = false → Y) : cond b X Y := by cases b; exact hf rfl; exact ht rfl
theorem cond_not {b : Bool} (hf : b = false → X) (ht : b = true → Y) : cond (!b) X Y := by cases b; exact hf rfl; exact ht rfl
theorem cond_dec {p : Prop} [Decidable p] (ht : p → X) (hf : ¬ p → Y) : cond (decide p) X Y := by
  by_cases h : p
  · rw [decide_eq_true h]; exact ht h
  · rw [decide_eq_false h]; exact hf h
theorem cond_df {p : Prop} [Decidable p] (h : ¬ p) (hy : Y) : cond (decide p) X Y := by rw [decide_eq_false h]; exact hy
theorem cond_eq {a b : Int} (ht : a = b → X) (hf : a ≠ b → Y) : cond (a == b) X Y := by
  by_cases h : a = b
  · rw [beq_iff_eq.2 h]; exact ht h
  · rw [beq_eq_false_iff_ne.2 h]; exact hf h
theorem cond_ne {a b : Int} (ht : a ≠ b → X) (hf : a = b → Y) : cond (a != b) X Y := by
  by_cases h : a = b
  · rw [bne_eq_false_iff_eq.2 h]; exact hf h
  · rw [bne_iff_ne.2 h]; exact ht h
end

/-! ### Small builtins -/

theorem RUN_max {P : Program} {t : TypeId} {ts : Array TypeId} {x y : Int} {w : World} {K : Int → World → Prop} (h : K (if x < y then y else x) w) : RUN P (.at (.int .i64)) (bsem .max ts t #[.int .i64 x, .int .i64 y]) w K := h


theorem Ret_bool {Q : Bool → World → Prop} {e : Ending} {w : World} (h : Ret [.at .bool] Q e w) : ∃ b, e = .returned (.bool b) ∧ Q b w := by
  cases e with
  | returned v =>
    simp only [Ret] at h
    cases v <;> simp [unR, Sh.cells, app, At.un, atsR, botW] at h
    exact ⟨_, rfl, h⟩
  | panicked _ => exact h.elim
  | outgrown => exact h.elim


/-! ### Slices of the call's own -/

/-- What is asked of a slice type: its elements' type, their cells and bytes, their zero value. -/
structure SlT (P : Program) (t e : TypeId) (size bytes : Nat) (z : Value) : Prop where
  under : P.underlying t = some (.slice e)
  info : (P.info? e).map (fun i => (i.zero, i.size, i.bytes)) = some (some z, size, bytes)
  zs : z.cells.size = size
  pos : 0 < size

theorem SlT.parts {P : Program} {t e : TypeId} {size bytes : Nat} {z : Value} (h : SlT P t e size bytes z) : ∃ i, P.info? e = some i ∧ i.zero = some z ∧ i.size = size ∧ i.bytes = bytes := by
  have := h.info
  cases hi : P.info? e with
  | none => rw [hi] at this; cases this
  | some i => rw [hi] at this; simp at this; exact ⟨i, rfl, this.1, this.2.1, this.2.2⟩

/-- The slice s is the call's own: its cells. -/
def Own (w : World) (base : Nat) (e : TypeId) (size : Nat) (s : Sl) (xs : List Value) : Prop := w.ownsRow base e size s.v s.len xs

theorem Own.nil (w : World) (base : Nat) (e : TypeId) (size : Nat) : Own w base e size ⟨none, 0, 0⟩ [] := World.ownsRow_nil w base e size

theorem Own.length {w : World} {base : Nat} {e : TypeId} {size : Nat} {s : Sl} {xs : List Value} (h : Own w base e size s xs) : xs.length = s.len * size := h.1

/-- What is behind a step that may write to one block of the call's own, and may make blocks. -/
structure Step (w w' : World) (g : Option Nat) : Prop where
  os : w'.os = w.os
  tape : w'.tape = w.tape
  output : w'.output = w.output
  size : w.heap.size ≤ w'.heap.size
  block : ∀ k, k < w.heap.size → some k ≠ g → w'.heap[k]? = w.heap[k]?

theorem Step.of_grown {w w' : World} {g : Option Nat} (h : w.grownBy w' g) : Step w w' g := ⟨h.os, h.tape, h.output, h.size, h.block⟩
theorem Step.ext {w w' : World} (h : Step w w' none) : Ext w w' := ⟨h.os, h.tape, h.output, h.size, fun k hk => h.block k hk (by simp)⟩
theorem Step.of_ext {w w' : World} (h : Ext w w') (g : Option Nat) : Step w w' g := ⟨h.os, h.tape, h.output, h.size, fun k hk _ => h.block k hk⟩
theorem Step.ext0 {w0 w w' : World} {g : Option Nat} (h : Step w w' g) (hE : Ext w0 w) (hg : ∀ k, g = some k → w0.heap.size ≤ k) : Ext w0 w' :=
  ⟨h.os.trans hE.os, h.tape.trans hE.tape, h.output.trans hE.output, Nat.le_trans hE.size h.size, fun k hk => (h.block k (Nat.lt_of_lt_of_le hk hE.size) (fun e => by have := hg k e.symm; omega)).trans (hE.block k hk)⟩

theorem Step.trans {a b c : World} {g : Option Nat} (h : Step a b g) (k : Step b c g) : Step a c g :=
  ⟨k.os.trans h.os, k.tape.trans h.tape, k.output.trans h.output, Nat.le_trans h.size k.size, fun b hb hne => (k.block b (Nat.lt_of_lt_of_le hb h.size) hne).trans (h.block b hb hne)⟩

theorem Step.refl (w : World) (g : Option Nat) : Step w w g := ⟨rfl, rfl, rfl, Nat.le_refl _, fun _ _ _ => rfl⟩

theorem Own.blk {w : World} {base : Nat} {e : TypeId} {size : Nat} {s : Sl} {xs : List Value} (h : Own w base e size s xs) : ∀ k, s.v.ownBlock = some k → base ≤ k ∧ k < w.heap.size := World.ownsRow.lt h

theorem Own.keep {w w' : World} {base : Nat} {e : TypeId} {size : Nat} {s : Sl} {xs : List Value} (h : Own w base e size s xs) (hb : ∀ k, s.v.ownBlock = some k → w'.heap[k]? = w.heap[k]?) : Own w' base e size s xs := by
  refine ⟨h.1, ?_⟩
  rcases h.2 with hn | ⟨g, cap, cur, hv, hb', hg, rest⟩
  · exact .inl hn
  · refine .inr ⟨g, cap, cur, hv, hb', ?_, rest⟩
    rw [hb g (by rw [hv]; rfl)]; exact hg

theorem Own.ext {w w' : World} {base : Nat} {e : TypeId} {size : Nat} {s : Sl} {xs : List Value} (h : Own w base e size s xs) (hE : Ext w w') : Own w' base e size s xs :=
  h.keep fun k hk => hE.same (h.blk k hk).2

class Flat (α : Type) extends RepP α where
  cells : α → List Value
  ok : α → Prop
  size : ∀ a, (cells a).length = sz
  one : ∀ a, ∀ v ∈ cells a, v.oneCell' = true
  repOk : ∀ {D w a}, ok a → rep D w (cells a) a
  ofRep : ∀ {D w cs a}, rep D w cs a → cs = cells a ∧ ok a

instance : Flat Int where
  cells n := [.int .i64 n]
  ok n := I64 n
  size _ := rfl
  one _ v hv := by simp at hv; subst hv; rfl
  repOk h := ⟨rfl, h⟩
  ofRep h := ⟨h.1, h.2⟩

instance : Flat Bool where
  cells n := [.bool n]
  ok _ := True
  size _ := rfl
  one _ v hv := by simp at hv; subst hv; rfl
  repOk _ := rfl
  ofRep h := ⟨h, trivial⟩

instance : Flat (Int × Int) where
  cells n := [.int .i64 n.1, .int .i64 n.2]
  ok n := I64 n.1 ∧ I64 n.2
  size _ := rfl
  one _ v hv := by simp at hv; rcases hv with rfl | rfl <;> rfl
  repOk h := ⟨rfl, h⟩
  ofRep h := ⟨h.1, h.2⟩

instance : Flat (Int × Int × Int × Int) where
  cells n := [.int .i64 n.1, .int .i64 n.2.1, .int .i64 n.2.2.1, .int .i64 n.2.2.2]
  ok n := I64 n.1 ∧ I64 n.2.1 ∧ I64 n.2.2.1 ∧ I64 n.2.2.2
  size _ := rfl
  one _ v hv := by simp at hv; rcases hv with rfl | rfl | rfl | rfl <;> rfl
  repOk h := ⟨rfl, h⟩
  ofRep h := ⟨h.1, h.2⟩

/-- The call's own slice s holds the list l. -/
def OwnL {α : Type} [Flat α] (w : World) (base : Nat) (e : TypeId) (s : Sl) (l : List α) : Prop :=
  s.len = l.length ∧ Own w base e (Rep.sz α) s (l.flatMap Flat.cells)

section
variable {α : Type} [Flat α] {w w' : World} {base : Nat} {e : TypeId} {s : Sl} {l : List α}

theorem flat_get (l : List α) {i j : Nat} {x : α} {v : Value} (hx : l[i]? = some x) (hv : (Flat.cells x)[j]? = some v) : (l.flatMap Flat.cells)[i * Rep.sz α + j]? = some v := by
  induction l generalizing i with
  | nil => cases hx
  | cons y r ih =>
    simp only [List.flatMap_cons]
    cases i with
    | zero =>
      simp at hx; subst hx
      have hlt := (List.getElem?_eq_some_iff.1 hv).1
      rw [List.getElem?_append_left (by simpa using hlt)]
      simpa using hv
    | succ i =>
      have hl : (Flat.cells y).length = Rep.sz α := Flat.size y
      rw [List.getElem?_append_right (by rw [hl, Nat.succ_mul]; omega), hl, show (i + 1) * Rep.sz α + j - Rep.sz α = i * Rep.sz α + j by rw [Nat.succ_mul]; omega]
      exact ih (by simpa using hx)

theorem OwnL.ext (h : OwnL w base e s l) (hE : Ext w w') : OwnL w' base e s l := ⟨h.1, h.2.ext hE⟩
theorem OwnL.keep (h : OwnL w base e s l) (hb : ∀ k, s.v.ownBlock = some k → w'.heap[k]? = w.heap[k]?) : OwnL w' base e s l := ⟨h.1, h.2.keep hb⟩
theorem OwnL.blk (h : OwnL w base e s l) : ∀ k, s.v.ownBlock = some k → base ≤ k ∧ k < w.heap.size := h.2.blk
theorem OwnL.nil (w : World) (base : Nat) (e : TypeId) : OwnL w base e ⟨none, 0, 0⟩ ([] : List α) := ⟨rfl, Own.nil _ _ _ _⟩

/-- What is owned reads as a list. -/
theorem OwnL.rep (h : OwnL w base e s l) (hok : ∀ x ∈ l, Flat.ok x) : SlR (fun b => base ≤ b) w s l := by
  obtain ⟨h1, h2⟩ := h
  refine ⟨h1, ?_, fun i x hx => ?_⟩
  · rcases h2.2 with ⟨hv, h0⟩ | ⟨g, cap, cur, hv, _, _, hle, hmx, _⟩
    · simp [Sl.v] at hv; omega
    · simp [Sl.v] at hv; obtain ⟨_, rfl⟩ := hv; exact ⟨hle, hmx⟩
  · rcases h2.2 with ⟨hv, h0⟩ | ⟨g, cap, cur, hv, hb, hg, hle, _, hsz, htake⟩
    · rw [h0] at h1; have : l = [] := by cases l; rfl; simp at h1
      subst this; cases hx
    · simp [Sl.v] at hv
      obtain ⟨ha, rfl⟩ := hv
      refine ⟨⟨g, 0, none⟩, Flat.cells x, ha, hb, Flat.repOk (hok x (List.mem_of_getElem? hx)), fun j v hj => ?_⟩
      have hown : w.ownsRow base e (Rep.sz α) s.v s.len (l.flatMap Flat.cells) := h2
      exact World.ownsRow.cells hown (g := g) (by simp [Sl.v, ha, Value.ownBlock]) _ v (flat_get l hx hj)

/-- The place of an element. -/
def Plc (s : Sl) (i size : Nat) (p : Addr) : Prop := ∃ a, s.a = some a ∧ p = a.add (i * size)

theorem IX_own (h : OwnL w base e s l) {i : Nat} (hi : i < l.length) {n : Nat} (hn : n = Rep.sz α) {K : Addr → Prop} (hk : ∀ p, Plc s i (Rep.sz α) p → K p) : IX s i n K := by
  subst hn
  rcases h.2.2 with ⟨hv, h0⟩ | ⟨g, cap, cur, hv, _⟩
  · rw [h.1] at h0; omega
  · simp [Sl.v] at hv
    exact ⟨_, hv.1, by omega, by rw [h.1]; omega, hk _ ⟨_, hv.1, by simp⟩⟩

end

theorem setMany_own {base : Nat} {e : TypeId} {size : Nat} {g n cap : Nat} : ∀ (vs : List Value) (i : Nat) (xs : List Value) (w : World) (K : World → Prop),
    w.ownsRow base e size (.slice (some ⟨g, 0, none⟩) n cap) n xs → (∀ v ∈ vs, v.oneCell' = true) → i + vs.length ≤ xs.length →
    (∀ w', w'.ownsRow base e size (.slice (some ⟨g, 0, none⟩) n cap) n (xs.take i ++ vs ++ xs.drop (i + vs.length)) → Step w w' (some g) → K w') → ∀ (a : Addr) (k : Nat), a.add k = ⟨g, i, none⟩ → ST a k vs w K
  | [], i, xs, w, K, h, _, hl, hk, a, k, _ => by
    refine hk w (by simpa using h) ⟨rfl, rfl, rfl, Nat.le_refl _, fun _ _ _ => rfl⟩
  | v :: vs, i, xs, w, K, h, h1, hl, hk, a, k, ha => by
    have hil : i < xs.length := by simp at hl; omega
    have hin : i < n * size := by rw [← h.1]; exact hil
    refine ⟨h1 v (by simp), ⟨xs[i], ?_⟩, ?_, ?_⟩
    · rw [ha, h.cellAt i hin]; simp [hil]
    · rw [ha]; exact h.frozenAt i
    · rw [ha]
      obtain ⟨hst, hgr⟩ := h.stored i v
      have hak : a.add (k + 1) = ⟨g, i + 1, none⟩ := by rw [← add_add, ha]; rfl
      refine setMany_own vs (i + 1) (xs.set i v) _ K hst (fun u hu => h1 u (by simp [hu])) (by simp at hl ⊢; omega) (fun w' hw' hs' => hk w' ?_ ?_) a (k + 1) hak
      · have e1 : (xs.set i v).take (i + 1) ++ vs ++ (xs.set i v).drop (i + 1 + vs.length) = xs.take i ++ v :: vs ++ xs.drop (i + (v :: vs).length) := by
          rw [List.drop_set_of_lt (by omega), List.take_set, List.take_succ_eq_append_getElem hil, List.set_append_right _ _ (by simp; omega)]
          simp [Nat.min_eq_left (Nat.le_of_lt hil), Nat.add_assoc, Nat.add_comm 1]
        rw [← e1]; exact hw'
      · refine ⟨hs'.os.trans hgr.os, hs'.tape.trans hgr.tape, hs'.output.trans hgr.output, Nat.le_trans hgr.size hs'.size, fun b hb hne => ?_⟩
        rw [hs'.block b (Nat.lt_of_lt_of_le hb hgr.size) hne, hgr.block b hb hne]

theorem flat_set {α : Type} [Flat α] (l : List α) {i : Nat} (hi : i < l.length) (x : α) :
    (l.set i x).flatMap Flat.cells = (l.flatMap Flat.cells).take (i * Rep.sz α) ++ Flat.cells x ++ (l.flatMap Flat.cells).drop (i * Rep.sz α + (Flat.cells x).length) := by
  have hl : ∀ y : α, (Flat.cells y).length = Rep.sz α := Flat.size
  induction l generalizing i with
  | nil => simp at hi
  | cons y r ih =>
    cases i with
    | zero => simp [hl]
    | succ i =>
      have := ih (i := i) (by simpa using hi)
      simp only [List.set_cons_succ, List.flatMap_cons, this, hl]
      rw [show (i + 1) * Rep.sz α = Rep.sz α + i * Rep.sz α by rw [Nat.succ_mul, Nat.add_comm]]
      have e1 : (Flat.cells y ++ List.flatMap Flat.cells r).take (Rep.sz α + i * Rep.sz α) = Flat.cells y ++ (List.flatMap Flat.cells r).take (i * Rep.sz α) := by
        rw [← hl y, List.take_length_add_append]
      have e2 : (Flat.cells y ++ List.flatMap Flat.cells r).drop (Rep.sz α + i * Rep.sz α + Rep.sz α) = (List.flatMap Flat.cells r).drop (i * Rep.sz α + Rep.sz α) := by
        rw [Nat.add_assoc, ← hl y, List.drop_length_add_append]
      rw [e1, e2]
      simp

section
variable {α : Type} [Flat α] {w w' : World} {base : Nat} {e : TypeId} {s : Sl} {l : List α}

/-- A store into the call's own slice. -/
theorem ST_own (h : OwnL w base e s l) {i : Nat} (hi : i < l.length) {p : Addr} (hp : Plc s i (Rep.sz α) p) (x : α) {vs : List Value} (hvs : vs = Flat.cells x) {K : World → Prop}
    (hk : ∀ w', OwnL w' base e s (l.set i x) → Step w w' s.v.ownBlock → K w') : ST p 0 vs w K := by
  subst hvs
  obtain ⟨a, ha, rfl⟩ := hp
  rcases h.2.2 with ⟨hv, h0⟩ | ⟨g, cap, cur, hv, _⟩
  · rw [h.1] at h0; omega
  · have hv' := hv
    simp [Sl.v] at hv
    obtain ⟨hsa, rfl⟩ := hv
    rw [hsa] at ha; cases ha
    have hown : w.ownsRow base e (Rep.sz α) (.slice (some ⟨g, 0, none⟩) s.len s.cap) s.len (l.flatMap Flat.cells) := by
      have := h.2; unfold Own at this; rw [hv'] at this; exact this
    have hlen : (l.flatMap Flat.cells).length = l.length * Rep.sz α := by have := h.2.length; rwa [h.1] at this
    have hcl : (Flat.cells x).length = Rep.sz α := Flat.size x
    refine setMany_own (Flat.cells x) (i * Rep.sz α) _ w K hown (Flat.one x) ?_ (fun w' hw' hs => hk w' ⟨by simp [h.1], ?_⟩ (by rw [hv']; exact hs)) _ 0 (by rw [add_zero']; simp only [Addr.add]; split <;> simp_all)
    · rw [hlen, hcl]
      have : (i + 1) * Rep.sz α ≤ l.length * Rep.sz α := Nat.mul_le_mul_right _ hi
      rw [Nat.succ_mul] at this; omega
    · unfold Own
      rw [hv', flat_set l hi x]
      exact hw'
end

/-- make([]T, n). -/
theorem RUN_make {α : Type} [Flat α] {P : Program} {t e : TypeId} {bytes : Nat} {z : Value} {d : α} (hT : SlT P t e (Rep.sz α) bytes z) (hz : z.cells.toList = Flat.cells d) {n : Nat} (hb : bytes * n ≤ 281474976710656) (h63 : n ≤ maxLen) {w : World} {K : Sl → World → Prop}
    (hk : ∀ s w', Ext w w' → OwnL w' w.heap.size e s (List.replicate n d) → K s w') : RUN P (.at .sl) (Instr.makeSlice t (.int .i64 (n : Int)) (.int .i64 (n : Int))) w K := by
  obtain ⟨i, hi, hz0, hs, hby⟩ := hT.parts
  obtain ⟨w', hr, hown, hg⟩ := run_make_full (P := P) w w.heap.size t e i z (Rep.sz α) hT.under hi hz0 hs .i64 .i64 n (by rw [hby]; exact hb) h63 (Nat.le_refl _)
  unfold RUN
  rw [hr]
  refine hk ⟨some ⟨w.heap.size, 0, none⟩, n, n⟩ w' (Step.of_grown hg).ext ⟨by simp, ?_⟩
  unfold Own
  have hcells : (madeCells z.cells (n * Rep.sz α)).toList = (List.replicate n d).flatMap Flat.cells := by
    have hsz : z.cells.size = Rep.sz α := hT.zs
    have hpos := hT.pos
    apply List.ext_getElem?
    intro j
    by_cases hj : j < n * Rep.sz α
    · have hlt : j % Rep.sz α < Rep.sz α := Nat.mod_lt _ hpos
      have hdl : (Flat.cells d).length = Rep.sz α := Flat.size d
      have h1 : (List.replicate n d)[j / Rep.sz α]? = some d := by
        rw [List.getElem?_replicate, if_pos ((Nat.div_lt_iff_lt_mul hpos).2 hj)]
      have h2 : (Flat.cells d)[j % Rep.sz α]? = some (Flat.cells d)[j % Rep.sz α] := by simp [hdl, hlt]
      have h3 := flat_get (List.replicate n d) h1 h2
      rw [Nat.div_add_mod' j (Rep.sz α)] at h3
      rw [h3]
      simp only [madeCells]
      simp [hj, hsz]
      have : z.cells[j % Rep.sz α]! = (Flat.cells d)[j % Rep.sz α] := by
        have hh : j % Rep.sz α < z.cells.size := by rw [hsz]; exact hlt
        rw [getElem!_pos z.cells _ hh]
        have : z.cells[j % Rep.sz α] = z.cells.toList[j % Rep.sz α]'(by simpa using hh) := by simp
        rw [this]
        simp only [hz]
      exact this
    · have hl2 : ((List.replicate n d).flatMap Flat.cells).length = n * Rep.sz α := by
        have : ∀ m, ((List.replicate m d).flatMap Flat.cells).length = m * Rep.sz α := by
          intro m
          induction m with
          | zero => simp
          | succ m ih => rw [List.replicate_succ, List.flatMap_cons, List.length_append, ih, Flat.size d, Nat.succ_mul, Nat.add_comm]
        exact this n
      rw [List.getElem?_eq_none (by simp [madeCells]; omega), List.getElem?_eq_none (by rw [hl2]; omega)]
  show w'.ownsRow w.heap.size e (Rep.sz α) (.slice (some ⟨w.heap.size, 0, none⟩) n n) n _
  rw [← hcells]
  exact hown


/-! ### Literals and append -/

theorem foldl_sets : ∀ (l : List Value) (k : Nat) (ys : List Value), k + l.length ≤ ys.length →
    (l.zipIdx k).foldl (fun (cs : List Value) x => cs.set (0 + x.2) x.1) ys = ys.take k ++ l ++ ys.drop (k + l.length)
  | [], k, ys, h => by simp
  | v :: l, k, ys, h => by
    have hk : k < ys.length := by simp at h; omega
    simp only [List.zipIdx_cons, List.foldl_cons]
    rw [foldl_sets l (k + 1) _ (by simp at h ⊢; omega)]
    rw [Nat.zero_add, List.drop_set_of_lt (by omega), List.take_set, List.take_succ_eq_append_getElem hk, List.set_append_right _ _ (by simp; omega)]
    simp [Nat.min_eq_left (Nat.le_of_lt hk), Nat.add_assoc, Nat.add_comm 1]

theorem fill_one (arr : Array Value) (v : Value) (sz : Nat) (h1 : arr.size = sz) (h2 : v.cells.size = sz) : Instr.fill (fun i => some (i * sz, sz)) arr [(0, v)] = some v.cells := by
  simp only [Instr.fill, Nat.zero_mul]
  rw [if_neg (by simp [h1, h2])]
  congr 1
  apply Array.ext'
  rw [← Array.foldl_toList]
  have : ∀ (l : List (Value × Nat)) (a : Array Value), (l.foldl (fun (cs : Array Value) x => cs.setIfInBounds (0 + x.2) x.1) a).toList = l.foldl (fun (cs : List Value) x => cs.set (0 + x.2) x.1) a.toList := by
    intro l
    induction l with
    | nil => intro a; rfl
    | cons x r ih => intro a; simp only [List.foldl_cons]; rw [ih]; simp
  have e : v.cells.zipIdx.toList = v.cells.toList.zipIdx 0 := by simp
  rw [e, this, foldl_sets _ _ _ (by simp; omega)]
  simp
  omega

/-- A literal of one element: []T{x}. -/
theorem RUN_lit1 {α : Type} [Flat α] {P : Program} {t e : TypeId} {bytes : Nat} {z v : Value} (hT : SlT P t e (Rep.sz α) bytes z) (x : α) (hv : v.cells.toList = Flat.cells x) (hs : Rep.sz α ≤ 1000) {w : World} {K : Sl → World → Prop}
    (hk : ∀ s w', Ext w w' → OwnL w' w.heap.size e s [x] → K s w') : RUN P (.at .sl) (Instr.buildSlice t 1 #[(0, v)]) w K := by
  obtain ⟨i, hi, hz0, hsz, hby⟩ := hT.parts
  have hvs : v.cells.size = Rep.sz α := by rw [← Array.length_toList, hv, Flat.size]
  have hr := run_buildSlice (P := P) w t e 1 #[(0, v)] v.cells i z hT.under hi hz0 (by rw [hsz]; omega) (by rw [hsz]; have := hT.pos; omega) (by rw [hsz]; exact fill_one _ v _ (by simp) hvs)
  unfold RUN
  rw [hr]
  refine hk ⟨some ⟨w.heap.size, 0, none⟩, 1, 1⟩ _ (ext_push w _) ⟨rfl, ?_⟩
  have := World.ownsRow_lit (base := w.heap.size) (e := e) (size := Rep.sz α) w v.cells 1 (Nat.le_refl _) (by unfold maxLen; omega) (by rw [hvs]; omega)
  unfold Own
  simpa [hv] using this

/-- The cells of a slice that reads as a list. -/
theorem SlR.flat {α : Type} [Flat α] {D : Nat → Prop} {w : World} {y : Sl} {m : List α} (h : SlR D w y m) {a : Addr} (ha : y.a = some a) : ∀ j u, (m.flatMap Flat.cells)[j]? = some u → w.cell? (a.add j) = some u := by
  intro j u hu
  have hpos : 0 < Rep.sz α := RepP.pos
  have hlen : (m.flatMap Flat.cells).length = m.length * Rep.sz α := by
    clear hu h
    induction m with
    | nil => simp
    | cons x r ih => rw [List.flatMap_cons, List.length_append, ih, Flat.size x, List.length_cons, Nat.succ_mul, Nat.add_comm]
  have hj : j < m.length * Rep.sz α := by rw [← hlen]; exact (List.getElem?_eq_some_iff.1 hu).1
  have hi : j / Rep.sz α < m.length := (Nat.div_lt_iff_lt_mul hpos).2 hj
  obtain ⟨a', cs, ha', _, hr, hc⟩ := h.2.2 (j / Rep.sz α) m[j / Rep.sz α] (by simp [hi])
  rw [ha] at ha'; cases ha'
  obtain ⟨rfl, _⟩ := Flat.ofRep hr
  have hmod : j % Rep.sz α < (Flat.cells m[j / Rep.sz α]).length := by rw [Flat.size]; exact Nat.mod_lt _ hpos
  have h2 : (Flat.cells m[j / Rep.sz α])[j % Rep.sz α]? = some (Flat.cells m[j / Rep.sz α])[j % Rep.sz α] := by simp [hmod]
  have h3 := flat_get m (i := j / Rep.sz α) (by simp [hi]) h2
  rw [Nat.div_add_mod' j (Rep.sz α), hu] at h3
  cases h3
  have := hc _ _ h2
  rwa [Nat.div_add_mod' j (Rep.sz α)] at this

/-- What a slice became by appending lies in the same block or in a new one. -/
def NewOr (w : World) (s s' : Sl) : Prop := s'.v.ownBlock = s.v.ownBlock ∨ ∀ k, s'.v.ownBlock = some k → w.heap.size ≤ k

/-- append(s, y...) on a slice of the call's own; what is appended reads as a list. -/
theorem RUN_appendF {α : Type} [Flat α] {P : Program} {t e : TypeId} {bytes : Nat} {z : Value} (hT : SlT P t e (Rep.sz α) bytes z) {w : World} {base : Nat} {s y : Sl} {l m : List α} (h : OwnL w base e s l) (hbase : base ≤ w.heap.size)
    {D : Nat → Prop} (hy : SlR D w y m) (hlen : (l.length + m.length) * bytes ≤ 140737488355328) (hmax : l.length + m.length ≤ maxLen) {K : Sl → World → Prop}
    (hk : ∀ s' w', OwnL w' base e s' (l ++ m) → Step w w' s.v.ownBlock → NewOr w s s' → K s' w') : RUN P (.at .sl) (bsem .append #[t, t] t #[s.v, y.v]) w K := by
  obtain ⟨i, hi, hz0, hsz, hby⟩ := hT.parts
  have hyl : (m.flatMap Flat.cells).length = m.length * Rep.sz α := by
    clear hy hlen hmax hk
    induction m with
    | nil => simp
    | cons x r ih => rw [List.flatMap_cons, List.length_append, ih, Flat.size x, List.length_cons, Nat.succ_mul, Nat.add_comm]
  have hone : ∀ u ∈ m.flatMap Flat.cells, u.oneCell' = true := by
    intro u hu
    obtain ⟨x, _, hx⟩ := List.mem_flatMap.1 hu
    exact Flat.one x u hx
  have hown : w.ownsRow base e (Rep.sz α) s.v l.length (l.flatMap Flat.cells) := by have := h.2; unfold Own at this; rwa [h.1] at this
  have fin : ∀ v' w', (Builtin.append_ #[t, t] t #[s.v, y.v]).run P w = .ok v' w' → w'.ownsRow base e (Rep.sz α) v' (l.length + m.length) (l.flatMap Flat.cells ++ m.flatMap Flat.cells) → Step w w' s.v.ownBlock → (v'.ownBlock = s.v.ownBlock ∨ ∀ k, v'.ownBlock = some k → w.heap.size ≤ k) → RUN P (.at .sl) (bsem .append #[t, t] t #[s.v, y.v]) w K := by
    intro v' w' hr ho hst hnw
    have hsl : ∃ s' : Sl, v' = s'.v ∧ s'.len = l.length + m.length := by
      rcases ho.2 with ⟨rfl, h0⟩ | ⟨g', cap', cur', rfl, _⟩
      · exact ⟨⟨none, 0, 0⟩, rfl, h0.symm⟩
      · exact ⟨⟨some ⟨g', 0, none⟩, l.length + m.length, cap'⟩, rfl, rfl⟩
    obtain ⟨s', rfl, hs'⟩ := hsl
    unfold RUN
    show (match (Builtin.append_ #[t, t] t #[s.v, y.v]).run P w with | .ok v w' => _ | .halt _ _ => False)
    rw [hr]
    refine hk s' w' ⟨by simp [hs'], ?_⟩ hst hnw
    unfold Own
    rw [hs', List.flatMap_append]
    exact ho
  cases hya : y.a with
  | none =>
    have hm : m = [] := by
      cases m with
      | nil => rfl
      | cons x r => obtain ⟨a, _, ha, _⟩ := hy.2.2 0 x rfl; rw [hya] at ha; cases ha
    subst hm
    have hyv : y.v = .slice none 0 y.cap := by have := hy.1; simp at this; simp [Sl.v, hya, this]
    refine fin s.v w ?_ (by simpa using hown) (Step.refl _ _) (.inl rfl)
    rw [hyv]
    obtain ⟨sa, sl, sc⟩ := s
    have hle : sl ≤ sc := by
      rcases hown.2 with ⟨h0, h1⟩ | ⟨g, cap, cur, h0, _, _, h1, _⟩
      · simp [Sl.v] at h0; omega
      · simp [Sl.v] at h0; omega
    cases sa <;> simp [Builtin.append_, underlying_run hT.under, sizeOf_run hi, Builtin.lenOf, hle, Builtin.firstCells, storeCells]
  | some a =>
    have hyv : y.v = .slice (some a) m.length y.cap := by rw [← hy.1]; simp [Sl.v, hya]
    obtain ⟨v', w', hr, ho, hg, _⟩ := run_append_own (P := P) w base t t e i z (Rep.sz α) bytes hT.under hi hz0 hsz hby hT.zs hT.pos s.v l.length _ hown a m.length y.cap (m.flatMap Flat.cells) hyl (hy.flat hya) hone hmax hlen hbase
    refine fin v' w' (by rw [hyv]; exact hr) ho (Step.of_grown hg) ?_
    rcases hown.2 with ⟨h0, h1⟩ | ⟨g, cap, cur, h0, hbg, hgg, hnc, hcm, hcs, htake⟩
    · right
      have hown' : w.ownsRow w.heap.size e (Rep.sz α) s.v l.length (l.flatMap Flat.cells) := ⟨hown.1, .inl ⟨h0, h1⟩⟩
      obtain ⟨v2, w2, hr2, ho2, _⟩ := run_append_own (P := P) w w.heap.size t t e i z (Rep.sz α) bytes hT.under hi hz0 hsz hby hT.zs hT.pos s.v l.length _ hown' a m.length y.cap (m.flatMap Flat.cells) hyl (hy.flat hya) hone hmax hlen (Nat.le_refl _)
      rw [hr] at hr2
      cases hr2
      exact fun k hk => (World.ownsRow.lt ho2 k hk).1
    · have hyl' : (m.flatMap Flat.cells).length = m.length * i.size := by rw [hsz]; exact hyl
      have hol' : (l.flatMap Flat.cells).length = l.length * i.size := by rw [hsz]; exact hown.1
      subst hby
      rw [h0] at hr ⊢
      by_cases hroom : l.length + m.length ≤ cap
      · left
        have hr2 := run_append_room (P := P) w t t e i hT.under hi g l.length cap cur hgg a m.length y.cap (m.flatMap Flat.cells) hyl' (hy.flat hya) hone hroom (by rw [hyl, hcs, hsz, ← Nat.add_mul]; exact Nat.mul_le_mul_right _ hroom)
        rw [hr] at hr2
        cases hr2
        rfl
      · right
        have hr2 := run_append_grow (P := P) w t t e i z hT.under hi hz0 ⟨g, 0, none⟩ l.length cap (l.flatMap Flat.cells) hol' (hown.cells (g := g) (by rw [h0]; rfl)) a m.length y.cap (m.flatMap Flat.cells) hyl' (hy.flat hya) (by omega) (by simp only [maxLen] at hmax; omega) (growslice_fits (by simp only [maxLen] at hmax; omega) hlen)
        rw [hr] at hr2
        cases hr2
        intro k hk
        simp [Value.ownBlock] at hk
        omega

theorem RUN_append {α : Type} [Flat α] {P : Program} {t e : TypeId} {bytes : Nat} {z : Value} (hT : SlT P t e (Rep.sz α) bytes z) {w : World} {base : Nat} {s y : Sl} {l m : List α} (h : OwnL w base e s l) (hbase : base ≤ w.heap.size)
    {D : Nat → Prop} (hy : SlR D w y m) (hlen : (l.length + m.length) * bytes ≤ 140737488355328) (hmax : l.length + m.length ≤ maxLen) {K : Sl → World → Prop}
    (hk : ∀ s' w', OwnL w' base e s' (l ++ m) → Step w w' s.v.ownBlock → K s' w') : RUN P (.at .sl) (bsem .append #[t, t] t #[s.v, y.v]) w K :=
  RUN_appendF hT h hbase hy hlen hmax fun s' w' h1 h2 _ => hk s' w' h1 h2

/-- An empty literal: []T{}. -/
theorem RUN_lit0 {α : Type} [Flat α] {P : Program} {t e : TypeId} {bytes : Nat} {z : Value} (hT : SlT P t e (Rep.sz α) bytes z) {w : World} {K : Sl → World → Prop}
    (hk : ∀ s w', Ext w w' → OwnL w' w.heap.size e s ([] : List α) → K s w') : RUN P (.at .sl) (Instr.buildSlice t 0 #[]) w K := by
  obtain ⟨i, hi, hz0, hsz, hby⟩ := hT.parts
  have hr : (Instr.buildSlice t 0 #[]).run P w = .ok (.slice (some ⟨w.heap.size, 0, none⟩) 0 0) { w with heap := w.heap.push (.cells #[] e) } := by
    simp [Instr.buildSlice, underlying_run hT.under, sizeOf_run hi, Instr.fill, newRow, newObj, Sem.run]
    have : (Array.range 0) = #[] := rfl
    rw [this]; simp
  unfold RUN
  rw [hr]
  refine hk ⟨some ⟨w.heap.size, 0, none⟩, 0, 0⟩ _ (ext_push w _) ⟨rfl, ?_⟩
  have := World.ownsRow_lit (base := w.heap.size) (e := e) (size := Rep.sz α) w #[] 0 (Nat.le_refl _) (by unfold maxLen; omega) (by simp)
  unfold Own
  simpa using this

/-- A slice's first elements. -/
theorem SlR.take {α : Type} [RepP α] {D : Nat → Prop} {w : World} {s : Sl} {l : List α} (h : SlR D w s l) {i : Nat} (hi : i ≤ l.length) {sz : Nat} (_ : sz = Rep.sz α) {K : Sl → Prop} (hk : ∀ s', SlR D w s' (l.take i) → K s') : SLC s none (some (i : Int)) sz K := by
  have h1 := h.1
  have h2 := h.2.1
  refine ⟨by simp, by simp, by simp; omega, hk _ ⟨by simp; omega, by simp; omega, fun j x hx => ?_⟩⟩
  rw [List.getElem?_take] at hx
  split at hx
  · obtain ⟨a, cs, ha, hb, hr, hc⟩ := h.2.2 j x hx
    refine ⟨a, cs, ?_, hb, hr, hc⟩
    simp [ha, add_zero']
  · cases hx

/-- Slices as elements. -/
instance : Rep Sl where
  sz := 1
  rep _ _ cs s := cs = [s.v]
  len h := by rw [h]; rfl
  agr _ h := h
  weak _ h := h
instance : RepP Sl := ⟨by decide⟩
instance : Flat Sl where
  cells s := [s.v]
  ok _ := True
  size _ := rfl
  one _ v hv := by simp at hv; subst hv; rfl
  repOk _ := rfl
  ofRep h := ⟨h, trivial⟩

/-- The call's own slice of slices reads as a list of lists. -/
theorem OwnL.rows {α : Type} [RepP α] {D : Nat → Prop} {w : World} {base : Nat} {e : TypeId} {s : Sl} {ss : List Sl} {l : List (List α)} (h : OwnL w base e s ss) (hlen : ss.length = l.length)
    (hr : ∀ i (h1 : i < ss.length) (h2 : i < l.length), SlR D w ss[i] l[i]) (hD : ∀ b, base ≤ b → D b) : SlR D w s l := by
  have h0 := h.rep (fun _ _ => trivial)
  refine ⟨by rw [h0.1, hlen], h0.2.1, fun i x hx => ?_⟩
  obtain ⟨h2, rfl⟩ := List.getElem?_eq_some_iff.1 hx
  have h1 : i < ss.length := by omega
  obtain ⟨a, cs, ha, hb, hcs, hc⟩ := h0.2.2 i ss[i] (by simp [h1])
  have hcs' : cs = [ss[i].v] := hcs
  subst hcs'
  exact ⟨a, _, ha, hD _ hb, ⟨ss[i], rfl, hr i h1 h2⟩, hc⟩


/-! ### Boxes -/

section
variable {w : World} {p : Addr} {t : TypeId}

theorem LD_bs0 {x : Sl} {r : List Value} {K : Sl → Prop} (hb : Box w p t (x.v :: r)) (hk : K x) : LD [.sl] (p.add 0) w K := LD_sl (hb.cell (i := 0) rfl) hk
theorem LD_bs1 {x : Sl} {v0 : Value} {r : List Value} {K : Sl → Prop} (hb : Box w p t (v0 :: x.v :: r)) (hk : K x) : LD [.sl] (p.add 1) w K := LD_sl (hb.cell (i := 1) rfl) hk
theorem LD_bs2 {x : Sl} {v0 v1 : Value} {r : List Value} {K : Sl → Prop} (hb : Box w p t (v0 :: v1 :: x.v :: r)) (hk : K x) : LD [.sl] (p.add 2) w K := LD_sl (hb.cell (i := 2) rfl) hk
theorem LD_bi {x : Int} {r : List Value} {K : Int → Prop} (hb : Box w p t (.int .i64 x :: r)) (hk : K x) : LD [.int .i64] p w K := LD_int (hb.cell (i := 0) rfl) hk
theorem LD_bi0 {x : Int} {r : List Value} {K : Int → Prop} (hb : Box w p t (.int .i64 x :: r)) (hk : K x) : LD [.int .i64] (p.add 0) w K := LD_int (hb.cell (i := 0) rfl) hk
theorem LD_bi1 {x : Int} {v0 : Value} {r : List Value} {K : Int → Prop} (hb : Box w p t (v0 :: .int .i64 x :: r)) (hk : K x) : LD [.int .i64] (p.add 1) w K := LD_int (hb.cell (i := 1) rfl) hk
end

theorem ST_box {p : Addr} {t : TypeId} : ∀ (vs : List Value) (i : Nat) (cs : List Value) (w : World) (K : World → Prop), Box w p t cs → (∀ v ∈ vs, v.oneCell' = true) → i + vs.length ≤ cs.length →
    (∀ w', Step w w' (some p.block) → w'.heap.size = w.heap.size → Box w' p t (cs.take i ++ vs ++ cs.drop (i + vs.length)) → K w') → ST p i vs w K
  | [], i, cs, w, K, hb, _, _, hk => hk w (Step.refl _ _) rfl (by simpa using hb)
  | v :: vs, i, cs, w, K, hb, h1, hl, hk => by
    have hi : i < cs.length := by simp at hl; omega
    refine ⟨h1 v (by simp), ⟨cs[i], hb.cell (by simp [hi])⟩, hb.frozen i, ?_⟩
    refine ST_box vs (i + 1) (cs.set i v) _ K (hb.set i v) (fun u hu => h1 u (by simp [hu])) (by simp at hl ⊢; omega) fun w' hs hsz hb' => hk w' ?_ ?_ ?_
    · have h0 : Step w (w.setCell (p.add i) v) (some p.block) := ⟨rfl, rfl, rfl, by rw [setCell_size]; exact Nat.le_refl _, fun k _ hne => setCell_other _ _ _ (by rw [add_block]; intro he; exact hne (by rw [he]))⟩
      exact h0.trans hs
    · rw [hsz, setCell_size]
    · have e1 : (cs.set i v).take (i + 1) ++ vs ++ (cs.set i v).drop (i + 1 + vs.length) = cs.take i ++ v :: vs ++ cs.drop (i + (v :: vs).length) := by
        rw [List.drop_set_of_lt (by omega), List.take_set, List.take_succ_eq_append_getElem hi, List.set_append_right _ _ (by simp; omega)]
        simp [Nat.min_eq_left (Nat.le_of_lt hi), Nat.add_assoc, Nat.add_comm 1]
      rw [← e1]; exact hb'

/-- All cells of a box. -/
theorem ST_all {w : World} {p : Addr} {t : TypeId} {cs vs : List Value} {K : World → Prop} (hb : Box w p t cs) (h1 : ∀ v ∈ vs, v.oneCell' = true) (hl : vs.length = cs.length)
    (hk : ∀ w', Step w w' (some p.block) → w'.heap.size = w.heap.size → Box w' p t vs → K w') : ST p 0 vs w K :=
  ST_box vs 0 cs w K hb h1 (by omega) fun w' h2 h3 h4 => hk w' h2 h3 (by simpa [List.drop_of_length_le (Nat.le_of_eq hl.symm)] using h4)

/-- A new variable that is filled at once. -/
theorem NEW_ST {t : TypeId} {zs vs : List Value} {w : World} {K : Addr → World → Prop} (h1 : ∀ v ∈ vs, v.oneCell' = true) (hl : vs.length = zs.length)
    (hk : ∀ p w', p.block = w.heap.size → Ext w w' → Box w' p t vs → K p w') : NEW t ⟨zs⟩ w fun p w1 => ST p 0 vs w1 fun w2 => K p w2 :=
  NEW_intro fun p w1 hp hsz hE hb => ST_all hb h1 hl fun w2 hs _ hb2 => hk p w2 hp (hs.ext0 hE (fun k hk => by cases hk; omega)) hb2

theorem one2 (x y : Int) : ∀ v ∈ [Value.int .i64 x, .int .i64 y], v.oneCell' = true := by intro v hv; simp at hv; rcases hv with rfl | rfl <;> rfl
/-- One step of filling. -/
theorem fill_step {α : Type} {l : List α} {i : Nat} (hi : i < l.length) (d : α) : (l.take i ++ List.replicate (l.length - i) d).set i l[i] = l.take (i + 1) ++ List.replicate (l.length - (i + 1)) d := by
  have h1 : (l.take i).length = i := by simp; omega
  rw [List.set_append_right _ _ (by omega), h1, Nat.sub_self, show l.length - i = (l.length - (i + 1)) + 1 by omega, List.replicate_succ, List.set_cons_zero, List.take_succ_eq_append_getElem hi, List.append_assoc]
  rfl

theorem fill_len {α : Type} {l : List α} {i : Nat} (hi : i ≤ l.length) (d : α) : (l.take i ++ List.replicate (l.length - i) d).length = l.length := by simp; omega

/-! ### Structs of numbers compared -/

/-! ### Loops with an accumulator ahead of the index -/

def IN2 {α : Type} (N : Nat) (I : Nat → α → World → Prop) (a : α) (x : Int) (w : World) : Prop := ∃ i : Nat, x = i ∧ i ≤ N ∧ I i a w
def MN2 {α : Type} (N : Nat) (_ : α) (x : Int) (_ : World) : Nat := N - x.toNat

theorem IN2_zero {α : Type} {N : Nat} {I : Nat → α → World → Prop} {a : α} {w : World} (h : I 0 a w) : IN2 N I a 0 w := ⟨0, rfl, Nat.zero_le _, h⟩

theorem IN2_next {α : Type} {N i : Nat} {I : Nat → α → World → Prop} {a a' : α} {w w' : World} (hN : N ≤ 9223372036854775807) (hi : i < N) (h : I (i + 1) a w) :
    IN2 N I a (IntKind.i64.wrap ((i : Int) + 1)) w ∧ MN2 N a (IntKind.i64.wrap ((i : Int) + 1)) w < MN2 N a' i w' := by
  rw [wrap_of (by omega) (by omega)]
  exact ⟨⟨i + 1, by omega, hi, h⟩, by unfold MN2; omega⟩

theorem Ext.ext {a b c : World} (h : Ext a b) (hE : Ext b c) : Ext a c := h.trans hE

theorem all_succ {p : Nat → Prop} {v : Nat} (h : ∀ u < v, p u) (hv : p v) : ∀ u < v + 1, p u := fun u hu => by
  rcases Nat.lt_or_eq_of_le (Nat.le_of_lt_succ hu) with h1 | h1
  · exact h u h1
  · subst h1; exact hv

theorem OwnL.low {α : Type} [Flat α] {w : World} {base base' : Nat} {e : TypeId} {s : Sl} {l : List α} (h : OwnL w base e s l) (hb : base' ≤ base) : OwnL w base' e s l := by
  refine ⟨h.1, h.2.1, ?_⟩
  rcases h.2.2 with h1 | ⟨g, cap, cur, h1, h2, h3⟩
  · exact .inl h1
  · exact .inr ⟨g, cap, cur, h1, Nat.le_trans hb h2, h3⟩

/-! ### Literals of several one-cell elements -/

theorem fill_ones : ∀ (vs : List Value) (k : Nat) (arr : Array Value), (∀ v ∈ vs, v.cells = #[v]) → k + vs.length ≤ arr.size →
    Instr.fill (fun i => some (i * 1, 1)) arr ((vs.zipIdx k).map fun x => (x.2, x.1)) = some ⟨arr.toList.take k ++ vs ++ arr.toList.drop (k + vs.length)⟩
  | [], k, arr, _, _ => by simp [Instr.fill]
  | v :: vs, k, arr, hv, hk => by
    have h1 := hv v (by simp)
    have hk' : k < arr.toList.length := by simp at hk ⊢; omega
    simp only [List.zipIdx_cons, List.map_cons, Instr.fill, Nat.mul_one]
    rw [if_neg (by simp [h1] at hk ⊢; omega), h1]
    have e : ((#[v] : Array Value).zipIdx.foldl (fun (cs : Array Value) (x : Value × Nat) => cs.setIfInBounds (k + x.2) x.1) arr) = arr.setIfInBounds k v := by simp [Array.zipIdx]
    have e' : (fun (i : Nat) => some (i, 1)) = fun i => some (i * 1, 1) := by funext i; rw [Nat.mul_one]
    rw [e, e', fill_ones vs (k + 1) _ (fun u hu => hv u (by simp [hu])) (by simp at hk ⊢; omega)]
    congr 2
    rw [Array.toList_setIfInBounds, List.drop_set_of_lt (by omega), List.take_set, List.take_succ_eq_append_getElem hk', List.set_append_right _ _ (by simp; omega)]
    simp at hk'
    simp [Nat.min_eq_left (Nat.le_of_lt hk'), Nat.add_assoc, Nat.add_comm 1]

/-- A literal of numbers: []int{a, b, ..}. -/
theorem RUN_lits {P : Program} {t e : TypeId} {bytes : Nat} {z : Value} (hT : SlT P t e 1 bytes z) (l : List Int) (h0 : l ≠ []) (hl : l.length ≤ 1000) {n : Nat} (hn : n = l.length) {parts : Array (Nat × Value)} (hp : parts.toList = ((l.map (Value.int .i64)).zipIdx 0).map fun x => (x.2, x.1)) {w : World} {K : Sl → World → Prop}
    (hk : ∀ s w', Ext w w' → OwnL w' w.heap.size e s l → K s w') : RUN P (.at .sl) (Instr.buildSlice t n parts) w K := by
  obtain ⟨i, hi, hz0, hsz, hby⟩ := hT.parts
  subst hn
  have hpos : 0 < l.length := List.length_pos_iff.2 h0
  have hr := run_buildSlice (P := P) w t e l.length parts ⟨l.map (Value.int .i64)⟩ i z hT.under hi hz0 (by rw [hsz]; omega) (by rw [hsz]; omega) (by
    rw [hsz, hp, fill_ones _ 0 _ (by intro v hv; obtain ⟨x, _, rfl⟩ := List.mem_map.1 hv; rfl) (by simp)]
    simp)
  unfold RUN
  rw [hr]
  refine hk ⟨some ⟨w.heap.size, 0, none⟩, l.length, l.length⟩ _ (ext_push w _) ⟨rfl, ?_⟩
  have := World.ownsRow_lit (base := w.heap.size) (e := e) (size := 1) w ⟨l.map (Value.int .i64)⟩ l.length (Nat.le_refl _) (by unfold maxLen; omega) (by simp)
  have hf : l.flatMap Flat.cells = l.map (Value.int .i64) := by
    clear this hr hk hp h0 hl hpos
    induction l with
    | nil => rfl
    | cons x r ih => rw [List.flatMap_cons, ih]; rfl
  unfold Own
  rw [hf]
  exact this

/-! ### Own lists of own lists -/

theorem OwnL.type {α : Type} [Flat α] {w : World} {base : Nat} {e : TypeId} {s : Sl} {l : List α} (h : OwnL w base e s l) {k : Nat} (hk : s.v.ownBlock = some k) : ∃ cs, w.heap[k]? = some (.cells cs e (0, 0)) := by
  rcases h.2.2 with ⟨h1, _⟩ | ⟨g, cap, cur, h1, _, h3, _⟩
  · rw [h1] at hk; cases hk
  · rw [h1] at hk
    cases hk
    exact ⟨cur, h3⟩

/-- A list of another element type is not touched. -/
theorem OwnL.step {α β : Type} [Flat α] [Flat β] {w w' : World} {base base' : Nat} {e e' : TypeId} {s s' : Sl} {l : List α} {l' : List β} (h : OwnL w base e s l) (h' : OwnL w base' e' s' l') (he : e ≠ e') (hs : Step w w' s'.v.ownBlock) : OwnL w' base e s l :=
  h.keep fun k hk => by
    refine hs.block k (h.blk k hk).2 fun hk' => ?_
    obtain ⟨c1, h1⟩ := h.type hk
    obtain ⟨c2, h2⟩ := h'.type hk'.symm
    rw [h1] at h2
    cases h2
    exact he rfl

def Own2 {α : Type} [Flat α] (w : World) (base : Nat) (e e' : TypeId) (s : Sl) (ls : List (List α)) : Prop :=
  ∃ ss : List Sl, OwnL w base e' s ss ∧ ss.length = ls.length ∧ ∀ (i : Nat) (r : Sl) (l : List α), ss[i]? = some r → ls[i]? = some l → OwnL w base e r l

section
variable {α : Type} [Flat α] {w w' : World} {base : Nat} {e e' : TypeId} {s : Sl} {ls : List (List α)}
theorem Own2.nil (w : World) (base : Nat) (e e' : TypeId) : Own2 w base e e' ⟨none, 0, 0⟩ ([] : List (List α)) := ⟨[], OwnL.nil _ _ _, rfl, fun i r l h => by simp at h⟩
theorem Own2.ext (h : Own2 w base e e' s ls) (hE : Ext w w') : Own2 w' base e e' s ls := by
  obtain ⟨ss, h1, h2, h3⟩ := h
  exact ⟨ss, h1.ext hE, h2, fun i r l hr hl => (h3 i r l hr hl).ext hE⟩
theorem Own2.low (h : Own2 w base e e' s ls) {b : Nat} (hb : b ≤ base) : Own2 w b e e' s ls := by
  obtain ⟨ss, h1, h2, h3⟩ := h
  exact ⟨ss, h1.low hb, h2, fun i r l hr hl => (h3 i r l hr hl).low hb⟩
theorem Own2.blk (h : Own2 w base e e' s ls) : ∀ k, s.v.ownBlock = some k → base ≤ k ∧ k < w.heap.size := by
  obtain ⟨ss, h1, _⟩ := h
  exact h1.blk
theorem Own2.repD (h : Own2 w base e e' s ls) (hok : ∀ l ∈ ls, ∀ x ∈ l, Flat.ok x) : SlR (fun b => base ≤ b) w s ls := by
  obtain ⟨ss, h1, h2, h3⟩ := h
  refine (OwnL.rows h1 h2 (fun i hi hj => ?_) (fun _ hb => hb))
  exact (h3 i ss[i] ls[i] (by simp [hi]) (by simp [hj])).rep (hok _ (List.getElem_mem hj))
theorem Own2.rep (h : Own2 w base e e' s ls) (hok : ∀ l ∈ ls, ∀ x ∈ l, Flat.ok x) : R w s ls := (h.repD hok).any
theorem Own2.keep (h : Own2 w base e e' s ls) (hk : ∀ k, base ≤ k → k < w.heap.size → w'.heap[k]? = w.heap[k]?) : Own2 w' base e e' s ls := by
  obtain ⟨ss, h1, h2, h3⟩ := h
  exact ⟨ss, h1.keep fun k hb => hk k (h1.blk k hb).1 (h1.blk k hb).2, h2, fun i r l hr hl => (h3 i r l hr hl).keep fun k hb => hk k ((h3 i r l hr hl).blk k hb).1 ((h3 i r l hr hl).blk k hb).2⟩
end

/-! ### Rows of a list of lists, as they were in an earlier world -/

/-! ### Changes within a set of blocks -/

theorem Chg.of_step {w w' : World} {g : Option Nat} {D : Nat → Prop} (h : Step w w' g) (hg : ∀ k, g = some k → D k) : Chg w w' D :=
  ⟨h.os, h.tape, h.output, h.size, fun k hk hD => h.block k hk (fun he => hD (hg k he.symm))⟩
theorem Chg.of_ext {w w' : World} {D : Nat → Prop} (h : Ext w w') : Chg w w' D := ⟨h.os, h.tape, h.output, h.size, fun k hk _ => h.block k hk⟩
theorem Chg.trans {a b c : World} {D : Nat → Prop} (h : Chg a b D) (k : Chg b c D) : Chg a c D :=
  ⟨k.os.trans h.os, k.tape.trans h.tape, k.output.trans h.output, Nat.le_trans h.size k.size, fun i hi hD => (k.block i (Nat.lt_of_lt_of_le hi h.size) hD).trans (h.block i hi hD)⟩
theorem Chg.mono {a b : World} {D D' : Nat → Prop} (h : Chg a b D) (hD : ∀ k, D k → D' k) : Chg a b D' := ⟨h.os, h.tape, h.output, h.size, fun k hk hn => h.block k hk (fun hd => hn (hD k hd))⟩
theorem Chg.ext0 {w0 w w' : World} {D : Nat → Prop} (h : Chg w w' D) (hE : Ext w0 w) (hD : ∀ k, D k → w0.heap.size ≤ k) : Ext w0 w' :=
  ⟨h.os.trans hE.os, h.tape.trans hE.tape, h.output.trans hE.output, Nat.le_trans hE.size h.size, fun k hk => (h.block k (Nat.lt_of_lt_of_le hk hE.size) (fun hd => by have := hD k hd; omega)).trans (hE.block k hk)⟩

theorem SlR.chg {α : Type} [RepP α] {D0 D : Nat → Prop} {w w' : World} {s : Sl} {l : List α} (h : SlR D0 w s l) (hc : Chg w w' D) (hD : ∀ b, D0 b → b < w.heap.size → ¬ D b) : SlR D0 w' s l :=
  (h.below.agr fun b hb => hc.block b hb.2 (hD b hb.1 hb.2)).weak (fun _ hb _ => hb.1) RepP.pos
theorem OwnL.chg {α : Type} [Flat α] {D : Nat → Prop} {w w' : World} {base : Nat} {e : TypeId} {s : Sl} {l : List α} (h : OwnL w base e s l) (hc : Chg w w' D) (hD : ∀ b, s.v.ownBlock = some b → ¬ D b) : OwnL w' base e s l :=
  h.keep fun k hk => hc.block k (h.blk k hk).2 (hD k hk)
theorem Box.chg {D : Nat → Prop} {w w' : World} {p : Addr} {t : TypeId} {cs : List Value} (h : Box w p t cs) (hc : Chg w w' D) (hD : ¬ D p.block) : Box w' p t cs :=
  h.of_block (hc.block _ h.lt hD)

end Go.GX
end

section
/- Sets of labels as numbers, in plain words: no program in sight. -/
namespace Go.Proofs.YtfiginahjofdnaaGreat
open Go.GX

theorem bits64 : IntKind.i64.bits = 64 := rfl

theorem ofInt_nat (a : Nat) (h : a < 4611686018427387904) : (BitVec.ofInt 64 (a : Int)).toNat = a := by
  rw [BitVec.toNat_ofInt]
  omega

theorem and_nat {a b : Nat} (ha : a < 4611686018427387904) (hb : b < 4611686018427387904) : bitAnd .i64 (a : Int) (b : Int) = ((a &&& b : Nat) : Int) := by
  unfold bitAnd
  rw [bits64, BitVec.toNat_and, ofInt_nat a ha, ofInt_nat b hb]
  have := Nat.and_le_left (n := a) (m := b)
  rw [wrap_of (by omega) (by omega)]

theorem or_lt {a b : Nat} (ha : a < 4611686018427387904) (hb : b < 4611686018427387904) : a ||| b < 4611686018427387904 := Nat.or_lt_two_pow (n := 62) ha hb

theorem or_nat {a b : Nat} (ha : a < 4611686018427387904) (hb : b < 4611686018427387904) : bitOr .i64 (a : Int) (b : Int) = ((a ||| b : Nat) : Int) := by
  unfold bitOr
  rw [bits64, BitVec.toNat_or, ofInt_nat a ha, ofInt_nat b hb]
  have := or_lt ha hb
  rw [wrap_of (by omega) (by omega)]

theorem shl_one {a : Nat} (h : a ≤ 61) : shlI .i64 1 (a : Int) = ((2 ^ a : Nat) : Int) := by
  unfold shlI
  have h1 : 2 ^ a ≤ 2 ^ 61 := Nat.pow_le_pow_right (by decide) h
  have h2 : (2 : Nat) ^ 61 = 2305843009213693952 := by decide
  have e : min (a : Int).toNat IntKind.i64.bits = a := by rw [bits64]; omega
  rw [e, Int.one_mul]
  have e2 : (2 : Int) ^ a = ((2 ^ a : Nat) : Int) := by push_cast; rfl
  rw [e2]
  generalize 2 ^ a = m at h1
  rw [h2] at h1
  rw [wrap_of (by omega) (by omega)]

/-- The set of the numbers below another one that a test tells. -/
def maskOf : Nat → (Nat → Bool) → Nat
  | 0, _ => 0
  | n + 1, f => maskOf n f ||| (if f n then 2 ^ n else 0)

theorem testBit_maskOf : ∀ (n : Nat) (f : Nat → Bool) (a : Nat), (maskOf n f).testBit a = (decide (a < n) && f a)
  | 0, f, a => by simp [maskOf]
  | n + 1, f, a => by
    unfold maskOf
    rw [Nat.testBit_or, testBit_maskOf n f a]
    by_cases hf : f n = true
    · rw [if_pos hf, Nat.testBit_two_pow]
      by_cases ha : a = n
      · subst ha; simp [hf]
      · have : ¬ n = a := fun h => ha h.symm
        have h2 : (a < n + 1) ↔ a < n := by omega
        simp [this, h2]
    · rw [if_neg hf, Nat.zero_testBit]
      by_cases ha : a = n
      · subst ha; simp [hf]
      · have h2 : (a < n + 1) ↔ a < n := by omega
        simp [h2]

theorem maskOf_lt (n : Nat) (f : Nat → Bool) : maskOf n f < 2 ^ n := by
  apply Nat.lt_pow_two_of_testBit
  intro i hi
  rw [testBit_maskOf]
  have : ¬ i < n := by omega
  simp [this]

theorem mask_ext {n m m' : Nat} (h : m < 2 ^ n) (h' : m' < 2 ^ n) (he : ∀ a < n, m.testBit a = m'.testBit a) : m = m' := by
  apply Nat.eq_of_testBit_eq
  intro i
  by_cases hi : i < n
  · exact he i hi
  · have hp : 2 ^ n ≤ 2 ^ i := Nat.pow_le_pow_right (by decide) (by omega)
    rw [Nat.testBit_lt_two_pow (by omega), Nat.testBit_lt_two_pow (by omega)]

/-- The labels of a set. -/
def labsOf (m : Nat) : List Int := ((List.range 8).filter fun a => m.testBit a).map fun (a : Nat) => (a : Int)

/-- All choices from lists, in order. -/
def prodL : List (List Int) → List (List Int)
  | [] => [[]]
  | l :: ls => l.flatMap fun a => (prodL ls).map (a :: ·)

inductive Two2 {α β : Type} (R : α → β → Prop) : List α → List β → Prop
  | nil : Two2 R [] []
  | cons {x : α} {y : β} {l : List α} {m : List β} : R x y → Two2 R l m → Two2 R (x :: l) (y :: m)

theorem Two2.length {α β : Type} {R : α → β → Prop} {l : List α} {m : List β} (h : Two2 R l m) : l.length = m.length := by
  induction h with
  | nil => rfl
  | cons _ _ ih => simp [ih]

end Go.Proofs.YtfiginahjofdnaaGreat
end

section
/- The numbers of functions and types of this seat by their names, and of which kind a type's values are. Printed by a program. -/
namespace Go.Proofs.YtfiginahjofdnaaGreat
open Go.GX Go.RowKit

abbrev F.l_FnExactPruneRooted : FuncId := 3
abbrev F.l_FnExactClassOfRooted : FuncId := 4
abbrev F.l_szRootedProblem : FuncId := 5
abbrev F.s_PruneRooted : FuncId := 6
abbrev F.l_toRootedProblem : FuncId := 7
abbrev F.i_PruneRooted : FuncId := 8
abbrev F.l_eqIntSS : FuncId := 9
abbrev F.l_eqRootedProblem : FuncId := 10
abbrev F.l_markRootedProblem : FuncId := 11
abbrev F.l_markIntSS : FuncId := 12
abbrev F.l_heldIntSS : FuncId := 13
abbrev F.s_ClassOfRooted : FuncId := 14
abbrev F.i_ClassOfRooted : FuncId := 15
abbrev F.l_szIntSS : FuncId := 16
abbrev F.s_roGood : FuncId := 17
abbrev F.s_roPrune : FuncId := 18
abbrev F.l_toIntSS : FuncId := 19
abbrev F.i_IsRootedProblem : FuncId := 20
abbrev F.i_RootedProblem_pruned : FuncId := 21
abbrev F.l_eqIntS : FuncId := 22
abbrev F.l_markIntS : FuncId := 23
abbrev F.l_heldIntS : FuncId := 24
abbrev F.s_roRoots : FuncId := 25
abbrev F.i_RootedProblem_rootsOfDepth : FuncId := 26
abbrev F.l_szIntS : FuncId := 27
abbrev F.s_l1In : FuncId := 28
abbrev F.s_l1All : FuncId := 29
abbrev F.s_l1Same : FuncId := 30
abbrev F.s_prSorted : FuncId := 31
abbrev F.s_prOrder : FuncId := 32
abbrev F.s_roAll : FuncId := 33
abbrev F.s_waFlexible : FuncId := 34
abbrev F.s_roPath : FuncId := 35
abbrev F.l_toIntS : FuncId := 36
abbrev F.i_within : FuncId := 37
abbrev F.i_RootedProblem_hasLabels : FuncId := 38
abbrev F.slices_IsSorted_sl_int_int : FuncId := 39
abbrev F.slices_Compare_sl_int_int : FuncId := 40
abbrev F.i_numbersTo : FuncId := 41
abbrev F.i_sharedLabels : FuncId := 42
abbrev F.i_RootedProblem_pathForm : FuncId := 43
abbrev F.i_setOf : FuncId := 44
abbrev F.i_WalkProblem_flexibleLabels : FuncId := 45
abbrev F.s_roAbove : FuncId := 46
abbrev F.i_RootedProblem_rootsAbove : FuncId := 47
abbrev F.s_l1Own : FuncId := 48
abbrev F.s_l1Sign : FuncId := 49
abbrev F.s_waParts : FuncId := 50
abbrev F.s_l1Put : FuncId := 51
abbrev F.s_prAll : FuncId := 52
abbrev F.s_prInsert : FuncId := 53
abbrev F.i_allWithin : FuncId := 54
abbrev F.cmp_Less_int : FuncId := 55
abbrev F.cmp_Compare_int : FuncId := 56
abbrev F.slices_Contains_sl_int_int : FuncId := 57
abbrev F.i_onlyIn : FuncId := 58
abbrev F.i_sortedLists : FuncId := 59
abbrev F.i_WalkProblem_walkComponents : FuncId := 60
abbrev F.slices_Sort_sl_int_int : FuncId := 61
abbrev F.s_waReach : FuncId := 62
abbrev F.s_waDepths : FuncId := 63
abbrev F.s_l1Has : FuncId := 64
abbrev F.s_waGcd : FuncId := 65
abbrev F.s_l1Abs : FuncId := 66
abbrev F.slices_ContainsFunc_sl_int_int : FuncId := 67
abbrev F.i_allWithin_1 : FuncId := 68
abbrev F.cmp_isNaN_int : FuncId := 69
abbrev F.slices_Index_sl_int_int : FuncId := 70
abbrev F.i_onlyIn_1 : FuncId := 71
abbrev F.slices_SortFunc_sl_sl_int_sl_int : FuncId := 72
abbrev F.slices_CompactFunc_sl_sl_int_sl_int : FuncId := 73
abbrev F.slices_Equal_sl_int_int : FuncId := 74
abbrev F.i_WalkProblem_closure : FuncId := 75
abbrev F.i_WalkProblem_after : FuncId := 76
abbrev F.i_labelsIn : FuncId := 77
abbrev F.i_WalkProblem_periodOf : FuncId := 78
abbrev F.s_waMay : FuncId := 81
abbrev F.s_waPowers : FuncId := 82
abbrev F.s_l1Most : FuncId := 83
abbrev F.slices_IndexFunc_sl_int_int : FuncId := 84
abbrev F.i_WalkProblem_reached : FuncId := 86
abbrev F.i_WalkProblem_distancesIn : FuncId := 87
abbrev F.i_gcd : FuncId := 88
abbrev F.s_waTimes : FuncId := 99
abbrev F.slices_Repeat_sl_int_int : FuncId := 108
abbrev F.math_bits_Mul : FuncId := 117
abbrev F.math_bits_Mul64 : FuncId := 121
abbrev T.t_unit : TypeId := 0
abbrev T.t_int : TypeId := 3
abbrev T.t_bool : TypeId := 4
abbrev T.t_sl_sl_int : TypeId := 22
abbrev T.t_l_RootedProblem : TypeId := 24
abbrev T.t_i_RootedProblem : TypeId := 28
abbrev T.t_sl_int : TypeId := 42
abbrev T.t_i_WalkProblem : TypeId := 53
abbrev T.t_sl_s_waPart : TypeId := 63
abbrev T.t_s_waPart : TypeId := 66
abbrev T.t_sl_sl_bool : TypeId := 76
abbrev T.t_sl_bool : TypeId := 78
abbrev T.t_sl_sl_sl_bool : TypeId := 87
def hints0 : List (List Sh) := [
  [],
  [.at .val],
  [.at (.int .i64)],
  [.at (.int .i64)],
  [.at .bool],
  [.at (.int .u8)],
  [.at (.int .u8)],
  [.agg [.int .i64, .int .i64, .bool, .int .u8]],
  [.agg [.int .i64, .int .i64, .bool, .int .u8]],
  [.at .str],
  [.at .str],
  [.at .str],
  [.at (.int .u64)],
  [.agg [.str, .int .u64]],
  [.agg [.str, .int .u64]],
  [.at .ptr]]
def hints1 : List (List Sh) := [
  [.at .ptr],
  [.at .ptr],
  [.agg [.ptr]],
  [.agg [.ptr]],
  [.at .val],
  [.at (.int .i32)],
  [.at .sl],
  [.agg [.int .i64, .int .i64, .sl]],
  [.agg [.int .i64, .int .i64, .sl]],
  [.at .val],
  [.at .sl, .at .bool],
  [.at .val],
  [.agg [.int .i64, .int .i64, .sl]],
  [.at .val],
  [.at .val],
  [.at .val]]
def hints2 : List (List Sh) := [
  [.at .val],
  [.at .val],
  [.at .val],
  [.at (.int .i64), .at .bool],
  [.at .val],
  [.at .val],
  [.at .val],
  [.at .val],
  [.at .val],
  [.at .val],
  [.at .sl],
  [.at .val],
  [.at .val],
  [.at .val],
  [.at .val],
  [.at .val]]
def hints3 : List (List Sh) := [
  [.at .val],
  [.at .val],
  [.at .val],
  [.at .val],
  [.agg [.int .i64, .sl]],
  [.agg [.int .i64, .sl]],
  [.at .val],
  [.at .val],
  [.at .val],
  [.at .val],
  [.at .val],
  [.at .val],
  [.at .val],
  [.at .val],
  [.at .val],
  [.at .sl]]
def hints4 : List (List Sh) := [
  [.at .val],
  [.agg [.sl, .int .i64, .sl]],
  [.agg [.sl, .int .i64, .sl]],
  [.at .val],
  [.at .val],
  [.at .val],
  [.at .val],
  [.at .val],
  [.at .val],
  [.at .sl, .at .sl],
  [.at .val],
  [.at .val],
  [.at .sl],
  [.at .val],
  [.at .sl],
  [.at .val]]
def hints5 : List (List Sh) := [
  [.at .val],
  [.at .val],
  [.at .val],
  [.at .val],
  [.at .val],
  [.at .val],
  [.at (.int .u64)],
  [.at .sl],
  [.at .val],
  [.at .val],
  [.at .val],
  [.at .val],
  [.at .val],
  [.at .val],
  [.at (.int .i64)],
  [.at (.int .i64), .at (.int .i64)]]
def hints6 : List (List Sh) := [
  [.at .val],
  [.at .val],
  [.at .val],
  [.at .val],
  [.at (.int .u32)],
  [.at .val],
  [.at (.int .u64)],
  [.at .val],
  [.at .val],
  [.at .val],
  [.at .val],
  [.at .val],
  [.at .val],
  [.at (.int .u64)],
  [.at .val],
  [.at .val]]
def hints7 : List (List Sh) := [
  [.at .val],
  [.at .ptr],
  [.at .val],
  [.at .val],
  [.at .val],
  [.at (.int .u64), .at (.int .u64)],
  [.at .val],
  [.at .ptr],
  [.at (.int .i64), .at (.int .i64)],
  [.at .val],
  [.at .val],
  [.at (.int .u32), .at (.int .u32)],
  [.at .val],
  [.at (.int .u64), .at (.int .u64)],
  [.at .val],
  [.at .val]]
def hints8 : List (List Sh) := [
  [.agg [.ptr, .ptr, .ptr, .str]],
  [.agg [.ptr, .ptr, .ptr, .str]],
  [.agg []],
  [.agg []],
  [.agg []],
  [.at .val],
  [.at (.int .u8)],
  [.at (.int .u8)],
  [.at .val],
  [.at .ptr],
  [.at (.int .i32)],
  [.at (.int .i32)],
  [.agg [.int .u64, .int .u64, .int .u32, .int .u8, .int .u8, .int .u8, .int .u8, .val, .ptr, .int .i32, .int .i32]],
  [.agg [.int .u64, .int .u64, .int .u32, .int .u8, .int .u8, .int .u8, .int .u8, .val, .ptr, .int .i32, .int .i32]],
  [.at .ptr]]
def hint : Hint := hintOf [hints0, hints1, hints2, hints3, hints4, hints5, hints6, hints7, hints8]
end Go.Proofs.YtfiginahjofdnaaGreat
end
