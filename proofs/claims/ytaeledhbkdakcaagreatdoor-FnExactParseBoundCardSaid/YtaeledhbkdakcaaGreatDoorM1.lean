/- Own texts, merged: Rules, TxtPure, Txt, Names, V0. -/
import Derived.Test.YtaeledhbkdakcaaGreatDoorM0
import Derived.Laws.OwnMore
import Derived.Great.BuildSlice
import Derived.Laws.StructEq
import Derived.Lib.Split
import Derived.Lib.ItoaNum
import Derived.Lib.Atoi
import Derived.Lib.Join
import Derived.Lib.Strings
import Derived.Laws.Strings
import Derived.Laws.Strings2
import Derived.Laws.Slices
import Derived.Laws.BytesString
import Derived.Laws.IdiomStrings
import Derived.Test.YtaeledhbkdakcaaGreatDoorProg
set_option linter.unusedVariables false
section
/- Rules for proving the propositions that functions compute to: memory read as lists, loops over indexes, calls. No program is named here. -/
namespace Go.GX
open Go.RowKit

/-! ### Numbers -/

def I64 (n : Int) : Prop := -9223372036854775808 ≤ n ∧ n ≤ 9223372036854775807

theorem wrap_of {n : Int} (h1 : -9223372036854775808 ≤ n) (h2 : n ≤ 9223372036854775807) : IntKind.i64.wrap n = n := by
  have e1 : (2 : Int) ^ 64 = 18446744073709551616 := rfl
  have e2 : (2 : Int) ^ 63 = 9223372036854775808 := rfl
  simp only [IntKind.wrap, IntKind.bits, IntKind.signed, Bool.true_and, decide_eq_true_eq, Nat.reduceSub, e1, e2]
  by_cases h : 0 ≤ n
  · have : n % 18446744073709551616 = n := Int.emod_eq_of_lt h (by omega)
    rw [this, if_neg (by omega)]
  · have : n % 18446744073709551616 = n + 18446744073709551616 := by omega
    rw [this, if_pos (by omega)]; omega

theorem add_zero' (a : Addr) : a.add 0 = a := rfl
theorem add_add (a : Addr) (m n : Nat) : (a.add m).add n = a.add (m + n) := by
  unfold Addr.add
  by_cases hm : m = 0
  · subst hm; simp
  · by_cases hn : n = 0
    · subst hn; simp [hm]
    · simp [hm, hn, Nat.add_assoc]


/-! ### Worlds -/

theorem Ext.size_le {w w' : World} (h : Ext w w') : w.heap.size ≤ w'.heap.size := h.size

theorem Ext.same {w w' : World} (h : Ext w w') {b : Nat} (hb : b < w.heap.size) : w'.heap[b]? = w.heap[b]? := h.block b hb

theorem cell_lt {w : World} {a : Addr} {v : Value} (h : w.cell? a = some v) : a.block < w.heap.size := World.block_lt_of_cell? w a h

theorem ext_push (w : World) (o : Obj) : Ext w { w with heap := w.heap.push o } :=
  ⟨rfl, rfl, rfl, by simp, fun k hk => by simp [Array.getElem?_push, Nat.ne_of_lt hk]⟩

theorem ext_setCell {w0 w : World} (h : Ext w0 w) {a : Addr} (ha : w0.heap.size ≤ a.block) (v : Value) : Ext w0 (w.setCell a v) := Below.setCell h ha v

/-- A block that the call itself has made: its cells, not frozen. -/
def Box (w : World) (p : Addr) (t : TypeId) (cs : List Value) : Prop := p.off = 0 ∧ p.spot = none ∧ w.heap[p.block]? = some (.cells ⟨cs⟩ t (0, 0))

theorem Box.cell {w : World} {p : Addr} {t : TypeId} {cs : List Value} (h : Box w p t cs) {i : Nat} {v : Value} (hi : cs[i]? = some v) : w.cell? (p.add i) = some v := by
  obtain ⟨h1, h2, h3⟩ := h
  unfold Addr.add
  by_cases h0 : i = 0
  · subst h0; simp [World.cell?, h3, h2, h1, hi]
  · simp [World.cell?, h3, h0, h1, hi]

theorem Box.frozen {w : World} {p : Addr} {t : TypeId} {cs : List Value} (h : Box w p t cs) (i : Nat) : w.frozen? (p.add i) = false := by
  obtain ⟨h1, h2, h3⟩ := h
  have : (p.add i).block = p.block := by unfold Addr.add; split <;> rfl
  simp [World.frozen?, this, h3]

theorem Box.lt {w : World} {p : Addr} {t : TypeId} {cs : List Value} (h : Box w p t cs) : p.block < w.heap.size := (Array.getElem?_eq_some_iff.1 h.2.2).1

theorem Box.ext {w w' : World} {p : Addr} {t : TypeId} {cs : List Value} (h : Box w p t cs) (hE : Ext w w') : Box w' p t cs :=
  ⟨h.1, h.2.1, (hE.same h.lt).trans h.2.2⟩

theorem Box.of_block {w w' : World} {p : Addr} {t : TypeId} {cs : List Value} (h : Box w p t cs) (hE : w'.heap[p.block]? = w.heap[p.block]?) : Box w' p t cs :=
  ⟨h.1, h.2.1, hE.trans h.2.2⟩

theorem add_block (p : Addr) (i : Nat) : (p.add i).block = p.block := by unfold Addr.add; split <;> rfl

theorem Box.set {w : World} {p : Addr} {t : TypeId} {cs : List Value} (h : Box w p t cs) (i : Nat) (v : Value) : Box (w.setCell (p.add i) v) p t (cs.set i v) := by
  obtain ⟨h1, h2, h3⟩ := h
  refine ⟨h1, h2, ?_⟩
  have hb : (p.add i).block = p.block := add_block p i
  have ho : (p.add i).off = i := by unfold Addr.add; split <;> simp_all
  have hs : (p.add i).spot = none := by unfold Addr.add; split <;> simp_all
  have hlt := (Array.getElem?_eq_some_iff.1 h3).1
  have hv := (Array.getElem?_eq_some_iff.1 h3).2
  simp only [World.setCell, Array.getElem?_modify, hb, ho, hs]
  simp [h3]

/-- A new variable: its block is the next one. -/
theorem NEW_intro {t : TypeId} {cs : List Value} {w : World} {K : Addr → World → Prop}
    (h : ∀ p w', p.block = w.heap.size → w'.heap.size = w.heap.size + 1 → Ext w w' → Box w' p t cs → K p w') : NEW t ⟨cs⟩ w K :=
  h _ _ rfl (by simp) (ext_push w _) ⟨rfl, rfl, by simp⟩

theorem setCell_size (w : World) (a : Addr) (v : Value) : (w.setCell a v).heap.size = w.heap.size := by simp [World.setCell]

theorem setCell_other (w : World) (a : Addr) (v : Value) {b : Nat} (h : b ≠ a.block) : (w.setCell a v).heap[b]? = w.heap[b]? := Below.heap_setCell w a v b h

/-- A store of one cell into a block of the call's own. -/
theorem ST_box1 {w : World} {p : Addr} {t : TypeId} {cs : List Value} {i : Nat} {v : Value} {K : World → Prop} (h : Box w p t cs) (hi : i < cs.length) (h1 : v.oneCell' = true)
    (hk : ∀ w', w'.heap.size = w.heap.size → (∀ b, b ≠ p.block → w'.heap[b]? = w.heap[b]?) → (∀ w0, Ext w0 w → w0.heap.size ≤ p.block → Ext w0 w') → Box w' p t (cs.set i v) → K w') : ST (p.add i) 0 [v] w K := by
  refine ⟨h1, ⟨cs[i], ?_⟩, ?_, hk _ (setCell_size _ _ _) (fun b hb => setCell_other _ _ _ (by rw [add_add, add_block]; exact hb)) (fun w0 h0 hle => ext_setCell h0 (by rw [add_add, add_block]; exact hle) v) (by rw [add_add]; exact h.set _ v)⟩
  · rw [add_add]; exact h.cell (by simp [hi])
  · rw [add_add]; exact h.frozen _

/-! ### Loads -/

section
variable {w : World} {a : Addr}

theorem LD_sl {K : Sl → Prop} {s : Sl} (hc : w.cell? a = some s.v) (hk : K s) : LD [.sl] a w K :=
  ⟨[s.v], rfl, fun i v hi => by match i, hi with | 0, hi => simp at hi; subst hi; exact hc, hk⟩
theorem LD_int {K : Int → Prop} {n : Int} (hc : w.cell? a = some (.int .i64 n)) (hk : K n) : LD [.int .i64] a w K :=
  ⟨[.int .i64 n], rfl, fun i v hi => by match i, hi with | 0, hi => simp at hi; subst hi; exact hc, hk⟩
theorem LD_bool {K : Bool → Prop} {n : Bool} (hc : w.cell? a = some (.bool n)) (hk : K n) : LD [.bool] a w K :=
  ⟨[.bool n], rfl, fun i v hi => by match i, hi with | 0, hi => simp at hi; subst hi; exact hc, hk⟩
theorem LD_val {K : Value → Prop} {v : Value} (hc : w.cell? a = some v) (hk : K v) : LD [.val] a w K :=
  ⟨[v], rfl, fun i v hi => by match i, hi with | 0, hi => simp at hi; subst hi; exact hc, hk⟩
theorem LD_sl3 {K : Sl → Sl → Sl → Prop} {x y z : Sl} (h0 : w.cell? (a.add 0) = some x.v) (h1 : w.cell? (a.add 1) = some y.v) (h2 : w.cell? (a.add 2) = some z.v) (hk : K x y z) : LD [.sl, .sl, .sl] a w K :=
  ⟨[x.v, y.v, z.v], rfl, fun i v hi => by
    match i, hi with
    | 0, hi => simp at hi; subst hi; exact h0
    | 1, hi => simp at hi; subst hi; exact h1
    | 2, hi => simp at hi; subst hi; exact h2, hk⟩
end

/-! ### Memory read as data -/

class Rep (α : Type) where
  sz : Nat
  rep : (Nat → Prop) → World → List Value → α → Prop
  len : ∀ {D w cs a}, rep D w cs a → cs.length = sz
  agr : ∀ {D : Nat → Prop} {w w' : World} {cs a}, (∀ b, D b → w'.heap[b]? = w.heap[b]?) → rep D w cs a → rep D w' cs a
  weak : ∀ {D D' : Nat → Prop} {w cs a}, (∀ b, D b → b < w.heap.size → D' b) → rep D w cs a → rep D' w cs a

/-- The slice s reads as the list l, by blocks in D. -/
def SlR {α : Type} [Rep α] (D : Nat → Prop) (w : World) (s : Sl) (l : List α) : Prop :=
  s.len = l.length ∧ (s.len ≤ s.cap ∧ s.cap ≤ 9223372036854775807) ∧ ∀ i x, l[i]? = some x → ∃ a cs, s.a = some a ∧ D a.block ∧ Rep.rep D w cs x ∧ ∀ j v, cs[j]? = some v → w.cell? (a.add (i * Rep.sz α + j)) = some v

instance : Rep Int where
  sz := 1
  rep _ _ cs n := cs = [.int .i64 n] ∧ I64 n
  len h := by rw [h.1]; rfl
  agr _ h := h
  weak _ h := h

instance : Rep Bool where
  sz := 1
  rep _ _ cs n := cs = [.bool n]
  len h := by rw [h]; rfl
  agr _ h := h
  weak _ h := h

instance : Rep (Int × Int) where
  sz := 2
  rep _ _ cs n := cs = [.int .i64 n.1, .int .i64 n.2] ∧ I64 n.1 ∧ I64 n.2
  len h := by rw [h.1]; rfl
  agr _ h := h
  weak _ h := h

instance : Rep (Int × Int × Int × Int) where
  sz := 4
  rep _ _ cs n := cs = [.int .i64 n.1, .int .i64 n.2.1, .int .i64 n.2.2.1, .int .i64 n.2.2.2] ∧ I64 n.1 ∧ I64 n.2.1 ∧ I64 n.2.2.1 ∧ I64 n.2.2.2
  len h := by rw [h.1]; rfl
  agr _ h := h
  weak _ h := h

section
variable {α : Type} [Rep α] {D D' : Nat → Prop} {w w' : World} {s : Sl} {l : List α}

theorem SlR.agr (hE : ∀ b, D b → w'.heap[b]? = w.heap[b]?) (h : SlR D w s l) : SlR D w' s l :=
  ⟨h.1, h.2.1, fun i x hx => by
    obtain ⟨a, cs, h1, h2, h3, h4⟩ := h.2.2 i x hx
    exact ⟨a, cs, h1, h2, Rep.agr hE h3, fun j v hj => by
      have hb : w'.heap[(a.add (i * Rep.sz α + j)).block]? = w.heap[(a.add (i * Rep.sz α + j)).block]? := by rw [add_block]; exact hE _ h2
      rw [World.cell?_of_block hb]; exact h4 j v hj⟩⟩

theorem SlR.weak (hD : ∀ b, D b → b < w.heap.size → D' b) (h : SlR D w s l) (hsz : 0 < Rep.sz α) : SlR D' w s l :=
  ⟨h.1, h.2.1, fun i x hx => by
    obtain ⟨a, cs, h1, h2, h3, h4⟩ := h.2.2 i x hx
    have hl : cs.length = Rep.sz α := Rep.len h3
    have hlt : a.block < w.heap.size := by
      have := cell_lt (h4 0 cs[0] (by simp))
      rwa [add_block] at this
    exact ⟨a, cs, h1, hD _ h2 hlt, Rep.weak hD h3, h4⟩⟩
end

class RepP (α : Type) extends Rep α where
  pos : 0 < sz

instance : RepP Int := ⟨by decide⟩
instance : RepP Bool := ⟨by decide⟩
instance : RepP (Int × Int) := ⟨by decide⟩
instance : RepP (Int × Int × Int × Int) := ⟨by decide⟩

instance {α : Type} [RepP α] : Rep (List α) where
  sz := 1
  rep D w cs l := ∃ s : Sl, cs = [s.v] ∧ SlR D w s l
  len h := by obtain ⟨s, rfl, _⟩ := h; rfl
  agr hE h := by obtain ⟨s, rfl, h⟩ := h; exact ⟨s, rfl, h.agr hE⟩
  weak hD h := by obtain ⟨s, rfl, h⟩ := h; exact ⟨s, rfl, h.weak hD RepP.pos⟩

instance {α : Type} [RepP α] : RepP (List α) := ⟨by show 0 < 1; decide⟩

abbrev R {α : Type} [Rep α] (w : World) (s : Sl) (l : List α) : Prop := SlR (fun _ => True) w s l

section
variable {α : Type} [RepP α] {D : Nat → Prop} {w w' : World} {s : Sl} {l : List α}

theorem SlR.any (h : SlR D w s l) : R w s l := h.weak (fun _ _ _ => trivial) RepP.pos
theorem SlR.below (h : SlR D w s l) : SlR (fun b => D b ∧ b < w.heap.size) w s l := h.weak (fun _ h1 h2 => ⟨h1, h2⟩) RepP.pos
theorem SlR.ext (hE : Ext w w') (h : SlR D w s l) : SlR D w' s l := by
  have h1 := h.below.agr (w' := w') fun b hb => hE.same hb.2
  exact h1.weak (fun _ h2 _ => h2.1) RepP.pos
theorem SlR.len (h : SlR D w s l) : s.len = l.length := h.1
theorem SlR.le (h : SlR D w s l) : l.length ≤ 9223372036854775807 := by have := h.1; have := h.2.1; omega
end

/-- The element of a slice: its address, and what lies there. -/
theorem SlR.ix {α : Type} [RepP α] {D : Nat → Prop} {w : World} {s : Sl} {l : List α} (h : SlR D w s l) {i : Int} {n : Nat} (hn : n = Rep.sz α) (h0 : 0 ≤ i) (hi : i < l.length) {K : Addr → Prop}
    (hk : ∀ p cs, Rep.rep D w cs (l[i.toNat]'(by omega)) → (∀ j v, cs[j]? = some v → w.cell? (p.add j) = some v) → K p) : IX s i n K := by
  obtain ⟨a, cs, h1, h2, h3, h4⟩ := h.2.2 i.toNat (l[i.toNat]'(by omega)) (by simp)
  refine ⟨a, h1, h0, by rw [h.1]; exact hi, hk _ cs h3 fun j v hj => ?_⟩
  subst hn
  rw [add_add]
  exact h4 j v hj

theorem SlR.ixI {D : Nat → Prop} {w : World} {s : Sl} {l : List Int} (h : SlR D w s l) {i : Nat} (hi : i < l.length) {K : Addr → Prop}
    (hk : ∀ p, I64 l[i] → w.cell? p = some (.int .i64 l[i]) → K p) : IX s i 1 K :=
  h.ix rfl (by omega) (by omega) fun p cs hr hc => by
    obtain ⟨rfl, h64⟩ := hr
    exact hk p h64 (hc 0 _ rfl)

theorem SlR.ixB {D : Nat → Prop} {w : World} {s : Sl} {l : List Bool} (h : SlR D w s l) {i : Nat} (hi : i < l.length) {K : Addr → Prop}
    (hk : ∀ p, w.cell? p = some (.bool l[i]) → K p) : IX s i 1 K :=
  h.ix rfl (by omega) (by omega) fun p cs hr hc => by
    have hr' : cs = [.bool l[i]] := hr
    subst hr'
    exact hk p (hc 0 _ rfl)

theorem SlR.ixL {α : Type} [RepP α] {D : Nat → Prop} {w : World} {s : Sl} {l : List (List α)} (h : SlR D w s l) {i : Nat} (hi : i < l.length) {K : Addr → Prop}
    (hk : ∀ p (s' : Sl), SlR D w s' l[i] → w.cell? p = some s'.v → K p) : IX s i 1 K :=
  h.ix rfl (by omega) (by omega) fun p cs hr hc => by
    obtain ⟨s', rfl, hs⟩ := hr
    exact hk p s' hs (hc 0 _ rfl)

theorem not_mem_take_succ {α : Type} {l : List α} {n : α} {i : Nat} (hi : i < l.length) (h : n ∉ l.take i) (hne : l[i] ≠ n) : n ∉ l.take (i + 1) := by
  rw [List.take_succ_eq_append_getElem hi]
  intro hm
  rcases List.mem_append.1 hm with h1 | h1
  · exact h h1
  · exact hne (List.mem_singleton.1 h1).symm

/-! ### Loops over an index -/

def IN (N : Nat) (I : Nat → World → Prop) (x : Int) (w : World) : Prop := ∃ i : Nat, x = i ∧ i ≤ N ∧ I i w
def MN (N : Nat) (x : Int) (_ : World) : Nat := N - x.toNat

theorem IN_zero {N : Nat} {I : Nat → World → Prop} {w : World} (h : I 0 w) : IN N I 0 w := ⟨0, rfl, Nat.zero_le _, h⟩

theorem IN_next {N i : Nat} {I : Nat → World → Prop} {w w' : World} (hN : N ≤ 9223372036854775807) (hi : i < N) (h : I (i + 1) w) :
    IN N I (IntKind.i64.wrap ((i : Int) + 1)) w ∧ MN N (IntKind.i64.wrap ((i : Int) + 1)) w < MN N i w' := by
  rw [wrap_of (by omega) (by omega)]
  exact ⟨⟨i + 1, by omega, hi, h⟩, by unfold MN; omega⟩

/-- A call that only computes, or that makes memory, in a region whose order is open. -/
theorem QCALL_bool {P : Program} {f : FuncId} {args : Array Value} {w : World} {K : Bool → Prop} (b : Bool)
    (h : ∀ w', Ext w w' → Calls P f args w' (Ret [.at .bool] fun (c : Bool) w'' => c = b ∧ Ext w' w'')) (hk : K b) : QCALL P f args w [.at .bool] K :=
  ⟨.bool b, [.bool b], rfl, fun w' hw => (h w' hw).mono fun e w'' he => by
    cases e with
    | returned v =>
      simp only [Ret] at he
      cases v <;> simp [unR, Sh.cells, app, At.un, atsR, botW] at he
      obtain ⟨rfl, h2⟩ := he
      exact ⟨rfl, h2⟩
    | panicked _ => exact he.elim
    | outgrown => exact he.elim, hk⟩

theorem QCALL_int {P : Program} {f : FuncId} {args : Array Value} {w : World} {K : Int → Prop} (b : Int)
    (h : ∀ w', Ext w w' → Calls P f args w' (Ret [.at (.int .i64)] fun (c : Int) w'' => c = b ∧ Ext w' w'')) (hk : K b) : QCALL P f args w [.at (.int .i64)] K :=
  ⟨.int .i64 b, [.int .i64 b], rfl, fun w' hw => (h w' hw).mono fun e w'' he => by
    cases e with
    | returned v =>
      simp only [Ret] at he
      cases v with
      | int k n =>
        cases k <;> simp [unR, Sh.cells, app, At.un, atsR, botW] at he
        obtain ⟨rfl, h2⟩ := he
        exact ⟨rfl, h2⟩
      | _ => simp [unR, Sh.cells, app, At.un, atsR, botW] at he
    | panicked _ => exact he.elim
    | outgrown => exact he.elim, hk⟩

theorem CALLV_mk {P : Program} {g : FuncId} {caps : List Value} {args : Array Value} {w : World} {R : Ending → World → Prop} (hc : callable P g = true) (h : Calls P g ⟨args.toList ++ caps⟩ w R) : CALLV P (.func (.func g) #[] ⟨caps⟩) args w R :=
  ⟨g, caps, rfl, hc, h⟩


/-! ### Branches -/

section
variable {X Y : Prop}
theorem cond_t {b : Bool} (h : b = true) (hx : X) : cond b X Y := by subst h; exact hx
theorem cond_f {b : Bool} (h : b = false) (hy : Y) : cond b X Y := by subst h; exact hy
theorem cond_b {b : Bool} (ht : b = true → X) (hf : b = false → Y) : cond b X Y := by cases b; exact hf rfl; exact ht rfl
theorem cond_not {b : Bool} (hf : b = false → X) (ht : b = true → Y) : cond (!b) X Y := by cases b; exact hf rfl; exact ht rfl
theorem cond_dec {p : Prop} [Decidable p] (ht : p → X) (hf : ¬ p → Y) : cond (decide p) X Y := by
  by_cases h : p
  · rw [decide_eq_true h]; exact ht h
  · rw [decide_eq_false h]; exact hf h
theorem cond_dt {p : Prop} [Decidable p] (h : p) (hx : X) : cond (decide p) X Y := by rw [decide_eq_true h]; exact hx
theorem cond_df {p : Prop} [Decidable p] (h : ¬ p) (hy : Y) : cond (decide p) X Y := by rw [decide_eq_false h]; exact hy
theorem cond_eq {a b : Int} (ht : a = b → X) (hf : a ≠ b → Y) : cond (a == b) X Y := by
  by_cases h : a = b
  · rw [beq_iff_eq.2 h]; exact ht h
  · rw [beq_eq_false_iff_ne.2 h]; exact hf h
theorem cond_ne {a b : Int} (ht : a ≠ b → X) (hf : a = b → Y) : cond (a != b) X Y := by
  by_cases h : a = b
  · rw [bne_eq_false_iff_eq.2 h]; exact hf h
  · rw [bne_iff_ne.2 h]; exact ht h
end

/-! ### Small builtins -/

theorem Ret_bool {Q : Bool → World → Prop} {e : Ending} {w : World} (h : Ret [.at .bool] Q e w) : ∃ b, e = .returned (.bool b) ∧ Q b w := by
  cases e with
  | returned v =>
    simp only [Ret] at h
    cases v <;> simp [unR, Sh.cells, app, At.un, atsR, botW] at h
    exact ⟨_, rfl, h⟩
  | panicked _ => exact h.elim
  | outgrown => exact h.elim


/-! ### Slices of the call's own -/

/-- What is asked of a slice type: its elements' type, their cells and bytes, their zero value. -/
structure SlT (P : Program) (t e : TypeId) (size bytes : Nat) (z : Value) : Prop where
  under : P.underlying t = some (.slice e)
  info : (P.info? e).map (fun i => (i.zero, i.size, i.bytes)) = some (some z, size, bytes)
  zs : z.cells.size = size
  pos : 0 < size

theorem SlT.parts {P : Program} {t e : TypeId} {size bytes : Nat} {z : Value} (h : SlT P t e size bytes z) : ∃ i, P.info? e = some i ∧ i.zero = some z ∧ i.size = size ∧ i.bytes = bytes := by
  have := h.info
  cases hi : P.info? e with
  | none => rw [hi] at this; cases this
  | some i => rw [hi] at this; simp at this; exact ⟨i, rfl, this.1, this.2.1, this.2.2⟩

/-- The slice s is the call's own: its cells. -/
def Own (w : World) (base : Nat) (e : TypeId) (size : Nat) (s : Sl) (xs : List Value) : Prop := w.ownsRow base e size s.v s.len xs

theorem Own.nil (w : World) (base : Nat) (e : TypeId) (size : Nat) : Own w base e size ⟨none, 0, 0⟩ [] := World.ownsRow_nil w base e size

theorem Own.length {w : World} {base : Nat} {e : TypeId} {size : Nat} {s : Sl} {xs : List Value} (h : Own w base e size s xs) : xs.length = s.len * size := h.1

/-- What is behind a step that may write to one block of the call's own, and may make blocks. -/
structure Step (w w' : World) (g : Option Nat) : Prop where
  os : w'.os = w.os
  tape : w'.tape = w.tape
  output : w'.output = w.output
  size : w.heap.size ≤ w'.heap.size
  block : ∀ k, k < w.heap.size → some k ≠ g → w'.heap[k]? = w.heap[k]?

theorem Step.of_grown {w w' : World} {g : Option Nat} (h : w.grownBy w' g) : Step w w' g := ⟨h.os, h.tape, h.output, h.size, h.block⟩
theorem Step.ext {w w' : World} (h : Step w w' none) : Ext w w' := ⟨h.os, h.tape, h.output, h.size, fun k hk => h.block k hk (by simp)⟩
theorem Step.of_ext {w w' : World} (h : Ext w w') (g : Option Nat) : Step w w' g := ⟨h.os, h.tape, h.output, h.size, fun k hk _ => h.block k hk⟩
theorem Step.ext0 {w0 w w' : World} {g : Option Nat} (h : Step w w' g) (hE : Ext w0 w) (hg : ∀ k, g = some k → w0.heap.size ≤ k) : Ext w0 w' :=
  ⟨h.os.trans hE.os, h.tape.trans hE.tape, h.output.trans hE.output, Nat.le_trans hE.size h.size, fun k hk => (h.block k (Nat.lt_of_lt_of_le hk hE.size) (fun e => by have := hg k e.symm; omega)).trans (hE.block k hk)⟩

theorem Step.trans {a b c : World} {g : Option Nat} (h : Step a b g) (k : Step b c g) : Step a c g :=
  ⟨k.os.trans h.os, k.tape.trans h.tape, k.output.trans h.output, Nat.le_trans h.size k.size, fun b hb hne => (k.block b (Nat.lt_of_lt_of_le hb h.size) hne).trans (h.block b hb hne)⟩

theorem Step.refl (w : World) (g : Option Nat) : Step w w g := ⟨rfl, rfl, rfl, Nat.le_refl _, fun _ _ _ => rfl⟩

theorem Own.blk {w : World} {base : Nat} {e : TypeId} {size : Nat} {s : Sl} {xs : List Value} (h : Own w base e size s xs) : ∀ k, s.v.ownBlock = some k → base ≤ k ∧ k < w.heap.size := World.ownsRow.lt h

theorem Own.keep {w w' : World} {base : Nat} {e : TypeId} {size : Nat} {s : Sl} {xs : List Value} (h : Own w base e size s xs) (hb : ∀ k, s.v.ownBlock = some k → w'.heap[k]? = w.heap[k]?) : Own w' base e size s xs := by
  refine ⟨h.1, ?_⟩
  rcases h.2 with hn | ⟨g, cap, cur, hv, hb', hg, rest⟩
  · exact .inl hn
  · refine .inr ⟨g, cap, cur, hv, hb', ?_, rest⟩
    rw [hb g (by rw [hv]; rfl)]; exact hg

theorem Own.ext {w w' : World} {base : Nat} {e : TypeId} {size : Nat} {s : Sl} {xs : List Value} (h : Own w base e size s xs) (hE : Ext w w') : Own w' base e size s xs :=
  h.keep fun k hk => hE.same (h.blk k hk).2

class Flat (α : Type) extends RepP α where
  cells : α → List Value
  ok : α → Prop
  size : ∀ a, (cells a).length = sz
  one : ∀ a, ∀ v ∈ cells a, v.oneCell' = true
  repOk : ∀ {D w a}, ok a → rep D w (cells a) a
  ofRep : ∀ {D w cs a}, rep D w cs a → cs = cells a ∧ ok a

instance : Flat Int where
  cells n := [.int .i64 n]
  ok n := I64 n
  size _ := rfl
  one _ v hv := by simp at hv; subst hv; rfl
  repOk h := ⟨rfl, h⟩
  ofRep h := ⟨h.1, h.2⟩

instance : Flat Bool where
  cells n := [.bool n]
  ok _ := True
  size _ := rfl
  one _ v hv := by simp at hv; subst hv; rfl
  repOk _ := rfl
  ofRep h := ⟨h, trivial⟩

instance : Flat (Int × Int) where
  cells n := [.int .i64 n.1, .int .i64 n.2]
  ok n := I64 n.1 ∧ I64 n.2
  size _ := rfl
  one _ v hv := by simp at hv; rcases hv with rfl | rfl <;> rfl
  repOk h := ⟨rfl, h⟩
  ofRep h := ⟨h.1, h.2⟩

instance : Flat (Int × Int × Int × Int) where
  cells n := [.int .i64 n.1, .int .i64 n.2.1, .int .i64 n.2.2.1, .int .i64 n.2.2.2]
  ok n := I64 n.1 ∧ I64 n.2.1 ∧ I64 n.2.2.1 ∧ I64 n.2.2.2
  size _ := rfl
  one _ v hv := by simp at hv; rcases hv with rfl | rfl | rfl | rfl <;> rfl
  repOk h := ⟨rfl, h⟩
  ofRep h := ⟨h.1, h.2⟩

/-- The call's own slice s holds the list l. -/
def OwnL {α : Type} [Flat α] (w : World) (base : Nat) (e : TypeId) (s : Sl) (l : List α) : Prop :=
  s.len = l.length ∧ Own w base e (Rep.sz α) s (l.flatMap Flat.cells)

section
variable {α : Type} [Flat α] {w w' : World} {base : Nat} {e : TypeId} {s : Sl} {l : List α}

theorem flat_get (l : List α) {i j : Nat} {x : α} {v : Value} (hx : l[i]? = some x) (hv : (Flat.cells x)[j]? = some v) : (l.flatMap Flat.cells)[i * Rep.sz α + j]? = some v := by
  induction l generalizing i with
  | nil => cases hx
  | cons y r ih =>
    simp only [List.flatMap_cons]
    cases i with
    | zero =>
      simp at hx; subst hx
      have hlt := (List.getElem?_eq_some_iff.1 hv).1
      rw [List.getElem?_append_left (by simpa using hlt)]
      simpa using hv
    | succ i =>
      have hl : (Flat.cells y).length = Rep.sz α := Flat.size y
      rw [List.getElem?_append_right (by rw [hl, Nat.succ_mul]; omega), hl, show (i + 1) * Rep.sz α + j - Rep.sz α = i * Rep.sz α + j by rw [Nat.succ_mul]; omega]
      exact ih (by simpa using hx)

theorem OwnL.ext (h : OwnL w base e s l) (hE : Ext w w') : OwnL w' base e s l := ⟨h.1, h.2.ext hE⟩
theorem OwnL.keep (h : OwnL w base e s l) (hb : ∀ k, s.v.ownBlock = some k → w'.heap[k]? = w.heap[k]?) : OwnL w' base e s l := ⟨h.1, h.2.keep hb⟩
theorem OwnL.blk (h : OwnL w base e s l) : ∀ k, s.v.ownBlock = some k → base ≤ k ∧ k < w.heap.size := h.2.blk
theorem OwnL.nil (w : World) (base : Nat) (e : TypeId) : OwnL w base e ⟨none, 0, 0⟩ ([] : List α) := ⟨rfl, Own.nil _ _ _ _⟩

/-- What is owned reads as a list. -/
theorem OwnL.rep (h : OwnL w base e s l) (hok : ∀ x ∈ l, Flat.ok x) : SlR (fun b => base ≤ b) w s l := by
  obtain ⟨h1, h2⟩ := h
  refine ⟨h1, ?_, fun i x hx => ?_⟩
  · rcases h2.2 with ⟨hv, h0⟩ | ⟨g, cap, cur, hv, _, _, hle, hmx, _⟩
    · simp [Sl.v] at hv; omega
    · simp [Sl.v] at hv; obtain ⟨_, rfl⟩ := hv; exact ⟨hle, hmx⟩
  · rcases h2.2 with ⟨hv, h0⟩ | ⟨g, cap, cur, hv, hb, hg, hle, _, hsz, htake⟩
    · rw [h0] at h1; have : l = [] := by cases l; rfl; simp at h1
      subst this; cases hx
    · simp [Sl.v] at hv
      obtain ⟨ha, rfl⟩ := hv
      refine ⟨⟨g, 0, none⟩, Flat.cells x, ha, hb, Flat.repOk (hok x (List.mem_of_getElem? hx)), fun j v hj => ?_⟩
      have hown : w.ownsRow base e (Rep.sz α) s.v s.len (l.flatMap Flat.cells) := h2
      exact World.ownsRow.cells hown (g := g) (by simp [Sl.v, ha, Value.ownBlock]) _ v (flat_get l hx hj)

/-- The place of an element. -/
def Plc (s : Sl) (i size : Nat) (p : Addr) : Prop := ∃ a, s.a = some a ∧ p = a.add (i * size)

theorem IX_own (h : OwnL w base e s l) {i : Nat} (hi : i < l.length) {n : Nat} (hn : n = Rep.sz α) {K : Addr → Prop} (hk : ∀ p, Plc s i (Rep.sz α) p → K p) : IX s i n K := by
  subst hn
  rcases h.2.2 with ⟨hv, h0⟩ | ⟨g, cap, cur, hv, _⟩
  · rw [h.1] at h0; omega
  · simp [Sl.v] at hv
    exact ⟨_, hv.1, by omega, by rw [h.1]; omega, hk _ ⟨_, hv.1, by simp⟩⟩

end

theorem setMany_own {base : Nat} {e : TypeId} {size : Nat} {g n cap : Nat} : ∀ (vs : List Value) (i : Nat) (xs : List Value) (w : World) (K : World → Prop),
    w.ownsRow base e size (.slice (some ⟨g, 0, none⟩) n cap) n xs → (∀ v ∈ vs, v.oneCell' = true) → i + vs.length ≤ xs.length →
    (∀ w', w'.ownsRow base e size (.slice (some ⟨g, 0, none⟩) n cap) n (xs.take i ++ vs ++ xs.drop (i + vs.length)) → Step w w' (some g) → K w') → ∀ (a : Addr) (k : Nat), a.add k = ⟨g, i, none⟩ → ST a k vs w K
  | [], i, xs, w, K, h, _, hl, hk, a, k, _ => by
    refine hk w (by simpa using h) ⟨rfl, rfl, rfl, Nat.le_refl _, fun _ _ _ => rfl⟩
  | v :: vs, i, xs, w, K, h, h1, hl, hk, a, k, ha => by
    have hil : i < xs.length := by simp at hl; omega
    have hin : i < n * size := by rw [← h.1]; exact hil
    refine ⟨h1 v (by simp), ⟨xs[i], ?_⟩, ?_, ?_⟩
    · rw [ha, h.cellAt i hin]; simp [hil]
    · rw [ha]; exact h.frozenAt i
    · rw [ha]
      obtain ⟨hst, hgr⟩ := h.stored i v
      have hak : a.add (k + 1) = ⟨g, i + 1, none⟩ := by rw [← add_add, ha]; rfl
      refine setMany_own vs (i + 1) (xs.set i v) _ K hst (fun u hu => h1 u (by simp [hu])) (by simp at hl ⊢; omega) (fun w' hw' hs' => hk w' ?_ ?_) a (k + 1) hak
      · have e1 : (xs.set i v).take (i + 1) ++ vs ++ (xs.set i v).drop (i + 1 + vs.length) = xs.take i ++ v :: vs ++ xs.drop (i + (v :: vs).length) := by
          rw [List.drop_set_of_lt (by omega), List.take_set, List.take_succ_eq_append_getElem hil, List.set_append_right _ _ (by simp; omega)]
          simp [Nat.min_eq_left (Nat.le_of_lt hil), Nat.add_assoc, Nat.add_comm 1]
        rw [← e1]; exact hw'
      · refine ⟨hs'.os.trans hgr.os, hs'.tape.trans hgr.tape, hs'.output.trans hgr.output, Nat.le_trans hgr.size hs'.size, fun b hb hne => ?_⟩
        rw [hs'.block b (Nat.lt_of_lt_of_le hb hgr.size) hne, hgr.block b hb hne]

theorem flat_set {α : Type} [Flat α] (l : List α) {i : Nat} (hi : i < l.length) (x : α) :
    (l.set i x).flatMap Flat.cells = (l.flatMap Flat.cells).take (i * Rep.sz α) ++ Flat.cells x ++ (l.flatMap Flat.cells).drop (i * Rep.sz α + (Flat.cells x).length) := by
  have hl : ∀ y : α, (Flat.cells y).length = Rep.sz α := Flat.size
  induction l generalizing i with
  | nil => simp at hi
  | cons y r ih =>
    cases i with
    | zero => simp [hl]
    | succ i =>
      have := ih (i := i) (by simpa using hi)
      simp only [List.set_cons_succ, List.flatMap_cons, this, hl]
      rw [show (i + 1) * Rep.sz α = Rep.sz α + i * Rep.sz α by rw [Nat.succ_mul, Nat.add_comm]]
      have e1 : (Flat.cells y ++ List.flatMap Flat.cells r).take (Rep.sz α + i * Rep.sz α) = Flat.cells y ++ (List.flatMap Flat.cells r).take (i * Rep.sz α) := by
        rw [← hl y, List.take_length_add_append]
      have e2 : (Flat.cells y ++ List.flatMap Flat.cells r).drop (Rep.sz α + i * Rep.sz α + Rep.sz α) = (List.flatMap Flat.cells r).drop (i * Rep.sz α + Rep.sz α) := by
        rw [Nat.add_assoc, ← hl y, List.drop_length_add_append]
      rw [e1, e2]
      simp

section
variable {α : Type} [Flat α] {w w' : World} {base : Nat} {e : TypeId} {s : Sl} {l : List α}

/-- A store into the call's own slice. -/
theorem ST_own (h : OwnL w base e s l) {i : Nat} (hi : i < l.length) {p : Addr} (hp : Plc s i (Rep.sz α) p) (x : α) {vs : List Value} (hvs : vs = Flat.cells x) {K : World → Prop}
    (hk : ∀ w', OwnL w' base e s (l.set i x) → Step w w' s.v.ownBlock → K w') : ST p 0 vs w K := by
  subst hvs
  obtain ⟨a, ha, rfl⟩ := hp
  rcases h.2.2 with ⟨hv, h0⟩ | ⟨g, cap, cur, hv, _⟩
  · rw [h.1] at h0; omega
  · have hv' := hv
    simp [Sl.v] at hv
    obtain ⟨hsa, rfl⟩ := hv
    rw [hsa] at ha; cases ha
    have hown : w.ownsRow base e (Rep.sz α) (.slice (some ⟨g, 0, none⟩) s.len s.cap) s.len (l.flatMap Flat.cells) := by
      have := h.2; unfold Own at this; rw [hv'] at this; exact this
    have hlen : (l.flatMap Flat.cells).length = l.length * Rep.sz α := by have := h.2.length; rwa [h.1] at this
    have hcl : (Flat.cells x).length = Rep.sz α := Flat.size x
    refine setMany_own (Flat.cells x) (i * Rep.sz α) _ w K hown (Flat.one x) ?_ (fun w' hw' hs => hk w' ⟨by simp [h.1], ?_⟩ (by rw [hv']; exact hs)) _ 0 (by rw [add_zero']; simp only [Addr.add]; split <;> simp_all)
    · rw [hlen, hcl]
      have : (i + 1) * Rep.sz α ≤ l.length * Rep.sz α := Nat.mul_le_mul_right _ hi
      rw [Nat.succ_mul] at this; omega
    · unfold Own
      rw [hv', flat_set l hi x]
      exact hw'
end

/-- make([]T, n). -/
theorem RUN_make {α : Type} [Flat α] {P : Program} {t e : TypeId} {bytes : Nat} {z : Value} {d : α} (hT : SlT P t e (Rep.sz α) bytes z) (hz : z.cells.toList = Flat.cells d) {n : Nat} (hb : bytes * n ≤ 281474976710656) (h63 : n ≤ maxLen) {w : World} {K : Sl → World → Prop}
    (hk : ∀ s w', Ext w w' → OwnL w' w.heap.size e s (List.replicate n d) → K s w') : RUN P (.at .sl) (Instr.makeSlice t (.int .i64 (n : Int)) (.int .i64 (n : Int))) w K := by
  obtain ⟨i, hi, hz0, hs, hby⟩ := hT.parts
  obtain ⟨w', hr, hown, hg⟩ := run_make_full (P := P) w w.heap.size t e i z (Rep.sz α) hT.under hi hz0 hs .i64 .i64 n (by rw [hby]; exact hb) h63 (Nat.le_refl _)
  unfold RUN
  rw [hr]
  refine hk ⟨some ⟨w.heap.size, 0, none⟩, n, n⟩ w' (Step.of_grown hg).ext ⟨by simp, ?_⟩
  unfold Own
  have hcells : (madeCells z.cells (n * Rep.sz α)).toList = (List.replicate n d).flatMap Flat.cells := by
    have hsz : z.cells.size = Rep.sz α := hT.zs
    have hpos := hT.pos
    apply List.ext_getElem?
    intro j
    by_cases hj : j < n * Rep.sz α
    · have hlt : j % Rep.sz α < Rep.sz α := Nat.mod_lt _ hpos
      have hdl : (Flat.cells d).length = Rep.sz α := Flat.size d
      have h1 : (List.replicate n d)[j / Rep.sz α]? = some d := by
        rw [List.getElem?_replicate, if_pos ((Nat.div_lt_iff_lt_mul hpos).2 hj)]
      have h2 : (Flat.cells d)[j % Rep.sz α]? = some (Flat.cells d)[j % Rep.sz α] := by simp [hdl, hlt]
      have h3 := flat_get (List.replicate n d) h1 h2
      rw [Nat.div_add_mod' j (Rep.sz α)] at h3
      rw [h3]
      simp only [madeCells]
      simp [hj, hsz]
      have : z.cells[j % Rep.sz α]! = (Flat.cells d)[j % Rep.sz α] := by
        have hh : j % Rep.sz α < z.cells.size := by rw [hsz]; exact hlt
        rw [getElem!_pos z.cells _ hh]
        have : z.cells[j % Rep.sz α] = z.cells.toList[j % Rep.sz α]'(by simpa using hh) := by simp
        rw [this]
        simp only [hz]
      exact this
    · have hl2 : ((List.replicate n d).flatMap Flat.cells).length = n * Rep.sz α := by
        have : ∀ m, ((List.replicate m d).flatMap Flat.cells).length = m * Rep.sz α := by
          intro m
          induction m with
          | zero => simp
          | succ m ih => rw [List.replicate_succ, List.flatMap_cons, List.length_append, ih, Flat.size d, Nat.succ_mul, Nat.add_comm]
        exact this n
      rw [List.getElem?_eq_none (by simp [madeCells]; omega), List.getElem?_eq_none (by rw [hl2]; omega)]
  show w'.ownsRow w.heap.size e (Rep.sz α) (.slice (some ⟨w.heap.size, 0, none⟩) n n) n _
  rw [← hcells]
  exact hown


/-! ### Literals and append -/

theorem foldl_sets : ∀ (l : List Value) (k : Nat) (ys : List Value), k + l.length ≤ ys.length →
    (l.zipIdx k).foldl (fun (cs : List Value) x => cs.set (0 + x.2) x.1) ys = ys.take k ++ l ++ ys.drop (k + l.length)
  | [], k, ys, h => by simp
  | v :: l, k, ys, h => by
    have hk : k < ys.length := by simp at h; omega
    simp only [List.zipIdx_cons, List.foldl_cons]
    rw [foldl_sets l (k + 1) _ (by simp at h ⊢; omega)]
    rw [Nat.zero_add, List.drop_set_of_lt (by omega), List.take_set, List.take_succ_eq_append_getElem hk, List.set_append_right _ _ (by simp; omega)]
    simp [Nat.min_eq_left (Nat.le_of_lt hk), Nat.add_assoc, Nat.add_comm 1]

theorem fill_one (arr : Array Value) (v : Value) (sz : Nat) (h1 : arr.size = sz) (h2 : v.cells.size = sz) : Instr.fill (fun i => some (i * sz, sz)) arr [(0, v)] = some v.cells := by
  simp only [Instr.fill, Nat.zero_mul]
  rw [if_neg (by simp [h1, h2])]
  congr 1
  apply Array.ext'
  rw [← Array.foldl_toList]
  have : ∀ (l : List (Value × Nat)) (a : Array Value), (l.foldl (fun (cs : Array Value) x => cs.setIfInBounds (0 + x.2) x.1) a).toList = l.foldl (fun (cs : List Value) x => cs.set (0 + x.2) x.1) a.toList := by
    intro l
    induction l with
    | nil => intro a; rfl
    | cons x r ih => intro a; simp only [List.foldl_cons]; rw [ih]; simp
  have e : v.cells.zipIdx.toList = v.cells.toList.zipIdx 0 := by simp
  rw [e, this, foldl_sets _ _ _ (by simp; omega)]
  simp
  omega

/-- A literal of one element: []T{x}. -/
theorem RUN_lit1 {α : Type} [Flat α] {P : Program} {t e : TypeId} {bytes : Nat} {z v : Value} (hT : SlT P t e (Rep.sz α) bytes z) (x : α) (hv : v.cells.toList = Flat.cells x) (hs : Rep.sz α ≤ 1000) {w : World} {K : Sl → World → Prop}
    (hk : ∀ s w', Ext w w' → OwnL w' w.heap.size e s [x] → K s w') : RUN P (.at .sl) (Instr.buildSlice t 1 #[(0, v)]) w K := by
  obtain ⟨i, hi, hz0, hsz, hby⟩ := hT.parts
  have hvs : v.cells.size = Rep.sz α := by rw [← Array.length_toList, hv, Flat.size]
  have hr := run_buildSlice (P := P) w t e 1 #[(0, v)] v.cells i z hT.under hi hz0 (by rw [hsz]; omega) (by rw [hsz]; have := hT.pos; omega) (by rw [hsz]; exact fill_one _ v _ (by simp) hvs)
  unfold RUN
  rw [hr]
  refine hk ⟨some ⟨w.heap.size, 0, none⟩, 1, 1⟩ _ (ext_push w _) ⟨rfl, ?_⟩
  have := World.ownsRow_lit (base := w.heap.size) (e := e) (size := Rep.sz α) w v.cells 1 (Nat.le_refl _) (by unfold maxLen; omega) (by rw [hvs]; omega)
  unfold Own
  simpa [hv] using this

/-- The cells of a slice that reads as a list. -/
theorem SlR.flat {α : Type} [Flat α] {D : Nat → Prop} {w : World} {y : Sl} {m : List α} (h : SlR D w y m) {a : Addr} (ha : y.a = some a) : ∀ j u, (m.flatMap Flat.cells)[j]? = some u → w.cell? (a.add j) = some u := by
  intro j u hu
  have hpos : 0 < Rep.sz α := RepP.pos
  have hlen : (m.flatMap Flat.cells).length = m.length * Rep.sz α := by
    clear hu h
    induction m with
    | nil => simp
    | cons x r ih => rw [List.flatMap_cons, List.length_append, ih, Flat.size x, List.length_cons, Nat.succ_mul, Nat.add_comm]
  have hj : j < m.length * Rep.sz α := by rw [← hlen]; exact (List.getElem?_eq_some_iff.1 hu).1
  have hi : j / Rep.sz α < m.length := (Nat.div_lt_iff_lt_mul hpos).2 hj
  obtain ⟨a', cs, ha', _, hr, hc⟩ := h.2.2 (j / Rep.sz α) m[j / Rep.sz α] (by simp [hi])
  rw [ha] at ha'; cases ha'
  obtain ⟨rfl, _⟩ := Flat.ofRep hr
  have hmod : j % Rep.sz α < (Flat.cells m[j / Rep.sz α]).length := by rw [Flat.size]; exact Nat.mod_lt _ hpos
  have h2 : (Flat.cells m[j / Rep.sz α])[j % Rep.sz α]? = some (Flat.cells m[j / Rep.sz α])[j % Rep.sz α] := by simp [hmod]
  have h3 := flat_get m (i := j / Rep.sz α) (by simp [hi]) h2
  rw [Nat.div_add_mod' j (Rep.sz α), hu] at h3
  cases h3
  have := hc _ _ h2
  rwa [Nat.div_add_mod' j (Rep.sz α)] at this

theorem SlR.oks {α : Type} [Flat α] {D : Nat → Prop} {w : World} {y : Sl} {m : List α} (h : SlR D w y m) : ∀ x ∈ m, Flat.ok x := fun x hx => by
  obtain ⟨i, hi, rfl⟩ := List.mem_iff_getElem.1 hx
  obtain ⟨_, _, _, _, hr, _⟩ := h.2.2 i m[i] (by simp [hi])
  exact (Flat.ofRep hr).2

/-- What a slice became by appending lies in the same block or in a new one. -/
def NewOr (w : World) (s s' : Sl) : Prop := s'.v.ownBlock = s.v.ownBlock ∨ ∀ k, s'.v.ownBlock = some k → w.heap.size ≤ k

/-- append(s, y...) on a slice of the call's own; what is appended reads as a list. -/
theorem RUN_appendF {α : Type} [Flat α] {P : Program} {t e : TypeId} {bytes : Nat} {z : Value} (hT : SlT P t e (Rep.sz α) bytes z) {w : World} {base : Nat} {s y : Sl} {l m : List α} (h : OwnL w base e s l) (hbase : base ≤ w.heap.size)
    {D : Nat → Prop} (hy : SlR D w y m) (hlen : (l.length + m.length) * bytes ≤ 140737488355328) (hmax : l.length + m.length ≤ maxLen) {K : Sl → World → Prop}
    (hk : ∀ s' w', OwnL w' base e s' (l ++ m) → Step w w' s.v.ownBlock → NewOr w s s' → K s' w') : RUN P (.at .sl) (bsem .append #[t, t] t #[s.v, y.v]) w K := by
  obtain ⟨i, hi, hz0, hsz, hby⟩ := hT.parts
  have hyl : (m.flatMap Flat.cells).length = m.length * Rep.sz α := by
    clear hy hlen hmax hk
    induction m with
    | nil => simp
    | cons x r ih => rw [List.flatMap_cons, List.length_append, ih, Flat.size x, List.length_cons, Nat.succ_mul, Nat.add_comm]
  have hone : ∀ u ∈ m.flatMap Flat.cells, u.oneCell' = true := by
    intro u hu
    obtain ⟨x, _, hx⟩ := List.mem_flatMap.1 hu
    exact Flat.one x u hx
  have hown : w.ownsRow base e (Rep.sz α) s.v l.length (l.flatMap Flat.cells) := by have := h.2; unfold Own at this; rwa [h.1] at this
  have fin : ∀ v' w', (Builtin.append_ #[t, t] t #[s.v, y.v]).run P w = .ok v' w' → w'.ownsRow base e (Rep.sz α) v' (l.length + m.length) (l.flatMap Flat.cells ++ m.flatMap Flat.cells) → Step w w' s.v.ownBlock → (v'.ownBlock = s.v.ownBlock ∨ ∀ k, v'.ownBlock = some k → w.heap.size ≤ k) → RUN P (.at .sl) (bsem .append #[t, t] t #[s.v, y.v]) w K := by
    intro v' w' hr ho hst hnw
    have hsl : ∃ s' : Sl, v' = s'.v ∧ s'.len = l.length + m.length := by
      rcases ho.2 with ⟨rfl, h0⟩ | ⟨g', cap', cur', rfl, _⟩
      · exact ⟨⟨none, 0, 0⟩, rfl, h0.symm⟩
      · exact ⟨⟨some ⟨g', 0, none⟩, l.length + m.length, cap'⟩, rfl, rfl⟩
    obtain ⟨s', rfl, hs'⟩ := hsl
    unfold RUN
    show (match (Builtin.append_ #[t, t] t #[s.v, y.v]).run P w with | .ok v w' => _ | .halt _ _ => False)
    rw [hr]
    refine hk s' w' ⟨by simp [hs'], ?_⟩ hst hnw
    unfold Own
    rw [hs', List.flatMap_append]
    exact ho
  cases hya : y.a with
  | none =>
    have hm : m = [] := by
      cases m with
      | nil => rfl
      | cons x r => obtain ⟨a, _, ha, _⟩ := hy.2.2 0 x rfl; rw [hya] at ha; cases ha
    subst hm
    have hyv : y.v = .slice none 0 y.cap := by have := hy.1; simp at this; simp [Sl.v, hya, this]
    refine fin s.v w ?_ (by simpa using hown) (Step.refl _ _) (.inl rfl)
    rw [hyv]
    obtain ⟨sa, sl, sc⟩ := s
    have hle : sl ≤ sc := by
      rcases hown.2 with ⟨h0, h1⟩ | ⟨g, cap, cur, h0, _, _, h1, _⟩
      · simp [Sl.v] at h0; omega
      · simp [Sl.v] at h0; omega
    cases sa <;> simp [Builtin.append_, underlying_run hT.under, sizeOf_run hi, Builtin.lenOf, hle, Builtin.firstCells, storeCells]
  | some a =>
    have hyv : y.v = .slice (some a) m.length y.cap := by rw [← hy.1]; simp [Sl.v, hya]
    obtain ⟨v', w', hr, ho, hg, _⟩ := run_append_own (P := P) w base t t e i z (Rep.sz α) bytes hT.under hi hz0 hsz hby hT.zs hT.pos s.v l.length _ hown a m.length y.cap (m.flatMap Flat.cells) hyl (hy.flat hya) hone hmax hlen hbase
    refine fin v' w' (by rw [hyv]; exact hr) ho (Step.of_grown hg) ?_
    rcases hown.2 with ⟨h0, h1⟩ | ⟨g, cap, cur, h0, hbg, hgg, hnc, hcm, hcs, htake⟩
    · right
      have hown' : w.ownsRow w.heap.size e (Rep.sz α) s.v l.length (l.flatMap Flat.cells) := ⟨hown.1, .inl ⟨h0, h1⟩⟩
      obtain ⟨v2, w2, hr2, ho2, _⟩ := run_append_own (P := P) w w.heap.size t t e i z (Rep.sz α) bytes hT.under hi hz0 hsz hby hT.zs hT.pos s.v l.length _ hown' a m.length y.cap (m.flatMap Flat.cells) hyl (hy.flat hya) hone hmax hlen (Nat.le_refl _)
      rw [hr] at hr2
      cases hr2
      exact fun k hk => (World.ownsRow.lt ho2 k hk).1
    · have hyl' : (m.flatMap Flat.cells).length = m.length * i.size := by rw [hsz]; exact hyl
      have hol' : (l.flatMap Flat.cells).length = l.length * i.size := by rw [hsz]; exact hown.1
      subst hby
      rw [h0] at hr ⊢
      by_cases hroom : l.length + m.length ≤ cap
      · left
        have hr2 := run_append_room (P := P) w t t e i hT.under hi g l.length cap cur hgg a m.length y.cap (m.flatMap Flat.cells) hyl' (hy.flat hya) hone hroom (by rw [hyl, hcs, hsz, ← Nat.add_mul]; exact Nat.mul_le_mul_right _ hroom)
        rw [hr] at hr2
        cases hr2
        rfl
      · right
        have hr2 := run_append_grow (P := P) w t t e i z hT.under hi hz0 ⟨g, 0, none⟩ l.length cap (l.flatMap Flat.cells) hol' (hown.cells (g := g) (by rw [h0]; rfl)) a m.length y.cap (m.flatMap Flat.cells) hyl' (hy.flat hya) (by omega) (by simp only [maxLen] at hmax; omega) (growslice_fits (by simp only [maxLen] at hmax; omega) hlen)
        rw [hr] at hr2
        cases hr2
        intro k hk
        simp [Value.ownBlock] at hk
        omega

theorem RUN_append {α : Type} [Flat α] {P : Program} {t e : TypeId} {bytes : Nat} {z : Value} (hT : SlT P t e (Rep.sz α) bytes z) {w : World} {base : Nat} {s y : Sl} {l m : List α} (h : OwnL w base e s l) (hbase : base ≤ w.heap.size)
    {D : Nat → Prop} (hy : SlR D w y m) (hlen : (l.length + m.length) * bytes ≤ 140737488355328) (hmax : l.length + m.length ≤ maxLen) {K : Sl → World → Prop}
    (hk : ∀ s' w', OwnL w' base e s' (l ++ m) → Step w w' s.v.ownBlock → K s' w') : RUN P (.at .sl) (bsem .append #[t, t] t #[s.v, y.v]) w K :=
  RUN_appendF hT h hbase hy hlen hmax fun s' w' h1 h2 _ => hk s' w' h1 h2

/-- An empty literal: []T{}. -/
theorem RUN_lit0 {α : Type} [Flat α] {P : Program} {t e : TypeId} {bytes : Nat} {z : Value} (hT : SlT P t e (Rep.sz α) bytes z) {w : World} {K : Sl → World → Prop}
    (hk : ∀ s w', Ext w w' → OwnL w' w.heap.size e s ([] : List α) → K s w') : RUN P (.at .sl) (Instr.buildSlice t 0 #[]) w K := by
  obtain ⟨i, hi, hz0, hsz, hby⟩ := hT.parts
  have hr : (Instr.buildSlice t 0 #[]).run P w = .ok (.slice (some ⟨w.heap.size, 0, none⟩) 0 0) { w with heap := w.heap.push (.cells #[] e) } := by
    simp [Instr.buildSlice, underlying_run hT.under, sizeOf_run hi, Instr.fill, newRow, newObj, Sem.run]
    have : (Array.range 0) = #[] := rfl
    rw [this]; simp
  unfold RUN
  rw [hr]
  refine hk ⟨some ⟨w.heap.size, 0, none⟩, 0, 0⟩ _ (ext_push w _) ⟨rfl, ?_⟩
  have := World.ownsRow_lit (base := w.heap.size) (e := e) (size := Rep.sz α) w #[] 0 (Nat.le_refl _) (by unfold maxLen; omega) (by simp)
  unfold Own
  simpa using this

/-- A slice's first elements. -/
theorem SlR.take {α : Type} [RepP α] {D : Nat → Prop} {w : World} {s : Sl} {l : List α} (h : SlR D w s l) {i : Nat} (hi : i ≤ l.length) {sz : Nat} (_ : sz = Rep.sz α) {K : Sl → Prop} (hk : ∀ s', SlR D w s' (l.take i) → K s') : SLC s none (some (i : Int)) sz K := by
  have h1 := h.1
  have h2 := h.2.1
  refine ⟨by simp, by simp, by simp; omega, hk _ ⟨by simp; omega, by simp; omega, fun j x hx => ?_⟩⟩
  rw [List.getElem?_take] at hx
  split at hx
  · obtain ⟨a, cs, ha, hb, hr, hc⟩ := h.2.2 j x hx
    refine ⟨a, cs, ?_, hb, hr, hc⟩
    simp [ha, add_zero']
  · cases hx

/-- Slices as elements. -/
instance : Rep Sl where
  sz := 1
  rep _ _ cs s := cs = [s.v]
  len h := by rw [h]; rfl
  agr _ h := h
  weak _ h := h
instance : RepP Sl := ⟨by decide⟩
instance : Flat Sl where
  cells s := [s.v]
  ok _ := True
  size _ := rfl
  one _ v hv := by simp at hv; subst hv; rfl
  repOk _ := rfl
  ofRep h := ⟨h, trivial⟩

/-- The call's own slice of slices reads as a list of lists. -/
theorem OwnL.rows {α : Type} [RepP α] {D : Nat → Prop} {w : World} {base : Nat} {e : TypeId} {s : Sl} {ss : List Sl} {l : List (List α)} (h : OwnL w base e s ss) (hlen : ss.length = l.length)
    (hr : ∀ i (h1 : i < ss.length) (h2 : i < l.length), SlR D w ss[i] l[i]) (hD : ∀ b, base ≤ b → D b) : SlR D w s l := by
  have h0 := h.rep (fun _ _ => trivial)
  refine ⟨by rw [h0.1, hlen], h0.2.1, fun i x hx => ?_⟩
  obtain ⟨h2, rfl⟩ := List.getElem?_eq_some_iff.1 hx
  have h1 : i < ss.length := by omega
  obtain ⟨a, cs, ha, hb, hcs, hc⟩ := h0.2.2 i ss[i] (by simp [h1])
  have hcs' : cs = [ss[i].v] := hcs
  subst hcs'
  exact ⟨a, _, ha, hD _ hb, ⟨ss[i], rfl, hr i h1 h2⟩, hc⟩


/-! ### Boxes -/

section
variable {w : World} {p : Addr} {t : TypeId}

theorem LD_box3 {x y z : Sl} {r : List Value} {K : Sl → Sl → Sl → Prop} (hb : Box w p t (x.v :: y.v :: z.v :: r)) (hk : K x y z) : LD [.sl, .sl, .sl] p w K :=
  LD_sl3 (hb.cell (i := 0) rfl) (hb.cell (i := 1) rfl) (hb.cell (i := 2) rfl) hk
theorem LD_bs0 {x : Sl} {r : List Value} {K : Sl → Prop} (hb : Box w p t (x.v :: r)) (hk : K x) : LD [.sl] (p.add 0) w K := LD_sl (hb.cell (i := 0) rfl) hk
theorem LD_bs1 {x : Sl} {v0 : Value} {r : List Value} {K : Sl → Prop} (hb : Box w p t (v0 :: x.v :: r)) (hk : K x) : LD [.sl] (p.add 1) w K := LD_sl (hb.cell (i := 1) rfl) hk
theorem LD_bs2 {x : Sl} {v0 v1 : Value} {r : List Value} {K : Sl → Prop} (hb : Box w p t (v0 :: v1 :: x.v :: r)) (hk : K x) : LD [.sl] (p.add 2) w K := LD_sl (hb.cell (i := 2) rfl) hk
theorem LD_bi {x : Int} {r : List Value} {K : Int → Prop} (hb : Box w p t (.int .i64 x :: r)) (hk : K x) : LD [.int .i64] p w K := LD_int (hb.cell (i := 0) rfl) hk
theorem LD_bs {x : Sl} {r : List Value} {K : Sl → Prop} (hb : Box w p t (x.v :: r)) (hk : K x) : LD [.sl] p w K := LD_sl (hb.cell (i := 0) rfl) hk
theorem LD_bi0 {x : Int} {r : List Value} {K : Int → Prop} (hb : Box w p t (.int .i64 x :: r)) (hk : K x) : LD [.int .i64] (p.add 0) w K := LD_int (hb.cell (i := 0) rfl) hk
theorem LD_bi1 {x : Int} {v0 : Value} {r : List Value} {K : Int → Prop} (hb : Box w p t (v0 :: .int .i64 x :: r)) (hk : K x) : LD [.int .i64] (p.add 1) w K := LD_int (hb.cell (i := 1) rfl) hk
end

theorem ST_box {p : Addr} {t : TypeId} : ∀ (vs : List Value) (i : Nat) (cs : List Value) (w : World) (K : World → Prop), Box w p t cs → (∀ v ∈ vs, v.oneCell' = true) → i + vs.length ≤ cs.length →
    (∀ w', Step w w' (some p.block) → w'.heap.size = w.heap.size → Box w' p t (cs.take i ++ vs ++ cs.drop (i + vs.length)) → K w') → ST p i vs w K
  | [], i, cs, w, K, hb, _, _, hk => hk w (Step.refl _ _) rfl (by simpa using hb)
  | v :: vs, i, cs, w, K, hb, h1, hl, hk => by
    have hi : i < cs.length := by simp at hl; omega
    refine ⟨h1 v (by simp), ⟨cs[i], hb.cell (by simp [hi])⟩, hb.frozen i, ?_⟩
    refine ST_box vs (i + 1) (cs.set i v) _ K (hb.set i v) (fun u hu => h1 u (by simp [hu])) (by simp at hl ⊢; omega) fun w' hs hsz hb' => hk w' ?_ ?_ ?_
    · have h0 : Step w (w.setCell (p.add i) v) (some p.block) := ⟨rfl, rfl, rfl, by rw [setCell_size]; exact Nat.le_refl _, fun k _ hne => setCell_other _ _ _ (by rw [add_block]; intro he; exact hne (by rw [he]))⟩
      exact h0.trans hs
    · rw [hsz, setCell_size]
    · have e1 : (cs.set i v).take (i + 1) ++ vs ++ (cs.set i v).drop (i + 1 + vs.length) = cs.take i ++ v :: vs ++ cs.drop (i + (v :: vs).length) := by
        rw [List.drop_set_of_lt (by omega), List.take_set, List.take_succ_eq_append_getElem hi, List.set_append_right _ _ (by simp; omega)]
        simp [Nat.min_eq_left (Nat.le_of_lt hi), Nat.add_assoc, Nat.add_comm 1]
      rw [← e1]; exact hb'

/-- All cells of a box. -/
theorem ST_all {w : World} {p : Addr} {t : TypeId} {cs vs : List Value} {K : World → Prop} (hb : Box w p t cs) (h1 : ∀ v ∈ vs, v.oneCell' = true) (hl : vs.length = cs.length)
    (hk : ∀ w', Step w w' (some p.block) → w'.heap.size = w.heap.size → Box w' p t vs → K w') : ST p 0 vs w K :=
  ST_box vs 0 cs w K hb h1 (by omega) fun w' h2 h3 h4 => hk w' h2 h3 (by simpa [List.drop_of_length_le (Nat.le_of_eq hl.symm)] using h4)

/-- A new variable that is filled at once. -/
theorem NEW_ST {t : TypeId} {zs vs : List Value} {w : World} {K : Addr → World → Prop} (h1 : ∀ v ∈ vs, v.oneCell' = true) (hl : vs.length = zs.length)
    (hk : ∀ p w', p.block = w.heap.size → Ext w w' → Box w' p t vs → K p w') : NEW t ⟨zs⟩ w fun p w1 => ST p 0 vs w1 fun w2 => K p w2 :=
  NEW_intro fun p w1 hp hsz hE hb => ST_all hb h1 hl fun w2 hs _ hb2 => hk p w2 hp (hs.ext0 hE (fun k hk => by cases hk; omega)) hb2

theorem one3 (x y z : Sl) : ∀ v ∈ [x.v, y.v, z.v], v.oneCell' = true := by intro v hv; simp at hv; rcases hv with rfl | rfl | rfl <;> rfl
theorem one1s (x : Sl) : ∀ v ∈ [x.v], v.oneCell' = true := by intro v hv; simp at hv; subst hv; rfl


/-! ### Structs of numbers compared -/

/-! ### Loops with an accumulator ahead of the index -/

def IN2 {α : Type} (N : Nat) (I : Nat → α → World → Prop) (a : α) (x : Int) (w : World) : Prop := ∃ i : Nat, x = i ∧ i ≤ N ∧ I i a w
def MN2 {α : Type} (N : Nat) (_ : α) (x : Int) (_ : World) : Nat := N - x.toNat

theorem IN2_zero {α : Type} {N : Nat} {I : Nat → α → World → Prop} {a : α} {w : World} (h : I 0 a w) : IN2 N I a 0 w := ⟨0, rfl, Nat.zero_le _, h⟩

theorem IN2_next {α : Type} {N i : Nat} {I : Nat → α → World → Prop} {a a' : α} {w w' : World} (hN : N ≤ 9223372036854775807) (hi : i < N) (h : I (i + 1) a w) :
    IN2 N I a (IntKind.i64.wrap ((i : Int) + 1)) w ∧ MN2 N a (IntKind.i64.wrap ((i : Int) + 1)) w < MN2 N a' i w' := by
  rw [wrap_of (by omega) (by omega)]
  exact ⟨⟨i + 1, by omega, hi, h⟩, by unfold MN2; omega⟩

theorem Ext.ext {a b c : World} (h : Ext a b) (hE : Ext b c) : Ext a c := h.trans hE

theorem all_succ {p : Nat → Prop} {v : Nat} (h : ∀ u < v, p u) (hv : p v) : ∀ u < v + 1, p u := fun u hu => by
  rcases Nat.lt_or_eq_of_le (Nat.le_of_lt_succ hu) with h1 | h1
  · exact h u h1
  · subst h1; exact hv

theorem OwnL.low {α : Type} [Flat α] {w : World} {base base' : Nat} {e : TypeId} {s : Sl} {l : List α} (h : OwnL w base e s l) (hb : base' ≤ base) : OwnL w base' e s l := by
  refine ⟨h.1, h.2.1, ?_⟩
  rcases h.2.2 with h1 | ⟨g, cap, cur, h1, h2, h3⟩
  · exact .inl h1
  · exact .inr ⟨g, cap, cur, h1, Nat.le_trans hb h2, h3⟩

/-! ### Literals of several one-cell elements -/

theorem fill_ones : ∀ (vs : List Value) (k : Nat) (arr : Array Value), (∀ v ∈ vs, v.cells = #[v]) → k + vs.length ≤ arr.size →
    Instr.fill (fun i => some (i * 1, 1)) arr ((vs.zipIdx k).map fun x => (x.2, x.1)) = some ⟨arr.toList.take k ++ vs ++ arr.toList.drop (k + vs.length)⟩
  | [], k, arr, _, _ => by simp [Instr.fill]
  | v :: vs, k, arr, hv, hk => by
    have h1 := hv v (by simp)
    have hk' : k < arr.toList.length := by simp at hk ⊢; omega
    simp only [List.zipIdx_cons, List.map_cons, Instr.fill, Nat.mul_one]
    rw [if_neg (by simp [h1] at hk ⊢; omega), h1]
    have e : ((#[v] : Array Value).zipIdx.foldl (fun (cs : Array Value) (x : Value × Nat) => cs.setIfInBounds (k + x.2) x.1) arr) = arr.setIfInBounds k v := by simp [Array.zipIdx]
    have e' : (fun (i : Nat) => some (i, 1)) = fun i => some (i * 1, 1) := by funext i; rw [Nat.mul_one]
    rw [e, e', fill_ones vs (k + 1) _ (fun u hu => hv u (by simp [hu])) (by simp at hk ⊢; omega)]
    congr 2
    rw [Array.toList_setIfInBounds, List.drop_set_of_lt (by omega), List.take_set, List.take_succ_eq_append_getElem hk', List.set_append_right _ _ (by simp; omega)]
    simp at hk'
    simp [Nat.min_eq_left (Nat.le_of_lt hk'), Nat.add_assoc, Nat.add_comm 1]

/-- A literal of numbers: []int{a, b, ..}. -/
theorem RUN_lits {P : Program} {t e : TypeId} {bytes : Nat} {z : Value} (hT : SlT P t e 1 bytes z) (l : List Int) (h0 : l ≠ []) (hl : l.length ≤ 1000) {n : Nat} (hn : n = l.length) {parts : Array (Nat × Value)} (hp : parts.toList = ((l.map (Value.int .i64)).zipIdx 0).map fun x => (x.2, x.1)) {w : World} {K : Sl → World → Prop}
    (hk : ∀ s w', Ext w w' → OwnL w' w.heap.size e s l → K s w') : RUN P (.at .sl) (Instr.buildSlice t n parts) w K := by
  obtain ⟨i, hi, hz0, hsz, hby⟩ := hT.parts
  subst hn
  have hpos : 0 < l.length := List.length_pos_iff.2 h0
  have hr := run_buildSlice (P := P) w t e l.length parts ⟨l.map (Value.int .i64)⟩ i z hT.under hi hz0 (by rw [hsz]; omega) (by rw [hsz]; omega) (by
    rw [hsz, hp, fill_ones _ 0 _ (by intro v hv; obtain ⟨x, _, rfl⟩ := List.mem_map.1 hv; rfl) (by simp)]
    simp)
  unfold RUN
  rw [hr]
  refine hk ⟨some ⟨w.heap.size, 0, none⟩, l.length, l.length⟩ _ (ext_push w _) ⟨rfl, ?_⟩
  have := World.ownsRow_lit (base := w.heap.size) (e := e) (size := 1) w ⟨l.map (Value.int .i64)⟩ l.length (Nat.le_refl _) (by unfold maxLen; omega) (by simp)
  have hf : l.flatMap Flat.cells = l.map (Value.int .i64) := by
    clear this hr hk hp h0 hl hpos
    induction l with
    | nil => rfl
    | cons x r ih => rw [List.flatMap_cons, ih]; rfl
  unfold Own
  rw [hf]
  exact this

/-! ### Own lists of own lists -/

theorem OwnL.type {α : Type} [Flat α] {w : World} {base : Nat} {e : TypeId} {s : Sl} {l : List α} (h : OwnL w base e s l) {k : Nat} (hk : s.v.ownBlock = some k) : ∃ cs, w.heap[k]? = some (.cells cs e (0, 0)) := by
  rcases h.2.2 with ⟨h1, _⟩ | ⟨g, cap, cur, h1, _, h3, _⟩
  · rw [h1] at hk; cases hk
  · rw [h1] at hk
    cases hk
    exact ⟨cur, h3⟩

/-- A list of another element type is not touched. -/
theorem OwnL.step {α β : Type} [Flat α] [Flat β] {w w' : World} {base base' : Nat} {e e' : TypeId} {s s' : Sl} {l : List α} {l' : List β} (h : OwnL w base e s l) (h' : OwnL w base' e' s' l') (he : e ≠ e') (hs : Step w w' s'.v.ownBlock) : OwnL w' base e s l :=
  h.keep fun k hk => by
    refine hs.block k (h.blk k hk).2 fun hk' => ?_
    obtain ⟨c1, h1⟩ := h.type hk
    obtain ⟨c2, h2⟩ := h'.type hk'.symm
    rw [h1] at h2
    cases h2
    exact he rfl

def Own2 {α : Type} [Flat α] (w : World) (base : Nat) (e e' : TypeId) (s : Sl) (ls : List (List α)) : Prop :=
  ∃ ss : List Sl, OwnL w base e' s ss ∧ ss.length = ls.length ∧ ∀ (i : Nat) (r : Sl) (l : List α), ss[i]? = some r → ls[i]? = some l → OwnL w base e r l

section
variable {α : Type} [Flat α] {w w' : World} {base : Nat} {e e' : TypeId} {s : Sl} {ls : List (List α)}
theorem Own2.nil (w : World) (base : Nat) (e e' : TypeId) : Own2 w base e e' ⟨none, 0, 0⟩ ([] : List (List α)) := ⟨[], OwnL.nil _ _ _, rfl, fun i r l h => by simp at h⟩
theorem Own2.ext (h : Own2 w base e e' s ls) (hE : Ext w w') : Own2 w' base e e' s ls := by
  obtain ⟨ss, h1, h2, h3⟩ := h
  exact ⟨ss, h1.ext hE, h2, fun i r l hr hl => (h3 i r l hr hl).ext hE⟩
theorem Own2.low (h : Own2 w base e e' s ls) {b : Nat} (hb : b ≤ base) : Own2 w b e e' s ls := by
  obtain ⟨ss, h1, h2, h3⟩ := h
  exact ⟨ss, h1.low hb, h2, fun i r l hr hl => (h3 i r l hr hl).low hb⟩
theorem Own2.blk (h : Own2 w base e e' s ls) : ∀ k, s.v.ownBlock = some k → base ≤ k ∧ k < w.heap.size := by
  obtain ⟨ss, h1, _⟩ := h
  exact h1.blk
theorem Own2.repD (h : Own2 w base e e' s ls) (hok : ∀ l ∈ ls, ∀ x ∈ l, Flat.ok x) : SlR (fun b => base ≤ b) w s ls := by
  obtain ⟨ss, h1, h2, h3⟩ := h
  refine (OwnL.rows h1 h2 (fun i hi hj => ?_) (fun _ hb => hb))
  exact (h3 i ss[i] ls[i] (by simp [hi]) (by simp [hj])).rep (hok _ (List.getElem_mem hj))
theorem Own2.rep (h : Own2 w base e e' s ls) (hok : ∀ l ∈ ls, ∀ x ∈ l, Flat.ok x) : R w s ls := (h.repD hok).any
theorem Own2.keep (h : Own2 w base e e' s ls) (hk : ∀ k, base ≤ k → k < w.heap.size → w'.heap[k]? = w.heap[k]?) : Own2 w' base e e' s ls := by
  obtain ⟨ss, h1, h2, h3⟩ := h
  exact ⟨ss, h1.keep fun k hb => hk k (h1.blk k hb).1 (h1.blk k hb).2, h2, fun i r l hr hl => (h3 i r l hr hl).keep fun k hb => hk k ((h3 i r l hr hl).blk k hb).1 ((h3 i r l hr hl).blk k hb).2⟩
end

/-! ### Rows of a list of lists, as they were in an earlier world -/

theorem SlR.ixL0 {α : Type} [RepP α] {D : Nat → Prop} {w0 w : World} {s : Sl} {l : List (List α)} (h : SlR D w0 s l) (hE : Ext w0 w) {i : Nat} (hi : i < l.length) {K : Addr → Prop}
    (hk : ∀ p r, SlR D w0 r l[i] → w.cell? p = some r.v → K p) : IX s i 1 K :=
  h.ixL hi fun p r hR hc => hk p r hR (hE.cell hc)

/-! ### Changes within a set of blocks -/

theorem Chg.of_step {w w' : World} {g : Option Nat} {D : Nat → Prop} (h : Step w w' g) (hg : ∀ k, g = some k → D k) : Chg w w' D :=
  ⟨h.os, h.tape, h.output, h.size, fun k hk hD => h.block k hk (fun he => hD (hg k he.symm))⟩
theorem Chg.of_ext {w w' : World} {D : Nat → Prop} (h : Ext w w') : Chg w w' D := ⟨h.os, h.tape, h.output, h.size, fun k hk _ => h.block k hk⟩
theorem Chg.trans {a b c : World} {D : Nat → Prop} (h : Chg a b D) (k : Chg b c D) : Chg a c D :=
  ⟨k.os.trans h.os, k.tape.trans h.tape, k.output.trans h.output, Nat.le_trans h.size k.size, fun i hi hD => (k.block i (Nat.lt_of_lt_of_le hi h.size) hD).trans (h.block i hi hD)⟩
theorem Chg.mono {a b : World} {D D' : Nat → Prop} (h : Chg a b D) (hD : ∀ k, D k → D' k) : Chg a b D' := ⟨h.os, h.tape, h.output, h.size, fun k hk hn => h.block k hk (fun hd => hn (hD k hd))⟩
theorem Chg.ext0 {w0 w w' : World} {D : Nat → Prop} (h : Chg w w' D) (hE : Ext w0 w) (hD : ∀ k, D k → w0.heap.size ≤ k) : Ext w0 w' :=
  ⟨h.os.trans hE.os, h.tape.trans hE.tape, h.output.trans hE.output, Nat.le_trans hE.size h.size, fun k hk => (h.block k (Nat.lt_of_lt_of_le hk hE.size) (fun hd => by have := hD k hd; omega)).trans (hE.block k hk)⟩

theorem SlR.chg {α : Type} [RepP α] {D0 D : Nat → Prop} {w w' : World} {s : Sl} {l : List α} (h : SlR D0 w s l) (hc : Chg w w' D) (hD : ∀ b, D0 b → b < w.heap.size → ¬ D b) : SlR D0 w' s l :=
  (h.below.agr fun b hb => hc.block b hb.2 (hD b hb.1 hb.2)).weak (fun _ hb _ => hb.1) RepP.pos
theorem OwnL.chg {α : Type} [Flat α] {D : Nat → Prop} {w w' : World} {base : Nat} {e : TypeId} {s : Sl} {l : List α} (h : OwnL w base e s l) (hc : Chg w w' D) (hD : ∀ b, s.v.ownBlock = some b → ¬ D b) : OwnL w' base e s l :=
  h.keep fun k hk => hc.block k (h.blk k hk).2 (hD k hk)
theorem Box.chg {D : Nat → Prop} {w w' : World} {p : Addr} {t : TypeId} {cs : List Value} (h : Box w p t cs) (hc : Chg w w' D) (hD : ¬ D p.block) : Box w' p t cs :=
  h.of_block (hc.block _ h.lt hD)

end Go.GX
end

section
/- Texts as lists of bytes: splitting at a byte, decimal numbers, lines of words. No program is named here. -/
namespace Go.GX
open Go.Lib

/-! ### Splitting at a byte -/

def splitB (c : UInt8) : List UInt8 → List (List UInt8)
  | [] => [[]]
  | b :: l => if b = c then [] :: splitB c l else (b :: (splitB c l).headD []) :: (splitB c l).tail

theorem splitB_ne (c : UInt8) (l : List UInt8) : splitB c l ≠ [] := by
  cases l with
  | nil => simp [splitB]
  | cons b l => unfold splitB; split <;> simp

theorem splitB_end (c : UInt8) (l : List UInt8) : ∃ out t, splitB c l = out ++ [t] :=
  ⟨(splitB c l).dropLast, (splitB c l).getLast (splitB_ne c l), (List.dropLast_concat_getLast (splitB_ne c l)).symm⟩

theorem splitB_snoc {c b : UInt8} : ∀ {m : List UInt8} {out : List (List UInt8)} {t : List UInt8}, splitB c m = out ++ [t] →
    splitB c (m ++ [b]) = if b = c then out ++ [t] ++ [[]] else out ++ [t ++ [b]] := by
  intro m
  induction m with
  | nil =>
    intro out t h
    have h' : out ++ [t] = [] ++ [[]] := h.symm
    obtain ⟨rfl, h2⟩ := List.append_inj' h' rfl
    obtain rfl : t = [] := by simpa using h2
    by_cases hb : b = c <;> simp [splitB, hb]
  | cons a m ih =>
    intro out t h
    obtain ⟨o2, t2, h2⟩ := splitB_end c m
    have hi := ih h2
    by_cases ha : a = c
    · have e : splitB c (a :: m) = [] :: splitB c m := by simp [splitB, ha]
      rw [e, h2, show [] :: (o2 ++ [t2]) = ([] :: o2) ++ [t2] from rfl] at h
      obtain ⟨h3, h4⟩ := List.append_inj' h rfl
      obtain rfl : t2 = t := by simpa using h4
      subst h3
      have e2 : splitB c (a :: m ++ [b]) = [] :: splitB c (m ++ [b]) := by simp [splitB, ha]
      rw [e2, hi]
      split <;> rfl
    · have e : splitB c (a :: m) = (a :: (splitB c m).headD []) :: (splitB c m).tail := by simp [splitB, ha]
      have e2 : splitB c (a :: m ++ [b]) = (a :: (splitB c (m ++ [b])).headD []) :: (splitB c (m ++ [b])).tail := by simp [splitB, ha]
      rw [e, h2] at h
      rw [e2, hi]
      cases o2 with
      | nil =>
        have h' : out ++ [t] = [] ++ [a :: t2] := by simpa using h.symm
        obtain ⟨rfl, h4⟩ := List.append_inj' h' rfl
        obtain rfl : t = a :: t2 := by simpa using h4
        split <;> simp
      | cons o os =>
        have h' : out ++ [t] = ((a :: o) :: os) ++ [t2] := by simpa using h.symm
        obtain ⟨rfl, h4⟩ := List.append_inj' h' rfl
        obtain rfl : t = t2 := by simpa using h4
        split <;> simp

theorem splitB_none {c : UInt8} : ∀ {x : List UInt8}, c ∉ x → splitB c x = [x]
  | [], _ => rfl
  | b :: x, h => by
    have hb : b ≠ c := fun e => h (by simp [e])
    have hx : c ∉ x := fun e => h (by simp [e])
    simp [splitB, hb, splitB_none hx]

theorem splitB_app {c : UInt8} {y : List UInt8} : ∀ {x : List UInt8}, c ∉ x → splitB c (x ++ c :: y) = x :: splitB c y
  | [], _ => by simp [splitB]
  | b :: x, h => by
    have hb : b ≠ c := fun e => h (by simp [e])
    have hx : c ∉ x := fun e => h (by simp [e])
    have e : splitB c (b :: x ++ c :: y) = (b :: (splitB c (x ++ c :: y)).headD []) :: (splitB c (x ++ c :: y)).tail := by simp [splitB, hb]
    rw [e, splitB_app hx]; rfl

theorem splitB_len (c : UInt8) : ∀ l : List UInt8, (splitB c l).length ≤ l.length + 1
  | [] => by simp [splitB]
  | b :: l => by
    have := splitB_len c l
    unfold splitB
    split
    · simpa using this
    · simp only [List.length_cons, List.length_tail]; omega

theorem splitB_mem {c : UInt8} : ∀ {l p : List UInt8}, p ∈ splitB c l → c ∉ p ∧ p.length ≤ l.length := by
  intro l
  induction l with
  | nil => intro p h; obtain rfl : p = [] := by simpa [splitB] using h
           exact ⟨by simp, by simp⟩
  | cons b l ih =>
    intro p h
    unfold splitB at h
    split at h
    · rcases List.mem_cons.1 h with rfl | h
      · simp
      · have := ih h; exact ⟨this.1, by simp only [List.length_cons]; omega⟩
    · rename_i hb
      obtain ⟨o, os, e⟩ := List.exists_cons_of_ne_nil (splitB_ne c l)
      rw [e] at h ih
      rcases List.mem_cons.1 h with rfl | h
      · have := ih (p := o) (by simp)
        simp only [List.headD_cons, List.length_cons]
        refine ⟨fun hc => ?_, by omega⟩
        rcases List.mem_cons.1 hc with rfl | hc
        · exact hb rfl
        · exact this.1 hc
      · have := ih (p := p) (by simp at h ⊢; exact .inr h)
        exact ⟨this.1, by simp only [List.length_cons]; omega⟩

theorem splitB_lines {c : UInt8} : ∀ {L : List (List UInt8)}, (∀ x ∈ L, c ∉ x) → splitB c (L.flatMap fun x => x ++ [c]) = L ++ [[]]
  | [], _ => rfl
  | x :: L, h => by
    have e : (x :: L).flatMap (fun x => x ++ [c]) = x ++ c :: L.flatMap fun x => x ++ [c] := by simp
    rw [e, splitB_app (h x (by simp)), splitB_lines fun y hy => h y (by simp [hy])]
    rfl

theorem splitB_words {c : UInt8} : ∀ {ws : List (List UInt8)} {w : List UInt8}, c ∉ w → (∀ x ∈ ws, c ∉ x) → splitB c (w ++ ws.flatMap fun x => c :: x) = w :: ws
  | [], w, h, _ => by simpa using splitB_none h
  | x :: ws, w, h, hw => by
    have e : w ++ (x :: ws).flatMap (fun x => c :: x) = w ++ c :: (x ++ ws.flatMap fun x => c :: x) := by simp
    rw [e, splitB_app h, splitB_words (hw x (by simp)) fun y hy => hw y (by simp [hy])]

/-- The library's cutting at one byte. -/
theorem index_one (c : UInt8) : ∀ s : List UInt8, (c ∉ s ∧ index s [c] = -1) ∨ ∃ x y, s = x ++ c :: y ∧ c ∉ x ∧ index s [c] = x.length
  | [] => .inl ⟨by simp, by simp [index]⟩
  | b :: s => by
    by_cases hb : c = b
    · subst hb
      exact .inr ⟨[], s, rfl, by simp, by simp [index]⟩
    · rcases index_one c s with ⟨h1, h2⟩ | ⟨x, y, h1, h2, h3⟩
      · refine .inl ⟨by simp [hb, h1], ?_⟩
        simp [index, hb, h2]
      · refine .inr ⟨b :: x, y, by rw [h1]; rfl, by simp [hb, h2], ?_⟩
        have : ((x.length : Int) == -1) = false := by rw [beq_eq_false_iff_ne]; omega
        unfold index
        rw [h3, this]
        simp [hb]

theorem split_one (c : UInt8) : ∀ (n : Nat) (s : List UInt8) (fuel : Nat), s.length ≤ n → s.length < fuel → splitK [c] 0 (countFrom [c] fuel s) s = splitB c s := by
  intro n
  induction n with
  | zero =>
    intro s fuel h hf
    obtain rfl : s = [] := List.length_eq_zero_iff.1 (by omega)
    obtain ⟨f, rfl⟩ : ∃ f, fuel = f + 1 := ⟨fuel - 1, by omega⟩
    simp [countFrom, index, splitK, splitB]
  | succ n ih =>
    intro s fuel h hf
    obtain ⟨f, rfl⟩ : ∃ f, fuel = f + 1 := ⟨fuel - 1, by omega⟩
    rcases index_one c s with ⟨h1, h2⟩ | ⟨x, y, rfl, h2, h3⟩
    · simp [countFrom, h2, splitK, splitB_none h1]
    · have hne : ((x.length : Int) == -1) = false := by rw [beq_eq_false_iff_ne]; omega
      have hdrop : (x ++ c :: y).drop (x.length + 1) = y := by simp
      have e : countFrom [c] (f + 1) (x ++ c :: y) = countFrom [c] f y + 1 := by
        rw [countFrom, h3]; simp only [hne, Bool.false_eq_true, if_false, Int.toNat_natCast, List.length_singleton, hdrop]; omega
      have hy : y.length ≤ n ∧ y.length < f := by simp at h hf; omega
      rw [e, splitK, h3]
      simp only [hne, Bool.false_eq_true, if_false, Int.toNat_natCast, List.length_singleton, hdrop, Nat.add_zero]
      rw [ih y f hy.1 hy.2, splitB_app h2]
      simp

theorem split_eq (c : UInt8) (s : List UInt8) : split s [c] = splitB c s := split_one c s.length s (s.length + 1) (Nat.le_refl _) (Nat.lt_succ_self _)

/-! ### Decimal numbers -/

theorem digit_val {d : Nat} (h : d < 10) : digitVal (UInt8.ofNat (48 + d)) = some d := by
  have e : (UInt8.ofNat (48 + d)).toNat = 48 + d := by simp; omega
  simp only [digitVal, e]
  rw [if_pos (by omega)]
  congr 1; omega

theorem decDigits_small {n : Nat} (h : n < 10) : decDigits n = [UInt8.ofNat (48 + n)] := decDigits_one h
theorem decDigits_big {n : Nat} (h : ¬ n < 10) : decDigits n = decDigits (n / 10) ++ [UInt8.ofNat (48 + n % 10)] := by rw [decDigits, dif_neg h]

theorem decDigits_mem : ∀ (n : Nat) (b : UInt8), b ∈ decDigits n → 48 ≤ b.toNat ∧ b.toNat ≤ 57 := by
  intro n
  induction n using Nat.strongRecOn with
  | _ n ih =>
    intro b hb
    by_cases h : n < 10
    · rw [decDigits_small h, List.mem_singleton] at hb
      subst hb
      have e : (UInt8.ofNat (48 + n)).toNat = 48 + n := by simp; omega
      omega
    · rw [decDigits_big h] at hb
      rcases List.mem_append.1 hb with hb | hb
      · exact ih (n / 10) (by omega) b hb
      · rw [List.mem_singleton] at hb
        subst hb
        have e : (UInt8.ofNat (48 + n % 10)).toNat = 48 + n % 10 := by simp; omega
        omega

theorem decDigits_ne (n : Nat) : decDigits n ≠ [] := by
  by_cases h : n < 10
  · rw [decDigits_small h]; simp
  · rw [decDigits_big h]; simp

theorem decFrom_snoc {b : UInt8} {d : Nat} (hd : digitVal b = some d) : ∀ (l : List UInt8) (acc n : Nat), decFrom acc l = some n → decFrom acc (l ++ [b]) = some (n * 10 + d)
  | [], acc, n, h => by
    obtain rfl : acc = n := by simpa [decFrom] using h
    simp [decFrom, hd]
  | a :: l, acc, n, h => by
    simp only [List.cons_append, decFrom] at h ⊢
    cases ha : digitVal a with
    | none => simp [ha] at h
    | some e => simp only [ha] at h ⊢; exact decFrom_snoc hd l _ n h

theorem decFrom_digits (n : Nat) : decFrom 0 (decDigits n) = some n := by
  induction n using Nat.strongRecOn with
  | _ n ih =>
    by_cases h : n < 10
    · rw [decDigits_small h]; simp only [decFrom, digit_val h]; congr 1; omega
    · rw [decDigits_big h, decFrom_snoc (digit_val (Nat.mod_lt n (by omega))) _ _ _ (ih (n / 10) (by omega))]
      congr 1; omega

theorem decDigits_inj {m n : Nat} (h : decDigits m = decDigits n) : m = n := by
  have h1 := decFrom_digits m
  rw [h, decFrom_digits n] at h1
  exact (Option.some.inj h1).symm

/-- Rows of digits without a leading zero are numerals. -/
theorem digits_of : ∀ (k : Nat) (l : List UInt8), l.length = k → l ≠ [] → (l.head? = some 48 → l.length = 1) → (∀ b ∈ l, 48 ≤ b.toNat ∧ b.toNat ≤ 57) → ∃ n, decDigits n = l := by
  intro k
  induction k with
  | zero => intro l h h0; exact absurd (List.length_eq_zero_iff.1 h) h0
  | succ k ih =>
    intro l h h0 hz hd
    obtain ⟨m, b, rfl⟩ : ∃ m b, l = m ++ [b] := ⟨l.dropLast, l.getLast h0, (List.dropLast_concat_getLast h0).symm⟩
    have hb := hd b (by simp)
    have hbe : UInt8.ofNat (48 + (b.toNat - 48)) = b := by
      have : 48 + (b.toNat - 48) = b.toNat := by omega
      rw [this]; simp
    by_cases hm : m = []
    · subst hm
      exact ⟨b.toNat - 48, by rw [decDigits_small (by omega), hbe]; rfl⟩
    · have hlen : m.length = k := by simp at h; omega
      obtain ⟨a, m2, rfl⟩ := List.exists_cons_of_ne_nil hm
      obtain ⟨n, hn⟩ := ih (a :: m2) hlen (by simp) (fun e => by
        have := hz (by simpa using e); simp at this) fun x hx => hd x (by simp at hx ⊢; rcases hx with h | h <;> simp [h])
      have hn0 : n ≠ 0 := by
        rintro rfl
        have e : decDigits 0 = [48] := by rw [decDigits_small (by omega)]; rfl
        rw [e] at hn
        have h1 : a = 48 := by simpa using (List.cons.inj hn).1.symm
        have := hz (by simp [h1])
        simp at this
      refine ⟨10 * n + (b.toNat - 48), ?_⟩
      rw [decDigits_big (by omega), show (10 * n + (b.toNat - 48)) / 10 = n by omega, show (10 * n + (b.toNat - 48)) % 10 = b.toNat - 48 by omega, hn, hbe]

theorem decDigits_few {n : Nat} : n < 1000000 ↔ (decDigits n).length ≤ 6 := by
  rw [decDigits_length]
  have h1 := lt_pow_nDigits n
  constructor
  · intro h
    rcases Nat.lt_or_ge (nDigits n) 7 with h7 | h7
    · omega
    · exfalso
      -- at least seven digits: at least a million
      have key : ∀ k u, k + 1 ≤ nDigits u → 10 ^ k ≤ u ∨ k = 0 := by
        intro k
        induction k with
        | zero => intro u _; exact .inr rfl
        | succ k ih =>
          intro u hu
          by_cases hs : u < 10
          · rw [nDigits_small hs] at hu; omega
          · rw [nDigits_big hs] at hu
            rcases ih (u / 10) (by omega) with h | rfl
            · left; rw [Nat.pow_succ]; omega
            · left; simp; omega
      rcases key 6 n h7 with h | h
      · have : (10 : Nat) ^ 6 = 1000000 := by decide
        omega
      · omega
  · intro h
    have : (10 : Nat) ^ nDigits n ≤ 10 ^ 6 := Nat.pow_le_pow_right (by decide) h
    have e : (10 : Nat) ^ 6 = 1000000 := by decide
    omega

/-- The number of at most six digits that a text spells. -/
def NumOf (l : List UInt8) (x : Int) : Prop := ∃ n : Nat, n < 1000000 ∧ decDigits n = l ∧ x = n
theorem NumOf.unique {l : List UInt8} {x y : Int} (h : NumOf l x) (h' : NumOf l y) : x = y := by
  obtain ⟨m, _, h1, rfl⟩ := h
  obtain ⟨n, _, h2, rfl⟩ := h'
  rw [decDigits_inj (h1.trans h2.symm)]
theorem NumOf.range {l : List UInt8} {x : Int} (h : NumOf l x) : 0 ≤ x ∧ x < 1000000 := by
  obtain ⟨n, h1, _, rfl⟩ := h; omega

theorem atoi_digits (n : Nat) : atoi (decDigits n) = some (n : Int) := by
  obtain ⟨b, r, e⟩ := List.exists_cons_of_ne_nil (decDigits_ne n)
  have hb := decDigits_mem n b (by rw [e]; simp)
  have h := decFrom_digits n
  rw [e] at h ⊢
  have h1 : (b == 45) = false := by rw [beq_eq_false_iff_ne]; rintro rfl; simp at hb
  have h2 : (b == 43) = false := by rw [beq_eq_false_iff_ne]; rintro rfl; simp at hb
  unfold atoi
  simp only [h1, h2, Bool.false_eq_true, if_false, decNat, List.isEmpty_cons, h, Option.map_some]

/-! ### Lines -/

/-- A number in a line: a star for what is below zero. -/
def numS (x : Int) : List UInt8 := if x < 0 then [42] else decDigits x.toNat
/-- A line of a word and numbers. -/
def lineS (w : List UInt8) (l : List Int) : List UInt8 := w ++ l.flatMap fun x => 32 :: numS x

theorem numS_nat (n : Nat) : numS (n : Int) = decDigits n := by unfold numS; rw [if_neg (by omega)]; rfl
theorem numS_neg {x : Int} (h : x < 0) : numS x = [42] := by simp [numS, h]
theorem numS_pos {x : Int} (h : 0 ≤ x) : numS x = decDigits x.toNat := by simp [numS, Int.not_lt.2 h]
theorem numS_mem (x : Int) (b : UInt8) (h : b ∈ numS x) : 42 ≤ b.toNat ∧ b.toNat ≤ 57 := by
  unfold numS at h
  split at h
  · rw [List.mem_singleton] at h; subst h; decide
  · have := decDigits_mem _ _ h; omega
theorem numS_inj {x y : Int} (hx : -1 ≤ x) (hy : -1 ≤ y) (h : numS x = numS y) : x = y := by
  have star : ∀ n : Nat, decDigits n ≠ [42] := fun n e => by
    have := decDigits_mem n 42 (by rw [e]; simp)
    simp at this
  unfold numS at h
  split at h <;> split at h
  · omega
  · exact absurd h.symm (star _)
  · exact absurd h (star _)
  · have := decDigits_inj h; omega

theorem lineS_snoc (w : List UInt8) (l : List Int) (x : Int) : lineS w (l ++ [x]) = lineS w l ++ (32 :: numS x) := by simp [lineS]
theorem lineS_words {w : List UInt8} {l : List Int} (hw : (32 : UInt8) ∉ w) : splitB 32 (lineS w l) = w :: l.map numS := by
  have e : lineS w l = w ++ (l.map numS).flatMap fun x => 32 :: x := by simp [lineS, List.flatMap_map]
  rw [e, splitB_words hw]
  intro x hx hc
  obtain ⟨y, _, rfl⟩ := List.mem_map.1 hx
  have := numS_mem y _ hc
  simp at this
theorem lineS_no10 {w : List UInt8} {l : List Int} (hw : (10 : UInt8) ∉ w) : (10 : UInt8) ∉ lineS w l := by
  unfold lineS
  intro h
  rcases List.mem_append.1 h with h | h
  · exact hw h
  · obtain ⟨x, _, h⟩ := List.mem_flatMap.1 h
    rcases List.mem_cons.1 h with h | h
    · cases h
    · have := numS_mem x _ h
      simp at this

theorem numS_len {x : Int} (hx : x < 1000000) : (numS x).length ≤ 6 := by
  unfold numS
  split
  · simp
  · exact decDigits_few.1 (by omega)
theorem lineS_len (w : List UInt8) : ∀ {l : List Int}, (∀ x ∈ l, x < 1000000) → (lineS w l).length ≤ w.length + 7 * l.length
  | [], _ => by simp [lineS]
  | x :: l, h => by
    have h1 := numS_len (h x (by simp))
    have h2 := lineS_len w (l := l) fun y hy => h y (by simp [hy])
    simp only [lineS, List.length_append, List.flatMap_cons, List.length_cons] at h2 ⊢
    omega

/-- Words that are numbers, or stars for -1. -/
def StarsOf (ws : List (List UInt8)) (ns : List Int) : Prop := ns.map numS = ws ∧ ∀ x ∈ ns, -1 ≤ x ∧ x < 1000000
theorem StarsOf.unique {ws : List (List UInt8)} : ∀ {ns ms : List Int}, StarsOf ws ns → StarsOf ws ms → ns = ms := by
  induction ws with
  | nil => intro ns ms h h'; rw [List.map_eq_nil_iff.1 h.1, List.map_eq_nil_iff.1 h'.1]
  | cons w ws ih =>
    intro ns ms h h'
    cases ns with
    | nil => exact absurd h.1 (by simp)
    | cons x ns =>
      cases ms with
      | nil => exact absurd h'.1 (by simp)
      | cons y ms =>
        have e1 := List.cons.inj h.1
        have e2 := List.cons.inj h'.1
        have hxy : x = y := numS_inj (h.2 x (by simp)).1 (h'.2 y (by simp)).1 (e1.1.trans e2.1.symm)
        subst hxy
        rw [ih ⟨e1.2, fun z hz => h.2 z (by simp [hz])⟩ ⟨e2.2, fun z hz => h'.2 z (by simp [hz])⟩]

/-! ### Joining -/

theorem intercalate_cons (sep x : List UInt8) : ∀ (L : List (List UInt8)), sep.intercalate (x :: L) = x ++ L.flatMap fun y => sep ++ y := by
  intro L
  induction L generalizing x with
  | nil => simp [List.intercalate]
  | cons y L ih =>
    have e : sep.intercalate (x :: y :: L) = x ++ (sep ++ sep.intercalate (y :: L)) := by simp [List.intercalate, List.intersperse]
    rw [e, ih y]; simp
theorem intercalate_end (c : UInt8) {L : List (List UInt8)} (h : L ≠ []) : [c].intercalate L ++ [c] = L.flatMap fun x => x ++ [c] := by
  obtain ⟨x, L, rfl⟩ := List.exists_cons_of_ne_nil h
  rw [intercalate_cons]
  clear h
  induction L generalizing x with
  | nil => simp
  | cons y L ih =>
    have := ih y
    simp only [List.flatMap_cons, List.append_assoc] at this ⊢
    rw [← this]

/-- Lines, each ended by a line feed. -/
def linesS (L : List (List UInt8)) : List UInt8 := L.flatMap fun x => x ++ [10]
theorem linesS_split {L : List (List UInt8)} (h : ∀ x ∈ L, (10 : UInt8) ∉ x) : splitB 10 (linesS L) = L ++ [[]] := splitB_lines h
theorem linesS_rest {L : List (List UInt8)} {rest : List UInt8} (h : ∀ x ∈ L, (10 : UInt8) ∉ x) (he : linesS L = rest ++ [10]) : splitB 10 rest = L := by
  have h1 := linesS_split h
  obtain ⟨o, t, e⟩ := splitB_end 10 rest
  have h2 := splitB_snoc (b := 10) e
  rw [if_pos rfl, ← he, h1, ← e] at h2
  exact (List.append_inj' h2 rfl).1.symm
theorem linesS_end {L : List (List UInt8)} (h : L ≠ []) : ∃ rest, linesS L = rest ++ [10] := ⟨_, (intercalate_end 10 h).symm⟩

end Go.GX
end

section
/- Strings in memory: as lists of bytes, lists of strings, and the operations on them. No program is named here. -/
namespace Go.GX
open Go.RowKit

/-- A string of bytes. -/
def mkS (l : List UInt8) : ByteArray := ⟨l.toArray⟩

theorem mkS_of (s : ByteArray) : mkS s.data.toList = s := rfl
theorem mkS_data (l : List UInt8) : (mkS l).data.toList = l := rfl
theorem mkS_size (l : List UInt8) : (mkS l).size = l.length := rfl
theorem mk_lit (l : List UInt8) : ByteArray.mk l.toArray = mkS l := rfl
theorem mkS_app (a b : List UInt8) : mkS a ++ mkS b = mkS (a ++ b) := by
  apply ByteArray.ext
  rw [ByteArray.data_append]
  simp [mkS]
theorem mkS_toList (l : List UInt8) : (mkS l).toList = l := by rw [Go.Lib.toList_data]; rfl
theorem mkS_ext (l : List UInt8) (a b : Nat) : (mkS l).extract a b = mkS ((l.drop a).take (b - a)) := by
  have := Go.Lib.extract_data (mkS l) a b
  rw [mkS_data] at this
  rw [← this, mkS_of]
section
variable {X Y : Prop} {a b : List UInt8}
theorem cond_seq (ht : a = b → X) (hf : a ≠ b → Y) : cond ((mkS a).toList == (mkS b).toList) X Y := by
  rw [mkS_toList, mkS_toList]
  by_cases h : a = b
  · rw [beq_iff_eq.2 h]; exact ht h
  · rw [beq_eq_false_iff_ne.2 h]; exact hf h
theorem cond_sne (ht : a ≠ b → X) (hf : a = b → Y) : cond (!((mkS a).toList == (mkS b).toList)) X Y := by
  rw [mkS_toList, mkS_toList]
  by_cases h : a = b
  · rw [beq_iff_eq.2 h]; exact hf h
  · rw [beq_eq_false_iff_ne.2 h]; exact ht h
end

theorem SIX_of {l : List UInt8} {i : Nat} (hi : i < l.length) {K : Int → Prop} (hk : K (l[i].toNat : Int)) : SIX (mkS l) (i : Int) K :=
  ⟨by omega, l[i], by rw [mkS_data]; simp, hk⟩

theorem LD_str {w : World} {a : Addr} {s : ByteArray} {K : ByteArray → Prop} (hc : w.cell? a = some (.string s)) (hk : K s) : LD [.str] a w K :=
  ⟨[.string s], rfl, fun i v hi => by
    match i, hi with
    | 0, hi => simp at hi; subst hi; rw [add_zero']; exact hc, hk⟩

instance : Rep ByteArray where
  sz := 1
  rep _ _ cs s := cs = [.string s]
  len h := by rw [h]; rfl
  agr _ h := h
  weak _ h := h
instance : RepP ByteArray := ⟨by decide⟩
instance : Flat ByteArray where
  cells s := [.string s]
  ok _ := True
  size _ := rfl
  one _ v hv := by simp at hv; subst hv; rfl
  repOk _ := rfl
  ofRep h := ⟨h, trivial⟩

instance : Rep UInt8 where
  sz := 1
  rep _ _ cs s := cs = [.int .u8 (s.toNat : Int)]
  len h := by rw [h]; rfl
  agr _ h := h
  weak _ h := h
instance : RepP UInt8 := ⟨by decide⟩
instance : Flat UInt8 where
  cells s := [.int .u8 (s.toNat : Int)]
  ok _ := True
  size _ := rfl
  one _ v hv := by simp at hv; subst hv; rfl
  repOk _ := rfl
  ofRep h := ⟨h, trivial⟩

theorem SlR.ixStr {D : Nat → Prop} {w : World} {s : Sl} {L : List (List UInt8)} (h : SlR D w s (L.map mkS)) {i : Nat} (hi : i < L.length) {K : Addr → Prop}
    (hk : ∀ p, w.cell? p = some (.string (mkS L[i])) → K p) : IX s i 1 K := by
  have hi' : i < (L.map mkS).length := by simpa using hi
  refine h.ix (n := 1) rfl (by omega) (by omega) fun p cs hr hc => hk p ?_
  have e : cs = [.string ((L.map mkS)[(i : Int).toNat]'(by omega))] := hr
  have h0 := hc 0 (.string (mkS L[i])) (by
    rw [e]
    simp)
  rwa [add_zero'] at h0

section
variable {P : Program} {t : TypeId} {w : World}
theorem RUN_sub (ht : P.underlying t = some .string) {l : List UInt8} {a b : Nat} (h1 : a ≤ b) (h2 : b ≤ l.length) {K : ByteArray → World → Prop} (hk : K (mkS ((l.drop a).take (b - a))) w) :
    RUN P (.at .str) (Instr.sliceAt t (.string (mkS l)) (some (.int .i64 (a : Int))) (some (.int .i64 (b : Int))) none) w K := by
  have h := run_slice_string (P := P) w t (mkS l) .i64 .i64 a b ht (by omega) (by omega) (by rw [mkS_size]; omega)
  unfold RUN
  rw [run_sliceAt_string (h := ht), h, Int.toNat_natCast, Int.toNat_natCast, mkS_ext]
  exact hk
theorem RUN_from (ht : P.underlying t = some .string) {l : List UInt8} {a : Nat} (h1 : a ≤ l.length) {K : ByteArray → World → Prop} (hk : K (mkS (l.drop a)) w) :
    RUN P (.at .str) (Instr.sliceAt t (.string (mkS l)) (some (.int .i64 (a : Int))) none none) w K := by
  have h := run_slice_string_l (P := P) (w := w) t (mkS l) ht .i64 a (by omega) (by rw [mkS_size]; omega)
  unfold RUN
  rw [run_sliceAt_string (h := ht), h, Int.toNat_natCast, mkS_ext, mkS_size, List.take_of_length_le (by simp)]
  exact hk
/-- The bytes of an own row as a string. -/
theorem RUN_bytes {src dst e e' : TypeId} (hs : P.underlying src = some (.slice e)) (he : P.underlying e = some (.int .u8)) (hd : P.underlying dst = some .string) {base : Nat} {s : Sl} {b : UInt8} (h : OwnL w base e' s [b])
    {K : ByteArray → World → Prop} (hk : K (mkS [b]) w) : RUN P (.at .str) (convert src dst s.v) w K := by
  have hr := h.rep fun _ _ => trivial
  obtain ⟨a, cs, h1, _, h3, h4⟩ := hr.2.2 0 b rfl
  have hl : s.len = [b].length := h.1
  obtain rfl : cs = [.int .u8 (b.toNat : Int)] := h3
  have := run_convert_bytes_back (P := P) w src dst e a s.cap [b] hs he hd fun j hj => by
    have hj0 : j = 0 := by simpa using hj
    subst hj0
    exact h4 0 _ rfl
  unfold RUN Sl.v
  rw [h1, hl, this]
  exact hk
end

/-- A value of an interface type held against nil. -/
theorem AEQ_nil {P : Program} {t : TypeId} {ms : Array (String × TypeId)} (hu : P.underlying t = some (.interface ms)) {e : Value} {x : Operand} {K : Bool → Prop} (h : (e = .nilIface ∧ K false) ∨ ((∃ t v, e = .iface t v) ∧ K true)) :
    AEQ P (do eqGuard .neq t x (.const .nilIface) e .nilIface; binOp .neq t e .nilIface) K := by
  rcases h with ⟨rfl, h⟩ | ⟨⟨d, v, rfl⟩, h⟩
  · refine ⟨false, fun w => ?_, h⟩
    have h1 : eqGuard .neq t x (.const .nilIface) .nilIface .nilIface = pure () := by cases x <;> rfl
    have h2 : ∀ d, (Op.equalIn (d + 1) t .nilIface .nilIface).run P w = .ok true w := fun d => by simp [Op.equalIn, underlying_run hu]
    have h3 : (Op.equal t .nilIface .nilIface).run P w = .ok true w := h2 9999
    rw [h1]
    simp [binOp, h3]
  · refine ⟨true, fun w => ?_, h⟩
    have h1 : eqGuard .neq t x (.const .nilIface) (.iface d v) .nilIface = pure () := by cases x <;> rfl
    have h2 : ∀ k, (Op.equalIn (k + 1) t (.iface d v) .nilIface).run P w = .ok false w := fun k => by simp [Op.equalIn, underlying_run hu]
    have h3 : (Op.equal t (.iface d v) .nilIface).run P w = .ok false w := h2 9999
    rw [h1]
    simp [binOp, h3]

theorem cell_pushed (w : World) (cs : List Value) (e : TypeId) {i : Nat} {v : Value} (h : cs[i]? = some v) : (w.alloc (.cells cs.toArray e)).cell? ((⟨w.heap.size, 0, none⟩ : Addr).add i) = some v := by
  have ha : ((⟨w.heap.size, 0, none⟩ : Addr).add i) = ⟨w.heap.size, i, none⟩ := by
    unfold Addr.add
    split
    · rename_i h; simp_all
    · simp
  rw [ha]
  have hb : (w.alloc (.cells cs.toArray e)).heap[w.heap.size]? = some (.cells cs.toArray e (0, 0)) := by
    show (w.heap.push _)[w.heap.size]? = _
    exact Array.getElem?_push_size
  simp only [World.cell?, hb]
  simpa using h

end Go.GX
end

section
/- The numbers of functions and types of this seat by their names, and of which kind a type's values are. Printed by a program. -/
namespace Go.Proofs.YtaeledhbkdakcaaGreatDoor
open Go.GX Go.RowKit

abbrev F.l_FnExactParseBound : FuncId := 4
abbrev F.l_eqIntS : FuncId := 10
abbrev F.l_markIntS : FuncId := 13
abbrev F.l_heldIntS : FuncId := 14
abbrev F.s_ParseBound : FuncId := 15
abbrev F.i_ParseBound : FuncId := 16
abbrev F.l_eqBound : FuncId := 17
abbrev F.l_markBound : FuncId := 18
abbrev F.l_heldBound : FuncId := 19
abbrev F.slices_Index_sl_int_int : FuncId := 38
abbrev F.slices_Concat_sl_int_int : FuncId := 40
abbrev F.l_eqIntSS : FuncId := 41
abbrev F.l_markIntSS : FuncId := 42
abbrev F.s_l1Split : FuncId := 43
abbrev F.s_ParseProblem : FuncId := 44
abbrev F.s_boNumbers : FuncId := 45
abbrev F.s_boGood : FuncId := 46
abbrev F.s_boText : FuncId := 47
abbrev F.i_endedLines : FuncId := 48
abbrev F.i_boundLine : FuncId := 49
abbrev F.i_BoundText : FuncId := 50
abbrev F.l_eqProblemS : FuncId := 51
abbrev F.l_markProblemS : FuncId := 52
abbrev F.l_heldProblemS : FuncId := 53
abbrev F.l_heldIntSS : FuncId := 54
abbrev F.s_l1In : FuncId := 56
abbrev F.s_l1Has : FuncId := 58
abbrev F.s_coThrough : FuncId := 65
abbrev F.s_l1Own : FuncId := 69
abbrev F.i_within : FuncId := 70
abbrev F.slices_Compare_sl_int_int : FuncId := 72
abbrev F.slices_IndexFunc_sl_int_int : FuncId := 75
abbrev F.slices_Sort_sl_int_int : FuncId := 85
abbrev F.i_images : FuncId := 87
abbrev F.slices_Grow_sl_int_int : FuncId := 89
abbrev F.s_maNumbers : FuncId := 90
abbrev F.s_prGood : FuncId := 91
abbrev F.s_prText : FuncId := 92
abbrev F.s_l1Read : FuncId := 93
abbrev F.s_boTwo : FuncId := 94
abbrev F.s_boRight : FuncId := 95
abbrev F.s_boLine : FuncId := 96
abbrev F.strings_CutSuffix : FuncId := 97
abbrev F.strings_Split : FuncId := 98
abbrev F.i_starNumbers : FuncId := 99
abbrev F.i_BoundOf : FuncId := 100
abbrev F.ptr_strings_Builder_WriteString : FuncId := 101
abbrev F.i_problemText : FuncId := 102
abbrev F.i_wordsLine : FuncId := 103
abbrev F.ptr_strings_Builder_String : FuncId := 104
abbrev F.l_eqProblem : FuncId := 105
abbrev F.s_l1All : FuncId := 106
abbrev F.s_prOrder : FuncId := 107
abbrev F.i_allWithin : FuncId := 114
abbrev F.cmp_Compare_int : FuncId := 115
abbrev F.slices_Clone_sl_int_int : FuncId := 116
abbrev F.i_labelsIn : FuncId := 121
abbrev F.s_prLists : FuncId := 129
abbrev F.s_maLine : FuncId := 130
abbrev F.s_boZero : FuncId := 131
abbrev F.s_boStep : FuncId := 132
abbrev F.s_l1Num : FuncId := 133
abbrev F.i_readNumber : FuncId := 136
abbrev F.i_CheckBound : FuncId := 137
abbrev F.strings_Join : FuncId := 139
abbrev F.strconv_Itoa : FuncId := 140
abbrev F.s_l1Sign : FuncId := 141
abbrev F.s_l1Put : FuncId := 143
abbrev F.slices_ContainsFunc_sl_int_int : FuncId := 147
abbrev F.i_allWithin_1 : FuncId := 148
abbrev F.cmp_isNaN_int : FuncId := 149
abbrev F.slices_Contains_sl_int_int : FuncId := 151
abbrev F.cmp_Less_int : FuncId := 159
abbrev F.s_CheckZeroRefusal : FuncId := 165
abbrev F.s_EliminateRound : FuncId := 166
abbrev F.s_reMap : FuncId := 167
abbrev F.strconv_Atoi : FuncId := 172
abbrev F.i_problemsOk : FuncId := 173
abbrev F.i_isRightBound : FuncId := 174
abbrev F.s_zeTwo : FuncId := 187
abbrev F.s_EdgeStep : FuncId := 188
abbrev F.s_elNode : FuncId := 189
abbrev F.s_reInto : FuncId := 190
abbrev F.slices_ContainsFunc_sl_i_Problem_i_Problem : FuncId := 197
abbrev F.i_problemsOk_1 : FuncId := 198
abbrev F.i_IsProblem : FuncId := 199
abbrev F.i_eliminate : FuncId := 200
abbrev F.i_isLabelMap : FuncId := 201
abbrev F.i_isZeroRefusal : FuncId := 202
abbrev F.s_l1Most : FuncId := 205
abbrev F.s_prEdge : FuncId := 207
abbrev F.s_elEdge : FuncId := 208
abbrev F.s_elTabled : FuncId := 209
abbrev F.s_reChoices : FuncId := 210
abbrev F.s_elTable_rest : FuncId := 211
abbrev F.s_elTable_full : FuncId := 212
abbrev F.s_elMade : FuncId := 213
abbrev F.s_prHas : FuncId := 214
abbrev F.s_prSorted : FuncId := 215
abbrev F.slices_IndexFunc_sl_i_Problem_i_Problem : FuncId := 226
abbrev F.i_configurationsOk : FuncId := 227
abbrev F.i_edgeStep : FuncId := 228
abbrev F.i_nodeStep : FuncId := 229
abbrev F.i_Problem_hasLabels : FuncId := 230
abbrev F.i_Problem_node : FuncId := 231
abbrev F.slices_ContainsFunc_sl_sl_int_sl_int : FuncId := 232
abbrev F.i_isLabelMap_1 : FuncId := 233
abbrev F.i_Problem_edge : FuncId := 234
abbrev F.s_l1Least : FuncId := 240
abbrev F.s_elNear : FuncId := 241
abbrev F.s_prNode : FuncId := 242
abbrev F.s_elLabels : FuncId := 243
abbrev F.s_prInsert : FuncId := 244
abbrev F.s_elNumbers : FuncId := 245
abbrev F.s_elSome : FuncId := 246
abbrev F.s_l1Same : FuncId := 247
abbrev F.slices_IsSorted_sl_int_int : FuncId := 253
abbrev F.i_beside : FuncId := 254
abbrev F.i_newLabels : FuncId := 255
abbrev F.i_allowedBy : FuncId := 256
abbrev F.i_edgeStep_1 : FuncId := 257
abbrev F.i_Problem_nodeChoice : FuncId := 258
abbrev F.i_listsOf : FuncId := 259
abbrev F.i_newNodeSets : FuncId := 260
abbrev F.ptr_i_nodeSets_fullLists : FuncId := 261
abbrev F.i_nodeStep_1 : FuncId := 262
abbrev F.i_Problem_edgeChoice : FuncId := 263
abbrev F.i_hasConfiguration : FuncId := 264
abbrev F.slices_IndexFunc_sl_sl_int_sl_int : FuncId := 265
abbrev F.s_elHas : FuncId := 270
abbrev F.s_elChoice : FuncId := 271
abbrev F.i_isGoodPair : FuncId := 274
abbrev F.slices_Compact_sl_int_int : FuncId := 275
abbrev F.slices_BinarySearch_sl_int_int : FuncId := 276
abbrev F.i_sortedLists : FuncId := 277
abbrev F.slices_DeleteFunc_sl_sl_int_sl_int : FuncId := 278
abbrev F.i_multisets : FuncId := 279
abbrev F.i_allowedBy_1 : FuncId := 280
abbrev F.i_firstChoice : FuncId := 281
abbrev F.i_Problem_nodeChoice_1 : FuncId := 282
abbrev F.ptr_i_nodeSets_completing : FuncId := 283
abbrev F.ptr_i_nodeSets_isFull : FuncId := 284
abbrev F.i_Problem_edgeChoice_1 : FuncId := 285
abbrev F.slices_BinarySearchFunc_sl_sl_int_sl_int_sl_int : FuncId := 286
abbrev F.slices_Sorted_int : FuncId := 287
abbrev F.slices_Values_sl_int_int : FuncId := 288
abbrev F.i_badPair : FuncId := 290
abbrev F.slices_isNaN_int : FuncId := 291
abbrev F.slices_SortFunc_sl_sl_int_sl_int : FuncId := 292
abbrev F.slices_CompactFunc_sl_sl_int_sl_int : FuncId := 293
abbrev F.slices_Equal_sl_int_int : FuncId := 294
abbrev F.i_firstChoice_1 : FuncId := 295
abbrev F.ptr_i_nodeSets_completing_1 : FuncId := 296
abbrev F.slices_Delete_sl_int_int : FuncId := 297
abbrev F.slices_Collect_int : FuncId := 298
abbrev F.slices_Values_sl_int_int_1 : FuncId := 299
abbrev F.slices_AppendSeq_sl_int_int : FuncId := 301
abbrev T.t_unit : TypeId := 0
abbrev T.t_int : TypeId := 3
abbrev T.t_bool : TypeId := 4
abbrev T.t_uint8 : TypeId := 5
abbrev T.t_string : TypeId := 9
abbrev T.t_sl_sl_int : TypeId := 22
abbrev T.t_sl_int : TypeId := 25
abbrev T.t_sl_i_Problem : TypeId := 37
abbrev T.t_i_Bound : TypeId := 39
abbrev T.t_func_sl_int_bool : TypeId := 47
abbrev T.t_sl_string : TypeId := 61
abbrev T.t_i_Problem : TypeId := 64
abbrev T.t_func_int_bool_1 : TypeId := 94
abbrev T.t_sl_uint8 : TypeId := 114
abbrev T.t_strings_Builder : TypeId := 116
abbrev T.t_error : TypeId := 118
abbrev T.t_sl_bool : TypeId := 127
abbrev T.t_s_waPart : TypeId := 154
abbrev T.t_s_elTable : TypeId := 199
abbrev T.t_ptr_i_nodeSets : TypeId := 237
abbrev T.t_i_nodeSets : TypeId := 255
abbrev T.t_func_int_int_int_1 : TypeId := 264
def hints0 : List (List Sh) := [
  [],
  [.at .val],
  [.at (.int .i64)],
  [.at (.int .i64)],
  [.at .bool],
  [.at (.int .u8)],
  [.at (.int .u8)],
  [.agg [.int .i64, .int .i64, .bool, .int .u8]],
  [.agg [.int .i64, .int .i64, .bool, .int .u8]],
  [.at .str],
  [.at .str],
  [.at .str],
  [.at (.int .u64)],
  [.agg [.str, .int .u64]],
  [.agg [.str, .int .u64]],
  [.at .ptr]]
def hints1 : List (List Sh) := [
  [.at .ptr],
  [.at .ptr],
  [.agg [.ptr]],
  [.agg [.ptr]],
  [.at .val],
  [.at (.int .i32)],
  [.at .sl],
  [.agg [.int .i64, .sl]],
  [.agg [.int .i64, .sl]],
  [.at .sl],
  [.at .val],
  [.at .sl, .at .bool],
  [.at .val],
  [.agg [.int .i64, .sl]],
  [.at .val],
  [.at .val]]
def hints2 : List (List Sh) := [
  [.at .val],
  [.at .val],
  [.at .val],
  [.at .val],
  [.at .val],
  [.at .sl],
  [.agg [.sl, .sl, .sl]],
  [.agg [.sl, .sl, .sl]],
  [.agg [.sl, .sl, .sl], .at .bool],
  [.at .val],
  [.at .val],
  [.at .val],
  [.at .val],
  [.at .val],
  [.at .val],
  [.at .val]]
def hints3 : List (List Sh) := [
  [.at (.int .i64), .at .bool],
  [.at .val],
  [.at (.int .i64), .at (.int .i64), .at .bool],
  [.at .val],
  [.at .val],
  [.at .val],
  [.at .val],
  [.at .val],
  [.at .val],
  [.at .val],
  [.at .val],
  [.at .val],
  [.at .val],
  [.at .sl],
  [.at .val],
  [.agg [.int .i64, .int .i64, .sl, .sl]]]
def hints4 : List (List Sh) := [
  [.agg [.int .i64, .int .i64, .sl, .sl]],
  [.agg [.int .i64, .int .i64, .sl, .sl], .at .bool],
  [.at .val],
  [.at .val],
  [.at .val],
  [.at .val],
  [.at .sl, .at .bool],
  [.at .val],
  [.at .val],
  [.at .ptr],
  [.at .str, .at .bool],
  [.at .val],
  [.at .val],
  [.at .val],
  [.at .val],
  [.at .val]]
def hints5 : List (List Sh) := [
  [.at .val],
  [.at .val],
  [.at .val],
  [.at .val],
  [.at (.int .u64)],
  [.at .val],
  [.at .val],
  [.at .val],
  [.at .sl, .at (.int .i64)],
  [.at .val],
  [.at .val],
  [.at .val],
  [.at .val],
  [.at .val],
  [.at .val],
  [.at (.int .u64), .at (.int .u64)]]
def hints6 : List (List Sh) := [
  [.at .val],
  [.at .val],
  [.at .val],
  [.at .val],
  [.at .sl, .at .sl],
  [.at .val],
  [.at .val],
  [.at .val],
  [.at .val],
  [.at .val],
  [.at .val],
  [.at .val],
  [.at .val],
  [.at .val],
  [.at .val],
  [.at .ptr]]
def hints7 : List (List Sh) := [
  [.at .val],
  [.at .ptr],
  [.at .sl],
  [.agg [.ptr, .sl]],
  [.agg [.ptr, .sl]],
  [.at .val],
  [.at .val],
  [.at (.int .i64), .at .val],
  [.at .val],
  [.at .val],
  [.at .val],
  [.at .val],
  [.at .val],
  [.at .val],
  [.at .val],
  [.at .sl]]
def hints8 : List (List Sh) := [
  [.at .sl],
  [.at .val],
  [.at .sl],
  [.at .val],
  [.at (.int .u32)],
  [.at (.int .u32), .at (.int .u32)],
  [.at .val],
  [.at (.int .u64)],
  [.at (.int .u64), .at (.int .u64)],
  [.at .val],
  [.at .val],
  [.at .val],
  [.at .val],
  [.at .val],
  [.at .val],
  [.at .val]]
def hints9 : List (List Sh) := [
  [.at .val],
  [.at .val],
  [.at .val],
  [.at .bool, .at .bool],
  [.at .val],
  [.at .val],
  [.at .ptr],
  [.at .sl],
  [.at .val],
  [.agg [.sl, .int .i64, .sl]],
  [.agg [.sl, .int .i64, .sl]],
  [.at .val],
  [.at .val],
  [.at .val],
  [.at .val],
  [.at (.int .i64)]]
def hints10 : List (List Sh) := [
  [.at (.int .i64), .at (.int .i64)],
  [.at .val],
  [.at .val],
  [.at .val],
  [.at .val],
  [.at .val],
  [.at .val],
  [.at .val],
  [.agg [.int .i64, .int .i64, .sl, .sl], .at .sl, .at .sl, .at .bool],
  [.at .val],
  [.at .val],
  [.at .val],
  [.at .val],
  [.at .ptr],
  [.at .val],
  [.at .val]]
def hints11 : List (List Sh) := [
  [.at .val],
  [.at (.int .u64)],
  [.at .val],
  [.at .val],
  [.at .val],
  [.at .ptr],
  [.at .val],
  [.agg [.int .u8, .int .u8, .int .u8, .int .u8, .int .u8, .int .u8, .int .u8, .int .u8, .int .u8, .int .u8, .int .u8, .int .u8, .int .u8, .int .u8, .int .u8, .int .u8, .int .u8, .int .u8, .int .u8, .int .u8, .int .u8, .int .u8, .int .u8, .int .u8, .int .u8, .int .u8, .int .u8, .int .u8, .int .u8, .int .u8, .int .u8, .int .u8, .int .u8, .int .u8, .int .u8, .int .u8, .int .u8, .int .u8, .int .u8, .int .u8, .int .u8, .int .u8, .int .u8, .int .u8, .int .u8, .int .u8, .int .u8, .int .u8, .int .u8, .int .u8, .int .u8, .int .u8, .int .u8, .int .u8, .int .u8, .int .u8, .int .u8, .int .u8, .int .u8, .int .u8, .int .u8, .int .u8, .int .u8, .int .u8]],
  [.at .val],
  [.agg [.int .i64, .int .i64, .sl, .sl], .at .sl, .at .bool],
  [.at .val],
  [.at .val],
  [.at (.int .i32), .at (.int .i64)],
  [.at .val],
  [.at .val],
  [.at .val]]
def hints12 : List (List Sh) := [
  [.at .val],
  [.at .val],
  [.at .ptr],
  [.at (.int .i64), .at (.int .i64)],
  [.at .val],
  [.at .val],
  [.agg [.int .i64, .int .i64, .sl, .sl, .sl]],
  [.agg [.int .i64, .int .i64, .sl, .sl, .sl]],
  [.at .val],
  [.at .val],
  [.at .val],
  [.at .val],
  [.at (.int .i64)],
  [.at (.int .i64), .at .val],
  [.at .val],
  [.at .ptr]]
def hints13 : List (List Sh) := [
  [.at .val],
  [.at .val],
  [.at .val],
  [.at .val],
  [.at .val],
  [.agg [.int .u8, .int .u8, .int .u8, .int .u8, .int .u8, .int .u8, .int .u8, .int .u8, .int .u8, .int .u8, .int .u8, .int .u8, .int .u8, .int .u8, .int .u8, .int .u8, .int .u8, .int .u8, .int .u8, .int .u8, .int .u8, .int .u8, .int .u8, .int .u8]],
  [.at .val],
  [.at .sl, .at .str],
  [.at .val],
  [.at .val],
  [.at .val],
  [.at .val],
  [.at .val],
  [.agg [.int .u8, .int .u8, .int .u8, .int .u8, .int .u8, .int .u8, .int .u8, .int .u8, .int .u8, .int .u8, .int .u8, .int .u8, .int .u8, .int .u8, .int .u8, .int .u8, .int .u8, .int .u8, .int .u8, .int .u8, .int .u8, .int .u8, .int .u8, .int .u8, .int .u8, .int .u8, .int .u8, .int .u8, .int .u8, .int .u8, .int .u8, .int .u8, .int .u8, .int .u8, .int .u8, .int .u8, .int .u8, .int .u8, .int .u8, .int .u8, .int .u8, .int .u8, .int .u8, .int .u8, .int .u8, .int .u8, .int .u8, .int .u8, .int .u8, .int .u8, .int .u8, .int .u8, .int .u8, .int .u8, .int .u8, .int .u8, .int .u8, .int .u8, .int .u8, .int .u8, .int .u8, .int .u8, .int .u8, .int .u8, .int .u8, .int .u8, .int .u8, .int .u8, .int .u8, .int .u8, .int .u8, .int .u8, .int .u8, .int .u8, .int .u8, .int .u8, .int .u8, .int .u8, .int .u8, .int .u8, .int .u8, .int .u8, .int .u8, .int .u8, .int .u8, .int .u8, .int .u8, .int .u8, .int .u8, .int .u8, .int .u8, .int .u8, .int .u8, .int .u8, .int .u8, .int .u8, .int .u8, .int .u8, .int .u8, .int .u8, .int .u8, .int .u8, .int .u8, .int .u8, .int .u8, .int .u8, .int .u8, .int .u8, .int .u8, .int .u8, .int .u8, .int .u8, .int .u8, .int .u8, .int .u8, .int .u8, .int .u8, .int .u8, .int .u8, .int .u8, .int .u8, .int .u8, .int .u8, .int .u8, .int .u8, .int .u8, .int .u8, .int .u8, .int .u8, .int .u8, .int .u8, .int .u8, .int .u8, .int .u8, .int .u8, .int .u8, .int .u8, .int .u8, .int .u8, .int .u8, .int .u8, .int .u8, .int .u8, .int .u8, .int .u8, .int .u8, .int .u8, .int .u8, .int .u8, .int .u8, .int .u8, .int .u8, .int .u8, .int .u8, .int .u8, .int .u8, .int .u8, .int .u8, .int .u8, .int .u8, .int .u8, .int .u8, .int .u8, .int .u8, .int .u8, .int .u8, .int .u8, .int .u8, .int .u8, .int .u8, .int .u8, .int .u8, .int .u8, .int .u8, .int .u8, .int .u8, .int .u8, .int .u8, .int .u8, .int .u8, .int .u8, .int .u8, .int .u8, .int .u8, .int .u8, .int .u8, .int .u8, .int .u8, .int .u8, .int .u8, .int .u8, .int .u8, .int .u8, .int .u8, .int .u8, .int .u8, .int .u8, .int .u8, .int .u8, .int .u8, .int .u8, .int .u8, .int .u8, .int .u8, .int .u8, .int .u8, .int .u8, .int .u8, .int .u8, .int .u8, .int .u8, .int .u8, .int .u8, .int .u8, .int .u8, .int .u8, .int .u8, .int .u8, .int .u8, .int .u8, .int .u8, .int .u8, .int .u8, .int .u8, .int .u8, .int .u8, .int .u8, .int .u8, .int .u8, .int .u8, .int .u8, .int .u8, .int .u8, .int .u8, .int .u8, .int .u8, .int .u8, .int .u8, .int .u8, .int .u8, .int .u8, .int .u8, .int .u8, .int .u8, .int .u8, .int .u8, .int .u8, .int .u8, .int .u8, .int .u8, .int .u8, .int .u8, .int .u8, .int .u8, .int .u8, .int .u8]],
  [.agg [.int .u8, .int .u8]],
  [.agg [.int .u8, .int .u8]]]
def hints14 : List (List Sh) := [
  [.agg [.int .u8, .int .u8, .int .u8, .int .u8, .int .u8, .int .u8, .int .u8, .int .u8, .int .u8, .int .u8, .int .u8, .int .u8, .int .u8, .int .u8, .int .u8, .int .u8, .int .u8, .int .u8, .int .u8, .int .u8, .int .u8, .int .u8, .int .u8, .int .u8, .int .u8, .int .u8, .int .u8, .int .u8, .int .u8, .int .u8, .int .u8, .int .u8]],
  [.at .val],
  [.at (.int .u64), .at .val],
  [.at .val],
  [.at .val],
  [.agg [.str, .str, .val]],
  [.agg [.str, .str, .val]],
  [.at .val],
  [.at .sl, .at .sl],
  [.at .val],
  [.at .val],
  [.at .val],
  [.at .val],
  [.at .ptr],
  [.at .val],
  [.at .val]]
def hints15 : List (List Sh) := [
  [.at .val],
  [.at .val],
  [.at .val],
  [.agg [.int .u64, .int .u64, .int .u64, .int .u64, .int .u64, .int .u64, .int .u64, .int .u64, .int .u64, .int .u64, .int .u64, .int .u64, .int .u64, .int .u64, .int .u64, .int .u64, .int .u64, .int .u64, .int .u64, .int .u64]],
  [.agg [.int .u8, .int .u8, .int .u8, .int .u8, .int .u8, .int .u8, .int .u8, .int .u8, .int .u8, .int .u8, .int .u8, .int .u8, .int .u8, .int .u8, .int .u8, .int .u8, .int .u8, .int .u8, .int .u8, .int .u8, .int .u8, .int .u8, .int .u8, .int .u8, .int .u8, .int .u8, .int .u8, .int .u8, .int .u8, .int .u8, .int .u8, .int .u8, .int .u8, .int .u8, .int .u8, .int .u8, .int .u8, .int .u8, .int .u8, .int .u8, .int .u8, .int .u8, .int .u8, .int .u8, .int .u8, .int .u8, .int .u8, .int .u8, .int .u8, .int .u8, .int .u8, .int .u8, .int .u8, .int .u8, .int .u8, .int .u8, .int .u8, .int .u8, .int .u8, .int .u8, .int .u8, .int .u8, .int .u8, .int .u8, .int .u8]],
  [.at .val],
  [.at .val],
  [.at .ptr],
  [.agg [.str]],
  [.agg [.str]],
  [.at .val],
  [.at .val],
  [.at .val],
  [.at .val],
  [.agg [.int .i64, .int .i64, .sl, .sl, .sl]],
  [.agg [.int .i64, .int .i64, .sl, .sl, .sl]]]
def hints16 : List (List Sh) := [
  [.at .val],
  [.at .val],
  [.at .val],
  [.at .val],
  [.at .val],
  [.at .val],
  [.at .val],
  [.at .val],
  [.at .val],
  [.at .val],
  [.agg [.int .u8, .int .u8, .int .u8, .int .u8, .int .u8, .int .u8, .int .u8, .int .u8, .int .u8, .int .u8, .int .u8, .int .u8, .int .u8, .int .u8, .int .u8, .int .u8, .int .u8, .int .u8, .int .u8, .int .u8, .int .u8, .int .u8, .int .u8, .int .u8, .int .u8, .int .u8, .int .u8, .int .u8, .int .u8, .int .u8, .int .u8, .int .u8]],
  [.at .val],
  [.at .val],
  [.at .val],
  [.at .val],
  [.at .val]]
def hints17 : List (List Sh) := [
  [.at .val],
  [.at .val],
  [.at .val],
  [.at .val],
  [.at .val],
  [.agg [.ptr, .ptr, .ptr, .str]],
  [.agg [.ptr, .ptr, .ptr, .str]],
  [.agg []],
  [.agg []],
  [.agg []],
  [.at (.int .u8)],
  [.at (.int .u8)],
  [.at .val],
  [.at (.int .i32)],
  [.at (.int .i32)],
  [.agg [.int .u64, .int .u64, .int .u32, .int .u8, .int .u8, .int .u8, .int .u8, .val, .ptr, .int .i32, .int .i32]]]
def hints18 : List (List Sh) := [
  [.agg [.int .u64, .int .u64, .int .u32, .int .u8, .int .u8, .int .u8, .int .u8, .val, .ptr, .int .i32, .int .i32]]]
def hint : Hint := hintOf [hints0, hints1, hints2, hints3, hints4, hints5, hints6, hints7, hints8, hints9, hints10, hints11, hints12, hints13, hints14, hints15, hints16, hints17, hints18]
end Go.Proofs.YtaeledhbkdakcaaGreatDoor
end

section
/- What each function's code computes to. Printed by a program. -/
namespace Go.Proofs.YtaeledhbkdakcaaGreatDoor
open Go.GX Go.RowKit
set_option linter.unusedVariables false
set_option maxRecDepth 100000

def V_l_FnExactParseBound_k2 (x0 : ByteArray) (Q : Bool → World → Prop) (x16_1 : Bool) (px3 : Addr) (px5 : Addr) (w8 : World) : Prop :=
  LD [.sl, .sl, .sl] px5 w8 fun (x33_0 : Sl) (x33_1 : Sl) (x33_2 : Sl) =>
  Calls Tryz.prog F.l_markBound #[.agg #[x33_0.v, x33_1.v, x33_2.v], .int .i64 1] w8 (Ret [.at (.int .i64)] fun (x35 : Int) w9 =>
  LD [.sl, .sl, .sl] px5 w9 fun (x36_0 : Sl) (x36_1 : Sl) (x36_2 : Sl) =>
  Calls Tryz.prog F.l_heldBound #[.agg #[x36_0.v, x36_1.v, x36_2.v], .int .i64 1] w9 (Ret [.at (.int .i64)] fun (x38 : Int) w10 =>
  cond (decide ((x38 : Int) < 0)) (
  Q false w10) (
  cond ((x38 : Int) != x35) (
  Q false w10) (
  Calls Tryz.prog F.i_ParseBound #[.string x0] w10 (Ret [.agg [.sl, .sl, .sl], .at .bool] fun (x46_0_0 : Sl) (x46_0_1 : Sl) (x46_0_2 : Sl) (x46_1 : Bool) w11 =>
  NEW T.t_i_Bound #[.slice none 0 0, .slice none 0 0, .slice none 0 0] w11 fun (px9 : Addr) w12 =>
  ST px9 0 [x46_0_0.v, x46_0_1.v, x46_0_2.v] w12 fun w13 =>
  LD [.sl, .sl, .sl] px9 w13 fun (x49_0 : Sl) (x49_1 : Sl) (x49_2 : Sl) =>
  LD [.sl, .sl, .sl] px3 w13 fun (x50_0 : Sl) (x50_1 : Sl) (x50_2 : Sl) =>
  Calls Tryz.prog F.l_eqBound #[.agg #[x49_0.v, x49_1.v, x49_2.v], .agg #[x50_0.v, x50_1.v, x50_2.v]] w13 (Ret [.at .bool] fun (x51 : Bool) w14 =>
  cond (!x51) (
  Q false w14) (
  cond (!(x46_1 == x16_1)) (
  Q false w14) (
  LD [.sl, .sl, .sl] px5 w14 fun (x58_0_2 : Sl) (x58_1_2 : Sl) (x58_2_2 : Sl) =>
  Calls Tryz.prog F.l_heldBound #[.agg #[x58_0_2.v, x58_1_2.v, x58_2_2.v], .int .i64 1] w14 (Ret [.at (.int .i64)] fun (x60_2 : Int) w16 =>
  cond (decide ((x60_2 : Int) < 0)) (
  Q false w16) (
  cond ((x60_2 : Int) != x35) (
  Q false w16) (
  Q true w16)))))))))))

def V_l_FnExactParseBound (Q : Bool → World → Prop) (x0 : ByteArray) (w : World) : Prop :=
  cond (decide ((x0.size : Int) > 1048576)) (
  Q true w) (
  Calls Tryz.prog F.s_ParseBound #[.string x0] w (Ret [.agg [.sl, .sl, .sl], .at .bool] fun (x16_0_0 : Sl) (x16_0_1 : Sl) (x16_0_2 : Sl) (x16_1 : Bool) w1 =>
  NEW T.t_i_Bound #[.slice none 0 0, .slice none 0 0, .slice none 0 0] w1 fun (px3 : Addr) w2 =>
  ST px3 0 [x16_0_0.v, x16_0_1.v, x16_0_2.v] w2 fun w3 =>
  Calls Tryz.prog F.i_ParseBound #[.string x0] w3 (Ret [.agg [.sl, .sl, .sl], .at .bool] fun (x21_0_0 : Sl) (x21_0_1 : Sl) (x21_0_2 : Sl) (x21_1 : Bool) w4 =>
  NEW T.t_i_Bound #[.slice none 0 0, .slice none 0 0, .slice none 0 0] w4 fun (px5 : Addr) w5 =>
  ST px5 0 [x21_0_0.v, x21_0_1.v, x21_0_2.v] w5 fun w6 =>
  LD [.sl, .sl, .sl] px5 w6 fun (x24_0 : Sl) (x24_1 : Sl) (x24_2 : Sl) =>
  LD [.sl, .sl, .sl] px3 w6 fun (x25_0 : Sl) (x25_1 : Sl) (x25_2 : Sl) =>
  Calls Tryz.prog F.l_eqBound #[.agg #[x24_0.v, x24_1.v, x24_2.v], .agg #[x25_0.v, x25_1.v, x25_2.v]] w6 (Ret [.at .bool] fun (x26 : Bool) w7 =>
  cond (!x26) (
  Q false w7) (
  cond (!(x21_1 == x16_1)) (
  Q false w7) (
  V_l_FnExactParseBound_k2 x0 Q x16_1 px3 px5 w7))))))

theorem C_l_FnExactParseBound {Q : Bool → World → Prop} {x0 : ByteArray} {w : World} (h : V_l_FnExactParseBound Q x0 w) : Calls Tryz.prog F.l_FnExactParseBound #[.string x0] w (Ret [.at .bool] Q) :=
  mkC (hint := hint) (ann := annOf []) (args := [.string x0]) (rs := [.at .bool]) Tryz.func4 (by kernel_rfl) (by kernel_rfl) h

def V_l_eqIntS (Q : Bool → World → Prop) (a : Sl) (b : Sl) (w : World) : Prop :=
  cond ((a.len : Int) != b.len) (
  Q false w) (
  ∃ (I4 : Int → World → Prop) (m4 : Int → World → Nat), I4 0 w ∧ ∀ (i : Int) w1, I4 i w1 → ∀ _ _ _ _ _ _ _ _ _ _ _ _ _ _ _ _ : Value,
  cond (decide ((i : Int) < a.len)) (
  IX a i 1 fun (px19 : Addr) =>
  LD [.int .i64] px19 w1 fun (x20 : Int) =>
  IX b i 1 fun (px23 : Addr) =>
  LD [.int .i64] px23 w1 fun (x24 : Int) =>
  ∀ w2, Ext w1 w2 →
  cond ((x20 : Int) != x24) (
  Q false w2) (
  I4 (IntKind.i64.wrap (i + 1)) w2 ∧ m4 (IntKind.i64.wrap (i + 1)) w2 < m4 i w1)) (
  Q true w1))

theorem C_l_eqIntS {Q : Bool → World → Prop} {a : Sl} {b : Sl} {w : World} (h : V_l_eqIntS Q a b w) : Calls Tryz.prog F.l_eqIntS #[a.v, b.v] w (Ret [.at .bool] Q) :=
  mkC (hint := hint) (ann := annOf [(4, ⟨[(5, .int .i64)], [4, 11, 12, 13, 14, 15, 16, 17, 18, 19, 20, 21, 22, 23, 24, 25]⟩)]) (args := [a.v, b.v]) (rs := [.at .bool]) Tryz.func10 (by kernel_rfl) (by kernel_rfl) h

def V_l_markIntS (Q : Int → World → Prop) (a : Sl) (k : Int) (w : World) : Prop :=
  ∃ (I2 : Int → Int → World → Prop) (m2 : Int → Int → World → Nat), I2 k 0 w ∧ ∀ (k_2 : Int) (i : Int) w1, I2 k_2 i w1 → ∀ _ _ _ _ _ _ _ _ _ _ _ _ : Value,
  cond (decide ((i : Int) < a.len)) (
  IX a i 1 fun (px15 : Addr) =>
  ST px15 0 [.int .i64 k_2] w1 fun w2 =>
  I2 (IntKind.i64.wrap (k_2 + 1)) (IntKind.i64.wrap (i + 1)) w2 ∧ m2 (IntKind.i64.wrap (k_2 + 1)) (IntKind.i64.wrap (i + 1)) w2 < m2 k_2 i w1) (
  Q k_2 w1)

theorem C_l_markIntS {Q : Int → World → Prop} {a : Sl} {k : Int} {w : World} (h : V_l_markIntS Q a k w) : Calls Tryz.prog F.l_markIntS #[a.v, .int .i64 k] w (Ret [.at (.int .i64)] Q) :=
  mkC (hint := hint) (ann := annOf [(2, ⟨[(1, .int .i64), (5, .int .i64)], [6, 7, 8, 9, 10, 11, 12, 13, 14, 15, 16, 17]⟩)]) (args := [a.v, .int .i64 k]) (rs := [.at (.int .i64)]) Tryz.func13 (by kernel_rfl) (by kernel_rfl) h

def V_l_heldIntS (Q : Int → World → Prop) (a : Sl) (k : Int) (w : World) : Prop :=
  ∃ (I2 : Int → Int → World → Prop) (m2 : Int → Int → World → Nat), I2 k 0 w ∧ ∀ (k_2 : Int) (i : Int) w1, I2 k_2 i w1 → ∀ _ _ _ _ _ _ _ _ _ _ _ _ _ _ _ : Value,
  cond (decide ((i : Int) < a.len)) (
  IX a i 1 fun (px14 : Addr) =>
  LD [.int .i64] px14 w1 fun (x15 : Int) =>
  cond ((x15 : Int) != k_2) (
  Q (-1) w1) (
  I2 (IntKind.i64.wrap (k_2 + 1)) (IntKind.i64.wrap (i + 1)) w1 ∧ m2 (IntKind.i64.wrap (k_2 + 1)) (IntKind.i64.wrap (i + 1)) w1 < m2 k_2 i w1)) (
  Q k_2 w1)

theorem C_l_heldIntS {Q : Int → World → Prop} {a : Sl} {k : Int} {w : World} (h : V_l_heldIntS Q a k w) : Calls Tryz.prog F.l_heldIntS #[a.v, .int .i64 k] w (Ret [.at (.int .i64)] Q) :=
  mkC (hint := hint) (ann := annOf [(2, ⟨[(1, .int .i64), (5, .int .i64)], [4, 6, 7, 8, 9, 10, 11, 12, 13, 14, 15, 16, 17, 18, 19]⟩)]) (args := [a.v, .int .i64 k]) (rs := [.at (.int .i64)]) Tryz.func14 (by kernel_rfl) (by kernel_rfl) h

def V_s_ParseBound_k4 (I7 : ByteArray → Int → World → Prop) (m7 : ByteArray → Int → World → Nat) (x6 : ByteArray) (x21 : Int) (w6 : World) (x6_3 : ByteArray) (w28 : World) : Prop :=
  I7 x6_3 (IntKind.i64.wrap (x21 + 1)) w28 ∧ m7 x6_3 (IntKind.i64.wrap (x21 + 1)) w28 < m7 x6 x21 w6

def V_s_ParseBound_k8 (I7 : ByteArray → Int → World → Prop) (m7 : ByteArray → Int → World → Nat) (x6 : ByteArray) (x21 : Int) (w6 : World) (px4 : Addr) (x25 : ByteArray) (x29 : ByteArray) (x6_2 : ByteArray) (x66 : Bool) (w17 : World) : Prop :=
  cond x66 (
  x25.size + (ByteArray.mk #[10]).size ≤ 9223372036854775807 ∧ (
  x6_2.size + (x25 ++ (ByteArray.mk #[10])).size ≤ 9223372036854775807 ∧ (
  V_s_ParseBound_k4 I7 m7 x6 x21 w6 (x6_2 ++ (x25 ++ (ByteArray.mk #[10]))) w17))) (
  cond (x29.toList == (ByteArray.mk #[109, 97, 112]).toList) (
  ∀ w18, Ext w17 w18 → w18.heap = w17.heap → ∃ (D18 : Nat → Prop),
  ¬ D18 (px4.add 1).block ∧ (
  LD [.sl] (px4.add 1) w18 fun (x77 : Sl) =>
  Chg w18 w18 D18 ∧ (
  Calls Tryz.prog F.s_boNumbers #[.string x25] w18 (Ret [.at .sl] fun (x79 : Sl) w19 =>
  Chg w18 w19 D18 ∧ (
  RUN Tryz.prog (.at .sl) (Instr.buildSlice T.t_sl_sl_int 1 #[(0, x79.v)]) w19 fun (x80 : Sl) w20 =>
  Chg w18 w20 D18 ∧ (
  RUN Tryz.prog (.at .sl) (bsem .append #[T.t_sl_sl_int, T.t_sl_sl_int] T.t_sl_sl_int #[x77.v, x80.v]) w20 fun (x81 : Sl) w21 =>
  Chg w18 w21 D18 ∧ (
  ST (px4.add 1) 0 [x81.v] w21 fun w22 =>
  V_s_ParseBound_k4 I7 m7 x6 x21 w6 x6_2 w22))))))) (
  cond (x29.toList == (ByteArray.mk #[110, 111, 116]).toList) (
  ∀ w23, Ext w17 w23 → w23.heap = w17.heap → ∃ (D23 : Nat → Prop),
  ¬ D23 (px4.add 2).block ∧ (
  LD [.sl] (px4.add 2) w23 fun (x86 : Sl) =>
  Chg w23 w23 D23 ∧ (
  Calls Tryz.prog F.s_boNumbers #[.string x25] w23 (Ret [.at .sl] fun (x88 : Sl) w24 =>
  Chg w23 w24 D23 ∧ (
  RUN Tryz.prog (.at .sl) (Instr.buildSlice T.t_sl_sl_int 1 #[(0, x88.v)]) w24 fun (x89 : Sl) w25 =>
  Chg w23 w25 D23 ∧ (
  RUN Tryz.prog (.at .sl) (bsem .append #[T.t_sl_sl_int, T.t_sl_sl_int] T.t_sl_sl_int #[x86.v, x89.v]) w25 fun (x90 : Sl) w26 =>
  Chg w23 w26 D23 ∧ (
  ST (px4.add 2) 0 [x90.v] w26 fun w27 =>
  V_s_ParseBound_k4 I7 m7 x6 x21 w6 x6_2 w27))))))) (
  V_s_ParseBound_k4 I7 m7 x6 x21 w6 x6_2 w17)))

def V_s_ParseBound_k5 (I7 : ByteArray → Int → World → Prop) (m7 : ByteArray → Int → World → Nat) (x6 : ByteArray) (x21 : Int) (w6 : World) (px4 : Addr) (x25 : ByteArray) (x29 : ByteArray) (x6_2 : ByteArray) (w16 : World) : Prop :=
  cond (x29.toList == (ByteArray.mk #[112, 114, 111, 98, 108, 101, 109]).toList) (
  V_s_ParseBound_k8 I7 m7 x6 x21 w6 px4 x25 x29 x6_2 (x29.toList == (ByteArray.mk #[112, 114, 111, 98, 108, 101, 109]).toList) w16) (
  cond (x29.toList == (ByteArray.mk #[110, 111, 100, 101]).toList) (
  V_s_ParseBound_k8 I7 m7 x6 x21 w6 px4 x25 x29 x6_2 (x29.toList == (ByteArray.mk #[110, 111, 100, 101]).toList) w16) (
  V_s_ParseBound_k8 I7 m7 x6 x21 w6 px4 x25 x29 x6_2 (x29.toList == (ByteArray.mk #[101, 100, 103, 101]).toList) w16))

def V_s_ParseBound_k6 (I7 : ByteArray → Int → World → Prop) (m7 : ByteArray → Int → World → Nat) (x21 : Int) (w6 : World) (x25 : ByteArray) (x29 : ByteArray) (Q : Sl → Sl → Sl → Bool → World → Prop) (px2 : Addr) (px4 : Addr) (x6 : ByteArray) (x50 : Bool) (w8 : World) : Prop :=
  cond x50 (
  Calls Tryz.prog F.s_ParseProblem #[.string x6] w8 (Ret [.agg [.int .i64, .int .i64, .sl, .sl], .at .bool] fun (x53_0_0 : Int) (x53_0_1 : Int) (x53_0_2 : Sl) (x53_0_3 : Sl) (x53_1 : Bool) w9 =>
  NEW T.t_i_Problem #[.int .i64 0, .int .i64 0, .slice none 0 0, .slice none 0 0] w9 fun (px10 : Addr) w10 =>
  ST px10 0 [.int .i64 x53_0_0, .int .i64 x53_0_1, x53_0_2.v, x53_0_3.v] w10 fun w11 =>
  cond (!x53_1) (
  ST px2 0 [.slice none 0 0, .slice none 0 0, .slice none 0 0] w11 fun w12 =>
  LD [.sl, .sl, .sl] px2 w12 fun (r0_0_2 : Sl) (r0_1_2 : Sl) (r0_2_2 : Sl) =>
  Q r0_0_2 r0_1_2 r0_2_2 false w12) (
  LD [.sl] (px4.add 0) w11 fun (x60 : Sl) =>
  LD [.int .i64, .int .i64, .sl, .sl] px10 w11 fun (x61_0 : Int) (x61_1 : Int) (x61_2 : Sl) (x61_3 : Sl) =>
  RUN Tryz.prog (.at .sl) (Instr.buildSlice T.t_sl_i_Problem 1 #[(0, .agg #[.int .i64 x61_0, .int .i64 x61_1, x61_2.v, x61_3.v])]) w11 fun (x62 : Sl) w13 =>
  RUN Tryz.prog (.at .sl) (bsem .append #[T.t_sl_i_Problem, T.t_sl_i_Problem] T.t_sl_i_Problem #[x60.v, x62.v]) w13 fun (x63 : Sl) w14 =>
  ST (px4.add 0) 0 [x63.v] w14 fun w15 =>
  V_s_ParseBound_k5 I7 m7 x6 x21 w6 px4 x25 x29 (ByteArray.mk #[]) w15))) (
  V_s_ParseBound_k5 I7 m7 x6 x21 w6 px4 x25 x29 x6 w8)

def V_s_ParseBound (Q : Sl → Sl → Sl → Bool → World → Prop) (x0 : ByteArray) (w : World) : Prop :=
  NEW T.t_i_Bound #[.slice none 0 0, .slice none 0 0, .slice none 0 0] w fun (px2 : Addr) w1 =>
  NEW T.t_i_Bound #[.slice none 0 0, .slice none 0 0, .slice none 0 0] w1 fun (px4 : Addr) w2 =>
  ST px4 0 [.slice none 0 0, .slice none 0 0, .slice none 0 0] w2 fun w3 =>
  Calls Tryz.prog F.s_l1Split #[.string x0, .int .u8 10] w3 (Ret [.at .sl] fun (x14 : Sl) w4 =>
  cond (decide ((x14.len : Int) > 3000)) (
  ST px2 0 [.slice none 0 0, .slice none 0 0, .slice none 0 0] w4 fun w5 =>
  LD [.sl, .sl, .sl] px2 w5 fun (r0_0 : Sl) (r0_1 : Sl) (r0_2 : Sl) =>
  Q r0_0 r0_1 r0_2 false w5) (
  ∃ (I7 : ByteArray → Int → World → Prop) (m7 : ByteArray → Int → World → Nat), I7 (ByteArray.mk #[]) 0 w4 ∧ ∀ (x6 : ByteArray) (x21 : Int) w6, I7 x6 x21 w6 → ∀ _ _ _ _ _ _ _ _ _ _ _ _ _ _ _ _ _ _ _ _ _ _ _ _ _ _ _ _ _ _ _ _ _ _ _ _ _ _ _ _ _ _ _ _ _ _ _ _ _ _ _ _ _ _ _ _ _ _ _ _ _ _ _ _ _ _ _ _ _ _ _ _ _ _ _ _ _ : Value,
  cond (decide ((x21 : Int) < x14.len)) (
  IX x14 x21 1 fun (px24 : Addr) =>
  LD [.str] px24 w6 fun (x25 : ByteArray) =>
  Calls Tryz.prog F.s_l1Split #[.string x25, .int .u8 32] w6 (Ret [.at .sl] fun (x27 : Sl) w7 =>
  IX x27 0 1 fun (px28 : Addr) =>
  LD [.str] px28 w7 fun (x29 : ByteArray) =>
  cond (!(x6.toList == (ByteArray.mk #[]).toList)) (
  cond (x29.toList == (ByteArray.mk #[112, 114, 111, 98, 108, 101, 109]).toList) (
  V_s_ParseBound_k6 I7 m7 x21 w6 x25 x29 Q px2 px4 x6 true w7) (
  cond (x29.toList == (ByteArray.mk #[109, 97, 112]).toList) (
  V_s_ParseBound_k6 I7 m7 x21 w6 x25 x29 Q px2 px4 x6 true w7) (
  cond (x29.toList == (ByteArray.mk #[110, 111, 116]).toList) (
  V_s_ParseBound_k6 I7 m7 x21 w6 x25 x29 Q px2 px4 x6 true w7) (
  V_s_ParseBound_k6 I7 m7 x21 w6 x25 x29 Q px2 px4 x6 ((x21 : Int) == (IntKind.i64.wrap (x14.len - 1))) w7)))) (
  V_s_ParseBound_k6 I7 m7 x21 w6 x25 x29 Q px2 px4 x6 false w7))) (
  LD [.sl, .sl, .sl] px4 w6 fun (x93_0 : Sl) (x93_1 : Sl) (x93_2 : Sl) =>
  Calls Tryz.prog F.s_boGood #[.agg #[x93_0.v, x93_1.v, x93_2.v]] w6 (Ret [.at .bool] fun (x94 : Bool) w29 =>
  cond (!x94) (
  ST px2 0 [.slice none 0 0, .slice none 0 0, .slice none 0 0] w29 fun w31 =>
  LD [.sl, .sl, .sl] px2 w31 fun (r0_0_3 : Sl) (r0_1_3 : Sl) (r0_2_3 : Sl) =>
  Q r0_0_3 r0_1_3 r0_2_3 false w31) (
  LD [.sl, .sl, .sl] px4 w29 fun (x97_0 : Sl) (x97_1 : Sl) (x97_2 : Sl) =>
  Calls Tryz.prog F.s_boText #[.agg #[x97_0.v, x97_1.v, x97_2.v]] w29 (Ret [.at .str] fun (x98 : ByteArray) w30 =>
  cond (!(x98.toList == x0.toList)) (
  ST px2 0 [.slice none 0 0, .slice none 0 0, .slice none 0 0] w30 fun w32 =>
  LD [.sl, .sl, .sl] px2 w32 fun (r0_0_4 : Sl) (r0_1_4 : Sl) (r0_2_4 : Sl) =>
  Q r0_0_4 r0_1_4 r0_2_4 false w32) (
  LD [.sl, .sl, .sl] px4 w30 fun (x103_0_2 : Sl) (x103_1_2 : Sl) (x103_2_2 : Sl) =>
  ST px2 0 [x103_0_2.v, x103_1_2.v, x103_2_2.v] w30 fun w34 =>
  LD [.sl, .sl, .sl] px2 w34 fun (r0_0_6 : Sl) (r0_1_6 : Sl) (r0_2_6 : Sl) =>
  Q r0_0_6 r0_1_6 r0_2_6 true w34)))))))

theorem C_s_ParseBound {Q : Sl → Sl → Sl → Bool → World → Prop} {x0 : ByteArray} {w : World} (h : V_s_ParseBound Q x0 w) : Calls Tryz.prog F.s_ParseBound #[.string x0] w (Ret [.agg [.sl, .sl, .sl], .at .bool] Q) :=
  mkC (hint := hint) (ann := annOf [(7, ⟨[(6, .str), (21, .int .i64)], [3, 7, 8, 9, 10, 11, 22, 23, 24, 25, 26, 27, 28, 29, 30, 31, 32, 33, 34, 35, 36, 37, 38, 39, 40, 41, 42, 43, 44, 45, 46, 47, 48, 49, 50, 51, 52, 53, 54, 55, 56, 57, 58, 59, 60, 61, 62, 63, 64, 65, 66, 67, 68, 69, 70, 71, 72, 73, 74, 75, 76, 77, 78, 79, 80, 81, 82, 83, 84, 85, 86, 87, 88, 89, 90, 91, 92]⟩)]) (args := [.string x0]) (rs := [.agg [.sl, .sl, .sl], .at .bool]) Tryz.func15 (by kernel_rfl) (by kernel_rfl) h

def V_i_ParseBound (Q : Sl → Sl → Sl → Bool → World → Prop) (s : ByteArray) (w : World) : Prop :=
  NEW T.t_i_Bound #[.slice none 0 0, .slice none 0 0, .slice none 0 0] w fun (px2 : Addr) w1 =>
  Calls Tryz.prog F.i_endedLines #[.string s] w1 (Ret [.at .sl, .at .bool] fun (x13_0 : Sl) (x13_1 : Bool) w2 =>
  cond (!x13_1) (
  ST px2 0 [.slice none 0 0, .slice none 0 0, .slice none 0 0] w2 fun w3 =>
  LD [.sl, .sl, .sl] px2 w3 fun (r0_0 : Sl) (r0_1 : Sl) (r0_2 : Sl) =>
  Q r0_0 r0_1 r0_2 false w3) (
  NEW T.t_i_Bound #[.slice none 0 0, .slice none 0 0, .slice none 0 0] w2 fun (p_b : Addr) w4 =>
  ∃ (I6 : Int → World → Prop) (m6 : Int → World → Nat), I6 0 w4 ∧ ∀ (x21 : Int) w5, I6 x21 w5 → ∀ _ _ _ _ _ _ _ _ _ _ : Value,
  cond (decide ((x21 : Int) < x13_0.len)) (
  IX x13_0 x21 1 fun (px23 : Addr) =>
  LD [.str] px23 w5 fun (x24 : ByteArray) =>
  Calls Tryz.prog F.i_boundLine #[.pointer (some p_b), .string x24] w5 (Ret [.at .bool] fun (x26 : Bool) w6 =>
  cond (!x26) (
  ST px2 0 [.slice none 0 0, .slice none 0 0, .slice none 0 0] w6 fun w7 =>
  LD [.sl, .sl, .sl] px2 w7 fun (r0_0_2 : Sl) (r0_1_2 : Sl) (r0_2_2 : Sl) =>
  Q r0_0_2 r0_1_2 r0_2_2 false w7) (
  I6 (IntKind.i64.wrap (x21 + 1)) w6 ∧ m6 (IntKind.i64.wrap (x21 + 1)) w6 < m6 x21 w5))) (
  LD [.sl, .sl, .sl] p_b w5 fun (x31_0 : Sl) (x31_1 : Sl) (x31_2 : Sl) =>
  Calls Tryz.prog F.i_BoundText #[.agg #[x31_0.v, x31_1.v, x31_2.v]] w5 (Ret [.at .str, .at .bool] fun (x32_0 : ByteArray) (x32_1 : Bool) w8 =>
  cond (!x32_1) (
  ST px2 0 [.slice none 0 0, .slice none 0 0, .slice none 0 0] w8 fun w9 =>
  LD [.sl, .sl, .sl] px2 w9 fun (r0_0_3 : Sl) (r0_1_3 : Sl) (r0_2_3 : Sl) =>
  Q r0_0_3 r0_1_3 r0_2_3 false w9) (
  cond (!(x32_0.toList == s.toList)) (
  ST px2 0 [.slice none 0 0, .slice none 0 0, .slice none 0 0] w8 fun w10 =>
  LD [.sl, .sl, .sl] px2 w10 fun (r0_0_4 : Sl) (r0_1_4 : Sl) (r0_2_4 : Sl) =>
  Q r0_0_4 r0_1_4 r0_2_4 false w10) (
  LD [.sl, .sl, .sl] p_b w8 fun (x43_0_2 : Sl) (x43_1_2 : Sl) (x43_2_2 : Sl) =>
  ST px2 0 [x43_0_2.v, x43_1_2.v, x43_2_2.v] w8 fun w12 =>
  LD [.sl, .sl, .sl] px2 w12 fun (r0_0_6 : Sl) (r0_1_6 : Sl) (r0_2_6 : Sl) =>
  Q r0_0_6 r0_1_6 r0_2_6 true w12))))))

theorem C_i_ParseBound {Q : Sl → Sl → Sl → Bool → World → Prop} {s : ByteArray} {w : World} (h : V_i_ParseBound Q s w) : Calls Tryz.prog F.i_ParseBound #[.string s] w (Ret [.agg [.sl, .sl, .sl], .at .bool] Q) :=
  mkC (hint := hint) (ann := annOf [(6, ⟨[(21, .int .i64)], [3, 8, 22, 23, 24, 25, 26, 27, 28, 29]⟩)]) (args := [.string s]) (rs := [.agg [.sl, .sl, .sl], .at .bool]) Tryz.func16 (by kernel_rfl) (by kernel_rfl) h

def V_l_eqBound (Q : Bool → World → Prop) (a_0 : Sl) (a_1 : Sl) (a_2 : Sl) (b_0 : Sl) (b_1 : Sl) (b_2 : Sl) (w : World) : Prop :=
  NEW T.t_i_Bound #[a_0.v, a_1.v, a_2.v] w fun (p_a : Addr) w1 =>
  NEW T.t_i_Bound #[b_0.v, b_1.v, b_2.v] w1 fun (p_b : Addr) w2 =>
  LD [.sl] (p_a.add 0) w2 fun (x6 : Sl) =>
  LD [.sl] (p_b.add 0) w2 fun (x8 : Sl) =>
  Calls Tryz.prog F.l_eqProblemS #[x6.v, x8.v] w2 (Ret [.at .bool] fun (x9 : Bool) w3 =>
  cond (!x9) (
  Q false w3) (
  LD [.sl] (p_a.add 1) w3 fun (x12 : Sl) =>
  LD [.sl] (p_b.add 1) w3 fun (x14 : Sl) =>
  Calls Tryz.prog F.l_eqIntSS #[x12.v, x14.v] w3 (Ret [.at .bool] fun (x15 : Bool) w4 =>
  cond (!x15) (
  Q false w4) (
  LD [.sl] (p_a.add 2) w4 fun (x18 : Sl) =>
  LD [.sl] (p_b.add 2) w4 fun (x20 : Sl) =>
  Calls Tryz.prog F.l_eqIntSS #[x18.v, x20.v] w4 (Ret [.at .bool] fun (x21 : Bool) w5 =>
  cond (!x21) (
  Q false w5) (
  Q true w5))))))

theorem C_l_eqBound {Q : Bool → World → Prop} {a_0 : Sl} {a_1 : Sl} {a_2 : Sl} {b_0 : Sl} {b_1 : Sl} {b_2 : Sl} {w : World} (h : V_l_eqBound Q a_0 a_1 a_2 b_0 b_1 b_2 w) : Calls Tryz.prog F.l_eqBound #[.agg #[a_0.v, a_1.v, a_2.v], .agg #[b_0.v, b_1.v, b_2.v]] w (Ret [.at .bool] Q) :=
  mkC (hint := hint) (ann := annOf []) (args := [.agg #[a_0.v, a_1.v, a_2.v], .agg #[b_0.v, b_1.v, b_2.v]]) (rs := [.at .bool]) Tryz.func17 (by kernel_rfl) (by kernel_rfl) h

def V_l_markBound (Q : Int → World → Prop) (a_0 : Sl) (a_1 : Sl) (a_2 : Sl) (k : Int) (w : World) : Prop :=
  NEW T.t_i_Bound #[a_0.v, a_1.v, a_2.v] w fun (p_a : Addr) w1 =>
  LD [.sl] (p_a.add 0) w1 fun (x6 : Sl) =>
  Calls Tryz.prog F.l_markProblemS #[x6.v, .int .i64 k] w1 (Ret [.at (.int .i64)] fun (x8 : Int) w2 =>
  LD [.sl] (p_a.add 1) w2 fun (x10 : Sl) =>
  Calls Tryz.prog F.l_markIntSS #[x10.v, .int .i64 x8] w2 (Ret [.at (.int .i64)] fun (x12 : Int) w3 =>
  LD [.sl] (p_a.add 2) w3 fun (x14 : Sl) =>
  Calls Tryz.prog F.l_markIntSS #[x14.v, .int .i64 x12] w3 (Ret [.at (.int .i64)] fun (x16 : Int) w4 =>
  Q x16 w4)))

theorem C_l_markBound {Q : Int → World → Prop} {a_0 : Sl} {a_1 : Sl} {a_2 : Sl} {k : Int} {w : World} (h : V_l_markBound Q a_0 a_1 a_2 k w) : Calls Tryz.prog F.l_markBound #[.agg #[a_0.v, a_1.v, a_2.v], .int .i64 k] w (Ret [.at (.int .i64)] Q) :=
  mkC (hint := hint) (ann := annOf []) (args := [.agg #[a_0.v, a_1.v, a_2.v], .int .i64 k]) (rs := [.at (.int .i64)]) Tryz.func18 (by kernel_rfl) (by kernel_rfl) h

def V_l_heldBound (Q : Int → World → Prop) (a_0 : Sl) (a_1 : Sl) (a_2 : Sl) (k : Int) (w : World) : Prop :=
  NEW T.t_i_Bound #[a_0.v, a_1.v, a_2.v] w fun (p_a : Addr) w1 =>
  LD [.sl] (p_a.add 0) w1 fun (x6 : Sl) =>
  Calls Tryz.prog F.l_heldProblemS #[x6.v, .int .i64 k] w1 (Ret [.at (.int .i64)] fun (x8 : Int) w2 =>
  cond (decide ((x8 : Int) < 0)) (
  Q (-1) w2) (
  LD [.sl] (p_a.add 1) w2 fun (x12 : Sl) =>
  Calls Tryz.prog F.l_heldIntSS #[x12.v, .int .i64 x8] w2 (Ret [.at (.int .i64)] fun (x14 : Int) w3 =>
  cond (decide ((x14 : Int) < 0)) (
  Q (-1) w3) (
  LD [.sl] (p_a.add 2) w3 fun (x18 : Sl) =>
  Calls Tryz.prog F.l_heldIntSS #[x18.v, .int .i64 x14] w3 (Ret [.at (.int .i64)] fun (x20 : Int) w4 =>
  cond (decide ((x20 : Int) < 0)) (
  Q (-1) w4) (
  Q x20 w4))))))

theorem C_l_heldBound {Q : Int → World → Prop} {a_0 : Sl} {a_1 : Sl} {a_2 : Sl} {k : Int} {w : World} (h : V_l_heldBound Q a_0 a_1 a_2 k w) : Calls Tryz.prog F.l_heldBound #[.agg #[a_0.v, a_1.v, a_2.v], .int .i64 k] w (Ret [.at (.int .i64)] Q) :=
  mkC (hint := hint) (ann := annOf []) (args := [.agg #[a_0.v, a_1.v, a_2.v], .int .i64 k]) (rs := [.at (.int .i64)]) Tryz.func19 (by kernel_rfl) (by kernel_rfl) h

def V_slices_Index_sl_int_int (Q : Int → World → Prop) (s : Sl) (v : Int) (w : World) : Prop :=
  ∃ (I2 : Int → World → Prop) (m2 : Int → World → Nat), I2 0 w ∧ ∀ (x8 : Int) w1, I2 x8 w1 → ∀ _ _ _ _ _ _ _ _ _ _ _ _ : Value,
  cond (decide ((x8 : Int) < s.len)) (
  IX s x8 1 fun (px14 : Addr) =>
  LD [.int .i64] px14 w1 fun (x15 : Int) =>
  cond ((v : Int) == x15) (
  Q x8 w1) (
  I2 (IntKind.i64.wrap (x8 + 1)) w1 ∧ m2 (IntKind.i64.wrap (x8 + 1)) w1 < m2 x8 w1)) (
  Q (-1) w1)

theorem C_slices_Index_sl_int_int {Q : Int → World → Prop} {s : Sl} {v : Int} {w : World} (h : V_slices_Index_sl_int_int Q s v w) : Calls Tryz.prog F.slices_Index_sl_int_int #[s.v, .int .i64 v] w (Ret [.at (.int .i64)] Q) :=
  mkC (hint := hint) (ann := annOf [(2, ⟨[(8, .int .i64)], [4, 5, 9, 10, 11, 12, 13, 14, 15, 16, 17, 18]⟩)]) (args := [s.v, .int .i64 v]) (rs := [.at (.int .i64)]) Tryz.func38 (by kernel_rfl) (by kernel_rfl) h

def V_slices_Concat_sl_int_int (Q : Sl → World → Prop) (slices : Sl) (w : World) : Prop :=
  ∃ (I3 : Int → Int → World → Prop) (m3 : Int → Int → World → Nat), I3 0 0 w ∧ ∀ (size1 : Int) (x11 : Int) w1, I3 size1 x11 w1 → ∀ _ _ _ _ _ _ _ _ _ _ _ _ : Value,
  cond (decide ((x11 : Int) < slices.len)) (
  IX slices x11 1 fun (px13 : Addr) =>
  LD [.sl] px13 w1 fun (x14 : Sl) =>
  cond (decide (((IntKind.i64.wrap (size1 + x14.len)) : Int) < 0)) (
  False) (
  I3 (IntKind.i64.wrap (size1 + x14.len)) (IntKind.i64.wrap (x11 + 1)) w1 ∧ m3 (IntKind.i64.wrap (size1 + x14.len)) (IntKind.i64.wrap (x11 + 1)) w1 < m3 size1 x11 w1)) (
  Calls Tryz.prog F.slices_Grow_sl_int_int #[.slice none 0 0, .int .i64 size1] w1 (Ret [.at .sl] fun (x24 : Sl) w2 =>
  ∃ (I11 : Sl → Int → World → Prop) (m11 : Sl → Int → World → Nat), I11 x24 0 w2 ∧ ∀ (newslice : Sl) (x27 : Int) w3, I11 newslice x27 w3 → ∀ _ _ _ _ _ _ _ _ : Value,
  cond (decide ((x27 : Int) < slices.len)) (
  IX slices x27 1 fun (px29 : Addr) =>
  LD [.sl] px29 w3 fun (x30 : Sl) =>
  RUN Tryz.prog (.at .sl) (bsem .append #[T.t_sl_int, T.t_sl_int] T.t_sl_int #[newslice.v, x30.v]) w3 fun (x33 : Sl) w4 =>
  I11 x33 (IntKind.i64.wrap (x27 + 1)) w4 ∧ m11 x33 (IntKind.i64.wrap (x27 + 1)) w4 < m11 newslice x27 w3) (
  Q newslice w3)))

theorem C_slices_Concat_sl_int_int {Q : Sl → World → Prop} {slices : Sl} {w : World} (h : V_slices_Concat_sl_int_int Q slices w) : Calls Tryz.prog F.slices_Concat_sl_int_int #[slices.v] w (Ret [.at .sl] Q) :=
  mkC (hint := hint) (ann := annOf [(3, ⟨[(3, .int .i64), (11, .int .i64)], [5, 12, 13, 14, 15, 16, 17, 18, 19, 20, 21, 22]⟩), (11, ⟨[(6, .sl), (27, .int .i64)], [8, 28, 29, 30, 31, 32, 33, 34]⟩)]) (args := [slices.v]) (rs := [.at .sl]) Tryz.func40 (by kernel_rfl) (by kernel_rfl) h

def V_l_eqIntSS (Q : Bool → World → Prop) (a : Sl) (b : Sl) (w : World) : Prop :=
  cond ((a.len : Int) != b.len) (
  Q false w) (
  ∃ (I4 : Int → World → Prop) (m4 : Int → World → Nat), I4 0 w ∧ ∀ (i : Int) w1, I4 i w1 → ∀ _ _ _ _ _ _ _ _ _ _ _ _ _ _ _ _ _ : Value,
  cond (decide ((i : Int) < a.len)) (
  IX a i 1 fun (px19 : Addr) =>
  LD [.sl] px19 w1 fun (x20 : Sl) =>
  IX b i 1 fun (px23 : Addr) =>
  LD [.sl] px23 w1 fun (x24 : Sl) =>
  QCALL Tryz.prog F.l_eqIntS #[x20.v, x24.v] w1 [.at .bool] fun (x25 : Bool) =>
  ∀ w2, Ext w1 w2 →
  cond (!x25) (
  Q false w2) (
  I4 (IntKind.i64.wrap (i + 1)) w2 ∧ m4 (IntKind.i64.wrap (i + 1)) w2 < m4 i w1)) (
  Q true w1))

theorem C_l_eqIntSS {Q : Bool → World → Prop} {a : Sl} {b : Sl} {w : World} (h : V_l_eqIntSS Q a b w) : Calls Tryz.prog F.l_eqIntSS #[a.v, b.v] w (Ret [.at .bool] Q) :=
  mkC (hint := hint) (ann := annOf [(4, ⟨[(5, .int .i64)], [4, 11, 12, 13, 14, 15, 16, 17, 18, 19, 20, 21, 22, 23, 24, 25, 26]⟩)]) (args := [a.v, b.v]) (rs := [.at .bool]) Tryz.func41 (by kernel_rfl) (by kernel_rfl) h

def V_l_markIntSS (Q : Int → World → Prop) (a : Sl) (k : Int) (w : World) : Prop :=
  ∃ (I2 : Int → Int → World → Prop) (m2 : Int → Int → World → Nat), I2 k 0 w ∧ ∀ (k_2 : Int) (i : Int) w1, I2 k_2 i w1 → ∀ _ _ _ _ _ _ _ _ _ _ _ _ : Value,
  cond (decide ((i : Int) < a.len)) (
  IX a i 1 fun (px14 : Addr) =>
  LD [.sl] px14 w1 fun (x15 : Sl) =>
  Calls Tryz.prog F.l_markIntS #[x15.v, .int .i64 k_2] w1 (Ret [.at (.int .i64)] fun (x17 : Int) w2 =>
  I2 x17 (IntKind.i64.wrap (i + 1)) w2 ∧ m2 x17 (IntKind.i64.wrap (i + 1)) w2 < m2 k_2 i w1)) (
  Q k_2 w1)

theorem C_l_markIntSS {Q : Int → World → Prop} {a : Sl} {k : Int} {w : World} (h : V_l_markIntSS Q a k w) : Calls Tryz.prog F.l_markIntSS #[a.v, .int .i64 k] w (Ret [.at (.int .i64)] Q) :=
  mkC (hint := hint) (ann := annOf [(2, ⟨[(1, .int .i64), (5, .int .i64)], [6, 7, 8, 9, 10, 11, 12, 13, 14, 15, 16, 17]⟩)]) (args := [a.v, .int .i64 k]) (rs := [.at (.int .i64)]) Tryz.func42 (by kernel_rfl) (by kernel_rfl) h

def V_s_l1Split (Q : Sl → World → Prop) (s : ByteArray) (b : Int) (w : World) : Prop :=
  ∃ (I4 : Sl → Int → Int → World → Prop) (m4 : Sl → Int → Int → World → Nat), I4 (⟨none, 0, 0⟩) 0 0 w ∧ ∀ (out : Sl) (from1 : Int) (i : Int) w1, I4 out from1 i w1 → ∀ _ _ _ _ _ _ _ _ _ _ _ _ _ _ _ _ _ _ _ _ : Value,
  cond (decide ((i : Int) < s.size)) (
  SIX s i fun (x16 : Int) =>
  cond ((x16 : Int) == b) (
  RUN Tryz.prog (.at .str) (Instr.sliceAt T.t_string (.string s) (some (.int .i64 from1)) (some (.int .i64 i)) none) w1 fun (x23 : ByteArray) w2 =>
  RUN Tryz.prog (.at .sl) (Instr.buildSlice T.t_sl_string 1 #[(0, .string x23)]) w2 fun (x24 : Sl) w3 =>
  RUN Tryz.prog (.at .sl) (bsem .append #[T.t_sl_string, T.t_sl_string] T.t_sl_string #[out.v, x24.v]) w3 fun (x25 : Sl) w4 =>
  I4 x25 (IntKind.i64.wrap (i + 1)) (IntKind.i64.wrap (i + 1)) w4 ∧ m4 x25 (IntKind.i64.wrap (i + 1)) (IntKind.i64.wrap (i + 1)) w4 < m4 out from1 i w1) (
  I4 out from1 (IntKind.i64.wrap (i + 1)) w1 ∧ m4 out from1 (IntKind.i64.wrap (i + 1)) w1 < m4 out from1 i w1)) (
  RUN Tryz.prog (.at .str) (Instr.sliceAt T.t_string (.string s) (some (.int .i64 from1)) none none) w1 fun (x31 : ByteArray) w5 =>
  RUN Tryz.prog (.at .sl) (Instr.buildSlice T.t_sl_string 1 #[(0, .string x31)]) w5 fun (x32 : Sl) w6 =>
  RUN Tryz.prog (.at .sl) (bsem .append #[T.t_sl_string, T.t_sl_string] T.t_sl_string #[out.v, x32.v]) w6 fun (x33 : Sl) w7 =>
  Q x33 w7)

theorem C_s_l1Split {Q : Sl → World → Prop} {s : ByteArray} {b : Int} {w : World} (h : V_s_l1Split Q s b w) : Calls Tryz.prog F.s_l1Split #[.string s, .int .u8 b] w (Ret [.at .sl] Q) :=
  mkC (hint := hint) (ann := annOf [(4, ⟨[(5, .sl), (6, .int .i64), (7, .int .i64)], [8, 9, 10, 11, 12, 13, 14, 15, 16, 17, 18, 19, 20, 21, 22, 23, 24, 25, 26, 27]⟩)]) (args := [.string s, .int .u8 b]) (rs := [.at .sl]) Tryz.func43 (by kernel_rfl) (by kernel_rfl) h

def V_s_ParseProblem_k3 (I4 : Int → World → Prop) (m4 : Int → World → Nat) (x19 : Int) (w4 : World) (w19 : World) : Prop :=
  I4 (IntKind.i64.wrap (x19 + 1)) w19 ∧ m4 (IntKind.i64.wrap (x19 + 1)) w19 < m4 x19 w4

def V_s_ParseProblem_k5 (I4 : Int → World → Prop) (m4 : Int → World → Nat) (x19 : Int) (w4 : World) (Q : Int → Int → Sl → Sl → Bool → World → Prop) (px2 : Addr) (px5 : Addr) (x25 : Sl) (x29_0 : Sl) (x29_1 : Bool) (x58 : Bool) (w10 : World) : Prop :=
  cond x58 (
  LD [.sl] (px5.add 2) w10 fun (x67 : Sl) =>
  RUN Tryz.prog (.at .sl) (Instr.buildSlice T.t_sl_sl_int 1 #[(0, x29_0.v)]) w10 fun (x69 : Sl) w11 =>
  RUN Tryz.prog (.at .sl) (bsem .append #[T.t_sl_sl_int, T.t_sl_sl_int] T.t_sl_sl_int #[x67.v, x69.v]) w11 fun (x70 : Sl) w12 =>
  ST (px5.add 2) 0 [x70.v] w12 fun w13 =>
  V_s_ParseProblem_k3 I4 m4 x19 w4 w13) (
  cond x29_1 (
  IX x25 0 1 fun (px76 : Addr) =>
  LD [.str] px76 w10 fun (x77 : ByteArray) =>
  cond (x77.toList == (ByteArray.mk #[101, 100, 103, 101]).toList) (
  LD [.sl] (px5.add 3) w10 fun (x81 : Sl) =>
  RUN Tryz.prog (.at .sl) (Instr.buildSlice T.t_sl_sl_int 1 #[(0, x29_0.v)]) w10 fun (x83 : Sl) w14 =>
  RUN Tryz.prog (.at .sl) (bsem .append #[T.t_sl_sl_int, T.t_sl_sl_int] T.t_sl_sl_int #[x81.v, x83.v]) w14 fun (x84 : Sl) w15 =>
  ST (px5.add 3) 0 [x84.v] w15 fun w16 =>
  V_s_ParseProblem_k3 I4 m4 x19 w4 w16) (
  ST px2 0 [.int .i64 0, .int .i64 0, .slice none 0 0, .slice none 0 0] w10 fun w17 =>
  LD [.int .i64, .int .i64, .sl, .sl] px2 w17 fun (r0_0 : Int) (r0_1 : Int) (r0_2 : Sl) (r0_3 : Sl) =>
  Q r0_0 r0_1 r0_2 r0_3 false w17)) (
  ST px2 0 [.int .i64 0, .int .i64 0, .slice none 0 0, .slice none 0 0] w10 fun w18 =>
  LD [.int .i64, .int .i64, .sl, .sl] px2 w18 fun (r0_0_2 : Int) (r0_1_2 : Int) (r0_2_2 : Sl) (r0_3_2 : Sl) =>
  Q r0_0_2 r0_1_2 r0_2_2 r0_3_2 false w18))

def V_s_ParseProblem_k4 (I4 : Int → World → Prop) (m4 : Int → World → Nat) (x19 : Int) (w4 : World) (Q : Int → Int → Sl → Sl → Bool → World → Prop) (px2 : Addr) (px5 : Addr) (x25 : Sl) (x29_0 : Sl) (x29_1 : Bool) (x33 : Bool) (w7 : World) : Prop :=
  cond x33 (
  IX x29_0 0 1 fun (px51 : Addr) =>
  LD [.int .i64] px51 w7 fun (x52 : Int) =>
  ST (px5.add 0) 0 [.int .i64 x52] w7 fun w8 =>
  IX x29_0 1 1 fun (px55 : Addr) =>
  LD [.int .i64] px55 w8 fun (x56 : Int) =>
  ST (px5.add 1) 0 [.int .i64 x56] w8 fun w9 =>
  V_s_ParseProblem_k3 I4 m4 x19 w4 w9) (
  cond x29_1 (
  IX x25 0 1 fun (px62 : Addr) =>
  LD [.str] px62 w7 fun (x63 : ByteArray) =>
  V_s_ParseProblem_k5 I4 m4 x19 w4 Q px2 px5 x25 x29_0 x29_1 (x63.toList == (ByteArray.mk #[110, 111, 100, 101]).toList) w7) (
  V_s_ParseProblem_k5 I4 m4 x19 w4 Q px2 px5 x25 x29_0 x29_1 false w7))

def V_s_ParseProblem (Q : Int → Int → Sl → Sl → Bool → World → Prop) (x0 : ByteArray) (w : World) : Prop :=
  NEW T.t_i_Problem #[.int .i64 0, .int .i64 0, .slice none 0 0, .slice none 0 0] w fun (px2 : Addr) w1 =>
  Calls Tryz.prog F.s_l1Split #[.string x0, .int .u8 10] w1 (Ret [.at .sl] fun (x12 : Sl) w2 =>
  NEW T.t_i_Problem #[.int .i64 0, .int .i64 0, .slice none 0 0, .slice none 0 0] w2 fun (px5 : Addr) w3 =>
  SLC x12 none (some (IntKind.i64.wrap (x12.len - 1))) 1 fun (x17 : Sl) =>
  ∃ (I4 : Int → World → Prop) (m4 : Int → World → Nat), I4 0 w3 ∧ ∀ (x19 : Int) w4, I4 x19 w4 → ∀ _ _ _ _ _ _ _ _ _ _ _ _ _ _ _ _ _ _ _ _ _ _ _ _ _ _ _ _ _ _ _ _ _ _ _ _ _ _ _ _ _ _ _ _ _ _ _ _ _ _ _ _ _ _ _ _ _ _ _ _ _ _ _ _ _ _ _ _ _ _ _ _ _ : Value,
  cond (decide ((x19 : Int) < x17.len)) (
  IX x17 x19 1 fun (px22 : Addr) =>
  LD [.str] px22 w4 fun (x23 : ByteArray) =>
  Calls Tryz.prog F.s_l1Split #[.string x23, .int .u8 32] w4 (Ret [.at .sl] fun (x25 : Sl) w5 =>
  SLC x25 (some 1) none 1 fun (x28 : Sl) =>
  Calls Tryz.prog F.s_maNumbers #[x28.v] w5 (Ret [.at .sl, .at .bool] fun (x29_0 : Sl) (x29_1 : Bool) w6 =>
  cond x29_1 (
  cond ((x19 : Int) == 0) (
  IX x25 0 1 fun (px41 : Addr) =>
  LD [.str] px41 w6 fun (x42 : ByteArray) =>
  cond (x42.toList == (ByteArray.mk #[112, 114, 111, 98, 108, 101, 109]).toList) (
  V_s_ParseProblem_k4 I4 m4 x19 w4 Q px2 px5 x25 x29_0 x29_1 ((x29_0.len : Int) == 2) w6) (
  V_s_ParseProblem_k4 I4 m4 x19 w4 Q px2 px5 x25 x29_0 x29_1 false w6)) (
  V_s_ParseProblem_k4 I4 m4 x19 w4 Q px2 px5 x25 x29_0 x29_1 false w6)) (
  V_s_ParseProblem_k4 I4 m4 x19 w4 Q px2 px5 x25 x29_0 x29_1 false w6)))) (
  LD [.int .i64, .int .i64, .sl, .sl] px5 w4 fun (x87_0 : Int) (x87_1 : Int) (x87_2 : Sl) (x87_3 : Sl) =>
  Calls Tryz.prog F.s_prGood #[.agg #[.int .i64 x87_0, .int .i64 x87_1, x87_2.v, x87_3.v]] w4 (Ret [.at .bool] fun (x88 : Bool) w20 =>
  cond (!x88) (
  ST px2 0 [.int .i64 0, .int .i64 0, .slice none 0 0, .slice none 0 0] w20 fun w22 =>
  LD [.int .i64, .int .i64, .sl, .sl] px2 w22 fun (r0_0_3 : Int) (r0_1_3 : Int) (r0_2_3 : Sl) (r0_3_3 : Sl) =>
  Q r0_0_3 r0_1_3 r0_2_3 r0_3_3 false w22) (
  LD [.int .i64, .int .i64, .sl, .sl] px5 w20 fun (x91_0 : Int) (x91_1 : Int) (x91_2 : Sl) (x91_3 : Sl) =>
  Calls Tryz.prog F.s_prText #[.agg #[.int .i64 x91_0, .int .i64 x91_1, x91_2.v, x91_3.v]] w20 (Ret [.at .str] fun (x92 : ByteArray) w21 =>
  cond (!(x92.toList == x0.toList)) (
  ST px2 0 [.int .i64 0, .int .i64 0, .slice none 0 0, .slice none 0 0] w21 fun w23 =>
  LD [.int .i64, .int .i64, .sl, .sl] px2 w23 fun (r0_0_4 : Int) (r0_1_4 : Int) (r0_2_4 : Sl) (r0_3_4 : Sl) =>
  Q r0_0_4 r0_1_4 r0_2_4 r0_3_4 false w23) (
  LD [.int .i64, .int .i64, .sl, .sl] px5 w21 fun (x97_0_2 : Int) (x97_1_2 : Int) (x97_2_2 : Sl) (x97_3_2 : Sl) =>
  ST px2 0 [.int .i64 x97_0_2, .int .i64 x97_1_2, x97_2_2.v, x97_3_2.v] w21 fun w25 =>
  LD [.int .i64, .int .i64, .sl, .sl] px2 w25 fun (r0_0_6 : Int) (r0_1_6 : Int) (r0_2_6 : Sl) (r0_3_6 : Sl) =>
  Q r0_0_6 r0_1_6 r0_2_6 r0_3_6 true w25))))))

theorem C_s_ParseProblem {Q : Int → Int → Sl → Sl → Bool → World → Prop} {x0 : ByteArray} {w : World} (h : V_s_ParseProblem Q x0 w) : Calls Tryz.prog F.s_ParseProblem #[.string x0] w (Ret [.agg [.int .i64, .int .i64, .sl, .sl], .at .bool] Q) :=
  mkC (hint := hint) (ann := annOf [(4, ⟨[(19, .int .i64)], [3, 6, 7, 8, 9, 10, 20, 21, 22, 23, 24, 25, 26, 27, 28, 29, 30, 31, 32, 33, 34, 35, 36, 37, 38, 39, 40, 41, 42, 43, 44, 45, 46, 47, 48, 49, 50, 51, 52, 53, 54, 55, 56, 57, 58, 59, 60, 61, 62, 63, 64, 65, 66, 67, 68, 69, 70, 71, 72, 73, 74, 75, 76, 77, 78, 79, 80, 81, 82, 83, 84, 85, 86]⟩)]) (args := [.string x0]) (rs := [.agg [.int .i64, .int .i64, .sl, .sl], .at .bool]) Tryz.func44 (by kernel_rfl) (by kernel_rfl) h

def V_s_boNumbers (Q : Sl → World → Prop) (line : ByteArray) (w : World) : Prop :=
  Calls Tryz.prog F.s_l1Split #[.string line, .int .u8 32] w (Ret [.at .sl] fun (x7 : Sl) w1 =>
  SLC x7 (some 1) none 1 fun (x8 : Sl) =>
  ∃ (I3 : Sl → Int → World → Prop) (m3 : Sl → Int → World → Nat), I3 (⟨none, 0, 0⟩) 0 w1 ∧ ∀ (out : Sl) (x10 : Int) w2, I3 out x10 w2 → ∀ _ _ _ _ _ _ _ _ _ _ : Value,
  cond (decide ((x10 : Int) < x8.len)) (
  IX x8 x10 1 fun (px12 : Addr) =>
  LD [.str] px12 w2 fun (x13 : ByteArray) =>
  Calls Tryz.prog F.s_l1Read #[.string x13] w2 (Ret [.at (.int .i64)] fun (x16 : Int) w3 =>
  RUN Tryz.prog (.at .sl) (Instr.buildSlice T.t_sl_int 1 #[(0, .int .i64 x16)]) w3 fun (x17 : Sl) w4 =>
  RUN Tryz.prog (.at .sl) (bsem .append #[T.t_sl_int, T.t_sl_int] T.t_sl_int #[out.v, x17.v]) w4 fun (x18 : Sl) w5 =>
  I3 x18 (IntKind.i64.wrap (x10 + 1)) w5 ∧ m3 x18 (IntKind.i64.wrap (x10 + 1)) w5 < m3 out x10 w2)) (
  Q out w2))

theorem C_s_boNumbers {Q : Sl → World → Prop} {line : ByteArray} {w : World} (h : V_s_boNumbers Q line w) : Calls Tryz.prog F.s_boNumbers #[.string line] w (Ret [.at .sl] Q) :=
  mkC (hint := hint) (ann := annOf [(3, ⟨[(3, .sl), (10, .int .i64)], [5, 11, 12, 13, 14, 15, 16, 17, 18, 19]⟩)]) (args := [.string line]) (rs := [.at .sl]) Tryz.func45 (by kernel_rfl) (by kernel_rfl) h

def V_s_boGood (Q : Bool → World → Prop) (b_0 : Sl) (b_1 : Sl) (b_2 : Sl) (w : World) : Prop :=
  NEW T.t_i_Bound #[b_0.v, b_1.v, b_2.v] w fun (p_b : Addr) w1 =>
  LD [.sl] (p_b.add 0) w1 fun (x4 : Sl) =>
  Calls Tryz.prog F.s_boTwo #[x4.v] w1 (Ret [.at .bool] fun (x5 : Bool) w2 =>
  cond x5 (
  LD [.sl, .sl, .sl] p_b w2 fun (x7_0 : Sl) (x7_1 : Sl) (x7_2 : Sl) =>
  Calls Tryz.prog F.s_boRight #[.agg #[x7_0.v, x7_1.v, x7_2.v]] w2 (Ret [.at .bool] fun (x8 : Bool) w3 =>
  Q x8 w3)) (
  Q false w2))

theorem C_s_boGood {Q : Bool → World → Prop} {b_0 : Sl} {b_1 : Sl} {b_2 : Sl} {w : World} (h : V_s_boGood Q b_0 b_1 b_2 w) : Calls Tryz.prog F.s_boGood #[.agg #[b_0.v, b_1.v, b_2.v]] w (Ret [.at .bool] Q) :=
  mkC (hint := hint) (ann := annOf []) (args := [.agg #[b_0.v, b_1.v, b_2.v]]) (rs := [.at .bool]) Tryz.func46 (by kernel_rfl) (by kernel_rfl) h

def V_s_boText (Q : ByteArray → World → Prop) (b_0 : Sl) (b_1 : Sl) (b_2 : Sl) (w : World) : Prop :=
  NEW T.t_i_Bound #[b_0.v, b_1.v, b_2.v] w fun (p_b : Addr) w1 =>
  LD [.sl] (p_b.add 0) w1 fun (x11 : Sl) =>
  ∃ (I3 : ByteArray → Int → World → Prop) (m3 : ByteArray → Int → World → Nat), I3 (ByteArray.mk #[]) 0 w1 ∧ ∀ (out : ByteArray) (x13 : Int) w2, I3 out x13 w2 → ∀ _ _ _ _ _ _ _ _ _ : Value,
  cond (decide ((x13 : Int) < x11.len)) (
  IX x11 x13 4 fun (px15 : Addr) =>
  LD [.int .i64, .int .i64, .sl, .sl] px15 w2 fun (x16_0 : Int) (x16_1 : Int) (x16_2 : Sl) (x16_3 : Sl) =>
  NEW T.t_i_Problem #[.int .i64 0, .int .i64 0, .slice none 0 0, .slice none 0 0] w2 fun (p_p : Addr) w3 =>
  ST p_p 0 [.int .i64 x16_0, .int .i64 x16_1, x16_2.v, x16_3.v] w3 fun w4 =>
  LD [.int .i64, .int .i64, .sl, .sl] p_p w4 fun (x18_0 : Int) (x18_1 : Int) (x18_2 : Sl) (x18_3 : Sl) =>
  Calls Tryz.prog F.s_prText #[.agg #[.int .i64 x18_0, .int .i64 x18_1, x18_2.v, x18_3.v]] w4 (Ret [.at .str] fun (x19 : ByteArray) w5 =>
  out.size + x19.size ≤ 9223372036854775807 ∧ (
  I3 (out ++ x19) (IntKind.i64.wrap (x13 + 1)) w5 ∧ m3 (out ++ x19) (IntKind.i64.wrap (x13 + 1)) w5 < m3 out x13 w2))) (
  LD [.sl] (p_b.add 1) w2 fun (x23 : Sl) =>
  ∃ (I8 : ByteArray → Int → World → Prop) (m8 : ByteArray → Int → World → Nat), I8 out 0 w2 ∧ ∀ (out_2 : ByteArray) (x25 : Int) w6, I8 out_2 x25 w6 → ∀ _ _ _ _ _ _ _ _ _ : Value,
  cond (decide ((x25 : Int) < x23.len)) (
  IX x23 x25 1 fun (px27 : Addr) =>
  LD [.sl] px27 w6 fun (x28 : Sl) =>
  Calls Tryz.prog F.s_boLine #[.string (ByteArray.mk #[109, 97, 112]), x28.v] w6 (Ret [.at .str] fun (x31 : ByteArray) w7 =>
  out_2.size + x31.size ≤ 9223372036854775807 ∧ (
  I8 (out_2 ++ x31) (IntKind.i64.wrap (x25 + 1)) w7 ∧ m8 (out_2 ++ x31) (IntKind.i64.wrap (x25 + 1)) w7 < m8 out_2 x25 w6))) (
  LD [.sl] (p_b.add 2) w6 fun (x35 : Sl) =>
  ∃ (I13 : ByteArray → Int → World → Prop) (m13 : ByteArray → Int → World → Nat), I13 out_2 0 w6 ∧ ∀ (out_3 : ByteArray) (x37 : Int) w8, I13 out_3 x37 w8 → ∀ _ _ _ _ _ _ _ _ _ : Value,
  cond (decide ((x37 : Int) < x35.len)) (
  IX x35 x37 1 fun (px39 : Addr) =>
  LD [.sl] px39 w8 fun (x40 : Sl) =>
  Calls Tryz.prog F.s_boLine #[.string (ByteArray.mk #[110, 111, 116]), x40.v] w8 (Ret [.at .str] fun (x43 : ByteArray) w9 =>
  out_3.size + x43.size ≤ 9223372036854775807 ∧ (
  I13 (out_3 ++ x43) (IntKind.i64.wrap (x37 + 1)) w9 ∧ m13 (out_3 ++ x43) (IntKind.i64.wrap (x37 + 1)) w9 < m13 out_3 x37 w8))) (
  Q out_3 w8)))

theorem C_s_boText {Q : ByteArray → World → Prop} {b_0 : Sl} {b_1 : Sl} {b_2 : Sl} {w : World} (h : V_s_boText Q b_0 b_1 b_2 w) : Calls Tryz.prog F.s_boText #[.agg #[b_0.v, b_1.v, b_2.v]] w (Ret [.at .str] Q) :=
  mkC (hint := hint) (ann := annOf [(3, ⟨[(3, .str), (13, .int .i64)], [5, 14, 15, 16, 17, 18, 19, 20, 21]⟩), (8, ⟨[(3, .str), (25, .int .i64)], [7, 26, 27, 28, 29, 30, 31, 32, 33]⟩), (13, ⟨[(3, .str), (37, .int .i64)], [9, 38, 39, 40, 41, 42, 43, 44, 45]⟩)]) (args := [.agg #[b_0.v, b_1.v, b_2.v]]) (rs := [.at .str]) Tryz.func47 (by kernel_rfl) (by kernel_rfl) h

def V_i_endedLines (Q : Sl → Bool → World → Prop) (s : ByteArray) (w : World) : Prop :=
  Calls Tryz.prog F.strings_CutSuffix #[.string s, .string (ByteArray.mk #[10])] w (Ret [.at .str, .at .bool] fun (x8_0 : ByteArray) (x8_1 : Bool) w1 =>
  cond (!x8_1) (
  Q (⟨none, 0, 0⟩) false w1) (
  Calls Tryz.prog F.strings_Split #[.string x8_0, .string (ByteArray.mk #[10])] w1 (Ret [.at .sl] fun (x14 : Sl) w2 =>
  Q x14 true w2)))

theorem C_i_endedLines {Q : Sl → Bool → World → Prop} {s : ByteArray} {w : World} (h : V_i_endedLines Q s w) : Calls Tryz.prog F.i_endedLines #[.string s] w (Ret [.at .sl, .at .bool] Q) :=
  mkC (hint := hint) (ann := annOf []) (args := [.string s]) (rs := [.at .sl, .at .bool]) Tryz.func48 (by kernel_rfl) (by kernel_rfl) h

def V_i_boundLine_k6 (x0 : Addr) (Q : Bool → World → Prop) (x10 : Sl) (x14_0 : Sl) (x8 : Addr) (w66 : World) : Prop :=
  IX x10 0 1 fun (px62 : Addr) =>
  LD [.str] px62 w66 fun (x63 : ByteArray) =>
  cond (x63.toList == (ByteArray.mk #[110, 111, 100, 101]).toList) (
  LD [.sl] (x8.add 2) w66 fun (x70 : Sl) =>
  RUN Tryz.prog (.at .sl) (Instr.buildSlice T.t_sl_sl_int 1 #[(0, x14_0.v)]) w66 fun (x72 : Sl) w67 =>
  RUN Tryz.prog (.at .sl) (bsem .append #[T.t_sl_sl_int, T.t_sl_sl_int] T.t_sl_sl_int #[x70.v, x72.v]) w67 fun (x73 : Sl) w68 =>
  ST (x8.add 2) 0 [x73.v] w68 fun w69 =>
  Q true w69) (
  cond (x63.toList == (ByteArray.mk #[101, 100, 103, 101]).toList) (
  LD [.sl] (x8.add 3) w66 fun (x82 : Sl) =>
  RUN Tryz.prog (.at .sl) (Instr.buildSlice T.t_sl_sl_int 1 #[(0, x14_0.v)]) w66 fun (x84 : Sl) w70 =>
  RUN Tryz.prog (.at .sl) (bsem .append #[T.t_sl_sl_int, T.t_sl_sl_int] T.t_sl_sl_int #[x82.v, x84.v]) w70 fun (x85 : Sl) w71 =>
  ST (x8.add 3) 0 [x85.v] w71 fun w72 =>
  Q true w72) (
  cond (x63.toList == (ByteArray.mk #[109, 97, 112]).toList) (
  LD [.sl] (x0.add 1) w66 fun (x94 : Sl) =>
  RUN Tryz.prog (.at .sl) (Instr.buildSlice T.t_sl_sl_int 1 #[(0, x14_0.v)]) w66 fun (x96 : Sl) w73 =>
  RUN Tryz.prog (.at .sl) (bsem .append #[T.t_sl_sl_int, T.t_sl_sl_int] T.t_sl_sl_int #[x94.v, x96.v]) w73 fun (x97 : Sl) w74 =>
  ST (x0.add 1) 0 [x97.v] w74 fun w75 =>
  Q true w75) (
  cond (x63.toList == (ByteArray.mk #[110, 111, 116]).toList) (
  LD [.sl] (x0.add 2) w66 fun (x106 : Sl) =>
  RUN Tryz.prog (.at .sl) (Instr.buildSlice T.t_sl_sl_int 1 #[(0, x14_0.v)]) w66 fun (x108 : Sl) w76 =>
  RUN Tryz.prog (.at .sl) (bsem .append #[T.t_sl_sl_int, T.t_sl_sl_int] T.t_sl_sl_int #[x106.v, x108.v]) w76 fun (x109 : Sl) w77 =>
  ST (x0.add 2) 0 [x109.v] w77 fun w78 =>
  Q true w78) (
  Q false w66))))

def V_i_boundLine_k2 (x0 : Addr) (Q : Bool → World → Prop) (x10 : Sl) (x14_0 : Sl) (w64 : World) : Prop :=
  LD [.sl] (x0.add 0) w64 fun (x47 : Sl) =>
  cond ((x47.len : Int) == 0) (
  Q false w64) (
  ∀ w65, Ext w64 w65 → w65.heap = w64.heap →
  (
  Ext w65 w65 ∧ (
  LD [.sl] (x0.add 0) w65 fun (x53 : Sl) =>
  Ext w65 w65 ∧ (
  Ext w65 w65 ∧ (
  LD [.sl] (x0.add 0) w65 fun (x57 : Sl) =>
  Ext w65 w65 ∧ (
  Ext w65 w65 ∧ (
  Ext w65 w65 ∧ (
  IX x53 (IntKind.i64.wrap (x57.len - 1)) 4 fun (px60 : Addr) =>
  Ext w65 w65 ∧ (
  Ext w65 w65 ∧ (
  V_i_boundLine_k6 x0 Q x10 x14_0 px60 w65))))))))) ∧ (
  Ext w65 w65 ∧ (
  LD [.sl] (x0.add 0) w65 fun (x57_2 : Sl) =>
  Ext w65 w65 ∧ (
  Ext w65 w65 ∧ (
  LD [.sl] (x0.add 0) w65 fun (x53_2 : Sl) =>
  Ext w65 w65 ∧ (
  IX x53_2 (IntKind.i64.wrap (x57_2.len - 1)) 4 fun (px60_2 : Addr) =>
  Ext w65 w65 ∧ (
  Ext w65 w65 ∧ (
  V_i_boundLine_k6 x0 Q x10 x14_0 px60_2 w65))))))))

def V_i_boundLine (Q : Bool → World → Prop) (x0 : Addr) (x1 : ByteArray) (w : World) : Prop :=
  Calls Tryz.prog F.strings_Split #[.string x1, .string (ByteArray.mk #[32])] w (Ret [.at .sl] fun (x10 : Sl) w1 =>
  SLC x10 (some 1) none 1 fun (x13 : Sl) =>
  Calls Tryz.prog F.i_starNumbers #[x13.v] w1 (Ret [.at .sl, .at .bool] fun (x14_0 : Sl) (x14_1 : Bool) w2 =>
  cond (!x14_1) (
  Q false w2) (
  IX x10 0 1 fun (px20 : Addr) =>
  LD [.str] px20 w2 fun (x21 : ByteArray) =>
  cond (x21.toList == (ByteArray.mk #[112, 114, 111, 98, 108, 101, 109]).toList) (
  cond ((x14_0.len : Int) == 2) (
  ∀ w3, Ext w2 w3 → w3.heap = w2.heap →
  IX x14_0 0 1 fun (px34 : Addr) =>
  IX x14_0 1 1 fun (px37 : Addr) =>
  (
  (
  LD [.sl] (x0.add 0) w3 fun (x32 : Sl) =>
  (
  LD [.int .i64] px34 w3 fun (x35 : Int) =>
  LD [.int .i64] px37 w3 fun (x38 : Int) =>
  RUN Tryz.prog (.at .sl) (Instr.buildSlice T.t_sl_i_Problem 1 #[(0, .agg #[.int .i64 x35, .int .i64 x38, .slice none 0 0, .slice none 0 0])]) w3 fun (x40 : Sl) w4 =>
  RUN Tryz.prog (.at .sl) (bsem .append #[T.t_sl_i_Problem, T.t_sl_i_Problem] T.t_sl_i_Problem #[x32.v, x40.v]) w4 fun (x41 : Sl) w5 =>
  ST (x0.add 0) 0 [x41.v] w5 fun w6 =>
  Q true w6) ∧ (
  LD [.int .i64] px37 w3 fun (x38_2 : Int) =>
  LD [.int .i64] px34 w3 fun (x35_2 : Int) =>
  RUN Tryz.prog (.at .sl) (Instr.buildSlice T.t_sl_i_Problem 1 #[(0, .agg #[.int .i64 x35_2, .int .i64 x38_2, .slice none 0 0, .slice none 0 0])]) w3 fun (x40_2 : Sl) w7 =>
  RUN Tryz.prog (.at .sl) (bsem .append #[T.t_sl_i_Problem, T.t_sl_i_Problem] T.t_sl_i_Problem #[x32.v, x40_2.v]) w7 fun (x41_2 : Sl) w8 =>
  ST (x0.add 0) 0 [x41_2.v] w8 fun w9 =>
  Q true w9)) ∧ (
  LD [.int .i64] px34 w3 fun (x35_3 : Int) =>
  (
  LD [.sl] (x0.add 0) w3 fun (x32_2 : Sl) =>
  LD [.int .i64] px37 w3 fun (x38_3 : Int) =>
  RUN Tryz.prog (.at .sl) (Instr.buildSlice T.t_sl_i_Problem 1 #[(0, .agg #[.int .i64 x35_3, .int .i64 x38_3, .slice none 0 0, .slice none 0 0])]) w3 fun (x40_3 : Sl) w10 =>
  RUN Tryz.prog (.at .sl) (bsem .append #[T.t_sl_i_Problem, T.t_sl_i_Problem] T.t_sl_i_Problem #[x32_2.v, x40_3.v]) w10 fun (x41_3 : Sl) w11 =>
  ST (x0.add 0) 0 [x41_3.v] w11 fun w12 =>
  Q true w12) ∧ (
  LD [.int .i64] px37 w3 fun (x38_4 : Int) =>
  (
  LD [.sl] (x0.add 0) w3 fun (x32_3 : Sl) =>
  RUN Tryz.prog (.at .sl) (Instr.buildSlice T.t_sl_i_Problem 1 #[(0, .agg #[.int .i64 x35_3, .int .i64 x38_4, .slice none 0 0, .slice none 0 0])]) w3 fun (x40_4 : Sl) w13 =>
  RUN Tryz.prog (.at .sl) (bsem .append #[T.t_sl_i_Problem, T.t_sl_i_Problem] T.t_sl_i_Problem #[x32_3.v, x40_4.v]) w13 fun (x41_4 : Sl) w14 =>
  ST (x0.add 0) 0 [x41_4.v] w14 fun w15 =>
  Q true w15) ∧ (
  RUN Tryz.prog (.at .sl) (Instr.buildSlice T.t_sl_i_Problem 1 #[(0, .agg #[.int .i64 x35_3, .int .i64 x38_4, .slice none 0 0, .slice none 0 0])]) w3 fun (x40_5 : Sl) w16 =>
  LD [.sl] (x0.add 0) w16 fun (x32_4 : Sl) =>
  RUN Tryz.prog (.at .sl) (bsem .append #[T.t_sl_i_Problem, T.t_sl_i_Problem] T.t_sl_i_Problem #[x32_4.v, x40_5.v]) w16 fun (x41_5 : Sl) w17 =>
  ST (x0.add 0) 0 [x41_5.v] w17 fun w18 =>
  Q true w18))) ∧ (
  LD [.int .i64] px37 w3 fun (x38_5 : Int) =>
  (
  LD [.sl] (x0.add 0) w3 fun (x32_5 : Sl) =>
  LD [.int .i64] px34 w3 fun (x35_4 : Int) =>
  RUN Tryz.prog (.at .sl) (Instr.buildSlice T.t_sl_i_Problem 1 #[(0, .agg #[.int .i64 x35_4, .int .i64 x38_5, .slice none 0 0, .slice none 0 0])]) w3 fun (x40_6 : Sl) w19 =>
  RUN Tryz.prog (.at .sl) (bsem .append #[T.t_sl_i_Problem, T.t_sl_i_Problem] T.t_sl_i_Problem #[x32_5.v, x40_6.v]) w19 fun (x41_6 : Sl) w20 =>
  ST (x0.add 0) 0 [x41_6.v] w20 fun w21 =>
  Q true w21) ∧ (
  LD [.int .i64] px34 w3 fun (x35_5 : Int) =>
  (
  LD [.sl] (x0.add 0) w3 fun (x32_6 : Sl) =>
  RUN Tryz.prog (.at .sl) (Instr.buildSlice T.t_sl_i_Problem 1 #[(0, .agg #[.int .i64 x35_5, .int .i64 x38_5, .slice none 0 0, .slice none 0 0])]) w3 fun (x40_7 : Sl) w22 =>
  RUN Tryz.prog (.at .sl) (bsem .append #[T.t_sl_i_Problem, T.t_sl_i_Problem] T.t_sl_i_Problem #[x32_6.v, x40_7.v]) w22 fun (x41_7 : Sl) w23 =>
  ST (x0.add 0) 0 [x41_7.v] w23 fun w24 =>
  Q true w24) ∧ (
  RUN Tryz.prog (.at .sl) (Instr.buildSlice T.t_sl_i_Problem 1 #[(0, .agg #[.int .i64 x35_5, .int .i64 x38_5, .slice none 0 0, .slice none 0 0])]) w3 fun (x40_8 : Sl) w25 =>
  LD [.sl] (x0.add 0) w25 fun (x32_7 : Sl) =>
  RUN Tryz.prog (.at .sl) (bsem .append #[T.t_sl_i_Problem, T.t_sl_i_Problem] T.t_sl_i_Problem #[x32_7.v, x40_8.v]) w25 fun (x41_8 : Sl) w26 =>
  ST (x0.add 0) 0 [x41_8.v] w26 fun w27 =>
  Q true w27)))) ∧ (
  LD [.int .i64] px34 w3 fun (x35_6 : Int) =>
  (
  (
  LD [.sl] (x0.add 0) w3 fun (x32_8 : Sl) =>
  LD [.int .i64] px37 w3 fun (x38_6 : Int) =>
  RUN Tryz.prog (.at .sl) (Instr.buildSlice T.t_sl_i_Problem 1 #[(0, .agg #[.int .i64 x35_6, .int .i64 x38_6, .slice none 0 0, .slice none 0 0])]) w3 fun (x40_9 : Sl) w28 =>
  RUN Tryz.prog (.at .sl) (bsem .append #[T.t_sl_i_Problem, T.t_sl_i_Problem] T.t_sl_i_Problem #[x32_8.v, x40_9.v]) w28 fun (x41_9 : Sl) w29 =>
  ST (x0.add 0) 0 [x41_9.v] w29 fun w30 =>
  Q true w30) ∧ (
  LD [.int .i64] px37 w3 fun (x38_7 : Int) =>
  (
  LD [.sl] (x0.add 0) w3 fun (x32_9 : Sl) =>
  RUN Tryz.prog (.at .sl) (Instr.buildSlice T.t_sl_i_Problem 1 #[(0, .agg #[.int .i64 x35_6, .int .i64 x38_7, .slice none 0 0, .slice none 0 0])]) w3 fun (x40_10 : Sl) w31 =>
  RUN Tryz.prog (.at .sl) (bsem .append #[T.t_sl_i_Problem, T.t_sl_i_Problem] T.t_sl_i_Problem #[x32_9.v, x40_10.v]) w31 fun (x41_10 : Sl) w32 =>
  ST (x0.add 0) 0 [x41_10.v] w32 fun w33 =>
  Q true w33) ∧ (
  RUN Tryz.prog (.at .sl) (Instr.buildSlice T.t_sl_i_Problem 1 #[(0, .agg #[.int .i64 x35_6, .int .i64 x38_7, .slice none 0 0, .slice none 0 0])]) w3 fun (x40_11 : Sl) w34 =>
  LD [.sl] (x0.add 0) w34 fun (x32_10 : Sl) =>
  RUN Tryz.prog (.at .sl) (bsem .append #[T.t_sl_i_Problem, T.t_sl_i_Problem] T.t_sl_i_Problem #[x32_10.v, x40_11.v]) w34 fun (x41_11 : Sl) w35 =>
  ST (x0.add 0) 0 [x41_11.v] w35 fun w36 =>
  Q true w36))) ∧ (
  LD [.int .i64] px37 w3 fun (x38_8 : Int) =>
  (
  (
  LD [.sl] (x0.add 0) w3 fun (x32_11 : Sl) =>
  RUN Tryz.prog (.at .sl) (Instr.buildSlice T.t_sl_i_Problem 1 #[(0, .agg #[.int .i64 x35_6, .int .i64 x38_8, .slice none 0 0, .slice none 0 0])]) w3 fun (x40_12 : Sl) w37 =>
  RUN Tryz.prog (.at .sl) (bsem .append #[T.t_sl_i_Problem, T.t_sl_i_Problem] T.t_sl_i_Problem #[x32_11.v, x40_12.v]) w37 fun (x41_12 : Sl) w38 =>
  ST (x0.add 0) 0 [x41_12.v] w38 fun w39 =>
  Q true w39) ∧ (
  RUN Tryz.prog (.at .sl) (Instr.buildSlice T.t_sl_i_Problem 1 #[(0, .agg #[.int .i64 x35_6, .int .i64 x38_8, .slice none 0 0, .slice none 0 0])]) w3 fun (x40_13 : Sl) w40 =>
  LD [.sl] (x0.add 0) w40 fun (x32_12 : Sl) =>
  RUN Tryz.prog (.at .sl) (bsem .append #[T.t_sl_i_Problem, T.t_sl_i_Problem] T.t_sl_i_Problem #[x32_12.v, x40_13.v]) w40 fun (x41_13 : Sl) w41 =>
  ST (x0.add 0) 0 [x41_13.v] w41 fun w42 =>
  Q true w42)) ∧ (
  RUN Tryz.prog (.at .sl) (Instr.buildSlice T.t_sl_i_Problem 1 #[(0, .agg #[.int .i64 x35_6, .int .i64 x38_8, .slice none 0 0, .slice none 0 0])]) w3 fun (x40_14 : Sl) w43 =>
  LD [.sl] (x0.add 0) w43 fun (x32_13 : Sl) =>
  RUN Tryz.prog (.at .sl) (bsem .append #[T.t_sl_i_Problem, T.t_sl_i_Problem] T.t_sl_i_Problem #[x32_13.v, x40_14.v]) w43 fun (x41_14 : Sl) w44 =>
  ST (x0.add 0) 0 [x41_14.v] w44 fun w45 =>
  Q true w45))) ∧ (
  LD [.int .i64] px37 w3 fun (x38_9 : Int) =>
  (
  (
  LD [.sl] (x0.add 0) w3 fun (x32_14 : Sl) =>
  LD [.int .i64] px34 w3 fun (x35_7 : Int) =>
  RUN Tryz.prog (.at .sl) (Instr.buildSlice T.t_sl_i_Problem 1 #[(0, .agg #[.int .i64 x35_7, .int .i64 x38_9, .slice none 0 0, .slice none 0 0])]) w3 fun (x40_15 : Sl) w46 =>
  RUN Tryz.prog (.at .sl) (bsem .append #[T.t_sl_i_Problem, T.t_sl_i_Problem] T.t_sl_i_Problem #[x32_14.v, x40_15.v]) w46 fun (x41_15 : Sl) w47 =>
  ST (x0.add 0) 0 [x41_15.v] w47 fun w48 =>
  Q true w48) ∧ (
  LD [.int .i64] px34 w3 fun (x35_8 : Int) =>
  (
  LD [.sl] (x0.add 0) w3 fun (x32_15 : Sl) =>
  RUN Tryz.prog (.at .sl) (Instr.buildSlice T.t_sl_i_Problem 1 #[(0, .agg #[.int .i64 x35_8, .int .i64 x38_9, .slice none 0 0, .slice none 0 0])]) w3 fun (x40_16 : Sl) w49 =>
  RUN Tryz.prog (.at .sl) (bsem .append #[T.t_sl_i_Problem, T.t_sl_i_Problem] T.t_sl_i_Problem #[x32_15.v, x40_16.v]) w49 fun (x41_16 : Sl) w50 =>
  ST (x0.add 0) 0 [x41_16.v] w50 fun w51 =>
  Q true w51) ∧ (
  RUN Tryz.prog (.at .sl) (Instr.buildSlice T.t_sl_i_Problem 1 #[(0, .agg #[.int .i64 x35_8, .int .i64 x38_9, .slice none 0 0, .slice none 0 0])]) w3 fun (x40_17 : Sl) w52 =>
  LD [.sl] (x0.add 0) w52 fun (x32_16 : Sl) =>
  RUN Tryz.prog (.at .sl) (bsem .append #[T.t_sl_i_Problem, T.t_sl_i_Problem] T.t_sl_i_Problem #[x32_16.v, x40_17.v]) w52 fun (x41_17 : Sl) w53 =>
  ST (x0.add 0) 0 [x41_17.v] w53 fun w54 =>
  Q true w54))) ∧ (
  LD [.int .i64] px34 w3 fun (x35_9 : Int) =>
  (
  (
  LD [.sl] (x0.add 0) w3 fun (x32_17 : Sl) =>
  RUN Tryz.prog (.at .sl) (Instr.buildSlice T.t_sl_i_Problem 1 #[(0, .agg #[.int .i64 x35_9, .int .i64 x38_9, .slice none 0 0, .slice none 0 0])]) w3 fun (x40_18 : Sl) w55 =>
  RUN Tryz.prog (.at .sl) (bsem .append #[T.t_sl_i_Problem, T.t_sl_i_Problem] T.t_sl_i_Problem #[x32_17.v, x40_18.v]) w55 fun (x41_18 : Sl) w56 =>
  ST (x0.add 0) 0 [x41_18.v] w56 fun w57 =>
  Q true w57) ∧ (
  RUN Tryz.prog (.at .sl) (Instr.buildSlice T.t_sl_i_Problem 1 #[(0, .agg #[.int .i64 x35_9, .int .i64 x38_9, .slice none 0 0, .slice none 0 0])]) w3 fun (x40_19 : Sl) w58 =>
  LD [.sl] (x0.add 0) w58 fun (x32_18 : Sl) =>
  RUN Tryz.prog (.at .sl) (bsem .append #[T.t_sl_i_Problem, T.t_sl_i_Problem] T.t_sl_i_Problem #[x32_18.v, x40_19.v]) w58 fun (x41_19 : Sl) w59 =>
  ST (x0.add 0) 0 [x41_19.v] w59 fun w60 =>
  Q true w60)) ∧ (
  RUN Tryz.prog (.at .sl) (Instr.buildSlice T.t_sl_i_Problem 1 #[(0, .agg #[.int .i64 x35_9, .int .i64 x38_9, .slice none 0 0, .slice none 0 0])]) w3 fun (x40_20 : Sl) w61 =>
  LD [.sl] (x0.add 0) w61 fun (x32_19 : Sl) =>
  RUN Tryz.prog (.at .sl) (bsem .append #[T.t_sl_i_Problem, T.t_sl_i_Problem] T.t_sl_i_Problem #[x32_19.v, x40_20.v]) w61 fun (x41_20 : Sl) w62 =>
  ST (x0.add 0) 0 [x41_20.v] w62 fun w63 =>
  Q true w63)))) (
  V_i_boundLine_k2 x0 Q x10 x14_0 w2)) (
  V_i_boundLine_k2 x0 Q x10 x14_0 w2))))

theorem C_i_boundLine {Q : Bool → World → Prop} {x0 : Addr} {x1 : ByteArray} {w : World} (h : V_i_boundLine Q x0 x1 w) : Calls Tryz.prog F.i_boundLine #[.pointer (some x0), .string x1] w (Ret [.at .bool] Q) :=
  mkC (hint := hint) (ann := annOf [(600006, ⟨[], [1]⟩)]) (args := [.pointer (some x0), .string x1]) (rs := [.at .bool]) Tryz.func49 (by kernel_rfl) (by kernel_rfl) h

def V_i_BoundText (Q : ByteArray → Bool → World → Prop) (b_0 : Sl) (b_1 : Sl) (b_2 : Sl) (w : World) : Prop :=
  NEW T.t_i_Bound #[b_0.v, b_1.v, b_2.v] w fun (p_b : Addr) w1 =>
  LD [.sl, .sl, .sl] p_b w1 fun (x14_0 : Sl) (x14_1 : Sl) (x14_2 : Sl) =>
  Calls Tryz.prog F.i_BoundOf #[.agg #[x14_0.v, x14_1.v, x14_2.v]] w1 (Ret [.at (.int .i64), .at .bool] fun (x15_0 : Int) (x15_1 : Bool) w2 =>
  cond (!x15_1) (
  Q (ByteArray.mk #[]) false w2) (
  NEW T.t_strings_Builder #[.pointer none, .slice none 0 0] w2 fun (p_out : Addr) w3 =>
  LD [.sl] (p_b.add 0) w3 fun (x21 : Sl) =>
  ∃ (I6 : Int → World → Prop) (m6 : Int → World → Nat), I6 0 w3 ∧ ∀ (x23 : Int) w4, I6 x23 w4 → ∀ _ _ _ _ _ _ _ _ : Value,
  cond (decide ((x23 : Int) < x21.len)) (
  IX x21 x23 4 fun (px25 : Addr) =>
  LD [.int .i64, .int .i64, .sl, .sl] px25 w4 fun (x26_0 : Int) (x26_1 : Int) (x26_2 : Sl) (x26_3 : Sl) =>
  NEW T.t_i_Problem #[.int .i64 0, .int .i64 0, .slice none 0 0, .slice none 0 0] w4 fun (p_p : Addr) w5 =>
  ST p_p 0 [.int .i64 x26_0, .int .i64 x26_1, x26_2.v, x26_3.v] w5 fun w6 =>
  LD [.int .i64, .int .i64, .sl, .sl] p_p w6 fun (x27_0 : Int) (x27_1 : Int) (x27_2 : Sl) (x27_3 : Sl) =>
  Calls Tryz.prog F.i_problemText #[.agg #[.int .i64 x27_0, .int .i64 x27_1, x27_2.v, x27_3.v]] w6 (Ret [.at .str] fun (x28 : ByteArray) w7 =>
  Calls Tryz.prog F.ptr_strings_Builder_WriteString #[.pointer (some p_out), .string x28] w7 (Ret [.at (.int .i64), .at .val] fun (x29_0 : Int) (x29_1 : Value) w8 =>
  I6 (IntKind.i64.wrap (x23 + 1)) w8 ∧ m6 (IntKind.i64.wrap (x23 + 1)) w8 < m6 x23 w4))) (
  LD [.sl] (p_b.add 1) w4 fun (x32 : Sl) =>
  ∃ (I11 : Int → World → Prop) (m11 : Int → World → Nat), I11 0 w4 ∧ ∀ (x34 : Int) w9, I11 x34 w9 → ∀ _ _ _ _ _ _ _ _ _ : Value,
  cond (decide ((x34 : Int) < x32.len)) (
  IX x32 x34 1 fun (px36 : Addr) =>
  LD [.sl] px36 w9 fun (x37 : Sl) =>
  Calls Tryz.prog F.i_wordsLine #[.string (ByteArray.mk #[109, 97, 112]), x37.v] w9 (Ret [.at .str] fun (x39 : ByteArray) w10 =>
  x39.size + (ByteArray.mk #[10]).size ≤ 9223372036854775807 ∧ (
  Calls Tryz.prog F.ptr_strings_Builder_WriteString #[.pointer (some p_out), .string (x39 ++ (ByteArray.mk #[10]))] w10 (Ret [.at (.int .i64), .at .val] fun (x41_0 : Int) (x41_1 : Value) w11 =>
  I11 (IntKind.i64.wrap (x34 + 1)) w11 ∧ m11 (IntKind.i64.wrap (x34 + 1)) w11 < m11 x34 w9)))) (
  LD [.sl] (p_b.add 2) w9 fun (x44 : Sl) =>
  ∃ (I16 : Int → World → Prop) (m16 : Int → World → Nat), I16 0 w9 ∧ ∀ (x46 : Int) w12, I16 x46 w12 → ∀ _ _ _ _ _ _ _ _ _ : Value,
  cond (decide ((x46 : Int) < x44.len)) (
  IX x44 x46 1 fun (px48 : Addr) =>
  LD [.sl] px48 w12 fun (x49 : Sl) =>
  Calls Tryz.prog F.i_wordsLine #[.string (ByteArray.mk #[110, 111, 116]), x49.v] w12 (Ret [.at .str] fun (x51 : ByteArray) w13 =>
  x51.size + (ByteArray.mk #[10]).size ≤ 9223372036854775807 ∧ (
  Calls Tryz.prog F.ptr_strings_Builder_WriteString #[.pointer (some p_out), .string (x51 ++ (ByteArray.mk #[10]))] w13 (Ret [.at (.int .i64), .at .val] fun (x53_0 : Int) (x53_1 : Value) w14 =>
  I16 (IntKind.i64.wrap (x46 + 1)) w14 ∧ m16 (IntKind.i64.wrap (x46 + 1)) w14 < m16 x46 w12)))) (
  Calls Tryz.prog F.ptr_strings_Builder_String #[.pointer (some p_out)] w12 (Ret [.at .str] fun (x55 : ByteArray) w15 =>
  Q x55 true w15))))))

theorem C_i_BoundText {Q : ByteArray → Bool → World → Prop} {b_0 : Sl} {b_1 : Sl} {b_2 : Sl} {w : World} (h : V_i_BoundText Q b_0 b_1 b_2 w) : Calls Tryz.prog F.i_BoundText #[.agg #[b_0.v, b_1.v, b_2.v]] w (Ret [.at .str, .at .bool] Q) :=
  mkC (hint := hint) (ann := annOf [(6, ⟨[(23, .int .i64)], [8, 24, 25, 26, 27, 28, 29, 30]⟩), (11, ⟨[(34, .int .i64)], [10, 35, 36, 37, 38, 39, 40, 41, 42]⟩), (16, ⟨[(46, .int .i64)], [12, 47, 48, 49, 50, 51, 52, 53, 54]⟩)]) (args := [.agg #[b_0.v, b_1.v, b_2.v]]) (rs := [.at .str, .at .bool]) Tryz.func50 (by kernel_rfl) (by kernel_rfl) h

def V_l_eqProblemS (Q : Bool → World → Prop) (a : Sl) (b : Sl) (w : World) : Prop :=
  cond ((a.len : Int) != b.len) (
  Q false w) (
  ∃ (I4 : Int → World → Prop) (m4 : Int → World → Nat), I4 0 w ∧ ∀ (i : Int) w1, I4 i w1 → ∀ _ _ _ _ _ _ _ _ _ _ _ _ _ _ _ _ _ : Value,
  cond (decide ((i : Int) < a.len)) (
  IX a i 4 fun (px19 : Addr) =>
  LD [.int .i64, .int .i64, .sl, .sl] px19 w1 fun (x20_0 : Int) (x20_1 : Int) (x20_2 : Sl) (x20_3 : Sl) =>
  IX b i 4 fun (px23 : Addr) =>
  LD [.int .i64, .int .i64, .sl, .sl] px23 w1 fun (x24_0 : Int) (x24_1 : Int) (x24_2 : Sl) (x24_3 : Sl) =>
  QCALL Tryz.prog F.l_eqProblem #[.agg #[.int .i64 x20_0, .int .i64 x20_1, x20_2.v, x20_3.v], .agg #[.int .i64 x24_0, .int .i64 x24_1, x24_2.v, x24_3.v]] w1 [.at .bool] fun (x25 : Bool) =>
  ∀ w2, Ext w1 w2 →
  cond (!x25) (
  Q false w2) (
  I4 (IntKind.i64.wrap (i + 1)) w2 ∧ m4 (IntKind.i64.wrap (i + 1)) w2 < m4 i w1)) (
  Q true w1))

theorem C_l_eqProblemS {Q : Bool → World → Prop} {a : Sl} {b : Sl} {w : World} (h : V_l_eqProblemS Q a b w) : Calls Tryz.prog F.l_eqProblemS #[a.v, b.v] w (Ret [.at .bool] Q) :=
  mkC (hint := hint) (ann := annOf [(4, ⟨[(5, .int .i64)], [4, 11, 12, 13, 14, 15, 16, 17, 18, 19, 20, 21, 22, 23, 24, 25, 26]⟩)]) (args := [a.v, b.v]) (rs := [.at .bool]) Tryz.func51 (by kernel_rfl) (by kernel_rfl) h

def V_l_markProblemS (Q : Int → World → Prop) (a : Sl) (k : Int) (w : World) : Prop :=
  ∃ (I2 : Int → Int → World → Prop) (m2 : Int → Int → World → Nat), I2 k 0 w ∧ ∀ (k_2 : Int) (i : Int) w1, I2 k_2 i w1 → ∀ _ _ _ _ _ _ _ _ _ _ _ _ _ _ _ _ _ _ _ _ _ _ _ _ _ _ _ _ _ _ _ _ _ _ : Value,
  cond (decide ((i : Int) < a.len)) (
  IX a i 4 fun (px15 : Addr) =>
  ST (px15.add 0) 0 [.int .i64 k_2] w1 fun w2 =>
  IX a i 4 fun (px22 : Addr) =>
  ST (px22.add 1) 0 [.int .i64 (IntKind.i64.wrap (k_2 + 1))] w2 fun w3 =>
  IX a i 4 fun (px28 : Addr) =>
  LD [.sl] (px28.add 2) w3 fun (x30 : Sl) =>
  Calls Tryz.prog F.l_markIntSS #[x30.v, .int .i64 (IntKind.i64.wrap ((IntKind.i64.wrap (k_2 + 1)) + 1))] w3 (Ret [.at (.int .i64)] fun (x32 : Int) w4 =>
  IX a i 4 fun (px35 : Addr) =>
  LD [.sl] (px35.add 3) w4 fun (x37 : Sl) =>
  Calls Tryz.prog F.l_markIntSS #[x37.v, .int .i64 x32] w4 (Ret [.at (.int .i64)] fun (x39 : Int) w5 =>
  I2 x39 (IntKind.i64.wrap (i + 1)) w5 ∧ m2 x39 (IntKind.i64.wrap (i + 1)) w5 < m2 k_2 i w1))) (
  Q k_2 w1)

theorem C_l_markProblemS {Q : Int → World → Prop} {a : Sl} {k : Int} {w : World} (h : V_l_markProblemS Q a k w) : Calls Tryz.prog F.l_markProblemS #[a.v, .int .i64 k] w (Ret [.at (.int .i64)] Q) :=
  mkC (hint := hint) (ann := annOf [(2, ⟨[(1, .int .i64), (5, .int .i64)], [6, 7, 8, 9, 10, 11, 12, 13, 14, 15, 16, 17, 18, 19, 20, 21, 22, 23, 24, 25, 26, 27, 28, 29, 30, 31, 32, 33, 34, 35, 36, 37, 38, 39]⟩)]) (args := [a.v, .int .i64 k]) (rs := [.at (.int .i64)]) Tryz.func52 (by kernel_rfl) (by kernel_rfl) h

def V_l_heldProblemS (Q : Int → World → Prop) (a : Sl) (k : Int) (w : World) : Prop :=
  ∃ (I2 : Int → Int → World → Prop) (m2 : Int → Int → World → Nat), I2 k 0 w ∧ ∀ (k_2 : Int) (i : Int) w1, I2 k_2 i w1 → ∀ _ _ _ _ _ _ _ _ _ _ _ _ _ _ _ _ _ _ _ _ _ _ _ _ _ _ _ _ _ _ _ _ _ _ _ _ _ _ _ _ _ _ _ : Value,
  cond (decide ((i : Int) < a.len)) (
  IX a i 4 fun (px14 : Addr) =>
  LD [.int .i64] (px14.add 0) w1 fun (x16 : Int) =>
  cond ((x16 : Int) != k_2) (
  Q (-1) w1) (
  IX a i 4 fun (px23 : Addr) =>
  LD [.int .i64] (px23.add 1) w1 fun (x25 : Int) =>
  cond ((x25 : Int) != (IntKind.i64.wrap (k_2 + 1))) (
  Q (-1) w1) (
  IX a i 4 fun (px32 : Addr) =>
  LD [.sl] (px32.add 2) w1 fun (x34 : Sl) =>
  Calls Tryz.prog F.l_heldIntSS #[x34.v, .int .i64 (IntKind.i64.wrap ((IntKind.i64.wrap (k_2 + 1)) + 1))] w1 (Ret [.at (.int .i64)] fun (x36 : Int) w2 =>
  cond (decide ((x36 : Int) < 0)) (
  Q (-1) w2) (
  IX a i 4 fun (px41 : Addr) =>
  LD [.sl] (px41.add 3) w2 fun (x43 : Sl) =>
  Calls Tryz.prog F.l_heldIntSS #[x43.v, .int .i64 x36] w2 (Ret [.at (.int .i64)] fun (x45 : Int) w3 =>
  cond (decide ((x45 : Int) < 0)) (
  Q (-1) w3) (
  I2 x45 (IntKind.i64.wrap (i + 1)) w3 ∧ m2 x45 (IntKind.i64.wrap (i + 1)) w3 < m2 k_2 i w1))))))) (
  Q k_2 w1)

theorem C_l_heldProblemS {Q : Int → World → Prop} {a : Sl} {k : Int} {w : World} (h : V_l_heldProblemS Q a k w) : Calls Tryz.prog F.l_heldProblemS #[a.v, .int .i64 k] w (Ret [.at (.int .i64)] Q) :=
  mkC (hint := hint) (ann := annOf [(2, ⟨[(1, .int .i64), (5, .int .i64)], [4, 6, 7, 8, 9, 10, 11, 12, 13, 14, 15, 16, 17, 18, 19, 20, 21, 22, 23, 24, 25, 26, 27, 28, 29, 30, 31, 32, 33, 34, 35, 36, 37, 38, 39, 40, 41, 42, 43, 44, 45, 46, 47]⟩)]) (args := [a.v, .int .i64 k]) (rs := [.at (.int .i64)]) Tryz.func53 (by kernel_rfl) (by kernel_rfl) h

def V_l_heldIntSS (Q : Int → World → Prop) (a : Sl) (k : Int) (w : World) : Prop :=
  ∃ (I2 : Int → Int → World → Prop) (m2 : Int → Int → World → Nat), I2 k 0 w ∧ ∀ (k_2 : Int) (i : Int) w1, I2 k_2 i w1 → ∀ _ _ _ _ _ _ _ _ _ _ _ _ _ _ _ : Value,
  cond (decide ((i : Int) < a.len)) (
  IX a i 1 fun (px14 : Addr) =>
  LD [.sl] px14 w1 fun (x15 : Sl) =>
  Calls Tryz.prog F.l_heldIntS #[x15.v, .int .i64 k_2] w1 (Ret [.at (.int .i64)] fun (x17 : Int) w2 =>
  cond (decide ((x17 : Int) < 0)) (
  Q (-1) w2) (
  I2 x17 (IntKind.i64.wrap (i + 1)) w2 ∧ m2 x17 (IntKind.i64.wrap (i + 1)) w2 < m2 k_2 i w1))) (
  Q k_2 w1)

theorem C_l_heldIntSS {Q : Int → World → Prop} {a : Sl} {k : Int} {w : World} (h : V_l_heldIntSS Q a k w) : Calls Tryz.prog F.l_heldIntSS #[a.v, .int .i64 k] w (Ret [.at (.int .i64)] Q) :=
  mkC (hint := hint) (ann := annOf [(2, ⟨[(1, .int .i64), (5, .int .i64)], [4, 6, 7, 8, 9, 10, 11, 12, 13, 14, 15, 16, 17, 18, 19]⟩)]) (args := [a.v, .int .i64 k]) (rs := [.at (.int .i64)]) Tryz.func54 (by kernel_rfl) (by kernel_rfl) h

def V_s_l1In (Q : Bool → World → Prop) (n : Int) (lo : Int) (hi : Int) (w : World) : Prop :=
  cond (decide ((n : Int) ≥ lo)) (
  Q (decide ((n : Int) ≤ hi)) w) (
  Q false w)

theorem C_s_l1In {Q : Bool → World → Prop} {n : Int} {lo : Int} {hi : Int} {w : World} (h : V_s_l1In Q n lo hi w) : Calls Tryz.prog F.s_l1In #[.int .i64 n, .int .i64 lo, .int .i64 hi] w (Ret [.at .bool] Q) :=
  mkC (hint := hint) (ann := annOf []) (args := [.int .i64 n, .int .i64 lo, .int .i64 hi]) (rs := [.at .bool]) Tryz.func56 (by kernel_rfl) (by kernel_rfl) h

def V_s_l1Has (Q : Bool → World → Prop) (l : Sl) (n : Int) (w : World) : Prop :=
  ∃ (I2 : Int → World → Prop) (m2 : Int → World → Nat), I2 0 w ∧ ∀ (x9 : Int) w1, I2 x9 w1 → ∀ _ _ _ _ _ _ _ _ _ : Value,
  cond (decide ((x9 : Int) < l.len)) (
  IX l x9 1 fun (px11 : Addr) =>
  LD [.int .i64] px11 w1 fun (x12 : Int) =>
  cond ((x12 : Int) == n) (
  Q true w1) (
  I2 (IntKind.i64.wrap (x9 + 1)) w1 ∧ m2 (IntKind.i64.wrap (x9 + 1)) w1 < m2 x9 w1)) (
  Q false w1)

theorem C_s_l1Has {Q : Bool → World → Prop} {l : Sl} {n : Int} {w : World} (h : V_s_l1Has Q l n w) : Calls Tryz.prog F.s_l1Has #[l.v, .int .i64 n] w (Ret [.at .bool] Q) :=
  mkC (hint := hint) (ann := annOf [(2, ⟨[(9, .int .i64)], [4, 6, 10, 11, 12, 13, 14, 15, 16]⟩)]) (args := [l.v, .int .i64 n]) (rs := [.at .bool]) Tryz.func58 (by kernel_rfl) (by kernel_rfl) h

def V_s_coThrough (Q : Sl → World → Prop) (l : Sl) (at1 : Sl) (w : World) : Prop :=
  ∃ (I3 : Sl → Int → World → Prop) (m3 : Sl → Int → World → Nat), I3 (⟨none, 0, 0⟩) 0 w ∧ ∀ (out : Sl) (x10 : Int) w1, I3 out x10 w1 → ∀ _ _ _ _ _ _ _ _ _ _ _ _ : Value,
  cond (decide ((x10 : Int) < at1.len)) (
  IX at1 x10 1 fun (px12 : Addr) =>
  LD [.int .i64] px12 w1 fun (x13 : Int) =>
  IX l x13 1 fun (px17 : Addr) =>
  LD [.int .i64] px17 w1 fun (x18 : Int) =>
  RUN Tryz.prog (.at .sl) (Instr.buildSlice T.t_sl_int 1 #[(0, .int .i64 x18)]) w1 fun (x19 : Sl) w2 =>
  RUN Tryz.prog (.at .sl) (bsem .append #[T.t_sl_int, T.t_sl_int] T.t_sl_int #[out.v, x19.v]) w2 fun (x20 : Sl) w3 =>
  I3 x20 (IntKind.i64.wrap (x10 + 1)) w3 ∧ m3 x20 (IntKind.i64.wrap (x10 + 1)) w3 < m3 out x10 w1) (
  Q out w1)

theorem C_s_coThrough {Q : Sl → World → Prop} {l : Sl} {at1 : Sl} {w : World} (h : V_s_coThrough Q l at1 w) : Calls Tryz.prog F.s_coThrough #[l.v, at1.v] w (Ret [.at .sl] Q) :=
  mkC (hint := hint) (ann := annOf [(3, ⟨[(5, .sl), (10, .int .i64)], [7, 11, 12, 13, 14, 15, 16, 17, 18, 19, 20, 21]⟩)]) (args := [l.v, at1.v]) (rs := [.at .sl]) Tryz.func65 (by kernel_rfl) (by kernel_rfl) h

def V_s_l1Own (Q : Sl → World → Prop) (l : Sl) (w : World) : Prop :=
  RUN Tryz.prog (.at .sl) (Instr.buildSlice T.t_sl_int 0 #[]) w fun (x3 : Sl) w1 =>
  RUN Tryz.prog (.at .sl) (bsem .append #[T.t_sl_int, T.t_sl_int] T.t_sl_int #[x3.v, l.v]) w1 fun (x5 : Sl) w2 =>
  Q x5 w2

theorem C_s_l1Own {Q : Sl → World → Prop} {l : Sl} {w : World} (h : V_s_l1Own Q l w) : Calls Tryz.prog F.s_l1Own #[l.v] w (Ret [.at .sl] Q) :=
  mkC (hint := hint) (ann := annOf []) (args := [l.v]) (rs := [.at .sl]) Tryz.func69 (by kernel_rfl) (by kernel_rfl) h

def V_i_within (Q : Bool → World → Prop) (n : Int) (low : Int) (high : Int) (w : World) : Prop :=
  cond (decide ((low : Int) ≤ n)) (
  Q (decide ((n : Int) ≤ high)) w) (
  Q false w)

theorem C_i_within {Q : Bool → World → Prop} {n : Int} {low : Int} {high : Int} {w : World} (h : V_i_within Q n low high w) : Calls Tryz.prog F.i_within #[.int .i64 n, .int .i64 low, .int .i64 high] w (Ret [.at .bool] Q) :=
  mkC (hint := hint) (ann := annOf []) (args := [.int .i64 n, .int .i64 low, .int .i64 high]) (rs := [.at .bool]) Tryz.func70 (by kernel_rfl) (by kernel_rfl) h

def V_slices_Compare_sl_int_int (Q : Int → World → Prop) (s1 : Sl) (s2 : Sl) (w : World) : Prop :=
  ∃ (I2 : Int → World → Prop) (m2 : Int → World → Nat), I2 0 w ∧ ∀ (x11 : Int) w1, I2 x11 w1 → ∀ _ _ _ _ _ _ _ _ _ _ _ _ _ _ _ _ _ _ _ _ _ _ _ _ : Value,
  cond (decide ((x11 : Int) < s1.len)) (
  IX s1 x11 1 fun (px14 : Addr) =>
  LD [.int .i64] px14 w1 fun (x15 : Int) =>
  cond (decide ((x11 : Int) ≥ s2.len)) (
  Q 1 w1) (
  IX s2 x11 1 fun (px22 : Addr) =>
  LD [.int .i64] px22 w1 fun (x23 : Int) =>
  Calls Tryz.prog F.cmp_Compare_int #[.int .i64 x15, .int .i64 x23] w1 (Ret [.at (.int .i64)] fun (x26 : Int) w2 =>
  cond ((x26 : Int) != 0) (
  Q x26 w2) (
  I2 (IntKind.i64.wrap (x11 + 1)) w2 ∧ m2 (IntKind.i64.wrap (x11 + 1)) w2 < m2 x11 w1)))) (
  cond (decide ((s1.len : Int) < s2.len)) (
  Q (-1) w1) (
  Q 0 w1))

theorem C_slices_Compare_sl_int_int {Q : Int → World → Prop} {s1 : Sl} {s2 : Sl} {w : World} (h : V_slices_Compare_sl_int_int Q s1 s2 w) : Calls Tryz.prog F.slices_Compare_sl_int_int #[s1.v, s2.v] w (Ret [.at (.int .i64)] Q) :=
  mkC (hint := hint) (ann := annOf [(2, ⟨[(11, .int .i64)], [4, 5, 6, 7, 8, 12, 13, 14, 15, 16, 17, 18, 19, 20, 21, 22, 23, 24, 25, 26, 27, 28, 29, 30]⟩)]) (args := [s1.v, s2.v]) (rs := [.at (.int .i64)]) Tryz.func72 (by kernel_rfl) (by kernel_rfl) h

end Go.Proofs.YtaeledhbkdakcaaGreatDoor
end
