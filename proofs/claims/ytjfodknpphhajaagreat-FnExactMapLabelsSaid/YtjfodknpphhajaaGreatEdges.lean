/- Edges: both sides' lists of them, and searching in lists of numbers, ends and edges. -/
import Derived.Test.YtjfodknpphhajaaGreatNear
namespace Go.Proofs.YtjfodknpphhajaaGreat
open Go.GX Go.RowKit
set_option maxRecDepth 100000

abbrev Edge := Int × Int × Int × Int

theorem slt_ints : SlT Tryz.prog T.t_sl_sl_int T.t_sl_int 1 24 (.slice none 0 0) := ⟨by kernel_rfl, by kernel_rfl, rfl, by decide⟩

/-- The port of an edge that bears it: the lesser of its two ends. -/
def isFirst (v i : Nat) (e : Int × Int) : Bool := decide ((v : Int) < e.1) || ((v : Int) == e.1 && decide ((i : Int) ≤ e.2))

def portE (E : Ends) (v i : Nat) : List Edge := match port E v i with
  | some e => if isFirst v i e then [((v : Int), (i : Int), e.1, e.2)] else []
  | none => []
def rowE (E : Ends) (v : Nat) : Nat → List Edge
  | 0 => []
  | i + 1 => rowE E v i ++ portE E v i
def edgesTo (E : Ends) : Nat → List Edge
  | 0 => []
  | v + 1 => edgesTo E v ++ rowE E v (rowOf E v).length
def edgesOf (E : Ends) : List Edge := edgesTo E E.length

theorem mem_portE {E : Ends} {v i : Nat} {q : Edge} : q ∈ portE E v i ↔ ∃ e, port E v i = some e ∧ isFirst v i e = true ∧ q = ((v : Int), (i : Int), e.1, e.2) := by
  unfold portE
  cases port E v i with
  | none => simp
  | some e =>
    by_cases h : isFirst v i e = true
    · simp [h]
    · simp [h]

theorem mem_rowE {E : Ends} {v : Nat} {q : Edge} : ∀ k, q ∈ rowE E v k ↔ ∃ i < k, q ∈ portE E v i
  | 0 => by simp [rowE]
  | k + 1 => by
    rw [rowE, List.mem_append, mem_rowE k]
    constructor
    · rintro (⟨i, hi, h⟩ | h)
      · exact ⟨i, by omega, h⟩
      · exact ⟨k, by omega, h⟩
    · rintro ⟨i, hi, h⟩
      rcases Nat.lt_or_eq_of_le (Nat.le_of_lt_succ hi) with h1 | h1
      · exact .inl ⟨i, h1, h⟩
      · subst h1; exact .inr h

theorem mem_edgesTo {E : Ends} {q : Edge} : ∀ k, q ∈ edgesTo E k ↔ ∃ v < k, q ∈ rowE E v (rowOf E v).length
  | 0 => by simp [edgesTo]
  | k + 1 => by
    rw [edgesTo, List.mem_append, mem_edgesTo k]
    constructor
    · rintro (⟨i, hi, h⟩ | h)
      · exact ⟨i, by omega, h⟩
      · exact ⟨k, by omega, h⟩
    · rintro ⟨i, hi, h⟩
      rcases Nat.lt_or_eq_of_le (Nat.le_of_lt_succ hi) with h1 | h1
      · exact .inl ⟨i, h1, h⟩
      · subst h1; exact .inr h

theorem mem_edgesOf {E : Ends} {q : Edge} : q ∈ edgesOf E ↔ ∃ v i e, port E v i = some e ∧ isFirst v i e = true ∧ q = ((v : Int), (i : Int), e.1, e.2) := by
  unfold edgesOf
  rw [mem_edgesTo]
  constructor
  · rintro ⟨v, hv, h⟩
    obtain ⟨i, hi, h⟩ := (mem_rowE _).1 h
    obtain ⟨e, he⟩ := mem_portE.1 h
    exact ⟨v, i, e, he⟩
  · rintro ⟨v, i, e, he, h⟩
    obtain ⟨hv, hi, _⟩ := port_some he
    refine ⟨v, hv, (mem_rowE _).2 ⟨i, by rw [rowOf_get hv]; exact hi, mem_portE.2 ⟨e, he, h⟩⟩⟩

theorem portE_len (E : Ends) (v i : Nat) : (portE E v i).length ≤ 1 := by
  unfold portE
  cases port E v i with
  | none => simp
  | some e => by_cases h : isFirst v i e = true <;> simp [h]

theorem rowE_len (E : Ends) (v : Nat) : ∀ k, (rowE E v k).length ≤ k
  | 0 => by simp [rowE]
  | k + 1 => by
    have := rowE_len E v k
    have := portE_len E v k
    simp [rowE]; omega

theorem edgesTo_len {n : Net} (hg : Good n) : ∀ k, k ≤ n.ends.length → (edgesTo n.ends k).length ≤ 6 * k
  | 0, _ => by simp [edgesTo]
  | k + 1, hk => by
    have h1 := edgesTo_len hg k (by omega)
    have h2 := rowE_len n.ends k (rowOf n.ends k).length
    have h3 := hg.deg (v := k) (by omega)
    rw [← rowOf_get (by omega)] at h3
    simp [edgesTo]; omega

/-- An edge of a network that is good: two ports that lead to each other. -/
theorem edge_at {n : Net} (hg : Good n) {q : Edge} (h : q ∈ edgesOf n.ends) : ∃ v i x y : Nat, q = ((v : Int), (i : Int), (x : Int), (y : Int)) ∧ port n.ends v i = some ((x : Int), (y : Int)) ∧ port n.ends x y = some ((v : Int), (i : Int)) ∧ v < n.ends.length ∧ x < n.ends.length ∧ i < 6 ∧ y < 6 := by
  obtain ⟨v, i, e, he, _, rfl⟩ := mem_edgesOf.1 h
  obtain ⟨hv, hi, hee⟩ := port_some he
  obtain ⟨x, y, hxy, hx, hb⟩ := hg.far hv hi
  obtain ⟨_, hy, _⟩ := port_some hb
  rw [hee] at hxy
  subst hxy
  have := hg.deg hv
  have := hg.deg hx
  exact ⟨v, i, x, y, rfl, he, hb, hv, hx, by omega, by omega⟩

theorem edge_I64 {n : Net} (hg : Good n) : ∀ q ∈ edgesOf n.ends, Flat.ok q := by
  intro q hq
  obtain ⟨v, i, x, y, rfl, _, _, hv, hx, hi, hy⟩ := edge_at hg hq
  have := hg.size.2
  show I64 _ ∧ I64 _ ∧ I64 _ ∧ I64 _
  unfold I64
  simp only
  omega

/-- An edge as the reference has it: four numbers. -/
def four (q : Edge) : List Int := [q.1, q.2.1, q.2.2.1, q.2.2.2]

theorem four_ok {n : Net} (hg : Good n) : ∀ l ∈ (edgesOf n.ends).map four, ∀ x ∈ l, Flat.ok x := by
  intro l hl x hx
  obtain ⟨q, hq, rfl⟩ := List.mem_map.1 hl
  have := edge_I64 hg q hq
  obtain ⟨h1, h2, h3, h4⟩ := this
  simp [four] at hx
  rcases hx with rfl | rfl | rfl | rfl
  · exact h1
  · exact h2
  · exact h3
  · exact h4

/-! ### Searching -/

def AnswersG {α : Type} (args : α → Array Value) (w : World) (f : Value) (l : List α) (p : α → Bool) : Prop :=
  ∀ x ∈ l, ∀ w', Ext w w' → CALLV Tryz.prog f (args x) w' (Ret [.at .bool] fun (b : Bool) w'' => b = p x ∧ Ext w' w'')

def argsQ (q : Edge) : Array Value := #[.agg #[.int .i64 q.1, .int .i64 q.2.1, .int .i64 q.2.2.1, .int .i64 q.2.2.2]]
def argsE (q : Int × Int) : Array Value := #[.agg #[.int .i64 q.1, .int .i64 q.2]]

def Found {α : Type} (l : List α) (p : α → Bool) (i : Int) : Prop := match l.findIdx? p with | some k => i = k | none => i = -1

theorem found_ge {α : Type} {l : List α} {p : α → Bool} {i : Int} (h : Found l p i) : decide (i ≥ 0) = l.any p := by
  unfold Found at h
  cases hf : l.findIdx? p with
  | none =>
    rw [hf] at h
    simp only at h
    subst h
    have h1 := List.findIdx?_eq_none_iff.1 hf
    have : l.any p = false := by
      rw [List.any_eq_false]; intro x hx; simp [h1 x hx]
    rw [this]; rfl
  | some k =>
    rw [hf] at h
    simp only at h
    subst h
    obtain ⟨hk, hp, _⟩ := List.findIdx?_eq_some_iff_getElem.1 hf
    have : l.any p = true := List.any_eq_true.2 ⟨l[k], List.getElem_mem hk, hp⟩
    rw [this]
    simp

theorem found_at {α : Type} {l : List α} {p : α → Bool} {i : Nat} (hi : i < l.length) (ha : ∀ x ∈ l.take i, p x = false) (ht : p l[i] = true) : Found l p i := by
  have : l.findIdx? p = some i := by
    rw [List.findIdx?_eq_some_iff_getElem]
    refine ⟨hi, ht, fun j hj => ?_⟩
    have := ha l[j] (by rw [List.mem_take_iff_getElem]; exact ⟨j, by omega, rfl⟩)
    simp [this]
  unfold Found
  rw [this]

theorem found_no {α : Type} {l : List α} {p : α → Bool} (ha : ∀ x ∈ l, p x = false) : Found l p (-1) := by
  have : l.findIdx? p = none := List.findIdx?_eq_none_iff.2 ha
  unfold Found
  rw [this]

theorem none_succ {α : Type} {l : List α} {p : α → Bool} {i : Nat} (hi : i < l.length) (ha : ∀ x ∈ l.take i, p x = false) (hf : p l[i] = false) : ∀ x ∈ l.take (i + 1), p x = false := by
  intro y hy
  rw [List.take_succ_eq_append_getElem hi] at hy
  rcases List.mem_append.1 hy with h1 | h1
  · exact ha y h1
  · rw [List.mem_singleton.1 h1]; exact hf

end Go.Proofs.YtjfodknpphhajaaGreat
