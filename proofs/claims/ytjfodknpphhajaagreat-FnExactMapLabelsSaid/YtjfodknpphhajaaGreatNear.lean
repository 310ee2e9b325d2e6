/- What a node's neighbours bear: both sides' walks over ports; the tests IsDefective and IsWeak. -/
import Derived.Test.YtjfodknpphhajaaGreatGood
namespace Go.Proofs.YtjfodknpphhajaaGreat
open Go.GX Go.RowKit
set_option maxRecDepth 100000

def rowOf (E : Ends) (v : Nat) : List (Int × Int) := E.getD v []
theorem rowOf_get {E : Ends} {v : Nat} (h : v < E.length) : rowOf E v = E[v] := by simp [rowOf, h]

/-- What lies at the far ends of a node's ports. -/
def nearOf (E : Ends) (l : List Int) (v : Nat) : List Int := (rowOf E v).map fun e => l.getD e.1.toNat 0
/-- The nodes at the far ends of a node's ports. -/
def adjOf (E : Ends) (v : Nat) : List Int := (rowOf E v).map (·.1)

theorem Good.far {n : Net} (hg : Good n) {v i : Nat} (hv : v < n.ends.length) (hi : i < n.ends[v].length) : ∃ x y : Nat, n.ends[v][i] = ((x : Int), (y : Int)) ∧ x < n.ends.length ∧ port n.ends x y = some ((v : Int), (i : Int)) := by
  obtain ⟨x, y, hxy, hb⟩ := hg.back hv hi
  obtain ⟨hx, _⟩ := port_some hb
  exact ⟨x, y, hxy, hx, hb⟩

theorem map_take_succ {α β : Type} {l : List α} {i : Nat} (hi : i < l.length) (f : α → β) : (l.take (i + 1)).map f = (l.take i).map f ++ [f l[i]] := by
  rw [List.take_succ_eq_append_getElem hi, List.map_append]; rfl

theorem adj_ok {n : Net} (hg : Good n) {v : Nat} (hv : v < n.ends.length) : ∀ x ∈ adjOf n.ends v, ∃ u : Nat, x = u ∧ u < n.ends.length := by
  intro x hx
  unfold adjOf at hx
  rw [rowOf_get hv] at hx
  obtain ⟨e, he, rfl⟩ := List.mem_map.1 hx
  obtain ⟨i, hi, rfl⟩ := List.mem_iff_getElem.1 he
  obtain ⟨x, y, hxy, hx, _⟩ := hg.far hv hi
  exact ⟨x, by rw [hxy], hx⟩

theorem adj_I64 {n : Net} (hg : Good n) {v : Nat} (hv : v < n.ends.length) : ∀ x ∈ adjOf n.ends v, Flat.ok x := by
  intro x hx
  obtain ⟨u, rfl, hu⟩ := adj_ok hg hv x hx
  have := hg.size.2
  show I64 _
  unfold I64
  omega

theorem adj_len {n : Net} (_ : Good n) {v : Nat} (hv : v < n.ends.length) : (adjOf n.ends v).length = n.ends[v].length := by
  unfold adjOf; rw [rowOf_get hv]; simp

theorem near_adj (E : Ends) (l : List Int) (v : Nat) : nearOf E l v = (adjOf E v).map fun u => l.getD u.toNat 0 := by
  unfold nearOf adjOf; rw [List.map_map]; rfl

/-- How many neighbours bear c. -/
def sameCount (E : Ends) (l : List Int) (v : Nat) (c : Int) : Nat := (nearOf E l v).count c

theorem count_take_succ {l : List Int} {i : Nat} (hi : i < l.length) (c : Int) : (l.take (i + 1)).count c = (l.take i).count c + if l[i] == c then 1 else 0 := by
  rw [List.take_succ_eq_append_getElem hi, List.count_append, List.count_singleton]

/-! ### Colours -/

structure ColoursOk (n : Net) (l : List Int) : Prop where
  good : Good n
  len : l.length = n.ends.length
  all : AllIn l 0 1000000000000

/-! ### IsDefective -/

def Defective (n : Net) (l : List Int) (d : Int) : Prop := ∀ v < l.length, (sameCount n.ends l v (l.getD v 0) : Int) ≤ d

/-! ### IsWeak -/

def WeakAt (n : Net) (l : List Int) (v : Nat) : Prop := 0 < (rowOf n.ends v).length → sameCount n.ends l v (l.getD v 0) ≠ (rowOf n.ends v).length

def Weak (n : Net) (l : List Int) : Prop := ∀ v < n.ends.length, WeakAt n l v

end Go.Proofs.YtjfodknpphhajaaGreat
