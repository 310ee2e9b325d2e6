/- Maximal matchings and maximal independent sets; sizes of matchings. -/
import Derived.Test.YtjfodknpphhajaaGreatSets
namespace Go.Proofs.YtjfodknpphhajaaGreat
open Go.GX Go.RowKit
set_option maxRecDepth 100000

/-! ### Matchings that are asked rightly, and their size -/

structure MatchAsked (n : Net) (m : List Int) : Prop where
  good : Good n
  is : MatchOk n.ends m

/-- How many numbers are not negative. -/
def nonneg (l : List Int) : Nat := l.countP fun x => decide (x ≥ 0)

theorem nonneg_take_succ {l : List Int} {i : Nat} (hi : i < l.length) : nonneg (l.take (i + 1)) = nonneg (l.take i) + if l[i] ≥ 0 then 1 else 0 := by
  unfold nonneg
  rw [List.take_succ_eq_append_getElem hi, List.countP_append, List.countP_singleton]
  simp

theorem nonneg_le {l : List Int} {i : Nat} : nonneg (l.take i) ≤ i := Nat.le_trans (List.countP_le_length) (by simp; omega)

def half (k : Nat) : Int := IntKind.i64.wrap (Int.tdiv k 2)

/-- An answer that is a number, and whether it was asked rightly. -/
def AnsI (g : Prop) (k : Int) (x : Int) (ok : Bool) : Prop := (ok = true ↔ g) ∧ (g → x = k) ∧ (¬ g → x = 0)

theorem AnsI.eq {g : Prop} {k x x' : Int} {ok ok' : Bool} (h : AnsI g k x ok) (h' : AnsI g k x' ok') : x = x' ∧ ok = ok' := by
  refine ⟨?_, Bool.eq_iff_iff.2 (h.1.trans h'.1.symm)⟩
  by_cases hg : g
  · rw [h.2.1 hg, h'.2.1 hg]
  · rw [h.2.2 hg, h'.2.2 hg]

theorem AnsI.no {g : Prop} {k : Int} (h : ¬ g) : AnsI g k 0 false := ⟨by simp [h], fun h1 => absurd h1 h, fun _ => rfl⟩
theorem AnsI.mk {g : Prop} {k x : Int} (h : g) (hx : x = k) : AnsI g k x true := ⟨by simp [h], fun _ => hx, fun h1 => absurd h h1⟩

/-! ### Maximal matchings -/

/-- An edge that could be added: two nodes, both free. -/
def FreeEdge (l : List Int) (q : Edge) : Prop := q.1 ≠ q.2.2.1 ∧ l.getD q.1.toNat 0 < 0 ∧ l.getD q.2.2.1.toNat 0 < 0
instance (l : List Int) (q : Edge) : Decidable (FreeEdge l q) := by unfold FreeEdge; exact inferInstance
def Maximal (n : Net) (l : List Int) : Prop := ∀ q ∈ edgesOf n.ends, ¬ FreeEdge l q

/-! ### Maximal independent sets -/

/-- A node outside the set that has no edge to itself has a neighbour in it. -/
def MaxAt (E : Ends) (l : List Int) (v : Nat) : Prop := l.contains (v : Int) = false → (adjOf E v).contains (v : Int) = false → ¬ Apart E l v

def MaxIndep (E : Ends) (l : List Int) : Prop := (∀ v < E.length, MaxAt E l v) ∧ Indep E l

end Go.Proofs.YtjfodknpphhajaaGreat
