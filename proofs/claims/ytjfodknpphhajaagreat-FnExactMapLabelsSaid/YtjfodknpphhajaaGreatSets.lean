/- Sets of nodes and matchings: both sides' tests of independence, covers, maximality; sizes of matchings. -/
import Derived.Test.YtjfodknpphhajaaGreatCol
import Derived.Test.YtjfodknpphhajaaGreatMatch
namespace Go.Proofs.YtjfodknpphhajaaGreat
open Go.GX Go.RowKit
set_option maxRecDepth 100000

structure SetOk (n : Net) (l : List Int) : Prop where
  good : Good n
  rising : Rising l 0 (n.ends.length - 1)

theorem SetOk.node {n : Net} {l : List Int} (h : SetOk n l) : ∀ x ∈ l, ∃ u : Nat, x = u ∧ u < n.ends.length := by
  intro x hx
  have := h.rising.1 x hx
  exact ⟨x.toNat, by omega, by omega⟩

/-! ### Independent sets -/

def Indep (E : Ends) (l : List Int) : Prop := ¬ ∃ v u : Nat, v < E.length ∧ (u : Int) ∈ adjOf E v ∧ (v : Int) ∈ l ∧ (u : Int) ∈ l

theorem indep_edges {n : Net} (hg : Good n) (l : List Int) : ((edgesOf n.ends).any fun q => l.contains q.1 && l.contains q.2.2.1) = true ↔ ¬ Indep n.ends l := by
  unfold Indep
  rw [Classical.not_not, List.any_eq_true, ← exists_edge hg (P := fun v u => (v : Int) ∈ l ∧ (u : Int) ∈ l) (fun a b h => ⟨h.2, h.1⟩)]
  constructor
  · rintro ⟨q, hq, h⟩
    obtain ⟨v, i, x, y, rfl, _⟩ := edge_at hg hq
    exact ⟨_, hq, by simpa using h⟩
  · rintro ⟨q, hq, h⟩
    obtain ⟨v, i, x, y, rfl, _⟩ := edge_at hg hq
    exact ⟨_, hq, by simpa using h⟩

/-- No neighbour of v lies in the set. -/
def Apart (E : Ends) (l : List Int) (v : Nat) : Prop := ∀ x ∈ adjOf E v, x ∉ l

/-! ### Covers -/

def Cover (E : Ends) (l : List Int) : Prop := ∀ q ∈ edgesOf E, q.1 ∈ l ∨ q.2.2.1 ∈ l

end Go.Proofs.YtjfodknpphhajaaGreat
