/- The program's distances from a node. -/
import Derived.Test.YtoeaoinedidbiaaGreatFar
import Derived.Test.YtoeaoinedidbiaaGreatQueue
import Derived.Test.YtoeaoinedidbiaaGreatLib
import Derived.Test.YtoeaoinedidbiaaGreatMat
namespace Go.Proofs.YtoeaoinedidbiaaGreat
open Go.GX Go.RowKit
set_option maxRecDepth 100000

theorem least_of {p : Nat → Prop} : ∀ n, p n → ∃ m, p m ∧ ∀ k, p k → m ≤ k := by
  intro n
  induction n using Nat.strongRecOn with
  | ind n ih =>
    intro hn
    by_cases h : ∃ k, k < n ∧ p k
    · obtain ⟨k, hk, hp⟩ := h
      exact ih k hk hp
    · refine ⟨n, hn, fun k hk => ?_⟩
      by_cases hlt : k < n
      · exact absurd ⟨k, hlt, hk⟩ h
      · omega

/-- A measure of what a loop keeps besides its variables. -/
theorem ghost {σ α : Type} (J : σ → α → World → Prop) (t : σ → Nat) : ∃ m : α → World → Nat, (∀ x w, (∃ s, J s x w) → ∃ s, J s x w ∧ t s = m x w) ∧ ∀ s x w, J s x w → m x w ≤ t s := by
  have key : ∀ x w, ∃ m : Nat, ((∃ s, J s x w) → ∃ s, J s x w ∧ t s = m) ∧ ∀ s, J s x w → m ≤ t s := by
    intro x w
    by_cases h : ∃ s, J s x w
    · obtain ⟨s, hs⟩ := h
      obtain ⟨m, ⟨s', h1, h2⟩, h3⟩ := least_of (p := fun n => ∃ s, J s x w ∧ t s = n) (t s) ⟨s, hs, rfl⟩
      exact ⟨m, fun _ => ⟨s', h1, h2⟩, fun s hs => h3 _ ⟨s, hs, rfl⟩⟩
    · exact ⟨0, fun h' => absurd h' h, fun s hs => absurd ⟨s, hs⟩ h⟩
  refine ⟨fun x w => Classical.choose (key x w), fun x w h => (Classical.choose_spec (key x w)).1 h, fun s x w h => (Classical.choose_spec (key x w)).2 s h⟩

/-- What the search keeps in memory: distances, queue, apart from each other. -/
structure BfsQ (w1 w' : World) (b1 b2 : Nat) (E : Ends) (v : Nat) (sD sQ : Sl) (D W : List Int) (k j : Nat) : Prop where
  ext : Ext w1 w'
  dist : OwnL w' b1 T.t_int sD D
  queue : QL w' b2 T.t_int sQ (W.drop j)
  bfs : Bfs E v W D k
  lo1 : w1.heap.size ≤ b1
  lo12 : b1 ≤ b2
  lo2 : b2 ≤ w'.heap.size
  sep : ∀ g, sD.v.ownBlock = some g → g < b2

theorem BfsQ.next {w1 w' w'' : World} {b1 b2 : Nat} {E : Ends} {v : Nat} {sD sQ : Sl} {D W : List Int} {k j : Nat} (h : BfsQ w1 w' b1 b2 E v sD sQ D W k j) (hE : Ext w' w'') : BfsQ w1 w'' b1 b2 E v sD sQ D W k j :=
  { h with ext := h.ext.trans hE, dist := h.dist.ext hE, queue := h.queue.ext hE, lo2 := Nat.le_trans h.lo2 hE.size_le }

def BfsS (w1 w5 : World) (E : Ends) (v : Nat) (sD : Sl) (s : List Int × List Int × Nat) (q : Sl) (w' : World) : Prop := BfsQ w1 w' w1.heap.size w5.heap.size E v sD q s.1 s.2.1 s.2.2 s.2.2

end Go.Proofs.YtoeaoinedidbiaaGreat
