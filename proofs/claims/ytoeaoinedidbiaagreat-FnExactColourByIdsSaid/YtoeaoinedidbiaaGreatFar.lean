/- The reference's distances from a node. -/
import Derived.Test.YtoeaoinedidbiaaGreatDist
namespace Go.Proofs.YtoeaoinedidbiaaGreat
open Go.GX Go.RowKit
set_option maxRecDepth 100000

theorem own_sep {α β : Type} [Flat α] [Flat β] {w w' : World} {b1 b2 : Nat} {e e' : TypeId} {s s' : Sl} {l : List α} {l' : List β} (h : OwnL w b1 e s l) (_ : OwnL w b2 e' s' l')
    (hs : ∀ g, s.v.ownBlock = some g → s'.v.ownBlock ≠ some g) (hst : Step w w' s'.v.ownBlock) : OwnL w' b1 e s l :=
  h.keep fun k hk => hst.block k (h.blk k hk).2 (fun he => hs k hk he.symm)

/-- What the search keeps in memory: distances, queue, apart from each other. -/
structure BfsMem (w1 w' : World) (b1 b2 : Nat) (E : Ends) (v : Nat) (sD sW : Sl) (D W : List Int) (k : Nat) : Prop where
  ext : Ext w1 w'
  dist : OwnL w' b1 T.t_int sD D
  queue : OwnL w' b2 T.t_int sW W
  bfs : Bfs E v W D k
  lo1 : w1.heap.size ≤ b1
  lo12 : b1 ≤ b2
  lo2 : b2 ≤ w'.heap.size
  sep : ∀ g, sD.v.ownBlock = some g → g < b2

theorem BfsMem.next {w1 w' w'' : World} {b1 b2 : Nat} {E : Ends} {v : Nat} {sD sW : Sl} {D W : List Int} {k : Nat} (h : BfsMem w1 w' b1 b2 E v sD sW D W k) (hE : Ext w' w'') : BfsMem w1 w'' b1 b2 E v sD sW D W k :=
  { h with ext := h.ext.trans hE, dist := h.dist.ext hE, queue := h.queue.ext hE, lo2 := Nat.le_trans h.lo2 hE.size_le }

theorem ints_ok {n : Nat} {D : List Int} (h : ∀ x ∈ D, -1 ≤ x ∧ x < (n : Int)) (hn : n ≤ 1000000) : ∀ x ∈ D, Flat.ok x := fun x hx => by
  have := h x hx
  show I64 x
  unfold I64
  omega

end Go.Proofs.YtoeaoinedidbiaaGreat
