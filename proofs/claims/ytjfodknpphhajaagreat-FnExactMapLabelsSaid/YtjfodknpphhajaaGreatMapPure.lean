/- Label maps, in plain words: no program in sight. -/
import Derived.Test.YtjfodknpphhajaaGreatFault
namespace Go.Proofs.YtjfodknpphhajaaGreat

/-- The images of labels. -/
def img (f l : List Int) : List Int := l.map fun a => f.getD a.toNat 0

structure MapOk (p q : Prob) (f : List Int) : Prop where
  len : (f.length : Int) = p.labels
  labs : AllIn f 0 (q.labels - 1)
  nodes : ∀ c ∈ p.nodes, sortI (img f c) ∈ q.nodes
  edges : ∀ c ∈ p.edges, sortI (img f c) ∈ q.edges

structure MlAsked (p q : Prob) (f : List Int) (n : Net) (L : List (List Int)) : Prop where
  left : PGood p
  right : PGood q
  deg : p.degree = q.degree
  map : MapOk p q f
  good : Good n
  lab : LabOk p n.ends L

theorem img2 {f c : List Int} (h : c.length = 2) : img f c = [f.getD (c[0]'(by omega)).toNat 0, f.getD (c[1]'(by omega)).toNat 0] := by
  match c, h with
  | [a, b], _ => rfl

end Go.Proofs.YtjfodknpphhajaaGreat
