/- Matchings: both sides' tests, and the law IsMatching. -/
import Derived.Test.YtjfodknpphhajaaGreatGood
namespace Go.Proofs.YtjfodknpphhajaaGreat
open Go.GX Go.RowKit
set_option maxRecDepth 100000

/-- Node v and its mate agree. -/
def MAt (E : Ends) (m : List Int) (v : Nat) : Prop :=
  ∀ x, m[v]? = some x → x = -1 ∨ ∃ e, portZ E v x = some e ∧ e.1 ≠ v ∧ ∃ u : Nat, e.1 = u ∧ m[u]? = some e.2

def MatchOk (E : Ends) (m : List Int) : Prop := m.length = E.length ∧ ∀ v < m.length, MAt E m v

theorem mat_get {E : Ends} {m : List Int} {v : Nat} (hv : v < m.length) : MAt E m v ↔ m[v] = -1 ∨ ∃ e, portZ E v m[v] = some e ∧ e.1 ≠ v ∧ ∃ u : Nat, e.1 = u ∧ m[u]? = some e.2 := by
  unfold MAt
  simp [hv]

end Go.Proofs.YtjfodknpphhajaaGreat
