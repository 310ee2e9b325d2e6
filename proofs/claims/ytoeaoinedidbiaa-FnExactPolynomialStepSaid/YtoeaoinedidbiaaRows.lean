/-
  No cell of these rows narrows 'for every input' (looked for: loops, veiled, ifaces, maps, wideKeys, modest, calm, conditions, laid).
  DERIVED. THE GIVEN ROWS OF THIS SEAT. 10 by the template 'for every input the law returns true; each argument reads behind the call as it read before'; 0 by the template 'total and deterministic' (their statements: YtoeaoinedidbiaaTotals.lean).
  GIVEN WITH THE SEED: the statements are not yours to turn. If you find one false, say at which input.
  Laid BY PROGRAM, IN A SANDBOX (cutbox-rows.mjs): the forced cells as the released guide's own fill.sh prints them over the translation 31eed856850c3220… (all of the seat's roots in one cut). By AI agents, Wed Nov 11 2026. No macro, syntax, notation, axiom, sorry.
-/
import Derived.Test.YtoeaoinedidbiaaChecked
import GoSem.Claim
import GoSem.ClaimJoined
import GoSem.ClaimMapViews
import Derived.JoinedTies
import Derived.KernelRfl
namespace Go.Proofs.Ytoeaoinedidbiaa
/- THE CELL 'sum', in the pinned program and in every row, IS THE sha256 OF THE DUMP (.gsa) THAT YtoeaoinedidbiaaProg.lean LOADS. Nothing in Lean hashes anything: it is a label: what it is worth is what the hold of that sum in a sandbox is worth. -/
noncomputable def Try.pinned : Pinned := { name := "ytoeaoinedidbiaa", sum := "31eed856850c32204b2e712635bd38e6893ef698b6659db9a346e5611dfe3b7d", checked := Try.checked }
namespace Rows
def none {H : Type} : Left H := { results := [], args := [] }

/-- 'laws.FnExactIsEdgeColouring': WHATEVER THE INPUT: true; the input reads as it did. -/
def fnExactIsEdgeColouringSpec : ChangeSpec := { name := "fnExactIsEdgeColouring", fn := fun _ => fun
  | [d1, d2] => { results := [.lit (.bool true)], args := [d1, d2] }
  | _ => none }
def fnExactIsEdgeColouringRow : OpenClaim := { program := "ytoeaoinedidbiaa", sum := "31eed856850c32204b2e712635bd38e6893ef698b6659db9a346e5611dfe3b7d", func := "loop.example/g01084/laws.FnExactIsEdgeColouring", spec := "fnExactIsEdgeColouring", unfollowed := true, recurses := true, apart := false }
def FnExactIsEdgeColouringSaid : Prop := fnExactIsEdgeColouringRow.holds Try.pinned (OpenSpec.ofChange fnExactIsEdgeColouringSpec)

/-- ITS FALSE NEIGHBOUR: 'it returns false'. Refute it at one input. -/
def fnExactIsEdgeColouringWrong : ChangeSpec := { name := "fnExactIsEdgeColouring", fn := fun _ => fun
  | [d1, d2] => { results := [.lit (.bool false)], args := [d1, d2] }
  | _ => none }
def FnExactIsEdgeColouringWrongFalsely : Prop := fnExactIsEdgeColouringRow.holds Try.pinned (OpenSpec.ofChange fnExactIsEdgeColouringWrong)

/-- 'laws.FnExactIsDistanceColouring': WHATEVER THE INPUT: true; the input reads as it did. -/
def fnExactIsDistanceColouringSpec : ChangeSpec := { name := "fnExactIsDistanceColouring", fn := fun _ => fun
  | [d1, d2, d3] => { results := [.lit (.bool true)], args := [d1, d2, d3] }
  | _ => none }
def fnExactIsDistanceColouringRow : OpenClaim := { program := "ytoeaoinedidbiaa", sum := "31eed856850c32204b2e712635bd38e6893ef698b6659db9a346e5611dfe3b7d", func := "loop.example/g01084/laws.FnExactIsDistanceColouring", spec := "fnExactIsDistanceColouring", unfollowed := true, recurses := true, apart := false }
def FnExactIsDistanceColouringSaid : Prop := fnExactIsDistanceColouringRow.holds Try.pinned (OpenSpec.ofChange fnExactIsDistanceColouringSpec)

/-- ITS FALSE NEIGHBOUR: 'it returns false'. Refute it at one input. -/
def fnExactIsDistanceColouringWrong : ChangeSpec := { name := "fnExactIsDistanceColouring", fn := fun _ => fun
  | [d1, d2, d3] => { results := [.lit (.bool false)], args := [d1, d2, d3] }
  | _ => none }
def FnExactIsDistanceColouringWrongFalsely : Prop := fnExactIsDistanceColouringRow.holds Try.pinned (OpenSpec.ofChange fnExactIsDistanceColouringWrong)

/-- 'laws.FnExactLeastCover': WHATEVER THE INPUT: true; the input reads as it did. -/
def fnExactLeastCoverSpec : ChangeSpec := { name := "fnExactLeastCover", fn := fun _ => fun
  | [d] => { results := [.lit (.bool true)], args := [d] }
  | _ => none }
def fnExactLeastCoverRow : OpenClaim := { program := "ytoeaoinedidbiaa", sum := "31eed856850c32204b2e712635bd38e6893ef698b6659db9a346e5611dfe3b7d", func := "loop.example/g01084/laws.FnExactLeastCover", spec := "fnExactLeastCover", unfollowed := true, recurses := true, apart := false }
def FnExactLeastCoverSaid : Prop := fnExactLeastCoverRow.holds Try.pinned (OpenSpec.ofChange fnExactLeastCoverSpec)

/-- ITS FALSE NEIGHBOUR: 'it returns false'. Refute it at one input. -/
def fnExactLeastCoverWrong : ChangeSpec := { name := "fnExactLeastCover", fn := fun _ => fun
  | [d] => { results := [.lit (.bool false)], args := [d] }
  | _ => none }
def FnExactLeastCoverWrongFalsely : Prop := fnExactLeastCoverRow.holds Try.pinned (OpenSpec.ofChange fnExactLeastCoverWrong)

/-- 'laws.FnExactGreedyEdgeColouring': WHATEVER THE INPUT: true; the input reads as it did. -/
def fnExactGreedyEdgeColouringSpec : ChangeSpec := { name := "fnExactGreedyEdgeColouring", fn := fun _ => fun
  | [d] => { results := [.lit (.bool true)], args := [d] }
  | _ => none }
def fnExactGreedyEdgeColouringRow : OpenClaim := { program := "ytoeaoinedidbiaa", sum := "31eed856850c32204b2e712635bd38e6893ef698b6659db9a346e5611dfe3b7d", func := "loop.example/g01084/laws.FnExactGreedyEdgeColouring", spec := "fnExactGreedyEdgeColouring", unfollowed := true, recurses := true, apart := false }
def FnExactGreedyEdgeColouringSaid : Prop := fnExactGreedyEdgeColouringRow.holds Try.pinned (OpenSpec.ofChange fnExactGreedyEdgeColouringSpec)

/-- ITS FALSE NEIGHBOUR: 'it returns false'. Refute it at one input. -/
def fnExactGreedyEdgeColouringWrong : ChangeSpec := { name := "fnExactGreedyEdgeColouring", fn := fun _ => fun
  | [d] => { results := [.lit (.bool false)], args := [d] }
  | _ => none }
def FnExactGreedyEdgeColouringWrongFalsely : Prop := fnExactGreedyEdgeColouringRow.holds Try.pinned (OpenSpec.ofChange fnExactGreedyEdgeColouringWrong)

/-- 'laws.FnExactCoverByProposals': WHATEVER THE INPUT: true; the input reads as it did. -/
def fnExactCoverByProposalsSpec : ChangeSpec := { name := "fnExactCoverByProposals", fn := fun _ => fun
  | [d] => { results := [.lit (.bool true)], args := [d] }
  | _ => none }
def fnExactCoverByProposalsRow : OpenClaim := { program := "ytoeaoinedidbiaa", sum := "31eed856850c32204b2e712635bd38e6893ef698b6659db9a346e5611dfe3b7d", func := "loop.example/g01084/laws.FnExactCoverByProposals", spec := "fnExactCoverByProposals", unfollowed := true, recurses := true, apart := false }
def FnExactCoverByProposalsSaid : Prop := fnExactCoverByProposalsRow.holds Try.pinned (OpenSpec.ofChange fnExactCoverByProposalsSpec)

/-- ITS FALSE NEIGHBOUR: 'it returns false'. Refute it at one input. -/
def fnExactCoverByProposalsWrong : ChangeSpec := { name := "fnExactCoverByProposals", fn := fun _ => fun
  | [d] => { results := [.lit (.bool false)], args := [d] }
  | _ => none }
def FnExactCoverByProposalsWrongFalsely : Prop := fnExactCoverByProposalsRow.holds Try.pinned (OpenSpec.ofChange fnExactCoverByProposalsWrong)

/-- 'laws.FnExactPolynomialStep': WHATEVER THE INPUT: true; the input reads as it did. -/
def fnExactPolynomialStepSpec : ChangeSpec := { name := "fnExactPolynomialStep", fn := fun _ => fun
  | [d1, d2, d3, d4] => { results := [.lit (.bool true)], args := [d1, d2, d3, d4] }
  | _ => none }
def fnExactPolynomialStepRow : OpenClaim := { program := "ytoeaoinedidbiaa", sum := "31eed856850c32204b2e712635bd38e6893ef698b6659db9a346e5611dfe3b7d", func := "loop.example/g01084/laws.FnExactPolynomialStep", spec := "fnExactPolynomialStep", unfollowed := true, recurses := true, apart := false }
def FnExactPolynomialStepSaid : Prop := fnExactPolynomialStepRow.holds Try.pinned (OpenSpec.ofChange fnExactPolynomialStepSpec)

/-- ITS FALSE NEIGHBOUR: 'it returns false'. Refute it at one input. -/
def fnExactPolynomialStepWrong : ChangeSpec := { name := "fnExactPolynomialStep", fn := fun _ => fun
  | [d1, d2, d3, d4] => { results := [.lit (.bool false)], args := [d1, d2, d3, d4] }
  | _ => none }
def FnExactPolynomialStepWrongFalsely : Prop := fnExactPolynomialStepRow.holds Try.pinned (OpenSpec.ofChange fnExactPolynomialStepWrong)

/-- 'laws.FnExactLevelsFor': WHATEVER THE INPUT: true; the input reads as it did. -/
def fnExactLevelsForSpec : ChangeSpec := { name := "fnExactLevelsFor", fn := fun _ => fun
  | [d] => { results := [.lit (.bool true)], args := [d] }
  | _ => none }
def fnExactLevelsForRow : OpenClaim := { program := "ytoeaoinedidbiaa", sum := "31eed856850c32204b2e712635bd38e6893ef698b6659db9a346e5611dfe3b7d", func := "loop.example/g01084/laws.FnExactLevelsFor", spec := "fnExactLevelsFor", unfollowed := true, recurses := true, apart := false }
def FnExactLevelsForSaid : Prop := fnExactLevelsForRow.holds Try.pinned (OpenSpec.ofChange fnExactLevelsForSpec)

/-- ITS FALSE NEIGHBOUR: 'it returns false'. Refute it at one input. -/
def fnExactLevelsForWrong : ChangeSpec := { name := "fnExactLevelsFor", fn := fun _ => fun
  | [d] => { results := [.lit (.bool false)], args := [d] }
  | _ => none }
def FnExactLevelsForWrongFalsely : Prop := fnExactLevelsForRow.holds Try.pinned (OpenSpec.ofChange fnExactLevelsForWrong)

/-- 'laws.FnExactIndependentByColours': WHATEVER THE INPUT: true; the input reads as it did. -/
def fnExactIndependentByColoursSpec : ChangeSpec := { name := "fnExactIndependentByColours", fn := fun _ => fun
  | [d1, d2] => { results := [.lit (.bool true)], args := [d1, d2] }
  | _ => none }
def fnExactIndependentByColoursRow : OpenClaim := { program := "ytoeaoinedidbiaa", sum := "31eed856850c32204b2e712635bd38e6893ef698b6659db9a346e5611dfe3b7d", func := "loop.example/g01084/laws.FnExactIndependentByColours", spec := "fnExactIndependentByColours", unfollowed := true, recurses := true, apart := false }
def FnExactIndependentByColoursSaid : Prop := fnExactIndependentByColoursRow.holds Try.pinned (OpenSpec.ofChange fnExactIndependentByColoursSpec)

/-- ITS FALSE NEIGHBOUR: 'it returns false'. Refute it at one input. -/
def fnExactIndependentByColoursWrong : ChangeSpec := { name := "fnExactIndependentByColours", fn := fun _ => fun
  | [d1, d2] => { results := [.lit (.bool false)], args := [d1, d2] }
  | _ => none }
def FnExactIndependentByColoursWrongFalsely : Prop := fnExactIndependentByColoursRow.holds Try.pinned (OpenSpec.ofChange fnExactIndependentByColoursWrong)

/-- 'laws.FnExactColourFromLists': WHATEVER THE INPUT: true; the input reads as it did. -/
def fnExactColourFromListsSpec : ChangeSpec := { name := "fnExactColourFromLists", fn := fun _ => fun
  | [d1, d2, d3] => { results := [.lit (.bool true)], args := [d1, d2, d3] }
  | _ => none }
def fnExactColourFromListsRow : OpenClaim := { program := "ytoeaoinedidbiaa", sum := "31eed856850c32204b2e712635bd38e6893ef698b6659db9a346e5611dfe3b7d", func := "loop.example/g01084/laws.FnExactColourFromLists", spec := "fnExactColourFromLists", unfollowed := true, recurses := true, apart := false }
def FnExactColourFromListsSaid : Prop := fnExactColourFromListsRow.holds Try.pinned (OpenSpec.ofChange fnExactColourFromListsSpec)

/-- ITS FALSE NEIGHBOUR: 'it returns false'. Refute it at one input. -/
def fnExactColourFromListsWrong : ChangeSpec := { name := "fnExactColourFromLists", fn := fun _ => fun
  | [d1, d2, d3] => { results := [.lit (.bool false)], args := [d1, d2, d3] }
  | _ => none }
def FnExactColourFromListsWrongFalsely : Prop := fnExactColourFromListsRow.holds Try.pinned (OpenSpec.ofChange fnExactColourFromListsWrong)

/-- 'laws.FnExactFailingNetwork': WHATEVER THE INPUT: true; the input reads as it did. -/
def fnExactFailingNetworkSpec : ChangeSpec := { name := "fnExactFailingNetwork", fn := fun _ => fun
  | [d1, d2] => { results := [.lit (.bool true)], args := [d1, d2] }
  | _ => none }
def fnExactFailingNetworkRow : OpenClaim := { program := "ytoeaoinedidbiaa", sum := "31eed856850c32204b2e712635bd38e6893ef698b6659db9a346e5611dfe3b7d", func := "loop.example/g01084/laws.FnExactFailingNetwork", spec := "fnExactFailingNetwork", unfollowed := true, recurses := true, apart := false }
def FnExactFailingNetworkSaid : Prop := fnExactFailingNetworkRow.holds Try.pinned (OpenSpec.ofChange fnExactFailingNetworkSpec)

/-- ITS FALSE NEIGHBOUR: 'it returns false'. Refute it at one input. -/
def fnExactFailingNetworkWrong : ChangeSpec := { name := "fnExactFailingNetwork", fn := fun _ => fun
  | [d1, d2] => { results := [.lit (.bool false)], args := [d1, d2] }
  | _ => none }
def FnExactFailingNetworkWrongFalsely : Prop := fnExactFailingNetworkRow.holds Try.pinned (OpenSpec.ofChange fnExactFailingNetworkWrong)

/- THE SECOND FORM. 'bulk': how many values and letters a reading holds, each counted each time it is reached (what is shared counts as often as it is met; a slice's spare places count too). A statement '..UptoSaid' is the law's where the arguments, and the package variables that the reading takes, are together of bulk at most 1048576: NARROWER than '..Said'. Prove '..Said' where nothing that the law and all that it calls make is longer than what came in: it says more and counts as full. Else prove '..UptoSaid'. A law counts once. -/
mutual
def uptoBulk {H : Type} : DataW H → Nat
  | .lit (.string bytes) => bytes.length + 1
  | .lit _ => 1
  | .nil => 1
  | .ptr d => uptoBulk d + 1
  | .slice elems spare => uptoBulkAll elems + uptoBulkAll spare + 1
  | .agg parts => uptoBulkAll parts + 1
  | .iface _ d => uptoBulk d + 1
  | .map entries => uptoBulkEntries entries + 1
  | .held _ => 1
def uptoBulkAll {H : Type} : List (DataW H) → Nat
  | [] => 0
  | d :: r => uptoBulk d + uptoBulkAll r
def uptoBulkEntries {H : Type} : List (Lit × DataW H) → Nat
  | [] => 0
  | x :: r => uptoBulkEntry x + uptoBulkEntries r
def uptoBulkEntry {H : Type} : Lit × DataW H → Nat
  | (.string bytes, d) => bytes.length + uptoBulk d + 1
  | (_, d) => uptoBulk d + 1
 end
def uptoSmall : (H : Type) → List (DataW H) → Bool := fun _ ds => decide (uptoBulkAll ds ≤ 1048576)
def OpenSpec.upto (s : _root_.Go.ChangeSpec) : _root_.Go.OpenSpec := { _root_.Go.OpenSpec.ofChange s with cond := some uptoSmall }

/-- 'laws.FnExactIsEdgeColouring', WHERE WHAT IT READS IS OF BULK AT MOST 1048576: true; the input reads as it did. -/
def fnExactIsEdgeColouringUptoRow : OpenClaim := { program := "ytoeaoinedidbiaa", sum := "31eed856850c32204b2e712635bd38e6893ef698b6659db9a346e5611dfe3b7d", func := "loop.example/g01084/laws.FnExactIsEdgeColouring", spec := "fnExactIsEdgeColouring", unfollowed := true, recurses := true, apart := false, narrowed := true }
def FnExactIsEdgeColouringUptoSaid : Prop := fnExactIsEdgeColouringUptoRow.holds Try.pinned (OpenSpec.upto fnExactIsEdgeColouringSpec)

/-- 'laws.FnExactIsDistanceColouring', WHERE WHAT IT READS IS OF BULK AT MOST 1048576: true; the input reads as it did. -/
def fnExactIsDistanceColouringUptoRow : OpenClaim := { program := "ytoeaoinedidbiaa", sum := "31eed856850c32204b2e712635bd38e6893ef698b6659db9a346e5611dfe3b7d", func := "loop.example/g01084/laws.FnExactIsDistanceColouring", spec := "fnExactIsDistanceColouring", unfollowed := true, recurses := true, apart := false, narrowed := true }
def FnExactIsDistanceColouringUptoSaid : Prop := fnExactIsDistanceColouringUptoRow.holds Try.pinned (OpenSpec.upto fnExactIsDistanceColouringSpec)

/-- 'laws.FnExactLeastCover', WHERE WHAT IT READS IS OF BULK AT MOST 1048576: true; the input reads as it did. -/
def fnExactLeastCoverUptoRow : OpenClaim := { program := "ytoeaoinedidbiaa", sum := "31eed856850c32204b2e712635bd38e6893ef698b6659db9a346e5611dfe3b7d", func := "loop.example/g01084/laws.FnExactLeastCover", spec := "fnExactLeastCover", unfollowed := true, recurses := true, apart := false, narrowed := true }
def FnExactLeastCoverUptoSaid : Prop := fnExactLeastCoverUptoRow.holds Try.pinned (OpenSpec.upto fnExactLeastCoverSpec)

/-- 'laws.FnExactGreedyEdgeColouring', WHERE WHAT IT READS IS OF BULK AT MOST 1048576: true; the input reads as it did. -/
def fnExactGreedyEdgeColouringUptoRow : OpenClaim := { program := "ytoeaoinedidbiaa", sum := "31eed856850c32204b2e712635bd38e6893ef698b6659db9a346e5611dfe3b7d", func := "loop.example/g01084/laws.FnExactGreedyEdgeColouring", spec := "fnExactGreedyEdgeColouring", unfollowed := true, recurses := true, apart := false, narrowed := true }
def FnExactGreedyEdgeColouringUptoSaid : Prop := fnExactGreedyEdgeColouringUptoRow.holds Try.pinned (OpenSpec.upto fnExactGreedyEdgeColouringSpec)

/-- 'laws.FnExactCoverByProposals', WHERE WHAT IT READS IS OF BULK AT MOST 1048576: true; the input reads as it did. -/
def fnExactCoverByProposalsUptoRow : OpenClaim := { program := "ytoeaoinedidbiaa", sum := "31eed856850c32204b2e712635bd38e6893ef698b6659db9a346e5611dfe3b7d", func := "loop.example/g01084/laws.FnExactCoverByProposals", spec := "fnExactCoverByProposals", unfollowed := true, recurses := true, apart := false, narrowed := true }
def FnExactCoverByProposalsUptoSaid : Prop := fnExactCoverByProposalsUptoRow.holds Try.pinned (OpenSpec.upto fnExactCoverByProposalsSpec)

/-- 'laws.FnExactPolynomialStep', WHERE WHAT IT READS IS OF BULK AT MOST 1048576: true; the input reads as it did. -/
def fnExactPolynomialStepUptoRow : OpenClaim := { program := "ytoeaoinedidbiaa", sum := "31eed856850c32204b2e712635bd38e6893ef698b6659db9a346e5611dfe3b7d", func := "loop.example/g01084/laws.FnExactPolynomialStep", spec := "fnExactPolynomialStep", unfollowed := true, recurses := true, apart := false, narrowed := true }
def FnExactPolynomialStepUptoSaid : Prop := fnExactPolynomialStepUptoRow.holds Try.pinned (OpenSpec.upto fnExactPolynomialStepSpec)

/-- 'laws.FnExactLevelsFor', WHERE WHAT IT READS IS OF BULK AT MOST 1048576: true; the input reads as it did. -/
def fnExactLevelsForUptoRow : OpenClaim := { program := "ytoeaoinedidbiaa", sum := "31eed856850c32204b2e712635bd38e6893ef698b6659db9a346e5611dfe3b7d", func := "loop.example/g01084/laws.FnExactLevelsFor", spec := "fnExactLevelsFor", unfollowed := true, recurses := true, apart := false, narrowed := true }
def FnExactLevelsForUptoSaid : Prop := fnExactLevelsForUptoRow.holds Try.pinned (OpenSpec.upto fnExactLevelsForSpec)

/-- 'laws.FnExactIndependentByColours', WHERE WHAT IT READS IS OF BULK AT MOST 1048576: true; the input reads as it did. -/
def fnExactIndependentByColoursUptoRow : OpenClaim := { program := "ytoeaoinedidbiaa", sum := "31eed856850c32204b2e712635bd38e6893ef698b6659db9a346e5611dfe3b7d", func := "loop.example/g01084/laws.FnExactIndependentByColours", spec := "fnExactIndependentByColours", unfollowed := true, recurses := true, apart := false, narrowed := true }
def FnExactIndependentByColoursUptoSaid : Prop := fnExactIndependentByColoursUptoRow.holds Try.pinned (OpenSpec.upto fnExactIndependentByColoursSpec)

/-- 'laws.FnExactColourFromLists', WHERE WHAT IT READS IS OF BULK AT MOST 1048576: true; the input reads as it did. -/
def fnExactColourFromListsUptoRow : OpenClaim := { program := "ytoeaoinedidbiaa", sum := "31eed856850c32204b2e712635bd38e6893ef698b6659db9a346e5611dfe3b7d", func := "loop.example/g01084/laws.FnExactColourFromLists", spec := "fnExactColourFromLists", unfollowed := true, recurses := true, apart := false, narrowed := true }
def FnExactColourFromListsUptoSaid : Prop := fnExactColourFromListsUptoRow.holds Try.pinned (OpenSpec.upto fnExactColourFromListsSpec)

/-- 'laws.FnExactFailingNetwork', WHERE WHAT IT READS IS OF BULK AT MOST 1048576: true; the input reads as it did. -/
def fnExactFailingNetworkUptoRow : OpenClaim := { program := "ytoeaoinedidbiaa", sum := "31eed856850c32204b2e712635bd38e6893ef698b6659db9a346e5611dfe3b7d", func := "loop.example/g01084/laws.FnExactFailingNetwork", spec := "fnExactFailingNetwork", unfollowed := true, recurses := true, apart := false, narrowed := true }
def FnExactFailingNetworkUptoSaid : Prop := fnExactFailingNetworkUptoRow.holds Try.pinned (OpenSpec.upto fnExactFailingNetworkSpec)

end Rows
end Go.Proofs.Ytoeaoinedidbiaa
