/-
  No cell of these rows narrows 'for every input' (looked for: loops, veiled, ifaces, maps, wideKeys, modest, calm, conditions, laid).
  DERIVED. THE GIVEN ROWS OF THIS SEAT. 11 by the template 'for every input the law returns true; each argument reads behind the call as it read before'; 0 by the template 'total and deterministic' (their statements: YtcilbmkieclelaaTotals.lean).
  GIVEN WITH THE SEED: the statements are not yours to turn. If you find one false, say at which input.
  Laid BY PROGRAM, IN A SANDBOX (cutbox-rows.mjs): the forced cells as the released guide's own fill.sh prints them over the translation 671ac2968016e969… (all of the seat's roots in one cut). By AI agents, Wed Nov 11 2026. No macro, syntax, notation, axiom, sorry.
-/
import Derived.Test.YtcilbmkieclelaaChecked
import GoSem.Claim
import GoSem.ClaimJoined
import GoSem.ClaimMapViews
import Derived.JoinedTies
import Derived.KernelRfl
namespace Go.Proofs.Ytcilbmkieclelaa
/- THE CELL 'sum', in the pinned program and in every row, IS THE sha256 OF THE DUMP (.gsa) THAT YtcilbmkieclelaaProg.lean LOADS. Nothing in Lean hashes anything: it is a label: what it is worth is what the hold of that sum in a sandbox is worth. -/
noncomputable def Try.pinned : Pinned := { name := "ytcilbmkieclelaa", sum := "671ac2968016e969a6cbedc2779bc997de8bd8e8f3c458e8831cd072e9ee8219", checked := Try.checked }
namespace Rows
def none {H : Type} : Left H := { results := [], args := [] }

/-- 'laws.FnExactIsEdgeColouring': WHATEVER THE INPUT: true; the input reads as it did. -/
def fnExactIsEdgeColouringSpec : ChangeSpec := { name := "fnExactIsEdgeColouring", fn := fun _ => fun
  | [d1, d2] => { results := [.lit (.bool true)], args := [d1, d2] }
  | _ => none }
def fnExactIsEdgeColouringRow : OpenClaim := { program := "ytcilbmkieclelaa", sum := "671ac2968016e969a6cbedc2779bc997de8bd8e8f3c458e8831cd072e9ee8219", func := "loop.example/g01084/laws.FnExactIsEdgeColouring", spec := "fnExactIsEdgeColouring", unfollowed := true, recurses := true, apart := false }
def FnExactIsEdgeColouringSaid : Prop := fnExactIsEdgeColouringRow.holds Try.pinned (OpenSpec.ofChange fnExactIsEdgeColouringSpec)

/-- ITS FALSE NEIGHBOUR: 'it returns false'. Refute it at one input. -/
def fnExactIsEdgeColouringWrong : ChangeSpec := { name := "fnExactIsEdgeColouring", fn := fun _ => fun
  | [d1, d2] => { results := [.lit (.bool false)], args := [d1, d2] }
  | _ => none }
def FnExactIsEdgeColouringWrongFalsely : Prop := fnExactIsEdgeColouringRow.holds Try.pinned (OpenSpec.ofChange fnExactIsEdgeColouringWrong)

/-- 'laws.FnExactIsDistanceColouring': WHATEVER THE INPUT: true; the input reads as it did. -/
def fnExactIsDistanceColouringSpec : ChangeSpec := { name := "fnExactIsDistanceColouring", fn := fun _ => fun
  | [d1, d2, d3] => { results := [.lit (.bool true)], args := [d1, d2, d3] }
  | _ => none }
def fnExactIsDistanceColouringRow : OpenClaim := { program := "ytcilbmkieclelaa", sum := "671ac2968016e969a6cbedc2779bc997de8bd8e8f3c458e8831cd072e9ee8219", func := "loop.example/g01084/laws.FnExactIsDistanceColouring", spec := "fnExactIsDistanceColouring", unfollowed := true, recurses := true, apart := false }
def FnExactIsDistanceColouringSaid : Prop := fnExactIsDistanceColouringRow.holds Try.pinned (OpenSpec.ofChange fnExactIsDistanceColouringSpec)

/-- ITS FALSE NEIGHBOUR: 'it returns false'. Refute it at one input. -/
def fnExactIsDistanceColouringWrong : ChangeSpec := { name := "fnExactIsDistanceColouring", fn := fun _ => fun
  | [d1, d2, d3] => { results := [.lit (.bool false)], args := [d1, d2, d3] }
  | _ => none }
def FnExactIsDistanceColouringWrongFalsely : Prop := fnExactIsDistanceColouringRow.holds Try.pinned (OpenSpec.ofChange fnExactIsDistanceColouringWrong)

/-- 'laws.FnExactGreedyIndependent': WHATEVER THE INPUT: true; the input reads as it did. -/
def fnExactGreedyIndependentSpec : ChangeSpec := { name := "fnExactGreedyIndependent", fn := fun _ => fun
  | [d1, d2] => { results := [.lit (.bool true)], args := [d1, d2] }
  | _ => none }
def fnExactGreedyIndependentRow : OpenClaim := { program := "ytcilbmkieclelaa", sum := "671ac2968016e969a6cbedc2779bc997de8bd8e8f3c458e8831cd072e9ee8219", func := "loop.example/g01084/laws.FnExactGreedyIndependent", spec := "fnExactGreedyIndependent", unfollowed := true, recurses := true, apart := false }
def FnExactGreedyIndependentSaid : Prop := fnExactGreedyIndependentRow.holds Try.pinned (OpenSpec.ofChange fnExactGreedyIndependentSpec)

/-- ITS FALSE NEIGHBOUR: 'it returns false'. Refute it at one input. -/
def fnExactGreedyIndependentWrong : ChangeSpec := { name := "fnExactGreedyIndependent", fn := fun _ => fun
  | [d1, d2] => { results := [.lit (.bool false)], args := [d1, d2] }
  | _ => none }
def FnExactGreedyIndependentWrongFalsely : Prop := fnExactGreedyIndependentRow.holds Try.pinned (OpenSpec.ofChange fnExactGreedyIndependentWrong)

/-- 'laws.FnExactRulingByIds': WHATEVER THE INPUT: true; the input reads as it did. -/
def fnExactRulingByIdsSpec : ChangeSpec := { name := "fnExactRulingByIds", fn := fun _ => fun
  | [d] => { results := [.lit (.bool true)], args := [d] }
  | _ => none }
def fnExactRulingByIdsRow : OpenClaim := { program := "ytcilbmkieclelaa", sum := "671ac2968016e969a6cbedc2779bc997de8bd8e8f3c458e8831cd072e9ee8219", func := "loop.example/g01084/laws.FnExactRulingByIds", spec := "fnExactRulingByIds", unfollowed := true, recurses := true, apart := false }
def FnExactRulingByIdsSaid : Prop := fnExactRulingByIdsRow.holds Try.pinned (OpenSpec.ofChange fnExactRulingByIdsSpec)

/-- ITS FALSE NEIGHBOUR: 'it returns false'. Refute it at one input. -/
def fnExactRulingByIdsWrong : ChangeSpec := { name := "fnExactRulingByIds", fn := fun _ => fun
  | [d] => { results := [.lit (.bool false)], args := [d] }
  | _ => none }
def FnExactRulingByIdsWrongFalsely : Prop := fnExactRulingByIdsRow.holds Try.pinned (OpenSpec.ofChange fnExactRulingByIdsWrong)

/-- 'laws.FnExactImproveMatching': WHATEVER THE INPUT: true; the input reads as it did. -/
def fnExactImproveMatchingSpec : ChangeSpec := { name := "fnExactImproveMatching", fn := fun _ => fun
  | [d1, d2] => { results := [.lit (.bool true)], args := [d1, d2] }
  | _ => none }
def fnExactImproveMatchingRow : OpenClaim := { program := "ytcilbmkieclelaa", sum := "671ac2968016e969a6cbedc2779bc997de8bd8e8f3c458e8831cd072e9ee8219", func := "loop.example/g01084/laws.FnExactImproveMatching", spec := "fnExactImproveMatching", unfollowed := true, recurses := true, apart := false }
def FnExactImproveMatchingSaid : Prop := fnExactImproveMatchingRow.holds Try.pinned (OpenSpec.ofChange fnExactImproveMatchingSpec)

/-- ITS FALSE NEIGHBOUR: 'it returns false'. Refute it at one input. -/
def fnExactImproveMatchingWrong : ChangeSpec := { name := "fnExactImproveMatching", fn := fun _ => fun
  | [d1, d2] => { results := [.lit (.bool false)], args := [d1, d2] }
  | _ => none }
def FnExactImproveMatchingWrongFalsely : Prop := fnExactImproveMatchingRow.holds Try.pinned (OpenSpec.ofChange fnExactImproveMatchingWrong)

/-- 'laws.FnExactWeakFromSet': WHATEVER THE INPUT: true; the input reads as it did. -/
def fnExactWeakFromSetSpec : ChangeSpec := { name := "fnExactWeakFromSet", fn := fun _ => fun
  | [d1, d2] => { results := [.lit (.bool true)], args := [d1, d2] }
  | _ => none }
def fnExactWeakFromSetRow : OpenClaim := { program := "ytcilbmkieclelaa", sum := "671ac2968016e969a6cbedc2779bc997de8bd8e8f3c458e8831cd072e9ee8219", func := "loop.example/g01084/laws.FnExactWeakFromSet", spec := "fnExactWeakFromSet", unfollowed := true, recurses := true, apart := false }
def FnExactWeakFromSetSaid : Prop := fnExactWeakFromSetRow.holds Try.pinned (OpenSpec.ofChange fnExactWeakFromSetSpec)

/-- ITS FALSE NEIGHBOUR: 'it returns false'. Refute it at one input. -/
def fnExactWeakFromSetWrong : ChangeSpec := { name := "fnExactWeakFromSet", fn := fun _ => fun
  | [d1, d2] => { results := [.lit (.bool false)], args := [d1, d2] }
  | _ => none }
def FnExactWeakFromSetWrongFalsely : Prop := fnExactWeakFromSetRow.holds Try.pinned (OpenSpec.ofChange fnExactWeakFromSetWrong)

/-- 'laws.FnExactGreedyMatching': WHATEVER THE INPUT: true; the input reads as it did. -/
def fnExactGreedyMatchingSpec : ChangeSpec := { name := "fnExactGreedyMatching", fn := fun _ => fun
  | [d] => { results := [.lit (.bool true)], args := [d] }
  | _ => none }
def fnExactGreedyMatchingRow : OpenClaim := { program := "ytcilbmkieclelaa", sum := "671ac2968016e969a6cbedc2779bc997de8bd8e8f3c458e8831cd072e9ee8219", func := "loop.example/g01084/laws.FnExactGreedyMatching", spec := "fnExactGreedyMatching", unfollowed := true, recurses := true, apart := false }
def FnExactGreedyMatchingSaid : Prop := fnExactGreedyMatchingRow.holds Try.pinned (OpenSpec.ofChange fnExactGreedyMatchingSpec)

/-- ITS FALSE NEIGHBOUR: 'it returns false'. Refute it at one input. -/
def fnExactGreedyMatchingWrong : ChangeSpec := { name := "fnExactGreedyMatching", fn := fun _ => fun
  | [d] => { results := [.lit (.bool false)], args := [d] }
  | _ => none }
def FnExactGreedyMatchingWrongFalsely : Prop := fnExactGreedyMatchingRow.holds Try.pinned (OpenSpec.ofChange fnExactGreedyMatchingWrong)

/-- 'laws.FnExactDropColour': WHATEVER THE INPUT: true; the input reads as it did. -/
def fnExactDropColourSpec : ChangeSpec := { name := "fnExactDropColour", fn := fun _ => fun
  | [d1, d2, d3] => { results := [.lit (.bool true)], args := [d1, d2, d3] }
  | _ => none }
def fnExactDropColourRow : OpenClaim := { program := "ytcilbmkieclelaa", sum := "671ac2968016e969a6cbedc2779bc997de8bd8e8f3c458e8831cd072e9ee8219", func := "loop.example/g01084/laws.FnExactDropColour", spec := "fnExactDropColour", unfollowed := true, recurses := true, apart := false }
def FnExactDropColourSaid : Prop := fnExactDropColourRow.holds Try.pinned (OpenSpec.ofChange fnExactDropColourSpec)

/-- ITS FALSE NEIGHBOUR: 'it returns false'. Refute it at one input. -/
def fnExactDropColourWrong : ChangeSpec := { name := "fnExactDropColour", fn := fun _ => fun
  | [d1, d2, d3] => { results := [.lit (.bool false)], args := [d1, d2, d3] }
  | _ => none }
def FnExactDropColourWrongFalsely : Prop := fnExactDropColourRow.holds Try.pinned (OpenSpec.ofChange fnExactDropColourWrong)

/-- 'laws.FnExactLeastCover': WHATEVER THE INPUT: true; the input reads as it did. -/
def fnExactLeastCoverSpec : ChangeSpec := { name := "fnExactLeastCover", fn := fun _ => fun
  | [d] => { results := [.lit (.bool true)], args := [d] }
  | _ => none }
def fnExactLeastCoverRow : OpenClaim := { program := "ytcilbmkieclelaa", sum := "671ac2968016e969a6cbedc2779bc997de8bd8e8f3c458e8831cd072e9ee8219", func := "loop.example/g01084/laws.FnExactLeastCover", spec := "fnExactLeastCover", unfollowed := true, recurses := true, apart := false }
def FnExactLeastCoverSaid : Prop := fnExactLeastCoverRow.holds Try.pinned (OpenSpec.ofChange fnExactLeastCoverSpec)

/-- ITS FALSE NEIGHBOUR: 'it returns false'. Refute it at one input. -/
def fnExactLeastCoverWrong : ChangeSpec := { name := "fnExactLeastCover", fn := fun _ => fun
  | [d] => { results := [.lit (.bool false)], args := [d] }
  | _ => none }
def FnExactLeastCoverWrongFalsely : Prop := fnExactLeastCoverRow.holds Try.pinned (OpenSpec.ofChange fnExactLeastCoverWrong)

/-- 'laws.FnExactIndependentByIds': WHATEVER THE INPUT: true; the input reads as it did. -/
def fnExactIndependentByIdsSpec : ChangeSpec := { name := "fnExactIndependentByIds", fn := fun _ => fun
  | [d] => { results := [.lit (.bool true)], args := [d] }
  | _ => none }
def fnExactIndependentByIdsRow : OpenClaim := { program := "ytcilbmkieclelaa", sum := "671ac2968016e969a6cbedc2779bc997de8bd8e8f3c458e8831cd072e9ee8219", func := "loop.example/g01084/laws.FnExactIndependentByIds", spec := "fnExactIndependentByIds", unfollowed := true, recurses := true, apart := false }
def FnExactIndependentByIdsSaid : Prop := fnExactIndependentByIdsRow.holds Try.pinned (OpenSpec.ofChange fnExactIndependentByIdsSpec)

/-- ITS FALSE NEIGHBOUR: 'it returns false'. Refute it at one input. -/
def fnExactIndependentByIdsWrong : ChangeSpec := { name := "fnExactIndependentByIds", fn := fun _ => fun
  | [d] => { results := [.lit (.bool false)], args := [d] }
  | _ => none }
def FnExactIndependentByIdsWrongFalsely : Prop := fnExactIndependentByIdsRow.holds Try.pinned (OpenSpec.ofChange fnExactIndependentByIdsWrong)

/-- 'laws.FnExactProposalMatching': WHATEVER THE INPUT: true; the input reads as it did. -/
def fnExactProposalMatchingSpec : ChangeSpec := { name := "fnExactProposalMatching", fn := fun _ => fun
  | [d1, d2] => { results := [.lit (.bool true)], args := [d1, d2] }
  | _ => none }
def fnExactProposalMatchingRow : OpenClaim := { program := "ytcilbmkieclelaa", sum := "671ac2968016e969a6cbedc2779bc997de8bd8e8f3c458e8831cd072e9ee8219", func := "loop.example/g01084/laws.FnExactProposalMatching", spec := "fnExactProposalMatching", unfollowed := true, recurses := true, apart := false }
def FnExactProposalMatchingSaid : Prop := fnExactProposalMatchingRow.holds Try.pinned (OpenSpec.ofChange fnExactProposalMatchingSpec)

/-- ITS FALSE NEIGHBOUR: 'it returns false'. Refute it at one input. -/
def fnExactProposalMatchingWrong : ChangeSpec := { name := "fnExactProposalMatching", fn := fun _ => fun
  | [d1, d2] => { results := [.lit (.bool false)], args := [d1, d2] }
  | _ => none }
def FnExactProposalMatchingWrongFalsely : Prop := fnExactProposalMatchingRow.holds Try.pinned (OpenSpec.ofChange fnExactProposalMatchingWrong)

/- THE SECOND FORM. 'bulk': how many values and letters a reading holds, each counted each time it is reached (what is shared counts as often as it is met; a slice's spare places count too). A statement '..UptoSaid' is the law's where the arguments, and the package variables that the reading takes, are together of bulk at most 1048576: NARROWER than '..Said'. Prove '..Said' where nothing that the law and all that it calls make is longer than what came in: it says more and counts as full. Else prove '..UptoSaid'. A law counts once. -/
mutual
def uptoBulk {H : Type} : DataW H → Nat
  | .lit (.string bytes) => bytes.length + 1
  | .lit _ => 1
  | .nil => 1
  | .ptr d => uptoBulk d + 1
  | .slice elems spare => uptoBulkAll elems + uptoBulkAll spare + 1
  | .agg parts => uptoBulkAll parts + 1
  | .iface _ d => uptoBulk d + 1
  | .map entries => uptoBulkEntries entries + 1
  | .held _ => 1
def uptoBulkAll {H : Type} : List (DataW H) → Nat
  | [] => 0
  | d :: r => uptoBulk d + uptoBulkAll r
def uptoBulkEntries {H : Type} : List (Lit × DataW H) → Nat
  | [] => 0
  | x :: r => uptoBulkEntry x + uptoBulkEntries r
def uptoBulkEntry {H : Type} : Lit × DataW H → Nat
  | (.string bytes, d) => bytes.length + uptoBulk d + 1
  | (_, d) => uptoBulk d + 1
 end
def uptoSmall : (H : Type) → List (DataW H) → Bool := fun _ ds => decide (uptoBulkAll ds ≤ 1048576)
def OpenSpec.upto (s : _root_.Go.ChangeSpec) : _root_.Go.OpenSpec := { _root_.Go.OpenSpec.ofChange s with cond := some uptoSmall }

/-- 'laws.FnExactIsEdgeColouring', WHERE WHAT IT READS IS OF BULK AT MOST 1048576: true; the input reads as it did. -/
def fnExactIsEdgeColouringUptoRow : OpenClaim := { program := "ytcilbmkieclelaa", sum := "671ac2968016e969a6cbedc2779bc997de8bd8e8f3c458e8831cd072e9ee8219", func := "loop.example/g01084/laws.FnExactIsEdgeColouring", spec := "fnExactIsEdgeColouring", unfollowed := true, recurses := true, apart := false, narrowed := true }
def FnExactIsEdgeColouringUptoSaid : Prop := fnExactIsEdgeColouringUptoRow.holds Try.pinned (OpenSpec.upto fnExactIsEdgeColouringSpec)

/-- 'laws.FnExactIsDistanceColouring', WHERE WHAT IT READS IS OF BULK AT MOST 1048576: true; the input reads as it did. -/
def fnExactIsDistanceColouringUptoRow : OpenClaim := { program := "ytcilbmkieclelaa", sum := "671ac2968016e969a6cbedc2779bc997de8bd8e8f3c458e8831cd072e9ee8219", func := "loop.example/g01084/laws.FnExactIsDistanceColouring", spec := "fnExactIsDistanceColouring", unfollowed := true, recurses := true, apart := false, narrowed := true }
def FnExactIsDistanceColouringUptoSaid : Prop := fnExactIsDistanceColouringUptoRow.holds Try.pinned (OpenSpec.upto fnExactIsDistanceColouringSpec)

/-- 'laws.FnExactGreedyIndependent', WHERE WHAT IT READS IS OF BULK AT MOST 1048576: true; the input reads as it did. -/
def fnExactGreedyIndependentUptoRow : OpenClaim := { program := "ytcilbmkieclelaa", sum := "671ac2968016e969a6cbedc2779bc997de8bd8e8f3c458e8831cd072e9ee8219", func := "loop.example/g01084/laws.FnExactGreedyIndependent", spec := "fnExactGreedyIndependent", unfollowed := true, recurses := true, apart := false, narrowed := true }
def FnExactGreedyIndependentUptoSaid : Prop := fnExactGreedyIndependentUptoRow.holds Try.pinned (OpenSpec.upto fnExactGreedyIndependentSpec)

/-- 'laws.FnExactRulingByIds', WHERE WHAT IT READS IS OF BULK AT MOST 1048576: true; the input reads as it did. -/
def fnExactRulingByIdsUptoRow : OpenClaim := { program := "ytcilbmkieclelaa", sum := "671ac2968016e969a6cbedc2779bc997de8bd8e8f3c458e8831cd072e9ee8219", func := "loop.example/g01084/laws.FnExactRulingByIds", spec := "fnExactRulingByIds", unfollowed := true, recurses := true, apart := false, narrowed := true }
def FnExactRulingByIdsUptoSaid : Prop := fnExactRulingByIdsUptoRow.holds Try.pinned (OpenSpec.upto fnExactRulingByIdsSpec)

/-- 'laws.FnExactImproveMatching', WHERE WHAT IT READS IS OF BULK AT MOST 1048576: true; the input reads as it did. -/
def fnExactImproveMatchingUptoRow : OpenClaim := { program := "ytcilbmkieclelaa", sum := "671ac2968016e969a6cbedc2779bc997de8bd8e8f3c458e8831cd072e9ee8219", func := "loop.example/g01084/laws.FnExactImproveMatching", spec := "fnExactImproveMatching", unfollowed := true, recurses := true, apart := false, narrowed := true }
def FnExactImproveMatchingUptoSaid : Prop := fnExactImproveMatchingUptoRow.holds Try.pinned (OpenSpec.upto fnExactImproveMatchingSpec)

/-- 'laws.FnExactWeakFromSet', WHERE WHAT IT READS IS OF BULK AT MOST 1048576: true; the input reads as it did. -/
def fnExactWeakFromSetUptoRow : OpenClaim := { program := "ytcilbmkieclelaa", sum := "671ac2968016e969a6cbedc2779bc997de8bd8e8f3c458e8831cd072e9ee8219", func := "loop.example/g01084/laws.FnExactWeakFromSet", spec := "fnExactWeakFromSet", unfollowed := true, recurses := true, apart := false, narrowed := true }
def FnExactWeakFromSetUptoSaid : Prop := fnExactWeakFromSetUptoRow.holds Try.pinned (OpenSpec.upto fnExactWeakFromSetSpec)

/-- 'laws.FnExactGreedyMatching', WHERE WHAT IT READS IS OF BULK AT MOST 1048576: true; the input reads as it did. -/
def fnExactGreedyMatchingUptoRow : OpenClaim := { program := "ytcilbmkieclelaa", sum := "671ac2968016e969a6cbedc2779bc997de8bd8e8f3c458e8831cd072e9ee8219", func := "loop.example/g01084/laws.FnExactGreedyMatching", spec := "fnExactGreedyMatching", unfollowed := true, recurses := true, apart := false, narrowed := true }
def FnExactGreedyMatchingUptoSaid : Prop := fnExactGreedyMatchingUptoRow.holds Try.pinned (OpenSpec.upto fnExactGreedyMatchingSpec)

/-- 'laws.FnExactDropColour', WHERE WHAT IT READS IS OF BULK AT MOST 1048576: true; the input reads as it did. -/
def fnExactDropColourUptoRow : OpenClaim := { program := "ytcilbmkieclelaa", sum := "671ac2968016e969a6cbedc2779bc997de8bd8e8f3c458e8831cd072e9ee8219", func := "loop.example/g01084/laws.FnExactDropColour", spec := "fnExactDropColour", unfollowed := true, recurses := true, apart := false, narrowed := true }
def FnExactDropColourUptoSaid : Prop := fnExactDropColourUptoRow.holds Try.pinned (OpenSpec.upto fnExactDropColourSpec)

/-- 'laws.FnExactLeastCover', WHERE WHAT IT READS IS OF BULK AT MOST 1048576: true; the input reads as it did. -/
def fnExactLeastCoverUptoRow : OpenClaim := { program := "ytcilbmkieclelaa", sum := "671ac2968016e969a6cbedc2779bc997de8bd8e8f3c458e8831cd072e9ee8219", func := "loop.example/g01084/laws.FnExactLeastCover", spec := "fnExactLeastCover", unfollowed := true, recurses := true, apart := false, narrowed := true }
def FnExactLeastCoverUptoSaid : Prop := fnExactLeastCoverUptoRow.holds Try.pinned (OpenSpec.upto fnExactLeastCoverSpec)

/-- 'laws.FnExactIndependentByIds', WHERE WHAT IT READS IS OF BULK AT MOST 1048576: true; the input reads as it did. -/
def fnExactIndependentByIdsUptoRow : OpenClaim := { program := "ytcilbmkieclelaa", sum := "671ac2968016e969a6cbedc2779bc997de8bd8e8f3c458e8831cd072e9ee8219", func := "loop.example/g01084/laws.FnExactIndependentByIds", spec := "fnExactIndependentByIds", unfollowed := true, recurses := true, apart := false, narrowed := true }
def FnExactIndependentByIdsUptoSaid : Prop := fnExactIndependentByIdsUptoRow.holds Try.pinned (OpenSpec.upto fnExactIndependentByIdsSpec)

/-- 'laws.FnExactProposalMatching', WHERE WHAT IT READS IS OF BULK AT MOST 1048576: true; the input reads as it did. -/
def fnExactProposalMatchingUptoRow : OpenClaim := { program := "ytcilbmkieclelaa", sum := "671ac2968016e969a6cbedc2779bc997de8bd8e8f3c458e8831cd072e9ee8219", func := "loop.example/g01084/laws.FnExactProposalMatching", spec := "fnExactProposalMatching", unfollowed := true, recurses := true, apart := false, narrowed := true }
def FnExactProposalMatchingUptoSaid : Prop := fnExactProposalMatchingUptoRow.holds Try.pinned (OpenSpec.upto fnExactProposalMatchingSpec)

end Rows
end Go.Proofs.Ytcilbmkieclelaa
