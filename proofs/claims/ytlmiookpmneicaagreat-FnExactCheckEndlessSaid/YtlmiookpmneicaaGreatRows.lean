/-
  No cell of these rows narrows 'for every input' (looked for: loops, veiled, ifaces, maps, wideKeys, modest, calm, conditions, laid).
  DERIVED. THE GIVEN ROWS OF THIS SEAT. 10 by the template 'for every input the law returns true; each argument reads behind the call as it read before'; 0 by the template 'total and deterministic' (their statements: YtlmiookpmneicaaGreatTotals.lean).
  GIVEN WITH THE SEED: the statements are not yours to turn. If you find one false, say at which input.
  Laid BY PROGRAM, IN A SANDBOX (cutbox-rows.mjs): the forced cells as the released guide's own fill.sh prints them over the translation 48364c957a3b7231… (all of the seat's roots in one cut). By AI agents, Wed Nov 11 2026. No macro, syntax, notation, axiom, sorry.
-/
import Derived.Test.YtlmiookpmneicaaGreatChecked
import GoSem.Claim
import GoSem.ClaimJoined
import GoSem.ClaimMapViews
import Derived.JoinedTies
import Derived.KernelRfl
namespace Go.Proofs.YtlmiookpmneicaaGreat
/- THE CELL 'sum', in the pinned program and in every row, IS THE sha256 OF THE DUMP (.gsa) THAT YtlmiookpmneicaaGreatProg.lean LOADS. Nothing in Lean hashes anything: it is a label: what it is worth is what the hold of that sum in a sandbox is worth. -/
noncomputable def Tryz.pinned : Pinned := { name := "ytlmiookpmneicaagreat", sum := "48364c957a3b72310020d401f9b1f887e2d4cea9680df4758d13b2a3b2a00ab4", checked := Tryz.checked }
namespace Rows
def none {H : Type} : Left H := { results := [], args := [] }

/-- 'laws.FnExactMapByConfigs': WHATEVER THE INPUT: true; the input reads as it did. -/
def fnExactMapByConfigsSpec : ChangeSpec := { name := "fnExactMapByConfigs", fn := fun _ => fun
  | [d1, d2, d3, d4, d5] => { results := [.lit (.bool true)], args := [d1, d2, d3, d4, d5] }
  | _ => none }
def fnExactMapByConfigsRow : OpenClaim := { program := "ytlmiookpmneicaagreat", sum := "48364c957a3b72310020d401f9b1f887e2d4cea9680df4758d13b2a3b2a00ab4", func := "loop.example/g01084/laws.FnExactMapByConfigs", spec := "fnExactMapByConfigs", unfollowed := true, recurses := true, apart := false }
def FnExactMapByConfigsSaid : Prop := fnExactMapByConfigsRow.holds Tryz.pinned (OpenSpec.ofChange fnExactMapByConfigsSpec)

/-- ITS FALSE NEIGHBOUR: 'it returns false'. Refute it at one input. -/
def fnExactMapByConfigsWrong : ChangeSpec := { name := "fnExactMapByConfigs", fn := fun _ => fun
  | [d1, d2, d3, d4, d5] => { results := [.lit (.bool false)], args := [d1, d2, d3, d4, d5] }
  | _ => none }
def FnExactMapByConfigsWrongFalsely : Prop := fnExactMapByConfigsRow.holds Tryz.pinned (OpenSpec.ofChange fnExactMapByConfigsWrong)

/-- 'laws.FnExactSplitProduct': WHATEVER THE INPUT: true; the input reads as it did. -/
def fnExactSplitProductSpec : ChangeSpec := { name := "fnExactSplitProduct", fn := fun _ => fun
  | [d1, d2, d3, d4] => { results := [.lit (.bool true)], args := [d1, d2, d3, d4] }
  | _ => none }
def fnExactSplitProductRow : OpenClaim := { program := "ytlmiookpmneicaagreat", sum := "48364c957a3b72310020d401f9b1f887e2d4cea9680df4758d13b2a3b2a00ab4", func := "loop.example/g01084/laws.FnExactSplitProduct", spec := "fnExactSplitProduct", unfollowed := true, recurses := true, apart := false }
def FnExactSplitProductSaid : Prop := fnExactSplitProductRow.holds Tryz.pinned (OpenSpec.ofChange fnExactSplitProductSpec)

/-- ITS FALSE NEIGHBOUR: 'it returns false'. Refute it at one input. -/
def fnExactSplitProductWrong : ChangeSpec := { name := "fnExactSplitProduct", fn := fun _ => fun
  | [d1, d2, d3, d4] => { results := [.lit (.bool false)], args := [d1, d2, d3, d4] }
  | _ => none }
def FnExactSplitProductWrongFalsely : Prop := fnExactSplitProductRow.holds Tryz.pinned (OpenSpec.ofChange fnExactSplitProductWrong)

/-- 'laws.FnExactCheckEndless': WHATEVER THE INPUT: true; the input reads as it did. -/
def fnExactCheckEndlessSpec : ChangeSpec := { name := "fnExactCheckEndless", fn := fun _ => fun
  | [d1, d2, d3] => { results := [.lit (.bool true)], args := [d1, d2, d3] }
  | _ => none }
def fnExactCheckEndlessRow : OpenClaim := { program := "ytlmiookpmneicaagreat", sum := "48364c957a3b72310020d401f9b1f887e2d4cea9680df4758d13b2a3b2a00ab4", func := "loop.example/g01084/laws.FnExactCheckEndless", spec := "fnExactCheckEndless", unfollowed := true, recurses := true, apart := false }
def FnExactCheckEndlessSaid : Prop := fnExactCheckEndlessRow.holds Tryz.pinned (OpenSpec.ofChange fnExactCheckEndlessSpec)

/-- ITS FALSE NEIGHBOUR: 'it returns false'. Refute it at one input. -/
def fnExactCheckEndlessWrong : ChangeSpec := { name := "fnExactCheckEndless", fn := fun _ => fun
  | [d1, d2, d3] => { results := [.lit (.bool false)], args := [d1, d2, d3] }
  | _ => none }
def FnExactCheckEndlessWrongFalsely : Prop := fnExactCheckEndlessRow.holds Tryz.pinned (OpenSpec.ofChange fnExactCheckEndlessWrong)

/-- 'laws.FnExactPullEdgeStep': WHATEVER THE INPUT: true; the input reads as it did. -/
def fnExactPullEdgeStepSpec : ChangeSpec := { name := "fnExactPullEdgeStep", fn := fun _ => fun
  | [d1, d2, d3] => { results := [.lit (.bool true)], args := [d1, d2, d3] }
  | _ => none }
def fnExactPullEdgeStepRow : OpenClaim := { program := "ytlmiookpmneicaagreat", sum := "48364c957a3b72310020d401f9b1f887e2d4cea9680df4758d13b2a3b2a00ab4", func := "loop.example/g01084/laws.FnExactPullEdgeStep", spec := "fnExactPullEdgeStep", unfollowed := true, recurses := true, apart := false }
def FnExactPullEdgeStepSaid : Prop := fnExactPullEdgeStepRow.holds Tryz.pinned (OpenSpec.ofChange fnExactPullEdgeStepSpec)

/-- ITS FALSE NEIGHBOUR: 'it returns false'. Refute it at one input. -/
def fnExactPullEdgeStepWrong : ChangeSpec := { name := "fnExactPullEdgeStep", fn := fun _ => fun
  | [d1, d2, d3] => { results := [.lit (.bool false)], args := [d1, d2, d3] }
  | _ => none }
def FnExactPullEdgeStepWrongFalsely : Prop := fnExactPullEdgeStepRow.holds Tryz.pinned (OpenSpec.ofChange fnExactPullEdgeStepWrong)

/-- 'laws.FnExactPullNodeStep': WHATEVER THE INPUT: true; the input reads as it did. -/
def fnExactPullNodeStepSpec : ChangeSpec := { name := "fnExactPullNodeStep", fn := fun _ => fun
  | [d1, d2, d3] => { results := [.lit (.bool true)], args := [d1, d2, d3] }
  | _ => none }
def fnExactPullNodeStepRow : OpenClaim := { program := "ytlmiookpmneicaagreat", sum := "48364c957a3b72310020d401f9b1f887e2d4cea9680df4758d13b2a3b2a00ab4", func := "loop.example/g01084/laws.FnExactPullNodeStep", spec := "fnExactPullNodeStep", unfollowed := true, recurses := true, apart := false }
def FnExactPullNodeStepSaid : Prop := fnExactPullNodeStepRow.holds Tryz.pinned (OpenSpec.ofChange fnExactPullNodeStepSpec)

/-- ITS FALSE NEIGHBOUR: 'it returns false'. Refute it at one input. -/
def fnExactPullNodeStepWrong : ChangeSpec := { name := "fnExactPullNodeStep", fn := fun _ => fun
  | [d1, d2, d3] => { results := [.lit (.bool false)], args := [d1, d2, d3] }
  | _ => none }
def FnExactPullNodeStepWrongFalsely : Prop := fnExactPullNodeStepRow.holds Tryz.pinned (OpenSpec.ofChange fnExactPullNodeStepWrong)

/-- 'laws.FnExactPullRound': WHATEVER THE INPUT: true; the input reads as it did. -/
def fnExactPullRoundSpec : ChangeSpec := { name := "fnExactPullRound", fn := fun _ => fun
  | [d1, d2, d3] => { results := [.lit (.bool true)], args := [d1, d2, d3] }
  | _ => none }
def fnExactPullRoundRow : OpenClaim := { program := "ytlmiookpmneicaagreat", sum := "48364c957a3b72310020d401f9b1f887e2d4cea9680df4758d13b2a3b2a00ab4", func := "loop.example/g01084/laws.FnExactPullRound", spec := "fnExactPullRound", unfollowed := true, recurses := true, apart := false }
def FnExactPullRoundSaid : Prop := fnExactPullRoundRow.holds Tryz.pinned (OpenSpec.ofChange fnExactPullRoundSpec)

/-- ITS FALSE NEIGHBOUR: 'it returns false'. Refute it at one input. -/
def fnExactPullRoundWrong : ChangeSpec := { name := "fnExactPullRound", fn := fun _ => fun
  | [d1, d2, d3] => { results := [.lit (.bool false)], args := [d1, d2, d3] }
  | _ => none }
def FnExactPullRoundWrongFalsely : Prop := fnExactPullRoundRow.holds Tryz.pinned (OpenSpec.ofChange fnExactPullRoundWrong)

/-- 'laws.FnExactCheckBound': WHATEVER THE INPUT: true; the input reads as it did. -/
def fnExactCheckBoundSpec : ChangeSpec := { name := "fnExactCheckBound", fn := fun _ => fun
  | [d] => { results := [.lit (.bool true)], args := [d] }
  | _ => none }
def fnExactCheckBoundRow : OpenClaim := { program := "ytlmiookpmneicaagreat", sum := "48364c957a3b72310020d401f9b1f887e2d4cea9680df4758d13b2a3b2a00ab4", func := "loop.example/g01084/laws.FnExactCheckBound", spec := "fnExactCheckBound", unfollowed := true, recurses := true, apart := false }
def FnExactCheckBoundSaid : Prop := fnExactCheckBoundRow.holds Tryz.pinned (OpenSpec.ofChange fnExactCheckBoundSpec)

/-- ITS FALSE NEIGHBOUR: 'it returns false'. Refute it at one input. -/
def fnExactCheckBoundWrong : ChangeSpec := { name := "fnExactCheckBound", fn := fun _ => fun
  | [d] => { results := [.lit (.bool false)], args := [d] }
  | _ => none }
def FnExactCheckBoundWrongFalsely : Prop := fnExactCheckBoundRow.holds Tryz.pinned (OpenSpec.ofChange fnExactCheckBoundWrong)

/-- 'laws.FnExactBoundOf': WHATEVER THE INPUT: true; the input reads as it did. -/
def fnExactBoundOfSpec : ChangeSpec := { name := "fnExactBoundOf", fn := fun _ => fun
  | [d] => { results := [.lit (.bool true)], args := [d] }
  | _ => none }
def fnExactBoundOfRow : OpenClaim := { program := "ytlmiookpmneicaagreat", sum := "48364c957a3b72310020d401f9b1f887e2d4cea9680df4758d13b2a3b2a00ab4", func := "loop.example/g01084/laws.FnExactBoundOf", spec := "fnExactBoundOf", unfollowed := true, recurses := true, apart := false }
def FnExactBoundOfSaid : Prop := fnExactBoundOfRow.holds Tryz.pinned (OpenSpec.ofChange fnExactBoundOfSpec)

/-- ITS FALSE NEIGHBOUR: 'it returns false'. Refute it at one input. -/
def fnExactBoundOfWrong : ChangeSpec := { name := "fnExactBoundOf", fn := fun _ => fun
  | [d] => { results := [.lit (.bool false)], args := [d] }
  | _ => none }
def FnExactBoundOfWrongFalsely : Prop := fnExactBoundOfRow.holds Tryz.pinned (OpenSpec.ofChange fnExactBoundOfWrong)

/-- 'laws.FnExactCutBound': WHATEVER THE INPUT: true; the input reads as it did. -/
def fnExactCutBoundSpec : ChangeSpec := { name := "fnExactCutBound", fn := fun _ => fun
  | [d1, d2] => { results := [.lit (.bool true)], args := [d1, d2] }
  | _ => none }
def fnExactCutBoundRow : OpenClaim := { program := "ytlmiookpmneicaagreat", sum := "48364c957a3b72310020d401f9b1f887e2d4cea9680df4758d13b2a3b2a00ab4", func := "loop.example/g01084/laws.FnExactCutBound", spec := "fnExactCutBound", unfollowed := true, recurses := true, apart := false }
def FnExactCutBoundSaid : Prop := fnExactCutBoundRow.holds Tryz.pinned (OpenSpec.ofChange fnExactCutBoundSpec)

/-- ITS FALSE NEIGHBOUR: 'it returns false'. Refute it at one input. -/
def fnExactCutBoundWrong : ChangeSpec := { name := "fnExactCutBound", fn := fun _ => fun
  | [d1, d2] => { results := [.lit (.bool false)], args := [d1, d2] }
  | _ => none }
def FnExactCutBoundWrongFalsely : Prop := fnExactCutBoundRow.holds Tryz.pinned (OpenSpec.ofChange fnExactCutBoundWrong)

/-- 'laws.FnExactJoinBounds': WHATEVER THE INPUT: true; the input reads as it did. -/
def fnExactJoinBoundsSpec : ChangeSpec := { name := "fnExactJoinBounds", fn := fun _ => fun
  | [d1, d2] => { results := [.lit (.bool true)], args := [d1, d2] }
  | _ => none }
def fnExactJoinBoundsRow : OpenClaim := { program := "ytlmiookpmneicaagreat", sum := "48364c957a3b72310020d401f9b1f887e2d4cea9680df4758d13b2a3b2a00ab4", func := "loop.example/g01084/laws.FnExactJoinBounds", spec := "fnExactJoinBounds", unfollowed := true, recurses := true, apart := false }
def FnExactJoinBoundsSaid : Prop := fnExactJoinBoundsRow.holds Tryz.pinned (OpenSpec.ofChange fnExactJoinBoundsSpec)

/-- ITS FALSE NEIGHBOUR: 'it returns false'. Refute it at one input. -/
def fnExactJoinBoundsWrong : ChangeSpec := { name := "fnExactJoinBounds", fn := fun _ => fun
  | [d1, d2] => { results := [.lit (.bool false)], args := [d1, d2] }
  | _ => none }
def FnExactJoinBoundsWrongFalsely : Prop := fnExactJoinBoundsRow.holds Tryz.pinned (OpenSpec.ofChange fnExactJoinBoundsWrong)

/- THE SECOND FORM. 'bulk': how many values and letters a reading holds, each counted each time it is reached (what is shared counts as often as it is met; a slice's spare places count too). A statement '..UptoSaid' is the law's where the arguments, and the package variables that the reading takes, are together of bulk at most 1048576: NARROWER than '..Said'. Prove '..Said' where nothing that the law and all that it calls make is longer than what came in: it says more and counts as full. Else prove '..UptoSaid'. A law counts once. -/
mutual
def uptoBulk {H : Type} : DataW H → Nat
  | .lit (.string bytes) => bytes.length + 1
  | .lit _ => 1
  | .nil => 1
  | .ptr d => uptoBulk d + 1
  | .slice elems spare => uptoBulkAll elems + uptoBulkAll spare + 1
  | .agg parts => uptoBulkAll parts + 1
  | .iface _ d => uptoBulk d + 1
  | .map entries => uptoBulkEntries entries + 1
  | .held _ => 1
def uptoBulkAll {H : Type} : List (DataW H) → Nat
  | [] => 0
  | d :: r => uptoBulk d + uptoBulkAll r
def uptoBulkEntries {H : Type} : List (Lit × DataW H) → Nat
  | [] => 0
  | x :: r => uptoBulkEntry x + uptoBulkEntries r
def uptoBulkEntry {H : Type} : Lit × DataW H → Nat
  | (.string bytes, d) => bytes.length + uptoBulk d + 1
  | (_, d) => uptoBulk d + 1
 end
def uptoSmall : (H : Type) → List (DataW H) → Bool := fun _ ds => decide (uptoBulkAll ds ≤ 1048576)
def OpenSpec.upto (s : _root_.Go.ChangeSpec) : _root_.Go.OpenSpec := { _root_.Go.OpenSpec.ofChange s with cond := some uptoSmall }

/-- 'laws.FnExactMapByConfigs', WHERE WHAT IT READS IS OF BULK AT MOST 1048576: true; the input reads as it did. -/
def fnExactMapByConfigsUptoRow : OpenClaim := { program := "ytlmiookpmneicaagreat", sum := "48364c957a3b72310020d401f9b1f887e2d4cea9680df4758d13b2a3b2a00ab4", func := "loop.example/g01084/laws.FnExactMapByConfigs", spec := "fnExactMapByConfigs", unfollowed := true, recurses := true, apart := false, narrowed := true }
def FnExactMapByConfigsUptoSaid : Prop := fnExactMapByConfigsUptoRow.holds Tryz.pinned (OpenSpec.upto fnExactMapByConfigsSpec)

/-- 'laws.FnExactSplitProduct', WHERE WHAT IT READS IS OF BULK AT MOST 1048576: true; the input reads as it did. -/
def fnExactSplitProductUptoRow : OpenClaim := { program := "ytlmiookpmneicaagreat", sum := "48364c957a3b72310020d401f9b1f887e2d4cea9680df4758d13b2a3b2a00ab4", func := "loop.example/g01084/laws.FnExactSplitProduct", spec := "fnExactSplitProduct", unfollowed := true, recurses := true, apart := false, narrowed := true }
def FnExactSplitProductUptoSaid : Prop := fnExactSplitProductUptoRow.holds Tryz.pinned (OpenSpec.upto fnExactSplitProductSpec)

/-- 'laws.FnExactCheckEndless', WHERE WHAT IT READS IS OF BULK AT MOST 1048576: true; the input reads as it did. -/
def fnExactCheckEndlessUptoRow : OpenClaim := { program := "ytlmiookpmneicaagreat", sum := "48364c957a3b72310020d401f9b1f887e2d4cea9680df4758d13b2a3b2a00ab4", func := "loop.example/g01084/laws.FnExactCheckEndless", spec := "fnExactCheckEndless", unfollowed := true, recurses := true, apart := false, narrowed := true }
def FnExactCheckEndlessUptoSaid : Prop := fnExactCheckEndlessUptoRow.holds Tryz.pinned (OpenSpec.upto fnExactCheckEndlessSpec)

/-- 'laws.FnExactPullEdgeStep', WHERE WHAT IT READS IS OF BULK AT MOST 1048576: true; the input reads as it did. -/
def fnExactPullEdgeStepUptoRow : OpenClaim := { program := "ytlmiookpmneicaagreat", sum := "48364c957a3b72310020d401f9b1f887e2d4cea9680df4758d13b2a3b2a00ab4", func := "loop.example/g01084/laws.FnExactPullEdgeStep", spec := "fnExactPullEdgeStep", unfollowed := true, recurses := true, apart := false, narrowed := true }
def FnExactPullEdgeStepUptoSaid : Prop := fnExactPullEdgeStepUptoRow.holds Tryz.pinned (OpenSpec.upto fnExactPullEdgeStepSpec)

/-- 'laws.FnExactPullNodeStep', WHERE WHAT IT READS IS OF BULK AT MOST 1048576: true; the input reads as it did. -/
def fnExactPullNodeStepUptoRow : OpenClaim := { program := "ytlmiookpmneicaagreat", sum := "48364c957a3b72310020d401f9b1f887e2d4cea9680df4758d13b2a3b2a00ab4", func := "loop.example/g01084/laws.FnExactPullNodeStep", spec := "fnExactPullNodeStep", unfollowed := true, recurses := true, apart := false, narrowed := true }
def FnExactPullNodeStepUptoSaid : Prop := fnExactPullNodeStepUptoRow.holds Tryz.pinned (OpenSpec.upto fnExactPullNodeStepSpec)

/-- 'laws.FnExactPullRound', WHERE WHAT IT READS IS OF BULK AT MOST 1048576: true; the input reads as it did. -/
def fnExactPullRoundUptoRow : OpenClaim := { program := "ytlmiookpmneicaagreat", sum := "48364c957a3b72310020d401f9b1f887e2d4cea9680df4758d13b2a3b2a00ab4", func := "loop.example/g01084/laws.FnExactPullRound", spec := "fnExactPullRound", unfollowed := true, recurses := true, apart := false, narrowed := true }
def FnExactPullRoundUptoSaid : Prop := fnExactPullRoundUptoRow.holds Tryz.pinned (OpenSpec.upto fnExactPullRoundSpec)

/-- 'laws.FnExactCheckBound', WHERE WHAT IT READS IS OF BULK AT MOST 1048576: true; the input reads as it did. -/
def fnExactCheckBoundUptoRow : OpenClaim := { program := "ytlmiookpmneicaagreat", sum := "48364c957a3b72310020d401f9b1f887e2d4cea9680df4758d13b2a3b2a00ab4", func := "loop.example/g01084/laws.FnExactCheckBound", spec := "fnExactCheckBound", unfollowed := true, recurses := true, apart := false, narrowed := true }
def FnExactCheckBoundUptoSaid : Prop := fnExactCheckBoundUptoRow.holds Tryz.pinned (OpenSpec.upto fnExactCheckBoundSpec)

/-- 'laws.FnExactBoundOf', WHERE WHAT IT READS IS OF BULK AT MOST 1048576: true; the input reads as it did. -/
def fnExactBoundOfUptoRow : OpenClaim := { program := "ytlmiookpmneicaagreat", sum := "48364c957a3b72310020d401f9b1f887e2d4cea9680df4758d13b2a3b2a00ab4", func := "loop.example/g01084/laws.FnExactBoundOf", spec := "fnExactBoundOf", unfollowed := true, recurses := true, apart := false, narrowed := true }
def FnExactBoundOfUptoSaid : Prop := fnExactBoundOfUptoRow.holds Tryz.pinned (OpenSpec.upto fnExactBoundOfSpec)

/-- 'laws.FnExactCutBound', WHERE WHAT IT READS IS OF BULK AT MOST 1048576: true; the input reads as it did. -/
def fnExactCutBoundUptoRow : OpenClaim := { program := "ytlmiookpmneicaagreat", sum := "48364c957a3b72310020d401f9b1f887e2d4cea9680df4758d13b2a3b2a00ab4", func := "loop.example/g01084/laws.FnExactCutBound", spec := "fnExactCutBound", unfollowed := true, recurses := true, apart := false, narrowed := true }
def FnExactCutBoundUptoSaid : Prop := fnExactCutBoundUptoRow.holds Tryz.pinned (OpenSpec.upto fnExactCutBoundSpec)

/-- 'laws.FnExactJoinBounds', WHERE WHAT IT READS IS OF BULK AT MOST 1048576: true; the input reads as it did. -/
def fnExactJoinBoundsUptoRow : OpenClaim := { program := "ytlmiookpmneicaagreat", sum := "48364c957a3b72310020d401f9b1f887e2d4cea9680df4758d13b2a3b2a00ab4", func := "loop.example/g01084/laws.FnExactJoinBounds", spec := "fnExactJoinBounds", unfollowed := true, recurses := true, apart := false, narrowed := true }
def FnExactJoinBoundsUptoSaid : Prop := fnExactJoinBoundsUptoRow.holds Tryz.pinned (OpenSpec.upto fnExactJoinBoundsSpec)

end Rows
end Go.Proofs.YtlmiookpmneicaaGreat
