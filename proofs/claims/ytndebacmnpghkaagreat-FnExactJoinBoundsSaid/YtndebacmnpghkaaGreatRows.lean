/-
  No cell of these rows narrows 'for every input' (looked for: loops, veiled, ifaces, maps, wideKeys, modest, calm, conditions, laid).
  DERIVED. THE GIVEN ROWS OF THIS SEAT. 5 by the template 'for every input the law returns true; each argument reads behind the call as it read before'; 0 by the template 'total and deterministic' (their statements: YtndebacmnpghkaaGreatTotals.lean).
  GIVEN WITH THE SEED: the statements are not yours to turn. If you find one false, say at which input.
  Laid BY PROGRAM, IN A SANDBOX (cutbox-rows.mjs): the forced cells as the released guide's own fill.sh prints them over the translation fb92228280b6a4ca… (all of the seat's roots in one cut). By AI agents, Wed Nov 11 2026. No macro, syntax, notation, axiom, sorry.
-/
import Derived.Test.YtndebacmnpghkaaGreatChecked
import GoSem.Claim
import GoSem.ClaimJoined
import GoSem.ClaimMapViews
import Derived.JoinedTies
import Derived.KernelRfl
namespace Go.Proofs.YtndebacmnpghkaaGreat
/- THE CELL 'sum', in the pinned program and in every row, IS THE sha256 OF THE DUMP (.gsa) THAT YtndebacmnpghkaaGreatProg.lean LOADS. Nothing in Lean hashes anything: it is a label: what it is worth is what the hold of that sum in a sandbox is worth. -/
noncomputable def Tryz.pinned : Pinned := { name := "ytndebacmnpghkaagreat", sum := "fb92228280b6a4ca748d248f53bca82e150d66a1fd8b9be87880520ee7c9fc25", checked := Tryz.checked }
namespace Rows
def none {H : Type} : Left H := { results := [], args := [] }

/-- 'laws.FnExactCheckBound': WHATEVER THE INPUT: true; the input reads as it did. -/
def fnExactCheckBoundSpec : ChangeSpec := { name := "fnExactCheckBound", fn := fun _ => fun
  | [d] => { results := [.lit (.bool true)], args := [d] }
  | _ => none }
def fnExactCheckBoundRow : OpenClaim := { program := "ytndebacmnpghkaagreat", sum := "fb92228280b6a4ca748d248f53bca82e150d66a1fd8b9be87880520ee7c9fc25", func := "loop.example/g01084/laws.FnExactCheckBound", spec := "fnExactCheckBound", unfollowed := true, recurses := true, apart := false }
def FnExactCheckBoundSaid : Prop := fnExactCheckBoundRow.holds Tryz.pinned (OpenSpec.ofChange fnExactCheckBoundSpec)

/-- ITS FALSE NEIGHBOUR: 'it returns false'. Refute it at one input. -/
def fnExactCheckBoundWrong : ChangeSpec := { name := "fnExactCheckBound", fn := fun _ => fun
  | [d] => { results := [.lit (.bool false)], args := [d] }
  | _ => none }
def FnExactCheckBoundWrongFalsely : Prop := fnExactCheckBoundRow.holds Tryz.pinned (OpenSpec.ofChange fnExactCheckBoundWrong)

/-- 'laws.FnExactBoundOf': WHATEVER THE INPUT: true; the input reads as it did. -/
def fnExactBoundOfSpec : ChangeSpec := { name := "fnExactBoundOf", fn := fun _ => fun
  | [d] => { results := [.lit (.bool true)], args := [d] }
  | _ => none }
def fnExactBoundOfRow : OpenClaim := { program := "ytndebacmnpghkaagreat", sum := "fb92228280b6a4ca748d248f53bca82e150d66a1fd8b9be87880520ee7c9fc25", func := "loop.example/g01084/laws.FnExactBoundOf", spec := "fnExactBoundOf", unfollowed := true, recurses := true, apart := false }
def FnExactBoundOfSaid : Prop := fnExactBoundOfRow.holds Tryz.pinned (OpenSpec.ofChange fnExactBoundOfSpec)

/-- ITS FALSE NEIGHBOUR: 'it returns false'. Refute it at one input. -/
def fnExactBoundOfWrong : ChangeSpec := { name := "fnExactBoundOf", fn := fun _ => fun
  | [d] => { results := [.lit (.bool false)], args := [d] }
  | _ => none }
def FnExactBoundOfWrongFalsely : Prop := fnExactBoundOfRow.holds Tryz.pinned (OpenSpec.ofChange fnExactBoundOfWrong)

/-- 'laws.FnExactSolveByElimination': WHATEVER THE INPUT: true; the input reads as it did. -/
def fnExactSolveByEliminationSpec : ChangeSpec := { name := "fnExactSolveByElimination", fn := fun _ => fun
  | [d1, d2, d3] => { results := [.lit (.bool true)], args := [d1, d2, d3] }
  | _ => none }
def fnExactSolveByEliminationRow : OpenClaim := { program := "ytndebacmnpghkaagreat", sum := "fb92228280b6a4ca748d248f53bca82e150d66a1fd8b9be87880520ee7c9fc25", func := "loop.example/g01084/laws.FnExactSolveByElimination", spec := "fnExactSolveByElimination", unfollowed := true, recurses := true, apart := false }
def FnExactSolveByEliminationSaid : Prop := fnExactSolveByEliminationRow.holds Tryz.pinned (OpenSpec.ofChange fnExactSolveByEliminationSpec)

/-- ITS FALSE NEIGHBOUR: 'it returns false'. Refute it at one input. -/
def fnExactSolveByEliminationWrong : ChangeSpec := { name := "fnExactSolveByElimination", fn := fun _ => fun
  | [d1, d2, d3] => { results := [.lit (.bool false)], args := [d1, d2, d3] }
  | _ => none }
def FnExactSolveByEliminationWrongFalsely : Prop := fnExactSolveByEliminationRow.holds Tryz.pinned (OpenSpec.ofChange fnExactSolveByEliminationWrong)

/-- 'laws.FnExactCutBound': WHATEVER THE INPUT: true; the input reads as it did. -/
def fnExactCutBoundSpec : ChangeSpec := { name := "fnExactCutBound", fn := fun _ => fun
  | [d1, d2] => { results := [.lit (.bool true)], args := [d1, d2] }
  | _ => none }
def fnExactCutBoundRow : OpenClaim := { program := "ytndebacmnpghkaagreat", sum := "fb92228280b6a4ca748d248f53bca82e150d66a1fd8b9be87880520ee7c9fc25", func := "loop.example/g01084/laws.FnExactCutBound", spec := "fnExactCutBound", unfollowed := true, recurses := true, apart := false }
def FnExactCutBoundSaid : Prop := fnExactCutBoundRow.holds Tryz.pinned (OpenSpec.ofChange fnExactCutBoundSpec)

/-- ITS FALSE NEIGHBOUR: 'it returns false'. Refute it at one input. -/
def fnExactCutBoundWrong : ChangeSpec := { name := "fnExactCutBound", fn := fun _ => fun
  | [d1, d2] => { results := [.lit (.bool false)], args := [d1, d2] }
  | _ => none }
def FnExactCutBoundWrongFalsely : Prop := fnExactCutBoundRow.holds Tryz.pinned (OpenSpec.ofChange fnExactCutBoundWrong)

/-- 'laws.FnExactJoinBounds': WHATEVER THE INPUT: true; the input reads as it did. -/
def fnExactJoinBoundsSpec : ChangeSpec := { name := "fnExactJoinBounds", fn := fun _ => fun
  | [d1, d2] => { results := [.lit (.bool true)], args := [d1, d2] }
  | _ => none }
def fnExactJoinBoundsRow : OpenClaim := { program := "ytndebacmnpghkaagreat", sum := "fb92228280b6a4ca748d248f53bca82e150d66a1fd8b9be87880520ee7c9fc25", func := "loop.example/g01084/laws.FnExactJoinBounds", spec := "fnExactJoinBounds", unfollowed := true, recurses := true, apart := false }
def FnExactJoinBoundsSaid : Prop := fnExactJoinBoundsRow.holds Tryz.pinned (OpenSpec.ofChange fnExactJoinBoundsSpec)

/-- ITS FALSE NEIGHBOUR: 'it returns false'. Refute it at one input. -/
def fnExactJoinBoundsWrong : ChangeSpec := { name := "fnExactJoinBounds", fn := fun _ => fun
  | [d1, d2] => { results := [.lit (.bool false)], args := [d1, d2] }
  | _ => none }
def FnExactJoinBoundsWrongFalsely : Prop := fnExactJoinBoundsRow.holds Tryz.pinned (OpenSpec.ofChange fnExactJoinBoundsWrong)

/- THE SECOND FORM. 'bulk': how many values and letters a reading holds, each counted each time it is reached (what is shared counts as often as it is met; a slice's spare places count too). A statement '..UptoSaid' is the law's where the arguments, and the package variables that the reading takes, are together of bulk at most 1048576: NARROWER than '..Said'. Prove '..Said' where nothing that the law and all that it calls make is longer than what came in: it says more and counts as full. Else prove '..UptoSaid'. A law counts once. -/
mutual
def uptoBulk {H : Type} : DataW H → Nat
  | .lit (.string bytes) => bytes.length + 1
  | .lit _ => 1
  | .nil => 1
  | .ptr d => uptoBulk d + 1
  | .slice elems spare => uptoBulkAll elems + uptoBulkAll spare + 1
  | .agg parts => uptoBulkAll parts + 1
  | .iface _ d => uptoBulk d + 1
  | .map entries => uptoBulkEntries entries + 1
  | .held _ => 1
def uptoBulkAll {H : Type} : List (DataW H) → Nat
  | [] => 0
  | d :: r => uptoBulk d + uptoBulkAll r
def uptoBulkEntries {H : Type} : List (Lit × DataW H) → Nat
  | [] => 0
  | x :: r => uptoBulkEntry x + uptoBulkEntries r
def uptoBulkEntry {H : Type} : Lit × DataW H → Nat
  | (.string bytes, d) => bytes.length + uptoBulk d + 1
  | (_, d) => uptoBulk d + 1
 end
def uptoSmall : (H : Type) → List (DataW H) → Bool := fun _ ds => decide (uptoBulkAll ds ≤ 1048576)
def OpenSpec.upto (s : _root_.Go.ChangeSpec) : _root_.Go.OpenSpec := { _root_.Go.OpenSpec.ofChange s with cond := some uptoSmall }

/-- 'laws.FnExactCheckBound', WHERE WHAT IT READS IS OF BULK AT MOST 1048576: true; the input reads as it did. -/
def fnExactCheckBoundUptoRow : OpenClaim := { program := "ytndebacmnpghkaagreat", sum := "fb92228280b6a4ca748d248f53bca82e150d66a1fd8b9be87880520ee7c9fc25", func := "loop.example/g01084/laws.FnExactCheckBound", spec := "fnExactCheckBound", unfollowed := true, recurses := true, apart := false, narrowed := true }
def FnExactCheckBoundUptoSaid : Prop := fnExactCheckBoundUptoRow.holds Tryz.pinned (OpenSpec.upto fnExactCheckBoundSpec)

/-- 'laws.FnExactBoundOf', WHERE WHAT IT READS IS OF BULK AT MOST 1048576: true; the input reads as it did. -/
def fnExactBoundOfUptoRow : OpenClaim := { program := "ytndebacmnpghkaagreat", sum := "fb92228280b6a4ca748d248f53bca82e150d66a1fd8b9be87880520ee7c9fc25", func := "loop.example/g01084/laws.FnExactBoundOf", spec := "fnExactBoundOf", unfollowed := true, recurses := true, apart := false, narrowed := true }
def FnExactBoundOfUptoSaid : Prop := fnExactBoundOfUptoRow.holds Tryz.pinned (OpenSpec.upto fnExactBoundOfSpec)

/-- 'laws.FnExactSolveByElimination', WHERE WHAT IT READS IS OF BULK AT MOST 1048576: true; the input reads as it did. -/
def fnExactSolveByEliminationUptoRow : OpenClaim := { program := "ytndebacmnpghkaagreat", sum := "fb92228280b6a4ca748d248f53bca82e150d66a1fd8b9be87880520ee7c9fc25", func := "loop.example/g01084/laws.FnExactSolveByElimination", spec := "fnExactSolveByElimination", unfollowed := true, recurses := true, apart := false, narrowed := true }
def FnExactSolveByEliminationUptoSaid : Prop := fnExactSolveByEliminationUptoRow.holds Tryz.pinned (OpenSpec.upto fnExactSolveByEliminationSpec)

/-- 'laws.FnExactCutBound', WHERE WHAT IT READS IS OF BULK AT MOST 1048576: true; the input reads as it did. -/
def fnExactCutBoundUptoRow : OpenClaim := { program := "ytndebacmnpghkaagreat", sum := "fb92228280b6a4ca748d248f53bca82e150d66a1fd8b9be87880520ee7c9fc25", func := "loop.example/g01084/laws.FnExactCutBound", spec := "fnExactCutBound", unfollowed := true, recurses := true, apart := false, narrowed := true }
def FnExactCutBoundUptoSaid : Prop := fnExactCutBoundUptoRow.holds Tryz.pinned (OpenSpec.upto fnExactCutBoundSpec)

/-- 'laws.FnExactJoinBounds', WHERE WHAT IT READS IS OF BULK AT MOST 1048576: true; the input reads as it did. -/
def fnExactJoinBoundsUptoRow : OpenClaim := { program := "ytndebacmnpghkaagreat", sum := "fb92228280b6a4ca748d248f53bca82e150d66a1fd8b9be87880520ee7c9fc25", func := "loop.example/g01084/laws.FnExactJoinBounds", spec := "fnExactJoinBounds", unfollowed := true, recurses := true, apart := false, narrowed := true }
def FnExactJoinBoundsUptoSaid : Prop := fnExactJoinBoundsUptoRow.holds Tryz.pinned (OpenSpec.upto fnExactJoinBoundsSpec)

end Rows
end Go.Proofs.YtndebacmnpghkaaGreat
