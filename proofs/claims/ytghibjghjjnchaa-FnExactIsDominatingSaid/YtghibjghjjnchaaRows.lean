/-
  No cell of these rows narrows 'for every input' (looked for: loops, veiled, ifaces, maps, wideKeys, modest, calm, conditions, laid).
  DERIVED. THE GIVEN ROWS OF THIS SEAT. 12 by the template 'for every input the law returns true; each argument reads behind the call as it read before'; 0 by the template 'total and deterministic' (their statements: YtghibjghjjnchaaTotals.lean).
  GIVEN WITH THE SEED: the statements are not yours to turn. If you find one false, say at which input.
  Laid BY PROGRAM, IN A SANDBOX (cutbox-rows.mjs): the forced cells as the released guide's own fill.sh prints them over the translation ab204d1ab1e95da4… (all of the seat's roots in one cut). By AI agents, Wed Nov 11 2026. No macro, syntax, notation, axiom, sorry.
-/
import Derived.Test.YtghibjghjjnchaaChecked
import GoSem.Claim
import GoSem.ClaimJoined
import GoSem.ClaimMapViews
import Derived.JoinedTies
import Derived.KernelRfl
namespace Go.Proofs.Ytghibjghjjnchaa
/- THE CELL 'sum', in the pinned program and in every row, IS THE sha256 OF THE DUMP (.gsa) THAT YtghibjghjjnchaaProg.lean LOADS. Nothing in Lean hashes anything: it is a label: what it is worth is what the hold of that sum in a sandbox is worth. -/
noncomputable def Try.pinned : Pinned := { name := "ytghibjghjjnchaa", sum := "ab204d1ab1e95da46ac241f131415f920e24894bcbed7918009adb787f92ccae", checked := Try.checked }
namespace Rows
def none {H : Type} : Left H := { results := [], args := [] }

/-- 'laws.FnExactPolynomialParameters': WHATEVER THE INPUT: true; the input reads as it did. -/
def fnExactPolynomialParametersSpec : ChangeSpec := { name := "fnExactPolynomialParameters", fn := fun _ => fun
  | [d1, d2] => { results := [.lit (.bool true)], args := [d1, d2] }
  | _ => none }
def fnExactPolynomialParametersRow : OpenClaim := { program := "ytghibjghjjnchaa", sum := "ab204d1ab1e95da46ac241f131415f920e24894bcbed7918009adb787f92ccae", func := "loop.example/g01084/laws.FnExactPolynomialParameters", spec := "fnExactPolynomialParameters", apart := false }
def FnExactPolynomialParametersSaid : Prop := fnExactPolynomialParametersRow.holds Try.pinned (OpenSpec.ofChange fnExactPolynomialParametersSpec)

/-- ITS FALSE NEIGHBOUR: 'it returns false'. Refute it at one input. -/
def fnExactPolynomialParametersWrong : ChangeSpec := { name := "fnExactPolynomialParameters", fn := fun _ => fun
  | [d1, d2] => { results := [.lit (.bool false)], args := [d1, d2] }
  | _ => none }
def FnExactPolynomialParametersWrongFalsely : Prop := fnExactPolynomialParametersRow.holds Try.pinned (OpenSpec.ofChange fnExactPolynomialParametersWrong)

/-- 'laws.FnExactCountColours': WHATEVER THE INPUT: true; the input reads as it did. -/
def fnExactCountColoursSpec : ChangeSpec := { name := "fnExactCountColours", fn := fun _ => fun
  | [d] => { results := [.lit (.bool true)], args := [d] }
  | _ => none }
def fnExactCountColoursRow : OpenClaim := { program := "ytghibjghjjnchaa", sum := "ab204d1ab1e95da46ac241f131415f920e24894bcbed7918009adb787f92ccae", func := "loop.example/g01084/laws.FnExactCountColours", spec := "fnExactCountColours", unfollowed := true, recurses := true, apart := false }
def FnExactCountColoursSaid : Prop := fnExactCountColoursRow.holds Try.pinned (OpenSpec.ofChange fnExactCountColoursSpec)

/-- ITS FALSE NEIGHBOUR: 'it returns false'. Refute it at one input. -/
def fnExactCountColoursWrong : ChangeSpec := { name := "fnExactCountColours", fn := fun _ => fun
  | [d] => { results := [.lit (.bool false)], args := [d] }
  | _ => none }
def FnExactCountColoursWrongFalsely : Prop := fnExactCountColoursRow.holds Try.pinned (OpenSpec.ofChange fnExactCountColoursWrong)

/-- 'laws.FnExactIsMatching': WHATEVER THE INPUT: true; the input reads as it did. -/
def fnExactIsMatchingSpec : ChangeSpec := { name := "fnExactIsMatching", fn := fun _ => fun
  | [d1, d2] => { results := [.lit (.bool true)], args := [d1, d2] }
  | _ => none }
def fnExactIsMatchingRow : OpenClaim := { program := "ytghibjghjjnchaa", sum := "ab204d1ab1e95da46ac241f131415f920e24894bcbed7918009adb787f92ccae", func := "loop.example/g01084/laws.FnExactIsMatching", spec := "fnExactIsMatching", unfollowed := true, recurses := true, apart := false }
def FnExactIsMatchingSaid : Prop := fnExactIsMatchingRow.holds Try.pinned (OpenSpec.ofChange fnExactIsMatchingSpec)

/-- ITS FALSE NEIGHBOUR: 'it returns false'. Refute it at one input. -/
def fnExactIsMatchingWrong : ChangeSpec := { name := "fnExactIsMatching", fn := fun _ => fun
  | [d1, d2] => { results := [.lit (.bool false)], args := [d1, d2] }
  | _ => none }
def FnExactIsMatchingWrongFalsely : Prop := fnExactIsMatchingRow.holds Try.pinned (OpenSpec.ofChange fnExactIsMatchingWrong)

/-- 'laws.FnExactIsColouring': WHATEVER THE INPUT: true; the input reads as it did. -/
def fnExactIsColouringSpec : ChangeSpec := { name := "fnExactIsColouring", fn := fun _ => fun
  | [d1, d2] => { results := [.lit (.bool true)], args := [d1, d2] }
  | _ => none }
def fnExactIsColouringRow : OpenClaim := { program := "ytghibjghjjnchaa", sum := "ab204d1ab1e95da46ac241f131415f920e24894bcbed7918009adb787f92ccae", func := "loop.example/g01084/laws.FnExactIsColouring", spec := "fnExactIsColouring", unfollowed := true, recurses := true, apart := false }
def FnExactIsColouringSaid : Prop := fnExactIsColouringRow.holds Try.pinned (OpenSpec.ofChange fnExactIsColouringSpec)

/-- ITS FALSE NEIGHBOUR: 'it returns false'. Refute it at one input. -/
def fnExactIsColouringWrong : ChangeSpec := { name := "fnExactIsColouring", fn := fun _ => fun
  | [d1, d2] => { results := [.lit (.bool false)], args := [d1, d2] }
  | _ => none }
def FnExactIsColouringWrongFalsely : Prop := fnExactIsColouringRow.holds Try.pinned (OpenSpec.ofChange fnExactIsColouringWrong)

/-- 'laws.FnExactIsDefective': WHATEVER THE INPUT: true; the input reads as it did. -/
def fnExactIsDefectiveSpec : ChangeSpec := { name := "fnExactIsDefective", fn := fun _ => fun
  | [d1, d2, d3] => { results := [.lit (.bool true)], args := [d1, d2, d3] }
  | _ => none }
def fnExactIsDefectiveRow : OpenClaim := { program := "ytghibjghjjnchaa", sum := "ab204d1ab1e95da46ac241f131415f920e24894bcbed7918009adb787f92ccae", func := "loop.example/g01084/laws.FnExactIsDefective", spec := "fnExactIsDefective", unfollowed := true, recurses := true, apart := false }
def FnExactIsDefectiveSaid : Prop := fnExactIsDefectiveRow.holds Try.pinned (OpenSpec.ofChange fnExactIsDefectiveSpec)

/-- ITS FALSE NEIGHBOUR: 'it returns false'. Refute it at one input. -/
def fnExactIsDefectiveWrong : ChangeSpec := { name := "fnExactIsDefective", fn := fun _ => fun
  | [d1, d2, d3] => { results := [.lit (.bool false)], args := [d1, d2, d3] }
  | _ => none }
def FnExactIsDefectiveWrongFalsely : Prop := fnExactIsDefectiveRow.holds Try.pinned (OpenSpec.ofChange fnExactIsDefectiveWrong)

/-- 'laws.FnExactIsWeak': WHATEVER THE INPUT: true; the input reads as it did. -/
def fnExactIsWeakSpec : ChangeSpec := { name := "fnExactIsWeak", fn := fun _ => fun
  | [d1, d2] => { results := [.lit (.bool true)], args := [d1, d2] }
  | _ => none }
def fnExactIsWeakRow : OpenClaim := { program := "ytghibjghjjnchaa", sum := "ab204d1ab1e95da46ac241f131415f920e24894bcbed7918009adb787f92ccae", func := "loop.example/g01084/laws.FnExactIsWeak", spec := "fnExactIsWeak", unfollowed := true, recurses := true, apart := false }
def FnExactIsWeakSaid : Prop := fnExactIsWeakRow.holds Try.pinned (OpenSpec.ofChange fnExactIsWeakSpec)

/-- ITS FALSE NEIGHBOUR: 'it returns false'. Refute it at one input. -/
def fnExactIsWeakWrong : ChangeSpec := { name := "fnExactIsWeak", fn := fun _ => fun
  | [d1, d2] => { results := [.lit (.bool false)], args := [d1, d2] }
  | _ => none }
def FnExactIsWeakWrongFalsely : Prop := fnExactIsWeakRow.holds Try.pinned (OpenSpec.ofChange fnExactIsWeakWrong)

/-- 'laws.FnExactMatchingSize': WHATEVER THE INPUT: true; the input reads as it did. -/
def fnExactMatchingSizeSpec : ChangeSpec := { name := "fnExactMatchingSize", fn := fun _ => fun
  | [d1, d2] => { results := [.lit (.bool true)], args := [d1, d2] }
  | _ => none }
def fnExactMatchingSizeRow : OpenClaim := { program := "ytghibjghjjnchaa", sum := "ab204d1ab1e95da46ac241f131415f920e24894bcbed7918009adb787f92ccae", func := "loop.example/g01084/laws.FnExactMatchingSize", spec := "fnExactMatchingSize", unfollowed := true, recurses := true, apart := false }
def FnExactMatchingSizeSaid : Prop := fnExactMatchingSizeRow.holds Try.pinned (OpenSpec.ofChange fnExactMatchingSizeSpec)

/-- ITS FALSE NEIGHBOUR: 'it returns false'. Refute it at one input. -/
def fnExactMatchingSizeWrong : ChangeSpec := { name := "fnExactMatchingSize", fn := fun _ => fun
  | [d1, d2] => { results := [.lit (.bool false)], args := [d1, d2] }
  | _ => none }
def FnExactMatchingSizeWrongFalsely : Prop := fnExactMatchingSizeRow.holds Try.pinned (OpenSpec.ofChange fnExactMatchingSizeWrong)

/-- 'laws.FnExactIsIndependent': WHATEVER THE INPUT: true; the input reads as it did. -/
def fnExactIsIndependentSpec : ChangeSpec := { name := "fnExactIsIndependent", fn := fun _ => fun
  | [d1, d2] => { results := [.lit (.bool true)], args := [d1, d2] }
  | _ => none }
def fnExactIsIndependentRow : OpenClaim := { program := "ytghibjghjjnchaa", sum := "ab204d1ab1e95da46ac241f131415f920e24894bcbed7918009adb787f92ccae", func := "loop.example/g01084/laws.FnExactIsIndependent", spec := "fnExactIsIndependent", unfollowed := true, recurses := true, apart := false }
def FnExactIsIndependentSaid : Prop := fnExactIsIndependentRow.holds Try.pinned (OpenSpec.ofChange fnExactIsIndependentSpec)

/-- ITS FALSE NEIGHBOUR: 'it returns false'. Refute it at one input. -/
def fnExactIsIndependentWrong : ChangeSpec := { name := "fnExactIsIndependent", fn := fun _ => fun
  | [d1, d2] => { results := [.lit (.bool false)], args := [d1, d2] }
  | _ => none }
def FnExactIsIndependentWrongFalsely : Prop := fnExactIsIndependentRow.holds Try.pinned (OpenSpec.ofChange fnExactIsIndependentWrong)

/-- 'laws.FnExactIsVertexCover': WHATEVER THE INPUT: true; the input reads as it did. -/
def fnExactIsVertexCoverSpec : ChangeSpec := { name := "fnExactIsVertexCover", fn := fun _ => fun
  | [d1, d2] => { results := [.lit (.bool true)], args := [d1, d2] }
  | _ => none }
def fnExactIsVertexCoverRow : OpenClaim := { program := "ytghibjghjjnchaa", sum := "ab204d1ab1e95da46ac241f131415f920e24894bcbed7918009adb787f92ccae", func := "loop.example/g01084/laws.FnExactIsVertexCover", spec := "fnExactIsVertexCover", unfollowed := true, recurses := true, apart := false }
def FnExactIsVertexCoverSaid : Prop := fnExactIsVertexCoverRow.holds Try.pinned (OpenSpec.ofChange fnExactIsVertexCoverSpec)

/-- ITS FALSE NEIGHBOUR: 'it returns false'. Refute it at one input. -/
def fnExactIsVertexCoverWrong : ChangeSpec := { name := "fnExactIsVertexCover", fn := fun _ => fun
  | [d1, d2] => { results := [.lit (.bool false)], args := [d1, d2] }
  | _ => none }
def FnExactIsVertexCoverWrongFalsely : Prop := fnExactIsVertexCoverRow.holds Try.pinned (OpenSpec.ofChange fnExactIsVertexCoverWrong)

/-- 'laws.FnExactIsMaximalMatching': WHATEVER THE INPUT: true; the input reads as it did. -/
def fnExactIsMaximalMatchingSpec : ChangeSpec := { name := "fnExactIsMaximalMatching", fn := fun _ => fun
  | [d1, d2] => { results := [.lit (.bool true)], args := [d1, d2] }
  | _ => none }
def fnExactIsMaximalMatchingRow : OpenClaim := { program := "ytghibjghjjnchaa", sum := "ab204d1ab1e95da46ac241f131415f920e24894bcbed7918009adb787f92ccae", func := "loop.example/g01084/laws.FnExactIsMaximalMatching", spec := "fnExactIsMaximalMatching", unfollowed := true, recurses := true, apart := false }
def FnExactIsMaximalMatchingSaid : Prop := fnExactIsMaximalMatchingRow.holds Try.pinned (OpenSpec.ofChange fnExactIsMaximalMatchingSpec)

/-- ITS FALSE NEIGHBOUR: 'it returns false'. Refute it at one input. -/
def fnExactIsMaximalMatchingWrong : ChangeSpec := { name := "fnExactIsMaximalMatching", fn := fun _ => fun
  | [d1, d2] => { results := [.lit (.bool false)], args := [d1, d2] }
  | _ => none }
def FnExactIsMaximalMatchingWrongFalsely : Prop := fnExactIsMaximalMatchingRow.holds Try.pinned (OpenSpec.ofChange fnExactIsMaximalMatchingWrong)

/-- 'laws.FnExactIsMaximalIndependent': WHATEVER THE INPUT: true; the input reads as it did. -/
def fnExactIsMaximalIndependentSpec : ChangeSpec := { name := "fnExactIsMaximalIndependent", fn := fun _ => fun
  | [d1, d2] => { results := [.lit (.bool true)], args := [d1, d2] }
  | _ => none }
def fnExactIsMaximalIndependentRow : OpenClaim := { program := "ytghibjghjjnchaa", sum := "ab204d1ab1e95da46ac241f131415f920e24894bcbed7918009adb787f92ccae", func := "loop.example/g01084/laws.FnExactIsMaximalIndependent", spec := "fnExactIsMaximalIndependent", unfollowed := true, recurses := true, apart := false }
def FnExactIsMaximalIndependentSaid : Prop := fnExactIsMaximalIndependentRow.holds Try.pinned (OpenSpec.ofChange fnExactIsMaximalIndependentSpec)

/-- ITS FALSE NEIGHBOUR: 'it returns false'. Refute it at one input. -/
def fnExactIsMaximalIndependentWrong : ChangeSpec := { name := "fnExactIsMaximalIndependent", fn := fun _ => fun
  | [d1, d2] => { results := [.lit (.bool false)], args := [d1, d2] }
  | _ => none }
def FnExactIsMaximalIndependentWrongFalsely : Prop := fnExactIsMaximalIndependentRow.holds Try.pinned (OpenSpec.ofChange fnExactIsMaximalIndependentWrong)

/-- 'laws.FnExactIsDominating': WHATEVER THE INPUT: true; the input reads as it did. -/
def fnExactIsDominatingSpec : ChangeSpec := { name := "fnExactIsDominating", fn := fun _ => fun
  | [d1, d2] => { results := [.lit (.bool true)], args := [d1, d2] }
  | _ => none }
def fnExactIsDominatingRow : OpenClaim := { program := "ytghibjghjjnchaa", sum := "ab204d1ab1e95da46ac241f131415f920e24894bcbed7918009adb787f92ccae", func := "loop.example/g01084/laws.FnExactIsDominating", spec := "fnExactIsDominating", unfollowed := true, recurses := true, apart := false }
def FnExactIsDominatingSaid : Prop := fnExactIsDominatingRow.holds Try.pinned (OpenSpec.ofChange fnExactIsDominatingSpec)

/-- ITS FALSE NEIGHBOUR: 'it returns false'. Refute it at one input. -/
def fnExactIsDominatingWrong : ChangeSpec := { name := "fnExactIsDominating", fn := fun _ => fun
  | [d1, d2] => { results := [.lit (.bool false)], args := [d1, d2] }
  | _ => none }
def FnExactIsDominatingWrongFalsely : Prop := fnExactIsDominatingRow.holds Try.pinned (OpenSpec.ofChange fnExactIsDominatingWrong)

/- THE SECOND FORM. 'bulk': how many values and letters a reading holds, each counted each time it is reached (what is shared counts as often as it is met; a slice's spare places count too). A statement '..UptoSaid' is the law's where the arguments, and the package variables that the reading takes, are together of bulk at most 1048576: NARROWER than '..Said'. Prove '..Said' where nothing that the law and all that it calls make is longer than what came in: it says more and counts as full. Else prove '..UptoSaid'. A law counts once. -/
mutual
def uptoBulk {H : Type} : DataW H → Nat
  | .lit (.string bytes) => bytes.length + 1
  | .lit _ => 1
  | .nil => 1
  | .ptr d => uptoBulk d + 1
  | .slice elems spare => uptoBulkAll elems + uptoBulkAll spare + 1
  | .agg parts => uptoBulkAll parts + 1
  | .iface _ d => uptoBulk d + 1
  | .map entries => uptoBulkEntries entries + 1
  | .held _ => 1
def uptoBulkAll {H : Type} : List (DataW H) → Nat
  | [] => 0
  | d :: r => uptoBulk d + uptoBulkAll r
def uptoBulkEntries {H : Type} : List (Lit × DataW H) → Nat
  | [] => 0
  | x :: r => uptoBulkEntry x + uptoBulkEntries r
def uptoBulkEntry {H : Type} : Lit × DataW H → Nat
  | (.string bytes, d) => bytes.length + uptoBulk d + 1
  | (_, d) => uptoBulk d + 1
 end
def uptoSmall : (H : Type) → List (DataW H) → Bool := fun _ ds => decide (uptoBulkAll ds ≤ 1048576)
def OpenSpec.upto (s : _root_.Go.ChangeSpec) : _root_.Go.OpenSpec := { _root_.Go.OpenSpec.ofChange s with cond := some uptoSmall }

/-- 'laws.FnExactPolynomialParameters', WHERE WHAT IT READS IS OF BULK AT MOST 1048576: true; the input reads as it did. -/
def fnExactPolynomialParametersUptoRow : OpenClaim := { program := "ytghibjghjjnchaa", sum := "ab204d1ab1e95da46ac241f131415f920e24894bcbed7918009adb787f92ccae", func := "loop.example/g01084/laws.FnExactPolynomialParameters", spec := "fnExactPolynomialParameters", apart := false, narrowed := true }
def FnExactPolynomialParametersUptoSaid : Prop := fnExactPolynomialParametersUptoRow.holds Try.pinned (OpenSpec.upto fnExactPolynomialParametersSpec)

/-- 'laws.FnExactCountColours', WHERE WHAT IT READS IS OF BULK AT MOST 1048576: true; the input reads as it did. -/
def fnExactCountColoursUptoRow : OpenClaim := { program := "ytghibjghjjnchaa", sum := "ab204d1ab1e95da46ac241f131415f920e24894bcbed7918009adb787f92ccae", func := "loop.example/g01084/laws.FnExactCountColours", spec := "fnExactCountColours", unfollowed := true, recurses := true, apart := false, narrowed := true }
def FnExactCountColoursUptoSaid : Prop := fnExactCountColoursUptoRow.holds Try.pinned (OpenSpec.upto fnExactCountColoursSpec)

/-- 'laws.FnExactIsMatching', WHERE WHAT IT READS IS OF BULK AT MOST 1048576: true; the input reads as it did. -/
def fnExactIsMatchingUptoRow : OpenClaim := { program := "ytghibjghjjnchaa", sum := "ab204d1ab1e95da46ac241f131415f920e24894bcbed7918009adb787f92ccae", func := "loop.example/g01084/laws.FnExactIsMatching", spec := "fnExactIsMatching", unfollowed := true, recurses := true, apart := false, narrowed := true }
def FnExactIsMatchingUptoSaid : Prop := fnExactIsMatchingUptoRow.holds Try.pinned (OpenSpec.upto fnExactIsMatchingSpec)

/-- 'laws.FnExactIsColouring', WHERE WHAT IT READS IS OF BULK AT MOST 1048576: true; the input reads as it did. -/
def fnExactIsColouringUptoRow : OpenClaim := { program := "ytghibjghjjnchaa", sum := "ab204d1ab1e95da46ac241f131415f920e24894bcbed7918009adb787f92ccae", func := "loop.example/g01084/laws.FnExactIsColouring", spec := "fnExactIsColouring", unfollowed := true, recurses := true, apart := false, narrowed := true }
def FnExactIsColouringUptoSaid : Prop := fnExactIsColouringUptoRow.holds Try.pinned (OpenSpec.upto fnExactIsColouringSpec)

/-- 'laws.FnExactIsDefective', WHERE WHAT IT READS IS OF BULK AT MOST 1048576: true; the input reads as it did. -/
def fnExactIsDefectiveUptoRow : OpenClaim := { program := "ytghibjghjjnchaa", sum := "ab204d1ab1e95da46ac241f131415f920e24894bcbed7918009adb787f92ccae", func := "loop.example/g01084/laws.FnExactIsDefective", spec := "fnExactIsDefective", unfollowed := true, recurses := true, apart := false, narrowed := true }
def FnExactIsDefectiveUptoSaid : Prop := fnExactIsDefectiveUptoRow.holds Try.pinned (OpenSpec.upto fnExactIsDefectiveSpec)

/-- 'laws.FnExactIsWeak', WHERE WHAT IT READS IS OF BULK AT MOST 1048576: true; the input reads as it did. -/
def fnExactIsWeakUptoRow : OpenClaim := { program := "ytghibjghjjnchaa", sum := "ab204d1ab1e95da46ac241f131415f920e24894bcbed7918009adb787f92ccae", func := "loop.example/g01084/laws.FnExactIsWeak", spec := "fnExactIsWeak", unfollowed := true, recurses := true, apart := false, narrowed := true }
def FnExactIsWeakUptoSaid : Prop := fnExactIsWeakUptoRow.holds Try.pinned (OpenSpec.upto fnExactIsWeakSpec)

/-- 'laws.FnExactMatchingSize', WHERE WHAT IT READS IS OF BULK AT MOST 1048576: true; the input reads as it did. -/
def fnExactMatchingSizeUptoRow : OpenClaim := { program := "ytghibjghjjnchaa", sum := "ab204d1ab1e95da46ac241f131415f920e24894bcbed7918009adb787f92ccae", func := "loop.example/g01084/laws.FnExactMatchingSize", spec := "fnExactMatchingSize", unfollowed := true, recurses := true, apart := false, narrowed := true }
def FnExactMatchingSizeUptoSaid : Prop := fnExactMatchingSizeUptoRow.holds Try.pinned (OpenSpec.upto fnExactMatchingSizeSpec)

/-- 'laws.FnExactIsIndependent', WHERE WHAT IT READS IS OF BULK AT MOST 1048576: true; the input reads as it did. -/
def fnExactIsIndependentUptoRow : OpenClaim := { program := "ytghibjghjjnchaa", sum := "ab204d1ab1e95da46ac241f131415f920e24894bcbed7918009adb787f92ccae", func := "loop.example/g01084/laws.FnExactIsIndependent", spec := "fnExactIsIndependent", unfollowed := true, recurses := true, apart := false, narrowed := true }
def FnExactIsIndependentUptoSaid : Prop := fnExactIsIndependentUptoRow.holds Try.pinned (OpenSpec.upto fnExactIsIndependentSpec)

/-- 'laws.FnExactIsVertexCover', WHERE WHAT IT READS IS OF BULK AT MOST 1048576: true; the input reads as it did. -/
def fnExactIsVertexCoverUptoRow : OpenClaim := { program := "ytghibjghjjnchaa", sum := "ab204d1ab1e95da46ac241f131415f920e24894bcbed7918009adb787f92ccae", func := "loop.example/g01084/laws.FnExactIsVertexCover", spec := "fnExactIsVertexCover", unfollowed := true, recurses := true, apart := false, narrowed := true }
def FnExactIsVertexCoverUptoSaid : Prop := fnExactIsVertexCoverUptoRow.holds Try.pinned (OpenSpec.upto fnExactIsVertexCoverSpec)

/-- 'laws.FnExactIsMaximalMatching', WHERE WHAT IT READS IS OF BULK AT MOST 1048576: true; the input reads as it did. -/
def fnExactIsMaximalMatchingUptoRow : OpenClaim := { program := "ytghibjghjjnchaa", sum := "ab204d1ab1e95da46ac241f131415f920e24894bcbed7918009adb787f92ccae", func := "loop.example/g01084/laws.FnExactIsMaximalMatching", spec := "fnExactIsMaximalMatching", unfollowed := true, recurses := true, apart := false, narrowed := true }
def FnExactIsMaximalMatchingUptoSaid : Prop := fnExactIsMaximalMatchingUptoRow.holds Try.pinned (OpenSpec.upto fnExactIsMaximalMatchingSpec)

/-- 'laws.FnExactIsMaximalIndependent', WHERE WHAT IT READS IS OF BULK AT MOST 1048576: true; the input reads as it did. -/
def fnExactIsMaximalIndependentUptoRow : OpenClaim := { program := "ytghibjghjjnchaa", sum := "ab204d1ab1e95da46ac241f131415f920e24894bcbed7918009adb787f92ccae", func := "loop.example/g01084/laws.FnExactIsMaximalIndependent", spec := "fnExactIsMaximalIndependent", unfollowed := true, recurses := true, apart := false, narrowed := true }
def FnExactIsMaximalIndependentUptoSaid : Prop := fnExactIsMaximalIndependentUptoRow.holds Try.pinned (OpenSpec.upto fnExactIsMaximalIndependentSpec)

/-- 'laws.FnExactIsDominating', WHERE WHAT IT READS IS OF BULK AT MOST 1048576: true; the input reads as it did. -/
def fnExactIsDominatingUptoRow : OpenClaim := { program := "ytghibjghjjnchaa", sum := "ab204d1ab1e95da46ac241f131415f920e24894bcbed7918009adb787f92ccae", func := "loop.example/g01084/laws.FnExactIsDominating", spec := "fnExactIsDominating", unfollowed := true, recurses := true, apart := false, narrowed := true }
def FnExactIsDominatingUptoSaid : Prop := fnExactIsDominatingUptoRow.holds Try.pinned (OpenSpec.upto fnExactIsDominatingSpec)

end Rows
end Go.Proofs.Ytghibjghjjnchaa
