/-
  DERIVED. GIVEN WITH THE SEED: THE CARDS: each row of YtaeledhbkdakcaaGreatDoorRows.lean that lists a variable, with what it lists TIED to the program's text (the seventh form; the later family's looks); each row that meets fmt, with fmt's text TOLD by the authors' own Lean function (tested against real Go, not proved from fmt's source: count such statements apart). THE CARD IS WHAT COUNTS. Prove the row's statement (the work); the ties are given (YtaeledhbkdakcaaGreatDoorTie.lean); close each card by the builder's one call (the guide's Derived/Test/ToyasCard.lean, 'card_holds'). Laid BY PROGRAM, IN A SANDBOX (cutbox-door.mjs). By AI agents, Wed Nov 11 2026. No macro, syntax, notation, axiom, sorry.
-/
import Derived.Test.YtaeledhbkdakcaaGreatDoorRows
import GoSem.ClaimSeven
namespace Go.Proofs.YtaeledhbkdakcaaGreatDoor
namespace Rows

/-- THE TIED CARD OF 'laws.FnExactSolveCycle'. -/
def fnExactSolveCycleCard : Claim7 := { stood := { row := fnExactSolveCycleRow, standIns := [], harness := (true, "1c9c821d8be9980fd597ea2997dffa2477eb51758e4c5c929b84c3d80f854d10"), looks := true }, kinds := [], alts := [], laidByText := true, laidKinds := [.data], laidTests := true, laidLooks := .later }
def FnExactSolveCycleCardSaid : Prop := Claim7.holds Tryz.pinned (.plain (OpenSpec.ofChange fnExactSolveCycleSpec)) fnExactSolveCycleCard

/-- THE TIED CARD OF 'laws.FnExactParseBound'. -/
def fnExactParseBoundCard : Claim7 := { stood := { row := fnExactParseBoundRow, standIns := [], harness := (true, "1c9c821d8be9980fd597ea2997dffa2477eb51758e4c5c929b84c3d80f854d10"), looks := true }, kinds := [], alts := [], laidByText := true, laidKinds := [.data, .data, .data, .data, .sentinel, .sentinel, .pinned], laidTests := true, laidLooks := .later }
def FnExactParseBoundCardSaid : Prop := Claim7.holds Tryz.pinned (.plain (OpenSpec.ofChange fnExactParseBoundSpec)) fnExactParseBoundCard

/-- THE SECOND FORM's CARD OF 'laws.FnExactSolveCycle'. -/
def fnExactSolveCycleUptoCard : Claim7 := { stood := { row := fnExactSolveCycleUptoRow, standIns := [], harness := (true, "1c9c821d8be9980fd597ea2997dffa2477eb51758e4c5c929b84c3d80f854d10"), looks := true }, kinds := [], alts := [], laidByText := true, laidKinds := [.data], laidTests := true, laidLooks := .later }
def FnExactSolveCycleUptoCardSaid : Prop := Claim7.holds Tryz.pinned (.plain (OpenSpec.upto fnExactSolveCycleSpec)) fnExactSolveCycleUptoCard

/-- THE SECOND FORM's CARD OF 'laws.FnExactParseBound'. -/
def fnExactParseBoundUptoCard : Claim7 := { stood := { row := fnExactParseBoundUptoRow, standIns := [], harness := (true, "1c9c821d8be9980fd597ea2997dffa2477eb51758e4c5c929b84c3d80f854d10"), looks := true }, kinds := [], alts := [], laidByText := true, laidKinds := [.data, .data, .data, .data, .sentinel, .sentinel, .pinned], laidTests := true, laidLooks := .later }
def FnExactParseBoundUptoCardSaid : Prop := Claim7.holds Tryz.pinned (.plain (OpenSpec.upto fnExactParseBoundSpec)) fnExactParseBoundUptoCard
end Rows
end Go.Proofs.YtaeledhbkdakcaaGreatDoor
