/-
  DERIVED. GIVEN WITH THE SEED: THE CARDS: each row of YtcldmpllpfojhaaDoorRows.lean that lists a variable, with what it lists TIED to the program's text (the seventh form; the later family's looks); each row that meets fmt, with fmt's text TOLD by the authors' own Lean function (tested against real Go, not proved from fmt's source: count such statements apart). THE CARD IS WHAT COUNTS. Prove the row's statement (the work); the ties are given (YtcldmpllpfojhaaDoorTie.lean); close each card by the builder's one call (the guide's Derived/Test/ToyasCard.lean, 'card_holds'). Laid BY PROGRAM, IN A SANDBOX (cutbox-door.mjs). By AI agents, Wed Nov 11 2026. No macro, syntax, notation, axiom, sorry.
-/
import Derived.Test.YtcldmpllpfojhaaDoorRows
import GoSem.ClaimSeven
namespace Go.Proofs.YtcldmpllpfojhaaDoor
namespace Rows

/-- THE TIED CARD OF 'laws.FnExactTidyText'. -/
def fnExactTidyTextCard : Claim7 := { stood := { row := fnExactTidyTextRow, standIns := [], harness := (true, "ec418f76eddfb459a1062f1727542bc48bd7483b28a6bebcce9c85cd31f9479f"), looks := true }, kinds := [], alts := [], laidByText := true, laidKinds := [.data, .data, .data, .sentinel, .sentinel], laidTests := true, laidLooks := .later }
def FnExactTidyTextCardSaid : Prop := Claim7.holds Tryd.pinned (.plain (OpenSpec.ofChange fnExactTidyTextSpec)) fnExactTidyTextCard

/-- THE TIED CARD OF 'laws.FnExactParseNetwork'. -/
def fnExactParseNetworkCard : Claim7 := { stood := { row := fnExactParseNetworkRow, standIns := [], harness := (true, "ec418f76eddfb459a1062f1727542bc48bd7483b28a6bebcce9c85cd31f9479f"), looks := true }, kinds := [], alts := [], laidByText := true, laidKinds := [.data, .data, .data, .sentinel, .sentinel], laidTests := true, laidLooks := .later }
def FnExactParseNetworkCardSaid : Prop := Claim7.holds Tryd.pinned (.plain (OpenSpec.ofChange fnExactParseNetworkSpec)) fnExactParseNetworkCard

/-- THE SECOND FORM's CARD OF 'laws.FnExactTidyText'. -/
def fnExactTidyTextUptoCard : Claim7 := { stood := { row := fnExactTidyTextUptoRow, standIns := [], harness := (true, "ec418f76eddfb459a1062f1727542bc48bd7483b28a6bebcce9c85cd31f9479f"), looks := true }, kinds := [], alts := [], laidByText := true, laidKinds := [.data, .data, .data, .sentinel, .sentinel], laidTests := true, laidLooks := .later }
def FnExactTidyTextUptoCardSaid : Prop := Claim7.holds Tryd.pinned (.plain (OpenSpec.upto fnExactTidyTextSpec)) fnExactTidyTextUptoCard

/-- THE SECOND FORM's CARD OF 'laws.FnExactParseNetwork'. -/
def fnExactParseNetworkUptoCard : Claim7 := { stood := { row := fnExactParseNetworkUptoRow, standIns := [], harness := (true, "ec418f76eddfb459a1062f1727542bc48bd7483b28a6bebcce9c85cd31f9479f"), looks := true }, kinds := [], alts := [], laidByText := true, laidKinds := [.data, .data, .data, .sentinel, .sentinel], laidTests := true, laidLooks := .later }
def FnExactParseNetworkUptoCardSaid : Prop := Claim7.holds Tryd.pinned (.plain (OpenSpec.upto fnExactParseNetworkSpec)) fnExactParseNetworkUptoCard
end Rows
end Go.Proofs.YtcldmpllpfojhaaDoor
