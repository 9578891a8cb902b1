/-
  DERIVED. GIVEN WITH THE SEED: THE CARDS: each row of YtdfhhceboacdcaaDoorRows.lean that lists a variable, with what it lists TIED to the program's text (the seventh form; the later family's looks); each row that meets fmt, with fmt's text TOLD by the authors' own Lean function (tested against real Go, not proved from fmt's source: count such statements apart). THE CARD IS WHAT COUNTS. Prove the row's statement (the work); the ties are given (YtdfhhceboacdcaaDoorTie.lean); close each card by the builder's one call (the guide's Derived/Test/ToyasCard.lean, 'card_holds'). Laid BY PROGRAM, IN A SANDBOX (cutbox-door.mjs). By AI agents, Wed Nov 11 2026. No macro, syntax, notation, axiom, sorry.
-/
import Derived.Test.YtdfhhceboacdcaaDoorRows
import GoSem.ClaimSeven
namespace Go.Proofs.YtdfhhceboacdcaaDoor
namespace Rows

/-- THE TIED CARD OF 'cantinglaw01.ExactParses'. -/
def exactParsesCard : Claim7 := { stood := { row := exactParsesRow, standIns := [], harness := (true, "a0c1ad14fadebd31ef06f43823bf08318135dfcf464fc9a0fa1f4a0bf2609e02"), looks := false }, kinds := [], alts := [], laidByText := true, laidKinds := [.data, .data, .data], laidTests := true, laidLooks := .later }
def ExactParsesCardSaid : Prop := Claim7.holds Tryd.pinned (.plain (OpenSpec.ofChange exactParsesSpec)) exactParsesCard

/-- THE TIED CARD OF 'cantinglaw01.ExactPrints'. -/
def exactPrintsCard : Claim7 := { stood := { row := exactPrintsRow, standIns := [], harness := (true, "a0c1ad14fadebd31ef06f43823bf08318135dfcf464fc9a0fa1f4a0bf2609e02"), looks := false }, kinds := [], alts := [], laidByText := true, laidKinds := [.data, .data, .data], laidTests := true, laidLooks := .later }
def ExactPrintsCardSaid : Prop := Claim7.holds Tryd.pinned (.plain (OpenSpec.ofChange exactPrintsSpec)) exactPrintsCard

/-- THE SECOND FORM's CARD OF 'cantinglaw01.ExactParses'. -/
def exactParsesUptoCard : Claim7 := { stood := { row := exactParsesUptoRow, standIns := [], harness := (true, "a0c1ad14fadebd31ef06f43823bf08318135dfcf464fc9a0fa1f4a0bf2609e02"), looks := false }, kinds := [], alts := [], laidByText := true, laidKinds := [.data, .data, .data], laidTests := true, laidLooks := .later }
def ExactParsesUptoCardSaid : Prop := Claim7.holds Tryd.pinned (.plain (OpenSpec.upto exactParsesSpec)) exactParsesUptoCard

/-- THE SECOND FORM's CARD OF 'cantinglaw01.ExactPrints'. -/
def exactPrintsUptoCard : Claim7 := { stood := { row := exactPrintsUptoRow, standIns := [], harness := (true, "a0c1ad14fadebd31ef06f43823bf08318135dfcf464fc9a0fa1f4a0bf2609e02"), looks := false }, kinds := [], alts := [], laidByText := true, laidKinds := [.data, .data, .data], laidTests := true, laidLooks := .later }
def ExactPrintsUptoCardSaid : Prop := Claim7.holds Tryd.pinned (.plain (OpenSpec.upto exactPrintsSpec)) exactPrintsUptoCard
end Rows
end Go.Proofs.YtdfhhceboacdcaaDoor
