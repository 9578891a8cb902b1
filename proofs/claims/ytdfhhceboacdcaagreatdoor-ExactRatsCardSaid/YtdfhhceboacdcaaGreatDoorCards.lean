/-
  DERIVED. GIVEN WITH THE SEED: THE CARDS: each row of YtdfhhceboacdcaaGreatDoorRows.lean that lists a variable, with what it lists TIED to the program's text (the seventh form; the later family's looks); each row that meets fmt, with fmt's text TOLD by the authors' own Lean function (tested against real Go, not proved from fmt's source: count such statements apart). THE CARD IS WHAT COUNTS. Prove the row's statement (the work); the ties are given (YtdfhhceboacdcaaGreatDoorTie.lean); close each card by the builder's one call (the guide's Derived/Test/ToyasCard.lean, 'card_holds'). Laid BY PROGRAM, IN A SANDBOX (cutbox-door.mjs). By AI agents, Wed Nov 11 2026. No macro, syntax, notation, axiom, sorry.
-/
import Derived.Test.YtdfhhceboacdcaaGreatDoorRows
import GoSem.ClaimSeven
namespace Go.Proofs.YtdfhhceboacdcaaGreatDoor
namespace Rows

/-- THE TIED CARD OF 'cantinglaw01.ExactRatParses'. -/
def exactRatParsesCard : Claim7 := { stood := { row := exactRatParsesRow, standIns := [], harness := (true, "2e9d766557125672b3539e085ec849055798aec30929fe7bbbe7338a1f324ec2"), looks := false }, kinds := [], alts := [], laidByText := true, laidKinds := [.data, .data, .data], laidTests := true, laidLooks := .later }
def ExactRatParsesCardSaid : Prop := Claim7.holds Tryz.pinned (.plain (OpenSpec.ofChange exactRatParsesSpec)) exactRatParsesCard

/-- THE TIED CARD OF 'cantinglaw01.ExactRats'. -/
def exactRatsCard : Claim7 := { stood := { row := exactRatsRow, standIns := [], harness := (true, "2e9d766557125672b3539e085ec849055798aec30929fe7bbbe7338a1f324ec2"), looks := false }, kinds := [], alts := [], laidByText := true, laidKinds := [.data, .data, .data], laidTests := true, laidLooks := .later }
def ExactRatsCardSaid : Prop := Claim7.holds Tryz.pinned (.plain (OpenSpec.ofChange exactRatsSpec)) exactRatsCard

/-- THE SECOND FORM's CARD OF 'cantinglaw01.ExactRatParses'. -/
def exactRatParsesUptoCard : Claim7 := { stood := { row := exactRatParsesUptoRow, standIns := [], harness := (true, "2e9d766557125672b3539e085ec849055798aec30929fe7bbbe7338a1f324ec2"), looks := false }, kinds := [], alts := [], laidByText := true, laidKinds := [.data, .data, .data], laidTests := true, laidLooks := .later }
def ExactRatParsesUptoCardSaid : Prop := Claim7.holds Tryz.pinned (.plain (OpenSpec.upto exactRatParsesSpec)) exactRatParsesUptoCard

/-- THE SECOND FORM's CARD OF 'cantinglaw01.ExactRats'. -/
def exactRatsUptoCard : Claim7 := { stood := { row := exactRatsUptoRow, standIns := [], harness := (true, "2e9d766557125672b3539e085ec849055798aec30929fe7bbbe7338a1f324ec2"), looks := false }, kinds := [], alts := [], laidByText := true, laidKinds := [.data, .data, .data], laidTests := true, laidLooks := .later }
def ExactRatsUptoCardSaid : Prop := Claim7.holds Tryz.pinned (.plain (OpenSpec.upto exactRatsSpec)) exactRatsUptoCard
end Rows
end Go.Proofs.YtdfhhceboacdcaaGreatDoor
