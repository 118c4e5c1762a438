/-
  DERIVED. GIVEN WITH THE SEED: THE CARDS: each row of YtckalplhaggaoaaGreatDoorRows.lean that lists a variable, with what it lists TIED to the program's text (the seventh form; the later family's looks); each row that meets fmt, with fmt's text TOLD by the authors' own Lean function (tested against real Go, not proved from fmt's source: count such statements apart). THE CARD IS WHAT COUNTS. Prove the row's statement (the work); the ties are given (YtckalplhaggaoaaGreatDoorTie.lean); close each card by the builder's one call (the guide's Derived/Test/ToyasCard.lean, 'card_holds'). Laid BY PROGRAM, IN A SANDBOX (cutbox-door.mjs). By AI agents, Wed Nov 11 2026. No macro, syntax, notation, axiom, sorry.
-/
import Derived.Test.YtckalplhaggaoaaGreatDoorRows
import GoSem.ClaimSeven
namespace Go.Proofs.YtckalplhaggaoaaGreatDoor
namespace Rows

/-- THE TIED CARD OF 'abacistlaw21.InputBack'. -/
def inputBackCard : Claim7 := { stood := { row := inputBackRow, standIns := [], harness := (true, "db6e7b8e9418b9cdf70f85aa0d648631f92c1deeb9a33f1df6352fee1bcd3fa3"), looks := true }, kinds := [], alts := [], laidByText := true, laidKinds := [.data, .data, .data, .data, .sentinel, .sentinel, .pinned], laidTests := true, laidLooks := .later }
def InputBackCardSaid : Prop := Claim7.holds Tryz.pinned (.plain (OpenSpec.ofChange inputBackSpec)) inputBackCard

/-- THE SECOND FORM's CARD OF 'abacistlaw21.InputBack'. -/
def inputBackUptoCard : Claim7 := { stood := { row := inputBackUptoRow, standIns := [], harness := (true, "db6e7b8e9418b9cdf70f85aa0d648631f92c1deeb9a33f1df6352fee1bcd3fa3"), looks := true }, kinds := [], alts := [], laidByText := true, laidKinds := [.data, .data, .data, .data, .sentinel, .sentinel, .pinned], laidTests := true, laidLooks := .later }
def InputBackUptoCardSaid : Prop := Claim7.holds Tryz.pinned (.plain (OpenSpec.upto inputBackSpec)) inputBackUptoCard
end Rows
end Go.Proofs.YtckalplhaggaoaaGreatDoor
