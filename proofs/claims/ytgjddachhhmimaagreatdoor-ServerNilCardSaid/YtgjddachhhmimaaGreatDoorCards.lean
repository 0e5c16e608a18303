/-
  DERIVED. GIVEN WITH THE SEED: THE CARDS: each row of YtgjddachhhmimaaGreatDoorRows.lean that lists a variable, with what it lists TIED to the program's text (the seventh form; the later family's looks); each row that meets fmt, with fmt's text TOLD by the authors' own Lean function (tested against real Go, not proved from fmt's source: count such statements apart). THE CARD IS WHAT COUNTS. Prove the row's statement (the work); the ties are given (YtgjddachhhmimaaGreatDoorTie.lean); close each card by the builder's one call (the guide's Derived/Test/ToyasCard.lean, 'card_holds'). Laid BY PROGRAM, IN A SANDBOX (cutbox-door.mjs). By AI agents, Wed Nov 11 2026. No macro, syntax, notation, axiom, sorry.
-/
import Derived.Test.YtgjddachhhmimaaGreatDoorRows
import GoSem.ClaimSeven
namespace Go.Proofs.YtgjddachhhmimaaGreatDoor
namespace Rows

/-- THE TIED CARD OF 'larumlaw32.ServerNil'. -/
def serverNilCard : Claim7 := { stood := { row := serverNilRow, standIns := [], harness := (true, "0ff869a474e4c7f151b60d2630d1dfde8bedc49eca125a37e3eca9fc46054e8c"), looks := true }, kinds := [], alts := [], laidByText := true, laidKinds := [.handle, .pinned, .data], laidTests := true, laidLooks := .later }
def ServerNilCardSaid : Prop := Claim7.holds Tryz.pinned (.plain (OpenSpec.ofChange serverNilSpec)) serverNilCard

/-- THE SECOND FORM's CARD OF 'larumlaw32.ServerNil'. -/
def serverNilUptoCard : Claim7 := { stood := { row := serverNilUptoRow, standIns := [], harness := (true, "0ff869a474e4c7f151b60d2630d1dfde8bedc49eca125a37e3eca9fc46054e8c"), looks := true }, kinds := [], alts := [], laidByText := true, laidKinds := [.handle, .pinned, .data], laidTests := true, laidLooks := .later }
def ServerNilUptoCardSaid : Prop := Claim7.holds Tryz.pinned (.plain (OpenSpec.upto serverNilSpec)) serverNilUptoCard
end Rows
end Go.Proofs.YtgjddachhhmimaaGreatDoor
