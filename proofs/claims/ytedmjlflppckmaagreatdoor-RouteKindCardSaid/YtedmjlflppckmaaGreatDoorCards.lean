/-
  DERIVED. GIVEN WITH THE SEED: THE CARDS: each row of YtedmjlflppckmaaGreatDoorRows.lean that lists a variable, with what it lists TIED to the program's text (the seventh form; the later family's looks); each row that meets fmt, with fmt's text TOLD by the authors' own Lean function (tested against real Go, not proved from fmt's source: count such statements apart). THE CARD IS WHAT COUNTS. Prove the row's statement (the work); the ties are given (YtedmjlflppckmaaGreatDoorTie.lean); close each card by the builder's one call (the guide's Derived/Test/ToyasCard.lean, 'card_holds'). Laid BY PROGRAM, IN A SANDBOX (cutbox-door.mjs). By AI agents, Wed Nov 11 2026. No macro, syntax, notation, axiom, sorry.
-/
import Derived.Test.YtedmjlflppckmaaGreatDoorRows
import GoSem.ClaimSeven
namespace Go.Proofs.YtedmjlflppckmaaGreatDoor
namespace Rows

/-- THE TIED CARD OF 'larumlaw29.RouteKind'. -/
def routeKindCard : Claim7 := { stood := { row := routeKindRow, standIns := [], harness := (true, "ef3815a3ea01cdee60d08979ebfed800245d80db94cc56171df758a664e2fcc3"), looks := true }, kinds := [], alts := [], laidByText := true, laidKinds := [.data, .handle, .pinned], laidTests := true, laidLooks := .later }
def RouteKindCardSaid : Prop := Claim7.holds Tryz.pinned (.plain (OpenSpec.ofChange routeKindSpec)) routeKindCard

/-- THE TIED CARD OF 'larumlaw29.RouteOf'. -/
def routeOfCard : Claim7 := { stood := { row := routeOfRow, standIns := [], harness := (true, "ef3815a3ea01cdee60d08979ebfed800245d80db94cc56171df758a664e2fcc3"), looks := true }, kinds := [], alts := [], laidByText := true, laidKinds := [.data, .handle, .pinned], laidTests := true, laidLooks := .later }
def RouteOfCardSaid : Prop := Claim7.holds Tryz.pinned (.plain (OpenSpec.ofChange routeOfSpec)) routeOfCard

/-- THE TIED CARD OF 'larumlaw29.RouteStatus'. -/
def routeStatusCard : Claim7 := { stood := { row := routeStatusRow, standIns := [], harness := (true, "ef3815a3ea01cdee60d08979ebfed800245d80db94cc56171df758a664e2fcc3"), looks := true }, kinds := [], alts := [], laidByText := true, laidKinds := [.data, .handle, .pinned], laidTests := true, laidLooks := .later }
def RouteStatusCardSaid : Prop := Claim7.holds Tryz.pinned (.plain (OpenSpec.ofChange routeStatusSpec)) routeStatusCard

/-- THE SECOND FORM's CARD OF 'larumlaw29.RouteKind'. -/
def routeKindUptoCard : Claim7 := { stood := { row := routeKindUptoRow, standIns := [], harness := (true, "ef3815a3ea01cdee60d08979ebfed800245d80db94cc56171df758a664e2fcc3"), looks := true }, kinds := [], alts := [], laidByText := true, laidKinds := [.data, .handle, .pinned], laidTests := true, laidLooks := .later }
def RouteKindUptoCardSaid : Prop := Claim7.holds Tryz.pinned (.plain (OpenSpec.upto routeKindSpec)) routeKindUptoCard

/-- THE SECOND FORM's CARD OF 'larumlaw29.RouteOf'. -/
def routeOfUptoCard : Claim7 := { stood := { row := routeOfUptoRow, standIns := [], harness := (true, "ef3815a3ea01cdee60d08979ebfed800245d80db94cc56171df758a664e2fcc3"), looks := true }, kinds := [], alts := [], laidByText := true, laidKinds := [.data, .handle, .pinned], laidTests := true, laidLooks := .later }
def RouteOfUptoCardSaid : Prop := Claim7.holds Tryz.pinned (.plain (OpenSpec.upto routeOfSpec)) routeOfUptoCard

/-- THE SECOND FORM's CARD OF 'larumlaw29.RouteStatus'. -/
def routeStatusUptoCard : Claim7 := { stood := { row := routeStatusUptoRow, standIns := [], harness := (true, "ef3815a3ea01cdee60d08979ebfed800245d80db94cc56171df758a664e2fcc3"), looks := true }, kinds := [], alts := [], laidByText := true, laidKinds := [.data, .handle, .pinned], laidTests := true, laidLooks := .later }
def RouteStatusUptoCardSaid : Prop := Claim7.holds Tryz.pinned (.plain (OpenSpec.upto routeStatusSpec)) routeStatusUptoCard
end Rows
end Go.Proofs.YtedmjlflppckmaaGreatDoor
