import Derived.Test.YtgjddachhhmimaaGreatDoorCards
import Derived.Test.YtgjddachhhmimaaGreatDoorJo
import Derived.WalkKit
import Derived.ProofKit
set_option linter.unusedVariables false
set_option linter.unusedSimpArgs false
namespace Go.Proofs.YtgjddachhhmimaaGreatDoor.serverNil
open Go.Proofs.YtgjddachhhmimaaGreatDoor
theorem kk26 : Pre.J26 Tryz.prog 3 Tryz.f3 Rows.serverNilSpec Rows.serverNilRow = true := by kernel_rfl
end Go.Proofs.YtgjddachhhmimaaGreatDoor.serverNil
