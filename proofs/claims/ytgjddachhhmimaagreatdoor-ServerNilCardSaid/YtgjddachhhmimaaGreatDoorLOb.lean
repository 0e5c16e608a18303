import Derived.Test.YtgjddachhhmimaaGreatDoorLO
set_option linter.unusedVariables false
set_option linter.unusedSimpArgs false
set_option linter.unnecessarySimpa false
set_option linter.all false
namespace Go.Proofs.YtgjddachhhmimaaGreatDoor.serverNil
open Go.Proofs.YtgjddachhhmimaaGreatDoor
theorem lt6 : (((List.range 786).drop 600).take 100).all (rowFine Tryz.prog) = true := by kernel_rfl
theorem lt7 : (((List.range 786).drop 700).take 100).all (rowFine Tryz.prog) = true := by kernel_rfl
end Go.Proofs.YtgjddachhhmimaaGreatDoor.serverNil
