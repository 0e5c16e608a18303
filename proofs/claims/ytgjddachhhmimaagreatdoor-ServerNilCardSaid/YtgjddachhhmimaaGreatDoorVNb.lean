import Derived.Test.YtgjddachhhmimaaGreatDoorVN
set_option linter.unusedVariables false
set_option linter.unusedSimpArgs false
set_option linter.unnecessarySimpa false
set_option linter.all false
namespace Go.Proofs.YtgjddachhhmimaaGreatDoor.serverNil
open Go.Proofs.YtgjddachhhmimaaGreatDoor
theorem g3 : (cl3.flatMap (namesG Tryz.prog) == [1, 1, 1]) = true := by kernel_rfl
theorem e3 : (cl3.filterMap (namesE Tryz.prog) == []) = true := by kernel_rfl
theorem g4 : (cl4.flatMap (namesG Tryz.prog) == []) = true := by kernel_rfl
theorem e4 : (cl4.filterMap (namesE Tryz.prog) == []) = true := by kernel_rfl
end Go.Proofs.YtgjddachhhmimaaGreatDoor.serverNil
