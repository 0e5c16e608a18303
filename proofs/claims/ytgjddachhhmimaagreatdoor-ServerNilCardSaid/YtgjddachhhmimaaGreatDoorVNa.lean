import Derived.Test.YtgjddachhhmimaaGreatDoorVN
set_option linter.unusedVariables false
set_option linter.unusedSimpArgs false
set_option linter.unnecessarySimpa false
set_option linter.all false
namespace Go.Proofs.YtgjddachhhmimaaGreatDoor.serverNil
open Go.Proofs.YtgjddachhhmimaaGreatDoor
theorem g0 : (cl0.flatMap (namesG Tryz.prog) == [0]) = true := by kernel_rfl
theorem e0 : (cl0.filterMap (namesE Tryz.prog) == []) = true := by kernel_rfl
theorem g1 : (cl1.flatMap (namesG Tryz.prog) == []) = true := by kernel_rfl
theorem e1 : (cl1.filterMap (namesE Tryz.prog) == []) = true := by kernel_rfl
theorem g2 : (cl2.flatMap (namesG Tryz.prog) == [2, 3]) = true := by kernel_rfl
theorem e2 : (cl2.filterMap (namesE Tryz.prog) == ["internal/bytealg.MaxLen"]) = true := by kernel_rfl
end Go.Proofs.YtgjddachhhmimaaGreatDoor.serverNil
