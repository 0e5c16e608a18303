import Derived.Test.YtgjddachhhmimaaGreatDoorCards
import Derived.Test.YtgjddachhhmimaaGreatDoorJo
import Derived.WalkKit
import Derived.ProofKit
set_option linter.unusedVariables false
set_option linter.unusedSimpArgs false
namespace Go.Proofs.YtgjddachhhmimaaGreatDoor.serverNil
open Go.Proofs.YtgjddachhhmimaaGreatDoor
theorem kk0 : Pre.J0 Tryz.prog 3 Tryz.f3 Rows.serverNilSpec Rows.serverNilRow = true := by kernel_rfl
theorem kk3 : Pre.J3 Tryz.prog 3 Tryz.f3 Rows.serverNilSpec Rows.serverNilRow = true := by kernel_rfl
theorem kk4 : Pre.J4 Tryz.prog 3 Tryz.f3 Rows.serverNilSpec Rows.serverNilRow = true := by kernel_rfl
theorem kk5 : Pre.J5 Tryz.prog 3 Tryz.f3 Rows.serverNilSpec Rows.serverNilRow = true := by kernel_rfl
theorem kk6 : Pre.J6 Tryz.prog 3 Tryz.f3 Rows.serverNilSpec Rows.serverNilRow = true := by kernel_rfl
theorem kk7 : Pre.J7 Tryz.prog 3 Tryz.f3 Rows.serverNilSpec Rows.serverNilRow = true := by kernel_rfl
theorem kk8 : Pre.J8 Tryz.prog 3 Tryz.f3 Rows.serverNilSpec Rows.serverNilRow = true := by kernel_rfl
theorem kk13 : Pre.J13 Tryz.prog 3 Tryz.f3 Rows.serverNilSpec Rows.serverNilRow = true := by kernel_rfl
theorem kk14 : Pre.J14 Tryz.prog 3 Tryz.f3 Rows.serverNilSpec Rows.serverNilRow = true := by kernel_rfl
theorem kk15 : Pre.J15 Tryz.prog 3 Tryz.f3 Rows.serverNilSpec Rows.serverNilRow = true := by kernel_rfl
theorem kk16 : Pre.J16 Tryz.prog 3 Tryz.f3 Rows.serverNilSpec Rows.serverNilRow = true := by kernel_rfl
theorem kk17 : Pre.J17 Tryz.prog 3 Tryz.f3 Rows.serverNilSpec Rows.serverNilRow = true := by kernel_rfl
theorem kk18 : Pre.J18 Tryz.prog 3 Tryz.f3 Rows.serverNilSpec Rows.serverNilRow = true := by kernel_rfl
theorem kk19 : Pre.J19 Tryz.prog 3 Tryz.f3 Rows.serverNilSpec Rows.serverNilRow = true := by kernel_rfl
theorem kk20 : Pre.J20 Tryz.prog 3 Tryz.f3 Rows.serverNilSpec Rows.serverNilRow = true := by kernel_rfl
theorem kk21 : Pre.J21 Tryz.prog 3 Tryz.f3 Rows.serverNilSpec Rows.serverNilRow = true := by kernel_rfl
theorem kk22 : Pre.J22 Tryz.prog 3 Tryz.f3 Rows.serverNilSpec Rows.serverNilRow = true := by kernel_rfl
theorem kk23 : Pre.J23 Tryz.prog 3 Tryz.f3 Rows.serverNilSpec Rows.serverNilRow = true := by kernel_rfl
theorem kk27 : Pre.J27 Tryz.prog 3 Tryz.f3 Rows.serverNilSpec Rows.serverNilRow = true := by kernel_rfl
theorem kk28 : Pre.J28 Tryz.prog 3 Tryz.f3 Rows.serverNilSpec Rows.serverNilRow = true := by kernel_rfl
theorem kk29 : Pre.J29 Tryz.prog 3 Tryz.f3 Rows.serverNilSpec Rows.serverNilRow = true := by kernel_rfl
theorem kk30 : Pre.J30 Tryz.prog 3 Tryz.f3 Rows.serverNilSpec Rows.serverNilRow = true := by kernel_rfl
theorem kk31 : Pre.J31 Tryz.prog 3 Tryz.f3 Rows.serverNilSpec Rows.serverNilRow = true := by kernel_rfl
end Go.Proofs.YtgjddachhhmimaaGreatDoor.serverNil
