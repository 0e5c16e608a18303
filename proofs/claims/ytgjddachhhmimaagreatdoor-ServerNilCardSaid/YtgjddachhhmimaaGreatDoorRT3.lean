import Derived.Test.YtgjddachhhmimaaGreatDoorVC
set_option linter.unusedVariables false
set_option linter.unusedSimpArgs false
namespace Go.Proofs.YtgjddachhhmimaaGreatDoor.serverNil
open Go.Proofs.YtgjddachhhmimaaGreatDoor
theorem kk9 : Pre.J9 Tryz.prog 3 Tryz.f3 Rows.serverNilSpec Rows.serverNilRow = true := by
  unfold Pre.J9 Program.inPlace
  rw [eq_of_beq clo]
  kernel_rfl
end Go.Proofs.YtgjddachhhmimaaGreatDoor.serverNil
