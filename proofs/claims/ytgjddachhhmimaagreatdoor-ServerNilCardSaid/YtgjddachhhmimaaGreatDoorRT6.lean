import Derived.Test.YtgjddachhhmimaaGreatDoorVC
import Derived.Test.YtgjddachhhmimaaGreatDoorVNa
import Derived.Test.YtgjddachhhmimaaGreatDoorVNb
set_option linter.unusedVariables false
set_option linter.unusedSimpArgs false
namespace Go.Proofs.YtgjddachhhmimaaGreatDoor.serverNil
open Go.Proofs.YtgjddachhhmimaaGreatDoor
theorem kk12 : Pre.J12 Tryz.prog 3 Tryz.f3 Rows.serverNilSpec Rows.serverNilRow = true := by
  unfold Pre.J12
  rw [varsNamed_of _ _ _ (eq_of_beq clo)]
  simp only [List.flatMap_append, List.filterMap_append]
  rw [eq_of_beq g0, eq_of_beq e0, eq_of_beq g1, eq_of_beq e1, eq_of_beq g2, eq_of_beq e2, eq_of_beq g3, eq_of_beq e3, eq_of_beq g4, eq_of_beq e4]
  kernel_rfl
end Go.Proofs.YtgjddachhhmimaaGreatDoor.serverNil
