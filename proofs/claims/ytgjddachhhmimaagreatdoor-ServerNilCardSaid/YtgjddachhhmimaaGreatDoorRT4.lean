import Derived.Test.YtgjddachhhmimaaGreatDoorVC
set_option linter.unusedVariables false
set_option linter.unusedSimpArgs false
namespace Go.Proofs.YtgjddachhhmimaaGreatDoor.serverNil
open Go.Proofs.YtgjddachhhmimaaGreatDoor
theorem unfollowed_of (P : Program) (f : FuncId) (l : List FuncId) (h : P.closure f = l) :
    P.unfollowed f = l.any fun g => (P.funcs[g]?).any fun fn => match fn.body with | some c => c.unfollowed | none => entryCalls fn := by
  unfold Program.unfollowed
  rw [h]
  rfl
theorem unf : Tryz.prog.unfollowed 3 = true := by
  rw [unfollowed_of _ _ _ (eq_of_beq clo)]
  kernel_rfl
theorem recurses_of (P : Program) (f : FuncId) (h : P.unfollowed f = true) : P.recurses f = true := by
  unfold Program.recurses
  rw [h]
  rfl
theorem kk10 : Pre.J10 Tryz.prog 3 Tryz.f3 Rows.serverNilSpec Rows.serverNilRow = true := by
  unfold Pre.J10
  rw [unf]
  rfl
theorem kk11 : Pre.J11 Tryz.prog 3 Tryz.f3 Rows.serverNilSpec Rows.serverNilRow = true := by
  unfold Pre.J11
  rw [recurses_of _ _ unf]
  rfl
end Go.Proofs.YtgjddachhhmimaaGreatDoor.serverNil
