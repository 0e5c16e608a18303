import Derived.Test.YtgjddachhhmimaaGreatDoorVN
set_option linter.unusedVariables false
set_option linter.unusedSimpArgs false
set_option linter.unnecessarySimpa false
set_option linter.all false
namespace Go.Proofs.YtgjddachhhmimaaGreatDoor.serverNil
open Go.Proofs.YtgjddachhhmimaaGreatDoor
theorem ws0 : (((Tryz.prog.funcs.toList.drop 0).take 100).map (weight Tryz.prog)).sum = 341 := by kernel_rfl
theorem ws1 : (((Tryz.prog.funcs.toList.drop 100).take 100).map (weight Tryz.prog)).sum = 333 := by kernel_rfl
theorem ws2 : (((Tryz.prog.funcs.toList.drop 200).take 100).map (weight Tryz.prog)).sum = 326 := by kernel_rfl
theorem ws3 : (((Tryz.prog.funcs.toList.drop 300).take 100).map (weight Tryz.prog)).sum = 279 := by kernel_rfl
theorem enough : 1213 ≤ (Tryz.prog.funcs.toList.map (weight Tryz.prog)).sum :=
  Nat.le_trans (by omega) (sum_part 0 100 ws0 (sum_part 100 100 ws1 (sum_part 200 100 ws2 (sum_part 300 100 ws3 (Nat.zero_le _)))))
theorem closedN : closedAt Tryz.prog 1213 3 (cl0 ++ cl1 ++ cl2 ++ cl3 ++ cl4) = true := by kernel_rfl
theorem clo : (Tryz.prog.closure 3 == cl0 ++ cl1 ++ cl2 ++ cl3 ++ cl4) = true := beq_iff_eq.mpr (closure_of _ _ _ _ enough closedN)
end Go.Proofs.YtgjddachhhmimaaGreatDoor.serverNil
