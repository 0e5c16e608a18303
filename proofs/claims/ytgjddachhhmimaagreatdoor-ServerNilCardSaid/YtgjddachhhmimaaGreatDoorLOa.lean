import Derived.Test.YtgjddachhhmimaaGreatDoorLO
set_option linter.unusedVariables false
set_option linter.unusedSimpArgs false
set_option linter.unnecessarySimpa false
set_option linter.all false
namespace Go.Proofs.YtgjddachhhmimaaGreatDoor.serverNil
open Go.Proofs.YtgjddachhhmimaaGreatDoor
theorem lf0 : (((Tryz.prog.funcs.toList).drop 0).take 100).all (typedF 786) = true := by kernel_rfl
theorem lf1 : (((Tryz.prog.funcs.toList).drop 100).take 100).all (typedF 786) = true := by kernel_rfl
theorem lf2 : (((Tryz.prog.funcs.toList).drop 200).take 100).all (typedF 786) = true := by kernel_rfl
theorem lf3 : (((Tryz.prog.funcs.toList).drop 300).take 100).all (typedF 786) = true := by kernel_rfl
theorem lf4 : (((Tryz.prog.funcs.toList).drop 400).take 100).all (typedF 786) = true := by kernel_rfl
theorem lf5 : (((Tryz.prog.funcs.toList).drop 500).take 100).all (typedF 786) = true := by kernel_rfl
theorem lf6 : (((Tryz.prog.funcs.toList).drop 600).take 100).all (typedF 786) = true := by kernel_rfl
theorem lf7 : ((Tryz.prog.funcs.toList).drop 700).all (typedF 786) = true := by kernel_rfl
theorem lt0 : (((List.range 786).drop 0).take 100).all (rowFine Tryz.prog) = true := by kernel_rfl
theorem lt1 : (((List.range 786).drop 100).take 100).all (rowFine Tryz.prog) = true := by kernel_rfl
theorem lt2 : (((List.range 786).drop 200).take 100).all (rowFine Tryz.prog) = true := by kernel_rfl
theorem lt3 : (((List.range 786).drop 300).take 100).all (rowFine Tryz.prog) = true := by kernel_rfl
theorem lt4 : (((List.range 786).drop 400).take 100).all (rowFine Tryz.prog) = true := by kernel_rfl
theorem lt5 : (((List.range 786).drop 500).take 100).all (rowFine Tryz.prog) = true := by kernel_rfl
end Go.Proofs.YtgjddachhhmimaaGreatDoor.serverNil
