import Derived.Test.YtgjddachhhmimaaGreatDoorLOa
import Derived.Test.YtgjddachhhmimaaGreatDoorLOb
set_option linter.unusedVariables false
set_option linter.unusedSimpArgs false
set_option linter.unnecessarySimpa false
set_option linter.all false
namespace Go.Proofs.YtgjddachhhmimaaGreatDoor.serverNil
open Go.Proofs.YtgjddachhhmimaaGreatDoor
theorem lt8 : ((List.range 786).drop 800).all (rowFine Tryz.prog) = true := by kernel_rfl
theorem lf : Tryz.prog.funcs.toList.all (typedF 786) = true := (all_part 0 100 lf0 (all_part 100 100 lf1 (all_part 200 100 lf2 (all_part 300 100 lf3 (all_part 400 100 lf4 (all_part 500 100 lf5 (all_part 600 100 lf6 lf7)))))))
theorem lt : (List.range 786).all (rowFine Tryz.prog) = true := (all_part 0 100 lt0 (all_part 100 100 lt1 (all_part 200 100 lt2 (all_part 300 100 lt3 (all_part 400 100 lt4 (all_part 500 100 lt5 (all_part 600 100 lt6 (all_part 700 100 lt7 lt8))))))))
theorem kk1 : Pre.J1 Tryz.prog 3 Tryz.f3 Rows.serverNilSpec Rows.serverNilRow = true := laidOut_of Tryz.prog 786 types_size lt lo_globals lf
end Go.Proofs.YtgjddachhhmimaaGreatDoor.serverNil
