import Derived.Test.YtedmjlflppckmaaGreatDoorCards
import Derived.Test.YtedmjlflppckmaaGreatDoorJo
import Derived.WalkKit
import Derived.ProofKit
set_option linter.unusedVariables false
set_option linter.unusedSimpArgs false
namespace Go.Proofs.YtedmjlflppckmaaGreatDoor.routeKind
open Go.Proofs.YtedmjlflppckmaaGreatDoor
theorem kk0 : Pre.J0 Tryz.prog 3 Tryz.f3 Rows.routeKindSpec Rows.routeKindRow = true := by kernel_rfl
theorem kk1 : Pre.J1 Tryz.prog 3 Tryz.f3 Rows.routeKindSpec Rows.routeKindRow = true := by kernel_rfl
theorem kk2 : Pre.J2 Tryz.prog 3 Tryz.f3 Rows.routeKindSpec Rows.routeKindRow = true := by kernel_rfl
theorem kk3 : Pre.J3 Tryz.prog 3 Tryz.f3 Rows.routeKindSpec Rows.routeKindRow = true := by kernel_rfl
theorem kk4 : Pre.J4 Tryz.prog 3 Tryz.f3 Rows.routeKindSpec Rows.routeKindRow = true := by kernel_rfl
theorem kk5 : Pre.J5 Tryz.prog 3 Tryz.f3 Rows.routeKindSpec Rows.routeKindRow = true := by kernel_rfl
theorem kk6 : Pre.J6 Tryz.prog 3 Tryz.f3 Rows.routeKindSpec Rows.routeKindRow = true := by kernel_rfl
theorem kk7 : Pre.J7 Tryz.prog 3 Tryz.f3 Rows.routeKindSpec Rows.routeKindRow = true := by kernel_rfl
theorem kk8 : Pre.J8 Tryz.prog 3 Tryz.f3 Rows.routeKindSpec Rows.routeKindRow = true := by kernel_rfl
theorem kk9 : Pre.J9 Tryz.prog 3 Tryz.f3 Rows.routeKindSpec Rows.routeKindRow = true := by kernel_rfl
theorem kk10 : Pre.J10 Tryz.prog 3 Tryz.f3 Rows.routeKindSpec Rows.routeKindRow = true := by kernel_rfl
theorem kk11 : Pre.J11 Tryz.prog 3 Tryz.f3 Rows.routeKindSpec Rows.routeKindRow = true := by kernel_rfl
theorem kk12 : Pre.J12 Tryz.prog 3 Tryz.f3 Rows.routeKindSpec Rows.routeKindRow = true := by kernel_rfl
theorem kk13 : Pre.J13 Tryz.prog 3 Tryz.f3 Rows.routeKindSpec Rows.routeKindRow = true := by kernel_rfl
theorem kk14 : Pre.J14 Tryz.prog 3 Tryz.f3 Rows.routeKindSpec Rows.routeKindRow = true := by kernel_rfl
theorem kk15 : Pre.J15 Tryz.prog 3 Tryz.f3 Rows.routeKindSpec Rows.routeKindRow = true := by kernel_rfl
theorem kk16 : Pre.J16 Tryz.prog 3 Tryz.f3 Rows.routeKindSpec Rows.routeKindRow = true := by kernel_rfl
theorem kk17 : Pre.J17 Tryz.prog 3 Tryz.f3 Rows.routeKindSpec Rows.routeKindRow = true := by kernel_rfl
theorem kk18 : Pre.J18 Tryz.prog 3 Tryz.f3 Rows.routeKindSpec Rows.routeKindRow = true := by kernel_rfl
theorem kk19 : Pre.J19 Tryz.prog 3 Tryz.f3 Rows.routeKindSpec Rows.routeKindRow = true := by kernel_rfl
theorem kk20 : Pre.J20 Tryz.prog 3 Tryz.f3 Rows.routeKindSpec Rows.routeKindRow = true := by kernel_rfl
theorem kk21 : Pre.J21 Tryz.prog 3 Tryz.f3 Rows.routeKindSpec Rows.routeKindRow = true := by kernel_rfl
theorem kk22 : Pre.J22 Tryz.prog 3 Tryz.f3 Rows.routeKindSpec Rows.routeKindRow = true := by kernel_rfl
theorem kk23 : Pre.J23 Tryz.prog 3 Tryz.f3 Rows.routeKindSpec Rows.routeKindRow = true := by kernel_rfl
theorem kk24 : Pre.J24 Tryz.prog 3 Tryz.f3 Rows.routeKindSpec Rows.routeKindRow = true := by kernel_rfl
theorem kk25 : Pre.J25 Tryz.prog 3 Tryz.f3 Rows.routeKindSpec Rows.routeKindRow = true := by kernel_rfl
theorem kk26 : Pre.J26 Tryz.prog 3 Tryz.f3 Rows.routeKindSpec Rows.routeKindRow = true := by kernel_rfl
theorem kk27 : Pre.J27 Tryz.prog 3 Tryz.f3 Rows.routeKindSpec Rows.routeKindRow = true := by kernel_rfl
theorem kk28 : Pre.J28 Tryz.prog 3 Tryz.f3 Rows.routeKindSpec Rows.routeKindRow = true := by kernel_rfl
theorem kk29 : Pre.J29 Tryz.prog 3 Tryz.f3 Rows.routeKindSpec Rows.routeKindRow = true := by kernel_rfl
theorem kk30 : Pre.J30 Tryz.prog 3 Tryz.f3 Rows.routeKindSpec Rows.routeKindRow = true := by kernel_rfl
theorem kk31 : Pre.J31 Tryz.prog 3 Tryz.f3 Rows.routeKindSpec Rows.routeKindRow = true := by kernel_rfl
theorem closed : joinedFacts Tryz.prog 3 Tryz.f3 Rows.routeKindSpec Rows.routeKindRow = true := Pre.joined_of kk0 kk1 kk2 kk3 kk4 kk5 kk6 kk7 kk8 kk9 kk10 kk11 kk12 kk13 kk14 kk15 kk16 kk17 kk18 kk19 kk20 kk21 kk22 kk23 kk24 kk25 kk26 kk27 kk28 kk29 kk30 kk31
theorem k_inst : Tryz.f3.isInstance Tryz.pinned.checked.prog Rows.routeKindRow.origin Rows.routeKindRow.targs := of_decide_eq_true (by kernel_rfl)
theorem k_wrap : Tryz.f3.isWrapper Tryz.pinned.checked.prog Rows.routeKindRow.wrapper Rows.routeKindRow.mainSum := by unfold Func.isWrapper; first | (rw [if_pos (by decide +kernel)]; kernel_rfl) | (rw [if_neg (by decide +kernel)]; exact ⟨rfl, rfl⟩)
theorem k_fn : Tryz.pinned.checked.prog.funcNamed Rows.routeKindRow.func = some 3 := by kernel_rfl
end Go.Proofs.YtedmjlflppckmaaGreatDoor.routeKind
