import Derived.Test.YtgjddachhhmimaaGreatDoorRT0
import Derived.Test.YtgjddachhhmimaaGreatDoorRT1
import Derived.Test.YtgjddachhhmimaaGreatDoorRT2
import Derived.Test.YtgjddachhhmimaaGreatDoorRT3
import Derived.Test.YtgjddachhhmimaaGreatDoorRT4
import Derived.Test.YtgjddachhhmimaaGreatDoorRT6
import Derived.Test.YtgjddachhhmimaaGreatDoorRT7
import Derived.Test.YtgjddachhhmimaaGreatDoorRT8
import Derived.Test.YtgjddachhhmimaaGreatDoorRT9
import Derived.WalkKit
import Derived.ProofKit
set_option linter.unusedVariables false
set_option linter.unusedSimpArgs false
set_option linter.unnecessarySimpa false
set_option linter.all false
namespace Go.Proofs.YtgjddachhhmimaaGreatDoor.serverNil
open Go.Proofs.YtgjddachhhmimaaGreatDoor
theorem closed : joinedFacts Tryz.prog 3 Tryz.f3 Rows.serverNilSpec Rows.serverNilRow = true := Pre.joined_of kk0 kk1 kk2 kk3 kk4 kk5 kk6 kk7 kk8 kk9 kk10 kk11 kk12 kk13 kk14 kk15 kk16 kk17 kk18 kk19 kk20 kk21 kk22 kk23 kk24 kk25 kk26 kk27 kk28 kk29 kk30 kk31
theorem k_inst : Tryz.f3.isInstance Tryz.pinned.checked.prog Rows.serverNilRow.origin Rows.serverNilRow.targs := of_decide_eq_true (by kernel_rfl)
theorem k_wrap : Tryz.f3.isWrapper Tryz.pinned.checked.prog Rows.serverNilRow.wrapper Rows.serverNilRow.mainSum := by unfold Func.isWrapper; first | (rw [if_pos (by decide +kernel)]; kernel_rfl) | (rw [if_neg (by decide +kernel)]; exact ⟨rfl, rfl⟩)
theorem k_fn : Tryz.pinned.checked.prog.funcNamed Rows.serverNilRow.func = some 3 := by kernel_rfl
end Go.Proofs.YtgjddachhhmimaaGreatDoor.serverNil
