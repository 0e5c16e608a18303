/- larumlaw32.ServerNil answers true for every event, its card with it: a server that is not there does nothing, and the chapter's own example runs as it says. -/
import Derived.Test.YtgjddachhhmimaaGreatDoorNLift
import Derived.Test.YtgjddachhhmimaaGreatDoorAxTie
import Derived.Test.YtgjddachhhmimaaGreatDoorRTall
import Derived.Test.YtgjddachhhmimaaGreatDoorCdA
import Derived.Test.YtgjddachhhmimaaGreatDoorCdB
set_option linter.unusedVariables false
set_option linter.unusedSimpArgs false
set_option linter.unnecessarySimpa false
set_option linter.all false
namespace Go.Proofs.YtgjddachhhmimaaGreatDoor.serverNil
open Go.ChangeShapes Go.WideShapes Go.ChangeAt Go.RowKit Go.Joins
set_option maxRecDepth 1000000 in
theorem said : Rows.ServerNilSaid :=
  OpenClaim.holds_of_cond 3 Tryz.f3 rfl rfl rfl rfl rfl rfl rfl ⟨rfl, rfl, rfl, rfl, rfl⟩ rfl rfl rfl rfl rfl k_fn Tryz.func3 closed
    k_inst k_wrap (fun os started H enc _ F => by rw [OpenClaim.pre_eq_preRow]; exact lifted os started H enc F)
theorem card : Rows.ServerNilCardSaid :=
  Claim7.holds_tied_plain_at .later [] _ _ _ _ said (fun _ h => by cases h) c_wf (fun _ h => by cases h) TiS.row_tied rfl ⟨rfl, rfl⟩ c_main rfl plain c_goes
end Go.Proofs.YtgjddachhhmimaaGreatDoor.serverNil
