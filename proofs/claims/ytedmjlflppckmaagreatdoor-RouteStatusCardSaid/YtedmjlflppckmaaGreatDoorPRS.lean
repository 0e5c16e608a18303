import Derived.Test.YtedmjlflppckmaaGreatDoorPl
set_option linter.unusedVariables false
set_option linter.unusedSimpArgs false
namespace Go.Proofs.YtedmjlflppckmaaGreatDoor.PL
theorem status_eq (a0 a1 : Int) : ∃ r, route_Status.f 1 a0 a1 = some r ∧ larumref29_Status.f 1 a0 a1 = some r := by
  unfold route_Status.f larumref29_Status.f route_Status.j0 larumref29_Status.j0
  repeat' split
  all_goals first | exact ⟨_, rfl, rfl⟩ | contradiction
theorem routeStatus_pure (a0 a1 : Int) : larumlaw29_RouteStatus.f 1 a0 a1 = some true := by
  obtain ⟨r, h1, h2⟩ := status_eq a0 a1
  unfold larumlaw29_RouteStatus.f
  rw [h1, h2]
  simp [larumlaw29_awake.f]
end Go.Proofs.YtedmjlflppckmaaGreatDoor.PL
