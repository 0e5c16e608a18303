/- larumlaw10.Short: of a text at most 500 bytes. -/
import Derived.Test.YtgjddachhhmimaaGreatDoorProg
import Derived.Below
import Derived.Deep.Draws
import Derived.Deep.AppendLies
import Derived.OwnWalk
import Derived.Laws.BytesArg
import Derived.Tactics
import Derived.Laws.Slices
import Derived.WalkKit
import Derived.KernelRfl
import Derived.RowKit3
import Derived.WideLaws
import Derived.Laws.Rows
import Derived.RowKit
import Derived.Lib.Hide
import Derived.WalkSpells
import Derived.Laws.DeepStrings4
import Derived.Outline
import Derived.Test.YtgjddachhhmimaaGreatDoorPre
set_option linter.unusedVariables false
set_option linter.unusedSimpArgs false
set_option linter.unnecessarySimpa false
set_option linter.all false
namespace Go.Proofs.YtgjddachhhmimaaGreatDoor.Pre
open Go.RowKit

/-- What larumlaw10.Short leaves of a text. -/
def shortOf (s : ByteArray) : ByteArray := if 500 < s.size then s.extract 0 500 else s
set_option maxHeartbeats 8000000 in
set_option maxRecDepth 100000 in
theorem short_calls (a0 : ByteArray) (w : World) :
    Calls Tryz.prog 12 #[.string a0] w fun e w' => e = .returned (.string (shortOf a0)) ∧ Below w.heap.size w w' := by
  unfold shortOf
  by_cases c2 : 500 < a0.size
  · rw [if_pos c2]
    have c2b0 : decide (500 < (a0.size : Int)) = true := decide_eq_true (by omega)
    have c2b1 : decide (500 < a0.size) = true := decide_eq_true c2
    have c4 : 500 ≤ (a0.size : Int) := by omega
    have c4b0 := eq_true c4
    have c4b1 : decide (500 ≤ (a0.size : Int)) = true := decide_eq_true c4
    clear c2
    go_enter Tryz.func12, Tryz.ntmps12
    go_wp2
    go_ret
    exact ⟨by first | rfl | (simp; done) | (simp [*]; done), ⟨rfl, rfl, rfl, Nat.le_refl _, fun _ _ => rfl⟩⟩
  · rw [if_neg c2]
    have c2b0 : decide (500 < (a0.size : Int)) = false := decide_eq_false (by omega)
    have c2b1 : decide (500 < a0.size) = false := decide_eq_false c2
    clear c2
    go_enter Tryz.func12, Tryz.ntmps12
    go_wp2
    go_ret
    exact ⟨by first | rfl | (simp; done) | (simp [*]; done), ⟨rfl, rfl, rfl, Nat.le_refl _, fun _ _ => rfl⟩⟩
end Go.Proofs.YtgjddachhhmimaaGreatDoor.Pre
