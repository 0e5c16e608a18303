import Derived.Test.YtedmjlflppckmaaGreatDoorAW
set_option linter.unusedVariables false
set_option linter.unusedSimpArgs false
namespace Go.Proofs.YtedmjlflppckmaaGreatDoor.PW
open Go.RowKit Go.Proofs.YtedmjlflppckmaaGreatDoorW.PrintWords Go.Proofs.YtedmjlflppckmaaGreatDoorW.PrintLast Go.Proofs.YtedmjlflppckmaaGreatDoorW.PrintMore Go.Proofs.YtedmjlflppckmaaGreatDoor.Pre
set_option maxHeartbeats 4000000 in
set_option maxRecDepth 100000 in
theorem values_nil (m t n : ByteArray) (w : World) : Calls Tryz.prog 119 #[.agg #[.string m, .string t, .int .i64 0, .slice none 0 0], .string n] w fun e w' => e = .returned (.slice none 0 0) ∧ Below w.heap.size w w' := by
  go_enter Tryz.func119, Tryz.ntmps119
  go_wp2
  refine wp_loop_rounds 1 ?_
  rw [rounds_succ]
  go_wp2
  go_ret
  refine ⟨rfl, ?_⟩
  repeat (first | (with_reducible exact Below.refl _ _) | (refine Below.alloc ?_ (by simp) _))
set_option maxHeartbeats 4000000 in
set_option maxRecDepth 100000 in
theorem have_nil (b : Nat) (m t : ByteArray) (w : World) : Calls Tryz.prog 79 #[.pointer (some ⟨b, 0, none⟩), .agg #[.string m, .string t, .int .i64 0, .slice none 0 0]] w
    fun e w' => ∃ g, e = .returned (.iface 126 (.pointer (some ⟨g, 0, none⟩))) ∧ w.heap.size ≤ g ∧ w'.heap[g]? = some (.cells #[.string ⟨#[73, 102, 45, 77, 97, 116, 99, 104]⟩, .iface 84 (.int .i64 428)] 128 (0, 0)) ∧ Below w.heap.size w w' := by
  go_enter Tryz.func79, Tryz.ntmps79
  go_wp2_with fail
  refine (values_nil _ _ _ _).mono ?_
  rintro e w1 ⟨rfl, hb⟩
  have hz := hb.size
  have HB := Lib.hid ((Below.refl w.heap.size w).alloc (Nat.le_refl _) _ |>.trans (hb.mono (by simp)))
  clear hb
  go_wp2
  go_ret
  exact ⟨w1.heap.size, rfl, by simp at hz; omega, blk_new _ _, HB.out.alloc (by simp at hz; omega) _⟩
end Go.Proofs.YtedmjlflppckmaaGreatDoor.PW
