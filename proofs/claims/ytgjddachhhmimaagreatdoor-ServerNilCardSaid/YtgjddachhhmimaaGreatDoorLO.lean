/- That the program is laid out, in parts. -/
import Derived.Test.YtgjddachhhmimaaGreatDoorCards
import Derived.Test.YtgjddachhhmimaaGreatDoorJo
import Derived.WalkKit
import Derived.ProofKit
set_option linter.unusedVariables false
set_option linter.unusedSimpArgs false
set_option linter.unnecessarySimpa false
set_option linter.all false
namespace Go.Proofs.YtgjddachhhmimaaGreatDoor.serverNil
open Go.Proofs.YtgjddachhhmimaaGreatDoor
/-- A test of a list, a part of it at a time. -/
theorem all_part {α : Type} {q : α → Bool} {l : List α} (a n : Nat) (h1 : ((l.drop a).take n).all q = true) (h2 : (l.drop (a + n)).all q = true) : (l.drop a).all q = true := by
  rw [← List.take_append_drop n (l.drop a), List.all_append, h1, List.drop_drop, h2]
  rfl
/-- Are a function's parameters of types that there are? -/
def typedF (n : Nat) (f : Func) : Bool := f.params.toList.all fun t => decide (t < n)
theorem laidOut_of (P : Program) (n : Nat) (hn : P.types.size = n) (h1 : (List.range n).all (rowFine P) = true) (h2 : P.globals.all (fun g => decide (g.type < n)) = true) (h3 : P.funcs.toList.all (typedF n) = true) : laidOutB P = true := by
  subst hn
  unfold laidOutB
  rw [h1, Bool.true_and, h2, Bool.true_and, ← Array.all_toList, ← h3]
  congr 1
  funext f
  unfold typedF
  rw [Array.all_toList]
theorem types_size : Tryz.prog.types.size = 786 := by kernel_rfl
theorem lo_globals : Tryz.prog.globals.all (fun g => decide (g.type < 786)) = true := by kernel_rfl
end Go.Proofs.YtgjddachhhmimaaGreatDoor.serverNil
