import Derived.Test.YtgjddachhhmimaaGreatDoorVC
import Derived.Test.YtgjddachhhmimaaGreatDoorRTall
import Derived.SevenTiedAt
set_option linter.unusedVariables false
set_option linter.unusedSimpArgs false
set_option linter.unnecessarySimpa false
set_option linter.all false
namespace Go.Proofs.YtgjddachhhmimaaGreatDoor.serverNil
open Go.Proofs.YtgjddachhhmimaaGreatDoor
theorem any_part {α : Type} {q : α → Bool} {l : List α} (a n : Nat) (h1 : ((l.drop a).take n).any q = false) (h2 : (l.drop (a + n)).any q = false) : (l.drop a).any q = false := by
  rw [← List.take_append_drop n (l.drop a), List.any_append, h1, List.drop_drop, h2]
  rfl
/-- Does a function start a goroutine? -/
def goesG (P : Program) (g : FuncId) : Bool := (P.funcs[g]?).any Func.goes
theorem goes_of (P : Program) (f : FuncId) (l : List FuncId) (h : P.closure f = l) (h1 : l.any (goesG P) = false) (h2 : P.funcs.toList.any Func.goes = false) : P.goes f = false := by
  have e : (l.any fun g => (P.funcs[g]?).any Func.goes) = false := h1
  unfold Program.goes
  rw [h, e, ← Array.any_toList, h2, Bool.and_false]
  rfl
theorem gg0 : cl0.any (goesG Tryz.prog) = false := by kernel_rfl
theorem gg1 : cl1.any (goesG Tryz.prog) = false := by kernel_rfl
theorem gg2 : cl2.any (goesG Tryz.prog) = false := by kernel_rfl
theorem gg3 : cl3.any (goesG Tryz.prog) = false := by kernel_rfl
theorem gg4 : cl4.any (goesG Tryz.prog) = false := by kernel_rfl
theorem gf0 : (((Tryz.prog.funcs.toList).drop 0).take 100).any Func.goes = false := by kernel_rfl
theorem gf1 : (((Tryz.prog.funcs.toList).drop 100).take 100).any Func.goes = false := by kernel_rfl
theorem gf2 : (((Tryz.prog.funcs.toList).drop 200).take 100).any Func.goes = false := by kernel_rfl
theorem gf3 : (((Tryz.prog.funcs.toList).drop 300).take 100).any Func.goes = false := by kernel_rfl
theorem gf4 : (((Tryz.prog.funcs.toList).drop 400).take 100).any Func.goes = false := by kernel_rfl
theorem gf5 : (((Tryz.prog.funcs.toList).drop 500).take 100).any Func.goes = false := by kernel_rfl
theorem gf6 : ((Tryz.prog.funcs.toList).drop 600).any Func.goes = false := by kernel_rfl
theorem gf : Tryz.prog.funcs.toList.any Func.goes = false := (any_part 0 100 gf0 (any_part 100 100 gf1 (any_part 200 100 gf2 (any_part 300 100 gf3 (any_part 400 100 gf4 (any_part 500 100 gf5 gf6))))))
theorem goes3 : Tryz.prog.goes 3 = false :=
  goes_of Tryz.prog 3 _ (eq_of_beq clo) (by rw [List.any_append, List.any_append, List.any_append, List.any_append, gg0, gg1, gg2, gg3, gg4]; rfl) gf
theorem goesAt_of (P : Program) (func : String) (f : FuncId) (hf : P.funcNamed func = some f) (h : P.goes f = false) : false = P.goesAt .entering func := by
  unfold Program.goesAt Program.goesFrom
  rw [hf, Option.any_some, h]
  rfl
theorem c_goes : false = Rows.serverNilRow.goesBy Tryz.pinned.checked.prog := goesAt_of Tryz.prog _ 3 k_fn goes3
end Go.Proofs.YtgjddachhhmimaaGreatDoor.serverNil
