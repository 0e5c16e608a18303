import Derived.Test.YtgjddachhhmimaaGreatDoorRows
import Derived.LaidByTextLater
import Derived.SevenTiedAt
set_option linter.unusedVariables false
set_option linter.unusedSimpArgs false
namespace Go.Proofs.YtgjddachhhmimaaGreatDoor
open Go
namespace TiS
abbrev laidTi : List (String × DataW Unit) := [("errors.errorType", Rows.laid_errors_errorType), ("unicode/utf8.acceptRanges", Rows.laid_unicode_utf8_acceptRanges)]
theorem f1 : Tryz.prog.worded (varsWordLater true) = true := by kernel_rfl
theorem f2 : Tryz.prog.worded (varsWordLater !true) = false := by kernel_rfl
theorem f3 : Tryz.prog.worded rootWordLater = true := by kernel_rfl
theorem f4 : laidTi.map (fun x => Tryz.prog.kindOfLater x.1) = [LaidKind.handle, .data].map some := by kernel_rfl
theorem f5 : (Tryz.prog.funcNamed "gosem.cut.vars").isSome = true := by kernel_rfl
theorem f6 : varsNamedLaterB Tryz.prog (varsId Tryz.prog) laidTi = true := by kernel_rfl
theorem f7 : ∀ os tape, varsDone Tryz.prog 400 (varsId Tryz.prog) os tape = true := fun _ _ => by kernel_rfl
theorem f8 : ∀ os tape, (DataW.laidRun Tryz.prog (varsWorld Tryz.prog 400 (varsId Tryz.prog) os tape).memory 8 ((laidTi.filter fun x => x.2.handleName?.isNone).map (·.1))).map (·.1) = some (laidTi.filter fun x => x.2.handleName?.isNone) := fun _ _ => by kernel_rfl
theorem f9 : ∀ os tape, (DataW.laidRun Tryz.prog (varsWorld Tryz.prog 400 (varsId Tryz.prog) os tape).memory 8 ((laidTi.filter fun x => x.2.handleName?.isNone).map (·.1))).map (fun x => decide x.2.Nodup && laidRowsB Tryz.prog (varsWorld Tryz.prog 400 (varsId Tryz.prog) os tape).memory x.2) = some true := fun _ _ => by kernel_rfl
theorem f10 : ∀ os tape, (laidTi.filter fun x => x.2.handleName?.isSome).all (handleAtB Tryz.prog (varsWorld Tryz.prog 400 (varsId Tryz.prog) os tape).memory) = true := fun _ _ => by kernel_rfl
end TiS
end Go.Proofs.YtgjddachhhmimaaGreatDoor
