import Derived.Test.YtgjddachhhmimaaGreatDoorTiX
set_option linter.unusedVariables false
set_option linter.unusedSimpArgs false
namespace Go.Proofs.YtgjddachhhmimaaGreatDoor
open Go
namespace TiS
theorem pin : Tryz.pinned.checked.prog.pinnedFits "unicode/utf8.first" = true := by kernel_rfl
theorem noOwn : Tryz.pinned.checked.prog.headLifts.contains "ownunsafe" = false := by kernel_rfl
theorem fits : Tryz.pinned.checked.prog.listedFits [("errors.errorType", Rows.laid_errors_errorType), ("unicode/utf8.first", Rows.laid_unicode_utf8_first), ("unicode/utf8.acceptRanges", Rows.laid_unicode_utf8_acceptRanges)] = true := by
  unfold Program.listedFits
  rw [noOwn]
  kernel_rfl
theorem tied : Tryz.prog.laidByTextLater [("errors.errorType", Rows.laid_errors_errorType), ("unicode/utf8.acceptRanges", Rows.laid_unicode_utf8_acceptRanges)] [.handle, .data] true :=
  Program.laidByTextLater_by_run_h 400 8 f1 f2 f3 f4 f5 f6 f7 f8 f9 f10
theorem row_tied : Rows.serverNilRow.laidByTextAt .later Tryz.pinned [.handle, .pinned, .data] true :=
  OpenClaim.laidByTextAt_pinned rfl rfl tied rfl rfl rfl rfl (fun y hy _e => by
    simp only [Rows.serverNilRow, List.zip_cons_cons, List.zip_nil_right, List.mem_cons, List.mem_nil_iff, or_false] at hy
    rcases hy with rfl | rfl | rfl
    · cases _e
    · exact ⟨pin, by kernel_rfl⟩
    · cases _e) fits
end TiS
end Go.Proofs.YtgjddachhhmimaaGreatDoor
