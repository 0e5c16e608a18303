import Derived.Test.YtgjddachhhmimaaGreatDoorRows
import Derived.Test.YtgjddachhhmimaaGreatDoorAsF
import Derived.Test.YtgjddachhhmimaaGreatDoorShelf
import Derived.Lay
import Derived.LaidSub
import Derived.LaidHandle
import Derived.LaidLaws
import Derived.Shelf.Vars
set_option linter.unusedVariables false
set_option linter.unusedSimpArgs false
set_option linter.unnecessarySimpa false
set_option linter.all false
namespace Go.Proofs.YtgjddachhhmimaaGreatDoor.Pre
open Go.RowKit

/-- What the three rows list. -/
def laidL : List (String × DataW Unit) := [("errors.errorType", Rows.laid_errors_errorType), ("unicode/utf8.first", Rows.laid_unicode_utf8_first), ("unicode/utf8.acceptRanges", Rows.laid_unicode_utf8_acceptRanges)]
def plainL : List (String × DataW Unit) := [("unicode/utf8.first", Rows.laid_unicode_utf8_first), ("unicode/utf8.acceptRanges", Rows.laid_unicode_utf8_acceptRanges)]

theorem et_name : Tryz.prog.globalNamed "errors.errorType" = some 0 := by kernel_rfl
theorem rt_row : (Tryz.prog.cutTypes.find? (·.1 == "internal/reflectlite.rtype")).map (·.2) = some 411 := by kernel_rfl
theorem one_row : ((List.range 786).filter fun t => Tryz.prog.rowNamed t [101, 114, 114, 111, 114]) = [184] := by kernel_rfl
theorem t_size : Tryz.prog.types.size = 786 := by kernel_rfl
theorem handles : (laidL.filter fun x => x.2.handleName?.isSome) = [("errors.errorType", Rows.laid_errors_errorType)] := by kernel_rfl
theorem plains : (laidL.filter fun x => x.2.handleName?.isNone) = plainL := by kernel_rfl

/-- What the condition gives a walk. -/
theorem gok_of {W : World} (h : laidMetH Tryz.prog laidL W) (hsh : W.ShapedOpen Tryz.prog) : GOK W := by
  refine ⟨?_, ?_⟩
  · have h2 := (laidMetH_iff.1 h).2
    rw [handles] at h2
    obtain ⟨name, u, ty, e1, e2, e3, e4, e5⟩ := h2 _ (List.mem_singleton.2 rfl)
    have en : name = [101, 114, 114, 111, 114] := (Option.some.inj e1).symm
    subst en
    obtain rfl := Option.some.inj (rt_row.symm.trans e2)
    have hm : ty ∈ (List.range 786).filter fun t => Tryz.prog.rowNamed t [101, 114, 114, 111, 114] := List.mem_filter.2 ⟨List.mem_range.2 (by rw [← t_size]; exact e3), e4⟩
    rw [one_row] at hm
    obtain rfl := List.mem_singleton.1 hm
    have hh : typeHandle Tryz.prog 184 = .pointer (some ⟨4, 184, none⟩) := by kernel_rfl
    rw [hh] at e5
    simpa using World.var?_cell et_name e5 0
  · exact cell_of_shapedOpen_int (g := 1) (t := 3) (zero := #[.int .i64 0]) hsh (of_decide_eq_true (by kernel_rfl)) (by kernel_rfl) rfl (by kernel_rfl) (by kernel_rfl) Tryz.underlying3

/-- A world that meets the condition. -/
noncomputable def baseW (os : Os) : World :=
  let w0 := World.holding Tryz.prog os ⟨#[], #[], []⟩
  { w0 with heap := w0.heap.modify 0 fun
      | .cells _ t frozen => .cells #[.iface 411 (.agg #[.pointer (some ⟨4, 184, none⟩)])] t frozen
      | o => o }
noncomputable def laidW (os : Os) : World := (baseW os).layVars Tryz.prog plainL
theorem laidW_os (os : Os) : (laidW os).os = os := World.layVars_os _ _ _
theorem laidW_met (os : Os) (args : Array Value) : laidMetH Tryz.prog laidL ((laidW os).forCall (fun _ _ => 0) ⟨#[], args, []⟩).memory := by
  refine laidMetH_of_parts ?_ ?_
  · rw [plains]
    have e1 : (plainL.filter fun x => (plainL.map (·.1)).contains x.1) = plainL := by kernel_rfl
    have e2 : (plainL.filter fun x => !(plainL.map (·.1)).contains x.1) = [] := by kernel_rfl
    have h : laidMet Tryz.prog plainL (laidW os) := laidMet_layVars (w0 := baseW os) (plainL.map (·.1)) [] (by rw [e1]; rfl) (by rw [e1]; kernel_rfl) (by rw [e1]; kernel_rfl) (by rw [e2]; exact LaidIn.none)
    exact h.of_heap (by simp [World.memory, World.forCall, Input.heap])
  · rw [handles]
    kernel_rfl
end Go.Proofs.YtgjddachhhmimaaGreatDoor.Pre
