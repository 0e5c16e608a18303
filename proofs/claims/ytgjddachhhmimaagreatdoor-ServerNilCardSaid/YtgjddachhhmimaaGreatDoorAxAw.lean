import Derived.Test.YtgjddachhhmimaaGreatDoorAxS3
import Derived.Test.YtgjddachhhmimaaGreatDoorBld
import Derived.Test.YtgjddachhhmimaaGreatDoorAs
import Derived.Test.YtgjddachhhmimaaGreatDoorShelf
import Derived.KernelRfl
set_option linter.unusedVariables false
set_option linter.unusedSimpArgs false
set_option linter.unnecessarySimpa false
set_option linter.all false
namespace Go.Proofs.YtgjddachhhmimaaGreatDoor.Pre
open Go.RowKit Go.Proofs.YtgjddachhhmimaaGreatDoor.Ax

/-- What is known of four functions of the library. -/
noncomputable def prims (f : FuncId) : Option (List Value → AH → Option (Value × AH)) :=
  if f = 103 then some (primAs 4 279 189 187) else if f = 224 then some (primCheck 4 255) else if f = 150 then some (primString 4 5) else if f = 424 then some primIndex else none

theorem prims_sound {W0 : World} (hG : GOK W0) (f : FuncId) (g : List Value → AH → Option (Value × AH)) (hf : prims f = some g) (args : List Value) (h : AH) (r : Value) (h' : AH) (e : g args h = some (r, h')) :
    CallSound Tryz.prog 4 W0 W0.heap.size f args h r h' := by
  unfold prims at hf
  split at hf
  · rename_i h0; subst h0; cases hf
    refine primAs_sound (fun b t c old w hb h1 h2 h3 => ?_) e
    exact (as_refused b t c old w (hG.below hb) h1 h2 h3).mono fun en W' hh => ⟨hh.1, _, _, _, _, hh.2⟩
  · split at hf
    · rename_i h0; subst h0; cases hf
      exact primCheck_sound bld_check_used bld_check_fresh e
    · split at hf
      · rename_i h0; subst h0; cases hf
        exact primString_sound (ν := Tryz.lays169_ren) Tryz.lays169 Tryz.Builder_Extra_169 e
      · split at hf
        · rename_i h0; subst h0; cases hf
          refine primIndex_sound (fun s t w hb hs => ?_) e
          obtain ⟨m, hm⟩ := (hG.below hb).ml
          exact Tryz.stringslite_Index s t m w hs hm
        · cases hf

theorem call_ok {W0 : World} (hG : GOK W0) (m d : Nat) : CallOK Tryz.prog 4 W0 W0.heap.size (callA Tryz.prog 4 prims m d) :=
  callA_sound (prims_sound hG) (anyOK (by kernel_rfl)) m d

theorem awake_runs : Go.Proofs.YtgjddachhhmimaaGreatDoor.Ax.isTrue (callA Tryz.prog 4 prims 100000 300 11 [] (Go.Proofs.YtgjddachhhmimaaGreatDoor.Ax.start 4)) = true := by kernel_rfl

/-- larumlaw32.awake -/
theorem awake_true (W : World) (hG : GOK W) : Calls Tryz.prog 11 #[] W fun e W' => e = .returned (.bool true) ∧ Below W.heap.size W W' :=
  calls_true (call_ok hG 100000 300) awake_runs
end Go.Proofs.YtgjddachhhmimaaGreatDoor.Pre
