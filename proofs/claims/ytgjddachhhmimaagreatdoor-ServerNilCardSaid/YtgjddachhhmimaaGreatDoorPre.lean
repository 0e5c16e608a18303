/- Small laws for the walks: comparisons of strings in one form, an empty list as a test; what is known of the package-level variables. -/
import Derived.Test.YtgjddachhhmimaaGreatDoorProg
import Derived.WalkKit
import Derived.KernelRfl
import Derived.Below
import Derived.Deep.Draws
import Derived.Lib.Hide
set_option linter.unusedVariables false
set_option linter.unusedSimpArgs false
namespace Go.Proofs.YtgjddachhhmimaaGreatDoor.Pre
open Go.RowKit

theorem bytesLess_swap (a b : List UInt8) : (!(Op.bytesLess a b || a == b)) = Op.bytesLess b a := by
  induction a generalizing b with
  | nil => cases b <;> simp [Op.bytesLess]
  | cons x xs ih =>
    cases b with
    | nil => simp [Op.bytesLess]
    | cons y ys =>
      have h := ih ys
      simp only [Op.bytesLess]
      by_cases h1 : x = y
      · subst h1
        have : ¬ x < x := by simp [UInt8.lt_iff_toNat_lt]
        simp [this] at h ⊢
        exact h
      · by_cases h2 : x < y
        · have h3 : ¬ y < x := by simp only [UInt8.lt_iff_toNat_lt] at *; omega
          have h4 : (y == x) = false := by simpa using fun e => h1 e.symm
          simp [h2, h3, h4, h1]
        · have h3 : y < x := by
            have : x.toNat ≠ y.toNat := fun e => h1 (UInt8.toNat_inj.1 e)
            simp only [UInt8.lt_iff_toNat_lt] at *; omega
          simp [h2, h3, h1]
theorem binOp_gtr_str (t : TypeId) (a b : ByteArray) : binOp .gtr t (.string a) (.string b) = pure (.bool (Op.bytesLess b.toList a.toList)) := by
  rw [← bytesLess_swap a.toList b.toList]; simp [binOp, Op.stringOp]
theorem binOp_leq_str (t : TypeId) (a b : ByteArray) : binOp .leq t (.string a) (.string b) = pure (.bool (!Op.bytesLess b.toList a.toList)) := by
  rw [← bytesLess_swap a.toList b.toList]; simp [binOp, Op.stringOp]
theorem binOp_geq_str (t : TypeId) (a b : ByteArray) : binOp .geq t (.string a) (.string b) = pure (.bool (!Op.bytesLess a.toList b.toList)) := by
  simp [binOp, Op.stringOp]
theorem isEmpty_bne (l : List UInt8) : l.isEmpty = !(l != []) := by cases l <;> rfl
theorem not_isEmpty_bne (l : List UInt8) : (!l.isEmpty) = (l != []) := by cases l <;> rfl
theorem bcell {W w1 : World} (hb : Below W.heap.size W w1) : (∀ b o, b < W.heap.size → w1.cell? ⟨b, o, none⟩ = W.cell? ⟨b, o, none⟩) ∧ (∀ b o, b < W.heap.size → w1.frozen? ⟨b, o, none⟩ = W.frozen? ⟨b, o, none⟩) :=
  ⟨fun b o h => hb.cell (p := ⟨b, o, none⟩) h, fun b o h => hb.frozen (p := ⟨b, o, none⟩) h⟩
end Go.Proofs.YtgjddachhhmimaaGreatDoor.Pre
