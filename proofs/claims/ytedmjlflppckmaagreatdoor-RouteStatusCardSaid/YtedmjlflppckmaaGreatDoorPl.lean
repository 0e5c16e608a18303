import Derived.Test.YtedmjlflppckmaaGreatDoorProg
import Derived.Below
import Derived.Deep.Draws
import Derived.Deep.AppendLies
import Derived.Maps.AppendAt
import Derived.OwnWalk
import Derived.Laws.BytesArg
import Derived.Laws.MakeOwn
import Derived.Laws.OwnMore
import Derived.Deep.OwnRows
import Derived.Tactics
import Derived.Lib.ConvBytes
import Derived.Laws.Slices
import Derived.WalkKit
import Derived.KernelRfl
import Derived.RowKit3
import Derived.Deep.LoopGhost
import Derived.Deep.QuietTactic
import Derived.BigQuiet
import Derived.WideLaws
import Derived.Deep.DeepCutAuto
import Derived.Deep.CutBlock
import Derived.Deep.RegionHeld3
import Derived.Laws.Rows
import Derived.Lib.AppendStr
import Derived.ArgAppend
import Derived.Laws.IdiomCopy
import Derived.OrdersHeld
import Derived.Laws.BitsLemmas
import Derived.RowKit
import Derived.Shelf.Abstract
import Derived.Lib.Hide
import Derived.Test.YtedmjlflppckmaaGreatDoorPre
import Derived.Test.YtedmjlflppckmaaGreatDoorBld
import Derived.Test.YtedmjlflppckmaaGreatDoorShelf
import Derived.Test.YtedmjlflppckmaaGreatDoorAs
import Derived.WalkSpells
import Derived.Laws.DeepStrings4
import Derived.Outline
import Derived.Test.YtedmjlflppckmaaGreatDoorAL
import Derived.Test.YtedmjlflppckmaaGreatDoorWWords
import Derived.Test.YtedmjlflppckmaaGreatDoorWLast
import Derived.Test.YtedmjlflppckmaaGreatDoorWTab
import Derived.Test.YtedmjlflppckmaaGreatDoorWFour
import Derived.Test.YtedmjlflppckmaaGreatDoorWQPut
import Derived.Test.YtedmjlflppckmaaGreatDoorWApart
import Derived.Test.YtedmjlflppckmaaGreatDoorWArr
import Derived.Test.YtedmjlflppckmaaGreatDoorWZeros
import Derived.Test.YtedmjlflppckmaaGreatDoorWFoot
import Derived.Test.YtedmjlflppckmaaGreatDoorWKept
import Derived.Test.YtedmjlflppckmaaGreatDoorWShare
import Derived.Test.YtedmjlflppckmaaGreatDoorWN
import Derived.Test.YtedmjlflppckmaaGreatDoorWFootNe
import Derived.Test.YtedmjlflppckmaaGreatDoorWAt
import Derived.Test.YtedmjlflppckmaaGreatDoorWEqStruct
import Derived.Test.YtedmjlflppckmaaGreatDoorWRepsOne
import Derived.Test.YtedmjlflppckmaaGreatDoorWInv
import Derived.Test.YtedmjlflppckmaaGreatDoorWInvWords
import Derived.Test.YtedmjlflppckmaaGreatDoorWGuard
import Derived.Test.YtedmjlflppckmaaGreatDoorWNEv
import Derived.Test.YtedmjlflppckmaaGreatDoorWMore
set_option linter.unusedVariables false
set_option linter.unusedSimpArgs false
namespace Go.Proofs.YtedmjlflppckmaaGreatDoor.PL
open Go.RowKit Go.Proofs.YtedmjlflppckmaaGreatDoorW.PrintWords Go.Proofs.YtedmjlflppckmaaGreatDoorW.PrintLast Go.Proofs.YtedmjlflppckmaaGreatDoorW.PrintMore
open Go.Proofs.YtedmjlflppckmaaGreatDoor.Pre
attribute [local go_sem] max2_int min2_int max_two min_two max_three min_three max_four min_four binOp_gtr_str binOp_leq_str binOp_geq_str



def errW : Option Int → Value
  | none => .nilIface
  | some c => .iface 0 (.int .i64 c)
theorem errW_none : errW none = .nilIface := rfl
theorem errW_some (c : Int) : errW (some c) = .iface 0 (.int .i64 c) := rfl

-- the values' own types

end Go.Proofs.YtedmjlflppckmaaGreatDoor.PL

namespace Go.Proofs.YtedmjlflppckmaaGreatDoor.PL
open Go.RowKit Go.Proofs.YtedmjlflppckmaaGreatDoorW.PrintWords Go.Proofs.YtedmjlflppckmaaGreatDoorW.PrintLast Go.Proofs.YtedmjlflppckmaaGreatDoorW.PrintMore
open Go.Proofs.YtedmjlflppckmaaGreatDoor.Pre
attribute [local go_sem] max2_int min2_int max_two min_two max_three min_three max_four min_four binOp_gtr_str binOp_leq_str binOp_geq_str


/-! ### larumlaw29_awake: function 8 -/
def larumlaw29_awake.f : Option Bool := some true
theorem larumlaw29_awake.calls (r : Bool) (w : World) (h : larumlaw29_awake.f = some r) (hG : GOK w) :
    Calls Tryz.prog 8 #[] w fun e w' => e = .returned (.bool r) ∧ Below w.heap.size w w' := by
  obtain rfl : true = r := Option.some.inj h
  exact PW.awake_calls w hG


end Go.Proofs.YtedmjlflppckmaaGreatDoor.PL

namespace Go.Proofs.YtedmjlflppckmaaGreatDoor.PL
open Go.RowKit Go.Proofs.YtedmjlflppckmaaGreatDoorW.PrintWords Go.Proofs.YtedmjlflppckmaaGreatDoorW.PrintLast Go.Proofs.YtedmjlflppckmaaGreatDoorW.PrintMore
open Go.Proofs.YtedmjlflppckmaaGreatDoor.Pre
attribute [local go_sem] max2_int min2_int max_two min_two max_three min_three max_four min_four binOp_gtr_str binOp_leq_str binOp_geq_str

/-! ### route_Status: function 13 -/
def route_Status.j0 : Nat → Int → Int → Bool → Option (Int)
  | 0, _, _, _ => none
  | k + 1, x0, x5, x15 => if x15 = true then (some 410) else (if x5 = 8 then (some 412) else (if x5 = 7 then (if x0 = 6 then (some 503) else (some 507)) else (some 400)))
def route_Status.f (k : Nat) (a0 : Int) (a1 : Int) : Option (Int) := if a1 = 0 then (if a0 = 2 then (some 201) else (if a0 = 5 then (some 204) else (some 200))) else (if a1 = 6 then (some 404) else (if a1 = 9 then (route_Status.j0 k a0 a1 (a1 == 9)) else (route_Status.j0 k a0 a1 (a1 == 10))))
theorem route_Status.mono_l : ∀ k, (∀ y0 y1 y2, LeO (route_Status.j0 k y0 y1 y2) (route_Status.j0 (k + 1) y0 y1 y2))
  | 0 => fun _ _ _ r h => by simp [route_Status.j0] at h
  | k + 1 => by
    have ih0 := route_Status.mono_l k
    · intro y0 y1 y2
      unfold route_Status.j0
      repeat' first
      | (with_reducible exact ih0 _ _ _)
      | (with_reducible exact LeO.refl _)
      | (with_reducible exact LeO.none _)
      | (with_reducible refine LeO.ite ?_ ?_)
      | (with_reducible refine LeO.bind ?_ (fun _ => ?_))
      | exact ih0 _ _ _
      | exact LeO.none _
      | refine LeO.ite ?_ ?_
      | refine LeO.bind ?_ (fun _ => ?_)
theorem route_Status.mono : ∀ a0 a1 k, LeO (route_Status.f k a0 a1) (route_Status.f (k + 1) a0 a1) := by
  intro a0 a1 k
  have ih0 := route_Status.mono_l k
  unfold route_Status.f
  repeat' first
      | (with_reducible exact ih0 _ _ _)
      | (with_reducible exact LeO.refl _)
      | (with_reducible exact LeO.none _)
      | (with_reducible refine LeO.ite ?_ ?_)
      | (with_reducible refine LeO.bind ?_ (fun _ => ?_))
      | exact ih0 _ _ _
      | exact LeO.none _
      | refine LeO.ite ?_ ?_
      | refine LeO.bind ?_ (fun _ => ?_)
set_option maxHeartbeats 8000000 in
set_option maxRecDepth 100000 in
theorem route_Status.calls (k : Nat) (a0 : Int) (a1 : Int) (r : Int) (w : World) (h : route_Status.f k a0 a1 = some r) :
    Calls Tryz.prog 13 #[.int .i64 a0, .int .i64 a1] w fun e w' => e = .returned (.int .i64 r) ∧ Drawn0 w w' := by
  have H : (if a1 = 0 then (if a0 = 2 then (some 201) else (if a0 = 5 then (some 204) else (some 200))) else (if a1 = 6 then (some 404) else (if a1 = 9 then (route_Status.j0 k a0 a1 (a1 == 9)) else (route_Status.j0 k a0 a1 (a1 == 10))))) = some r := h
  clear h
  by_cases c3 : a1 = 0
  · rw [if_pos c3] at H
    have c3b0 : (a1 == 0) = true := beq_iff_eq.mpr c3
    have c3b1 : (a1 != 0) = false := bne_eq_false_iff_eq.mpr c3
    clear c3
    by_cases c4 : a0 = 2
    · rw [if_pos c4] at H
      have c4b0 : (a0 == 2) = true := beq_iff_eq.mpr c4
      have c4b1 : (a0 != 2) = false := bne_eq_false_iff_eq.mpr c4
      clear c4
      obtain rfl := Option.some.inj H
      go_enter Tryz.func13, Tryz.ntmps13
      go_wp2
      go_ret
      exact ⟨by first | rfl | (simp; done) | (simp [*]; done) | (simp [isEmpty_bne]; done) | (simp; simp only [wrap64]; omega) | (simp [*]; simp only [wrap64]; omega), by repeat (first | exact Drawn0.refl _ | apply Drawn0.step)⟩
    · rw [if_neg c4] at H
      have c4b0 : (a0 == 2) = false := beq_eq_false_iff_ne.mpr c4
      have c4b1 : (a0 != 2) = true := bne_iff_ne.mpr c4
      by_cases c5 : a0 = 5
      · rw [if_pos c5] at H
        have c5b0 : (a0 == 5) = true := beq_iff_eq.mpr c5
        have c5b1 : (a0 != 5) = false := bne_eq_false_iff_eq.mpr c5
        clear c5
        obtain rfl := Option.some.inj H
        go_enter Tryz.func13, Tryz.ntmps13
        go_wp2
        go_ret
        exact ⟨by first | rfl | (simp; done) | (simp [*]; done) | (simp [isEmpty_bne]; done) | (simp; simp only [wrap64]; omega) | (simp [*]; simp only [wrap64]; omega), by repeat (first | exact Drawn0.refl _ | apply Drawn0.step)⟩
      · rw [if_neg c5] at H
        have c5b0 : (a0 == 5) = false := beq_eq_false_iff_ne.mpr c5
        have c5b1 : (a0 != 5) = true := bne_iff_ne.mpr c5
        obtain rfl := Option.some.inj H
        go_enter Tryz.func13, Tryz.ntmps13
        go_wp2
        go_ret
        exact ⟨by first | rfl | (simp; done) | (simp [*]; done) | (simp [isEmpty_bne]; done) | (simp; simp only [wrap64]; omega) | (simp [*]; simp only [wrap64]; omega), by repeat (first | exact Drawn0.refl _ | apply Drawn0.step)⟩
  · rw [if_neg c3] at H
    have c3b0 : (a1 == 0) = false := beq_eq_false_iff_ne.mpr c3
    have c3b1 : (a1 != 0) = true := bne_iff_ne.mpr c3
    by_cases c6 : a1 = 6
    · rw [if_pos c6] at H
      have c6b0 : (a1 == 6) = true := beq_iff_eq.mpr c6
      have c6b1 : (a1 != 6) = false := bne_eq_false_iff_eq.mpr c6
      clear c6
      obtain rfl := Option.some.inj H
      go_enter Tryz.func13, Tryz.ntmps13
      go_wp2
      go_ret
      exact ⟨by first | rfl | (simp; done) | (simp [*]; done) | (simp [isEmpty_bne]; done) | (simp; simp only [wrap64]; omega) | (simp [*]; simp only [wrap64]; omega), by repeat (first | exact Drawn0.refl _ | apply Drawn0.step)⟩
    · rw [if_neg c6] at H
      have c6b0 : (a1 == 6) = false := beq_eq_false_iff_ne.mpr c6
      have c6b1 : (a1 != 6) = true := bne_iff_ne.mpr c6
      have HC7 := Aside0.mk H
      clear H
      go_enter Tryz.func13, Tryz.ntmps13
      go_upto_if 15 with (fail)
      go_cut [15] (fun v15 wc => ∃ (kq : Nat) (x15_6 : Bool), v15 = .bool x15_6 ∧ Aside0 (route_Status.j0 kq a0 a1 x15_6 = some r) ∧ Aside0 (kq ≤ k) ∧ Drawn0 w wc)
      case first =>
        have H := HC7.out
        clear HC7
        by_cases c8 : a1 = 9
        · rw [if_pos c8] at H
          have c8b0 : (a1 == 9) = true := beq_iff_eq.mpr c8
          have c8b1 : (a1 != 9) = false := bne_eq_false_iff_eq.mpr c8
          clear c8
          (first | rw [c8b0] | (simp only [i64_w, i32_w]; rw [c8b0]) | skip)
          have H' := Aside0.mk H
          clear H
          go_wp2
          go_meet
          case rel => exact ⟨_, ((a1 == 9)), (by first | rfl | (simp; done) | (simp [*]; done) | (simp [isEmpty_bne]; done) | (simp; simp only [wrap64]; omega) | (simp [*]; simp only [wrap64]; omega)), H', ⟨by first | omega | exact Nat.le_refl _⟩, by repeat (first | exact Drawn0.refl _ | apply Drawn0.step)⟩
        · rw [if_neg c8] at H
          have c8b0 : (a1 == 9) = false := beq_eq_false_iff_ne.mpr c8
          have c8b1 : (a1 != 9) = true := bne_iff_ne.mpr c8
          (first | rw [c8b0] | (simp only [i64_w, i32_w]; rw [c8b0]) | skip)
          have H' := Aside0.mk H
          clear H
          go_wp2
          go_meet
          case rel => exact ⟨_, ((a1 == 10)), (by first | rfl | (simp; done) | (simp [*]; done) | (simp [isEmpty_bne]; done) | (simp; simp only [wrap64]; omega) | (simp [*]; simp only [wrap64]; omega)), H', ⟨by first | omega | exact Nat.le_refl _⟩, by repeat (first | exact Drawn0.refl _ | apply Drawn0.step)⟩
      case rest =>
        clear HC7
        try clear c1
        try clear p2
        try clear c3
        try clear c3b0
        try clear c3b1
        try clear c4
        try clear c4b0
        try clear c4b1
        try clear c5
        try clear c5b0
        try clear c5b1
        try clear c6
        try clear c6b0
        try clear c6b1
        try clear c8
        try clear c8b0
        try clear c8b1
        obtain ⟨kq, x15_6, rfl, HA, HJ6, ⟨mc6, rfl⟩⟩ := hcut
        cases kq with
        | zero => exact absurd HA.out (by simp [route_Status.j0])
        | succ kj6 =>
          have H := HA.out
          clear HA
          simp only [route_Status.j0] at H
          by_cases c9 : x15_6 = true
          · subst c9
            have H1 : (some 410) = some r := by rw [if_pos rfl] at H; exact H
            clear H
            have H := H1
            clear H1
            obtain rfl := Option.some.inj H
            go_wp2
            go_ret
            exact ⟨by first | rfl | (simp; done) | (simp [*]; done) | (simp [isEmpty_bne]; done) | (simp; simp only [wrap64]; omega) | (simp [*]; simp only [wrap64]; omega), by repeat (first | exact Drawn0.refl _ | apply Drawn0.step)⟩
          · replace c9 := Bool.eq_false_iff.mpr c9
            subst c9
            have H1 : (if a1 = 8 then (some 412) else (if a1 = 7 then (if a0 = 6 then (some 503) else (some 507)) else (some 400))) = some r := by rw [if_neg (show ¬ (false = true) by decide)] at H; exact H
            clear H
            have H := H1
            clear H1
            by_cases c10 : a1 = 8
            · rw [if_pos c10] at H
              have c10b0 : (a1 == 8) = true := beq_iff_eq.mpr c10
              have c10b1 : (a1 != 8) = false := bne_eq_false_iff_eq.mpr c10
              clear c10
              obtain rfl := Option.some.inj H
              go_wp2
              go_ret
              exact ⟨by first | rfl | (simp; done) | (simp [*]; done) | (simp [isEmpty_bne]; done) | (simp; simp only [wrap64]; omega) | (simp [*]; simp only [wrap64]; omega), by repeat (first | exact Drawn0.refl _ | apply Drawn0.step)⟩
            · rw [if_neg c10] at H
              have c10b0 : (a1 == 8) = false := beq_eq_false_iff_ne.mpr c10
              have c10b1 : (a1 != 8) = true := bne_iff_ne.mpr c10
              by_cases c11 : a1 = 7
              · rw [if_pos c11] at H
                have c11b0 : (a1 == 7) = true := beq_iff_eq.mpr c11
                have c11b1 : (a1 != 7) = false := bne_eq_false_iff_eq.mpr c11
                clear c11
                by_cases c12 : a0 = 6
                · rw [if_pos c12] at H
                  have c12b0 : (a0 == 6) = true := beq_iff_eq.mpr c12
                  have c12b1 : (a0 != 6) = false := bne_eq_false_iff_eq.mpr c12
                  clear c12
                  obtain rfl := Option.some.inj H
                  go_wp2
                  go_ret
                  exact ⟨by first | rfl | (simp; done) | (simp [*]; done) | (simp [isEmpty_bne]; done) | (simp; simp only [wrap64]; omega) | (simp [*]; simp only [wrap64]; omega), by repeat (first | exact Drawn0.refl _ | apply Drawn0.step)⟩
                · rw [if_neg c12] at H
                  have c12b0 : (a0 == 6) = false := beq_eq_false_iff_ne.mpr c12
                  have c12b1 : (a0 != 6) = true := bne_iff_ne.mpr c12
                  obtain rfl := Option.some.inj H
                  go_wp2
                  go_ret
                  exact ⟨by first | rfl | (simp; done) | (simp [*]; done) | (simp [isEmpty_bne]; done) | (simp; simp only [wrap64]; omega) | (simp [*]; simp only [wrap64]; omega), by repeat (first | exact Drawn0.refl _ | apply Drawn0.step)⟩
              · rw [if_neg c11] at H
                have c11b0 : (a1 == 7) = false := beq_eq_false_iff_ne.mpr c11
                have c11b1 : (a1 != 7) = true := bne_iff_ne.mpr c11
                obtain rfl := Option.some.inj H
                go_wp2
                go_ret
                exact ⟨by first | rfl | (simp; done) | (simp [*]; done) | (simp [isEmpty_bne]; done) | (simp; simp only [wrap64]; omega) | (simp [*]; simp only [wrap64]; omega), by repeat (first | exact Drawn0.refl _ | apply Drawn0.step)⟩

end Go.Proofs.YtedmjlflppckmaaGreatDoor.PL

namespace Go.Proofs.YtedmjlflppckmaaGreatDoor.PL
open Go.RowKit Go.Proofs.YtedmjlflppckmaaGreatDoorW.PrintWords Go.Proofs.YtedmjlflppckmaaGreatDoorW.PrintLast Go.Proofs.YtedmjlflppckmaaGreatDoorW.PrintMore
open Go.Proofs.YtedmjlflppckmaaGreatDoor.Pre
attribute [local go_sem] max2_int min2_int max_two min_two max_three min_three max_four min_four binOp_gtr_str binOp_leq_str binOp_geq_str

/-! ### larumref29_Status: function 14 -/
def larumref29_Status.j0 : Nat → Int → Int → Bool → Option (Int)
  | 0, _, _, _ => none
  | k + 1, x0, x5, x14 => if x14 = true then (some 410) else (if x5 = 8 then (some 412) else (if x5 = 7 then (if x0 = 6 then (some 503) else (some 507)) else (some 400)))
def larumref29_Status.f (k : Nat) (a0 : Int) (a1 : Int) : Option (Int) := if a1 = 0 then (if a0 = 2 then (some 201) else (if a0 = 5 then (some 204) else (some 200))) else (if a1 = 6 then (some 404) else (if a1 = 9 then (larumref29_Status.j0 k a0 a1 (a1 == 9)) else (larumref29_Status.j0 k a0 a1 (a1 == 10))))
theorem larumref29_Status.mono_l : ∀ k, (∀ y0 y1 y2, LeO (larumref29_Status.j0 k y0 y1 y2) (larumref29_Status.j0 (k + 1) y0 y1 y2))
  | 0 => fun _ _ _ r h => by simp [larumref29_Status.j0] at h
  | k + 1 => by
    have ih0 := larumref29_Status.mono_l k
    · intro y0 y1 y2
      unfold larumref29_Status.j0
      repeat' first
      | (with_reducible exact ih0 _ _ _)
      | (with_reducible exact LeO.refl _)
      | (with_reducible exact LeO.none _)
      | (with_reducible refine LeO.ite ?_ ?_)
      | (with_reducible refine LeO.bind ?_ (fun _ => ?_))
      | exact ih0 _ _ _
      | exact LeO.none _
      | refine LeO.ite ?_ ?_
      | refine LeO.bind ?_ (fun _ => ?_)
theorem larumref29_Status.mono : ∀ a0 a1 k, LeO (larumref29_Status.f k a0 a1) (larumref29_Status.f (k + 1) a0 a1) := by
  intro a0 a1 k
  have ih0 := larumref29_Status.mono_l k
  unfold larumref29_Status.f
  repeat' first
      | (with_reducible exact ih0 _ _ _)
      | (with_reducible exact LeO.refl _)
      | (with_reducible exact LeO.none _)
      | (with_reducible refine LeO.ite ?_ ?_)
      | (with_reducible refine LeO.bind ?_ (fun _ => ?_))
      | exact ih0 _ _ _
      | exact LeO.none _
      | refine LeO.ite ?_ ?_
      | refine LeO.bind ?_ (fun _ => ?_)
set_option maxHeartbeats 8000000 in
set_option maxRecDepth 100000 in
theorem larumref29_Status.calls (k : Nat) (a0 : Int) (a1 : Int) (r : Int) (w : World) (h : larumref29_Status.f k a0 a1 = some r) :
    Calls Tryz.prog 14 #[.int .i64 a0, .int .i64 a1] w fun e w' => e = .returned (.int .i64 r) ∧ Drawn0 w w' := by
  have H : (if a1 = 0 then (if a0 = 2 then (some 201) else (if a0 = 5 then (some 204) else (some 200))) else (if a1 = 6 then (some 404) else (if a1 = 9 then (larumref29_Status.j0 k a0 a1 (a1 == 9)) else (larumref29_Status.j0 k a0 a1 (a1 == 10))))) = some r := h
  clear h
  by_cases c3 : a1 = 0
  · rw [if_pos c3] at H
    have c3b0 : (a1 == 0) = true := beq_iff_eq.mpr c3
    have c3b1 : (a1 != 0) = false := bne_eq_false_iff_eq.mpr c3
    clear c3
    by_cases c4 : a0 = 2
    · rw [if_pos c4] at H
      have c4b0 : (a0 == 2) = true := beq_iff_eq.mpr c4
      have c4b1 : (a0 != 2) = false := bne_eq_false_iff_eq.mpr c4
      clear c4
      obtain rfl := Option.some.inj H
      go_enter Tryz.func14, Tryz.ntmps14
      go_wp2
      go_ret
      exact ⟨by first | rfl | (simp; done) | (simp [*]; done) | (simp [isEmpty_bne]; done) | (simp; simp only [wrap64]; omega) | (simp [*]; simp only [wrap64]; omega), by repeat (first | exact Drawn0.refl _ | apply Drawn0.step)⟩
    · rw [if_neg c4] at H
      have c4b0 : (a0 == 2) = false := beq_eq_false_iff_ne.mpr c4
      have c4b1 : (a0 != 2) = true := bne_iff_ne.mpr c4
      by_cases c5 : a0 = 5
      · rw [if_pos c5] at H
        have c5b0 : (a0 == 5) = true := beq_iff_eq.mpr c5
        have c5b1 : (a0 != 5) = false := bne_eq_false_iff_eq.mpr c5
        clear c5
        obtain rfl := Option.some.inj H
        go_enter Tryz.func14, Tryz.ntmps14
        go_wp2
        go_ret
        exact ⟨by first | rfl | (simp; done) | (simp [*]; done) | (simp [isEmpty_bne]; done) | (simp; simp only [wrap64]; omega) | (simp [*]; simp only [wrap64]; omega), by repeat (first | exact Drawn0.refl _ | apply Drawn0.step)⟩
      · rw [if_neg c5] at H
        have c5b0 : (a0 == 5) = false := beq_eq_false_iff_ne.mpr c5
        have c5b1 : (a0 != 5) = true := bne_iff_ne.mpr c5
        obtain rfl := Option.some.inj H
        go_enter Tryz.func14, Tryz.ntmps14
        go_wp2
        go_ret
        exact ⟨by first | rfl | (simp; done) | (simp [*]; done) | (simp [isEmpty_bne]; done) | (simp; simp only [wrap64]; omega) | (simp [*]; simp only [wrap64]; omega), by repeat (first | exact Drawn0.refl _ | apply Drawn0.step)⟩
  · rw [if_neg c3] at H
    have c3b0 : (a1 == 0) = false := beq_eq_false_iff_ne.mpr c3
    have c3b1 : (a1 != 0) = true := bne_iff_ne.mpr c3
    by_cases c6 : a1 = 6
    · rw [if_pos c6] at H
      have c6b0 : (a1 == 6) = true := beq_iff_eq.mpr c6
      have c6b1 : (a1 != 6) = false := bne_eq_false_iff_eq.mpr c6
      clear c6
      obtain rfl := Option.some.inj H
      go_enter Tryz.func14, Tryz.ntmps14
      go_wp2
      go_ret
      exact ⟨by first | rfl | (simp; done) | (simp [*]; done) | (simp [isEmpty_bne]; done) | (simp; simp only [wrap64]; omega) | (simp [*]; simp only [wrap64]; omega), by repeat (first | exact Drawn0.refl _ | apply Drawn0.step)⟩
    · rw [if_neg c6] at H
      have c6b0 : (a1 == 6) = false := beq_eq_false_iff_ne.mpr c6
      have c6b1 : (a1 != 6) = true := bne_iff_ne.mpr c6
      have HC7 := Aside0.mk H
      clear H
      go_enter Tryz.func14, Tryz.ntmps14
      go_upto_if 14 with (fail)
      go_cut [14] (fun v14 wc => ∃ (kq : Nat) (x14_6 : Bool), v14 = .bool x14_6 ∧ Aside0 (larumref29_Status.j0 kq a0 a1 x14_6 = some r) ∧ Aside0 (kq ≤ k) ∧ Drawn0 w wc)
      case first =>
        have H := HC7.out
        clear HC7
        by_cases c8 : a1 = 9
        · rw [if_pos c8] at H
          have c8b0 : (a1 == 9) = true := beq_iff_eq.mpr c8
          have c8b1 : (a1 != 9) = false := bne_eq_false_iff_eq.mpr c8
          clear c8
          (first | rw [c8b0] | (simp only [i64_w, i32_w]; rw [c8b0]) | skip)
          have H' := Aside0.mk H
          clear H
          go_wp2
          go_meet
          case rel => exact ⟨_, ((a1 == 9)), (by first | rfl | (simp; done) | (simp [*]; done) | (simp [isEmpty_bne]; done) | (simp; simp only [wrap64]; omega) | (simp [*]; simp only [wrap64]; omega)), H', ⟨by first | omega | exact Nat.le_refl _⟩, by repeat (first | exact Drawn0.refl _ | apply Drawn0.step)⟩
        · rw [if_neg c8] at H
          have c8b0 : (a1 == 9) = false := beq_eq_false_iff_ne.mpr c8
          have c8b1 : (a1 != 9) = true := bne_iff_ne.mpr c8
          (first | rw [c8b0] | (simp only [i64_w, i32_w]; rw [c8b0]) | skip)
          have H' := Aside0.mk H
          clear H
          go_wp2
          go_meet
          case rel => exact ⟨_, ((a1 == 10)), (by first | rfl | (simp; done) | (simp [*]; done) | (simp [isEmpty_bne]; done) | (simp; simp only [wrap64]; omega) | (simp [*]; simp only [wrap64]; omega)), H', ⟨by first | omega | exact Nat.le_refl _⟩, by repeat (first | exact Drawn0.refl _ | apply Drawn0.step)⟩
      case rest =>
        clear HC7
        try clear c1
        try clear p2
        try clear c3
        try clear c3b0
        try clear c3b1
        try clear c4
        try clear c4b0
        try clear c4b1
        try clear c5
        try clear c5b0
        try clear c5b1
        try clear c6
        try clear c6b0
        try clear c6b1
        try clear c8
        try clear c8b0
        try clear c8b1
        obtain ⟨kq, x14_6, rfl, HA, HJ6, ⟨mc6, rfl⟩⟩ := hcut
        cases kq with
        | zero => exact absurd HA.out (by simp [larumref29_Status.j0])
        | succ kj6 =>
          have H := HA.out
          clear HA
          simp only [larumref29_Status.j0] at H
          by_cases c9 : x14_6 = true
          · subst c9
            have H1 : (some 410) = some r := by rw [if_pos rfl] at H; exact H
            clear H
            have H := H1
            clear H1
            obtain rfl := Option.some.inj H
            go_wp2
            go_ret
            exact ⟨by first | rfl | (simp; done) | (simp [*]; done) | (simp [isEmpty_bne]; done) | (simp; simp only [wrap64]; omega) | (simp [*]; simp only [wrap64]; omega), by repeat (first | exact Drawn0.refl _ | apply Drawn0.step)⟩
          · replace c9 := Bool.eq_false_iff.mpr c9
            subst c9
            have H1 : (if a1 = 8 then (some 412) else (if a1 = 7 then (if a0 = 6 then (some 503) else (some 507)) else (some 400))) = some r := by rw [if_neg (show ¬ (false = true) by decide)] at H; exact H
            clear H
            have H := H1
            clear H1
            by_cases c10 : a1 = 8
            · rw [if_pos c10] at H
              have c10b0 : (a1 == 8) = true := beq_iff_eq.mpr c10
              have c10b1 : (a1 != 8) = false := bne_eq_false_iff_eq.mpr c10
              clear c10
              obtain rfl := Option.some.inj H
              go_wp2
              go_ret
              exact ⟨by first | rfl | (simp; done) | (simp [*]; done) | (simp [isEmpty_bne]; done) | (simp; simp only [wrap64]; omega) | (simp [*]; simp only [wrap64]; omega), by repeat (first | exact Drawn0.refl _ | apply Drawn0.step)⟩
            · rw [if_neg c10] at H
              have c10b0 : (a1 == 8) = false := beq_eq_false_iff_ne.mpr c10
              have c10b1 : (a1 != 8) = true := bne_iff_ne.mpr c10
              by_cases c11 : a1 = 7
              · rw [if_pos c11] at H
                have c11b0 : (a1 == 7) = true := beq_iff_eq.mpr c11
                have c11b1 : (a1 != 7) = false := bne_eq_false_iff_eq.mpr c11
                clear c11
                by_cases c12 : a0 = 6
                · rw [if_pos c12] at H
                  have c12b0 : (a0 == 6) = true := beq_iff_eq.mpr c12
                  have c12b1 : (a0 != 6) = false := bne_eq_false_iff_eq.mpr c12
                  clear c12
                  obtain rfl := Option.some.inj H
                  go_wp2
                  go_ret
                  exact ⟨by first | rfl | (simp; done) | (simp [*]; done) | (simp [isEmpty_bne]; done) | (simp; simp only [wrap64]; omega) | (simp [*]; simp only [wrap64]; omega), by repeat (first | exact Drawn0.refl _ | apply Drawn0.step)⟩
                · rw [if_neg c12] at H
                  have c12b0 : (a0 == 6) = false := beq_eq_false_iff_ne.mpr c12
                  have c12b1 : (a0 != 6) = true := bne_iff_ne.mpr c12
                  obtain rfl := Option.some.inj H
                  go_wp2
                  go_ret
                  exact ⟨by first | rfl | (simp; done) | (simp [*]; done) | (simp [isEmpty_bne]; done) | (simp; simp only [wrap64]; omega) | (simp [*]; simp only [wrap64]; omega), by repeat (first | exact Drawn0.refl _ | apply Drawn0.step)⟩
              · rw [if_neg c11] at H
                have c11b0 : (a1 == 7) = false := beq_eq_false_iff_ne.mpr c11
                have c11b1 : (a1 != 7) = true := bne_iff_ne.mpr c11
                obtain rfl := Option.some.inj H
                go_wp2
                go_ret
                exact ⟨by first | rfl | (simp; done) | (simp [*]; done) | (simp [isEmpty_bne]; done) | (simp; simp only [wrap64]; omega) | (simp [*]; simp only [wrap64]; omega), by repeat (first | exact Drawn0.refl _ | apply Drawn0.step)⟩

end Go.Proofs.YtedmjlflppckmaaGreatDoor.PL

namespace Go.Proofs.YtedmjlflppckmaaGreatDoor.PL
open Go.RowKit Go.Proofs.YtedmjlflppckmaaGreatDoorW.PrintWords Go.Proofs.YtedmjlflppckmaaGreatDoorW.PrintLast Go.Proofs.YtedmjlflppckmaaGreatDoorW.PrintMore
open Go.Proofs.YtedmjlflppckmaaGreatDoor.Pre
attribute [local go_sem] max2_int min2_int max_two min_two max_three min_three max_four min_four binOp_gtr_str binOp_leq_str binOp_geq_str

/-! ### larumlaw29_RouteStatus: function 5 -/
def larumlaw29_RouteStatus.f (k : Nat) (a0 : Int) (a1 : Int) : Option (Bool) := (route_Status.f k a0 a1).bind fun t101 => ((larumref29_Status.f k a0 a1).bind fun t102 => (if t101 = t102 then ((larumlaw29_awake.f).bind fun t103 => (some t103)) else (some false)))
theorem larumlaw29_RouteStatus.mono : ∀ a0 a1 k, LeO (larumlaw29_RouteStatus.f k a0 a1) (larumlaw29_RouteStatus.f (k + 1) a0 a1) := by
  intro a0 a1 k
  unfold larumlaw29_RouteStatus.f
  repeat' first
      | (with_reducible exact larumref29_Status.mono _ _ _)
      | (with_reducible exact route_Status.mono _ _ _)
      | (with_reducible exact LeO.refl _)
      | (with_reducible exact LeO.none _)
      | (with_reducible refine LeO.ite ?_ ?_)
      | (with_reducible refine LeO.bind ?_ (fun _ => ?_))
      | exact larumref29_Status.mono _ _ _
      | exact route_Status.mono _ _ _
      | exact LeO.none _
      | refine LeO.ite ?_ ?_
      | refine LeO.bind ?_ (fun _ => ?_)
set_option maxHeartbeats 8000000 in
set_option maxRecDepth 100000 in
theorem larumlaw29_RouteStatus.calls (k : Nat) (a0 : Int) (a1 : Int) (r : Bool) (w : World) (h : larumlaw29_RouteStatus.f k a0 a1 = some r) (hG : GOK w) :
    Calls Tryz.prog 5 #[.int .i64 a0, .int .i64 a1] w fun e w' => e = .returned (.bool r) ∧ Below w.heap.size w w' := by
  have HB := Aside0.mk (Below.refl w.heap.size w)
  have H : ((route_Status.f k a0 a1).bind fun t101 => ((larumref29_Status.f k a0 a1).bind fun t102 => (if t101 = t102 then ((larumlaw29_awake.f).bind fun t103 => (some t103)) else (some false)))) = some r := h
  clear h
  replace H := Option.bind_eq_some_iff.mp H
  obtain ⟨t101, A30, H⟩ := H
  replace H : ((larumref29_Status.f k a0 a1).bind fun t102 => (if t101 = t102 then ((larumlaw29_awake.f).bind fun t103 => (some t103)) else (some false))) = some r := H
  have A3 := Aside0.mk A30
  clear A30
  replace H := Option.bind_eq_some_iff.mp H
  obtain ⟨t102, A40, H⟩ := H
  replace H : (if t101 = t102 then ((larumlaw29_awake.f).bind fun t103 => (some t103)) else (some false)) = some r := H
  have A4 := Aside0.mk A40
  clear A40
  by_cases c5 : t101 = t102
  · rw [if_pos c5] at H
    have c5b0 : (t101 == t102) = true := beq_iff_eq.mpr c5
    have c5b1 : (t101 != t102) = false := bne_eq_false_iff_eq.mpr c5
    clear c5
    replace H := Option.bind_eq_some_iff.mp H
    obtain ⟨t103, A60, H⟩ := H
    replace H : (some t103) = some r := H
    have A6 := Aside0.mk A60
    clear A60
    obtain rfl := Option.some.inj H
    go_enter Tryz.func5, Tryz.ntmps5
    go_wp2_with (first | ((with_reducible refine gate_callee (f := 13) rfl ?_); refine goesL_ (some 7) rfl rfl Tryz.func13 (by kernel_rfl) rfl #[.int .i64 a0, .int .i64 a1] rfl (by (try simp only [List.map_toArray, List.map_cons, List.map_nil]); first | done | rfl | (simp only [List.length_drop, List.length_take]; rfl)) ?_; (with_reducible refine (route_Status.calls k a0 a1 t101 _ A3.out).mono ?_); rintro e w' ⟨rfl, ⟨nd, rfl⟩⟩; refine ⟨_, rfl, ?_⟩) | ((with_reducible refine gate_callee (f := 14) rfl ?_); refine goesL_ (some 10) rfl rfl Tryz.func14 (by kernel_rfl) rfl #[.int .i64 a0, .int .i64 a1] rfl (by (try simp only [List.map_toArray, List.map_cons, List.map_nil]); first | done | rfl | (simp only [List.length_drop, List.length_take]; rfl)) ?_; (with_reducible refine (larumref29_Status.calls k a0 a1 t102 _ A4.out).mono ?_); rintro e w' ⟨rfl, ⟨nd, rfl⟩⟩; refine ⟨_, rfl, ?_⟩) | (go_at_call 8; (with_reducible refine (larumlaw29_awake.calls  t103 _ A6.out (by repeat (first | exact hG | refine GOK.drewN ?_ _ | refine GOK.alloc ?_ _ | exact GOK.below hG HB.out))).mono ?_); rintro e w7 ⟨rfl, hb⟩; have n0_ := Aside0.mk (below_step (by repeat (first | (with_reducible first | exact HB.out | apply below_alloc | apply pw_below_drewN | apply below_drew1) | exact HB.out)) hb); clear HB; have HB := n0_; clear n0_; (try clear hb); (try clear hb2); (try clear hk); (try clear hi)))
    go_ret
    exact ⟨by first | rfl | (simp [errW_none, errW_some] <;> rfl) | (simp [*, errW_none, errW_some] <;> rfl), by repeat (first | (with_reducible first | exact HB.out | apply below_alloc | apply pw_below_drewN | apply below_drew1) | exact HB.out)⟩
  · rw [if_neg c5] at H
    have c5b0 : (t101 == t102) = false := beq_eq_false_iff_ne.mpr c5
    have c5b1 : (t101 != t102) = true := bne_iff_ne.mpr c5
    obtain rfl := Option.some.inj H
    go_enter Tryz.func5, Tryz.ntmps5
    go_wp2_with (first | ((with_reducible refine gate_callee (f := 13) rfl ?_); refine goesL_ (some 7) rfl rfl Tryz.func13 (by kernel_rfl) rfl #[.int .i64 a0, .int .i64 a1] rfl (by (try simp only [List.map_toArray, List.map_cons, List.map_nil]); first | done | rfl | (simp only [List.length_drop, List.length_take]; rfl)) ?_; (with_reducible refine (route_Status.calls k a0 a1 t101 _ A3.out).mono ?_); rintro e w' ⟨rfl, ⟨nd, rfl⟩⟩; refine ⟨_, rfl, ?_⟩) | ((with_reducible refine gate_callee (f := 14) rfl ?_); refine goesL_ (some 10) rfl rfl Tryz.func14 (by kernel_rfl) rfl #[.int .i64 a0, .int .i64 a1] rfl (by (try simp only [List.map_toArray, List.map_cons, List.map_nil]); first | done | rfl | (simp only [List.length_drop, List.length_take]; rfl)) ?_; (with_reducible refine (larumref29_Status.calls k a0 a1 t102 _ A4.out).mono ?_); rintro e w' ⟨rfl, ⟨nd, rfl⟩⟩; refine ⟨_, rfl, ?_⟩))
    go_ret
    exact ⟨by first | rfl | (simp [errW_none, errW_some] <;> rfl) | (simp [*, errW_none, errW_some] <;> rfl), by repeat (first | (with_reducible first | exact HB.out | apply below_alloc | apply pw_below_drewN | apply below_drew1) | exact HB.out)⟩

end Go.Proofs.YtedmjlflppckmaaGreatDoor.PL
