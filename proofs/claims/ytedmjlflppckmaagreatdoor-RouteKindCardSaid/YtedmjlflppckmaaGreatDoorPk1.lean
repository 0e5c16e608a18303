import Derived.Test.YtedmjlflppckmaaGreatDoorProg
import Derived.Below
import Derived.Deep.Draws
import Derived.Deep.AppendLies
import Derived.Maps.AppendAt
import Derived.OwnWalk
import Derived.Laws.BytesArg
import Derived.Laws.MakeOwn
import Derived.Laws.OwnMore
import Derived.Deep.OwnRows
import Derived.Tactics
import Derived.Lib.ConvBytes
import Derived.Laws.Slices
import Derived.WalkKit
import Derived.KernelRfl
import Derived.RowKit3
import Derived.Deep.LoopGhost
import Derived.Deep.QuietTactic
import Derived.BigQuiet
import Derived.WideLaws
import Derived.Deep.DeepCutAuto
import Derived.Deep.CutBlock
import Derived.Deep.RegionHeld3
import Derived.Laws.Rows
import Derived.Lib.AppendStr
import Derived.ArgAppend
import Derived.Laws.IdiomCopy
import Derived.OrdersHeld
import Derived.Laws.BitsLemmas
import Derived.RowKit
import Derived.Shelf.Abstract
import Derived.Lib.Hide
import Derived.Test.YtedmjlflppckmaaGreatDoorPre
import Derived.Test.YtedmjlflppckmaaGreatDoorBld
import Derived.Test.YtedmjlflppckmaaGreatDoorShelf
import Derived.Test.YtedmjlflppckmaaGreatDoorAs
import Derived.WalkSpells
import Derived.Laws.DeepStrings4
import Derived.Outline
import Derived.Test.YtedmjlflppckmaaGreatDoorAL
import Derived.Test.YtedmjlflppckmaaGreatDoorWWords
import Derived.Test.YtedmjlflppckmaaGreatDoorWLast
import Derived.Test.YtedmjlflppckmaaGreatDoorWTab
import Derived.Test.YtedmjlflppckmaaGreatDoorWFour
import Derived.Test.YtedmjlflppckmaaGreatDoorWQPut
import Derived.Test.YtedmjlflppckmaaGreatDoorWApart
import Derived.Test.YtedmjlflppckmaaGreatDoorWArr
import Derived.Test.YtedmjlflppckmaaGreatDoorWZeros
import Derived.Test.YtedmjlflppckmaaGreatDoorWFoot
import Derived.Test.YtedmjlflppckmaaGreatDoorWKept
import Derived.Test.YtedmjlflppckmaaGreatDoorWShare
import Derived.Test.YtedmjlflppckmaaGreatDoorWN
import Derived.Test.YtedmjlflppckmaaGreatDoorWFootNe
import Derived.Test.YtedmjlflppckmaaGreatDoorWAt
import Derived.Test.YtedmjlflppckmaaGreatDoorWEqStruct
import Derived.Test.YtedmjlflppckmaaGreatDoorWRepsOne
import Derived.Test.YtedmjlflppckmaaGreatDoorWInv
import Derived.Test.YtedmjlflppckmaaGreatDoorWInvWords
import Derived.Test.YtedmjlflppckmaaGreatDoorWGuard
import Derived.Test.YtedmjlflppckmaaGreatDoorWNEv
import Derived.Test.YtedmjlflppckmaaGreatDoorWMore
set_option linter.unusedVariables false
set_option linter.unusedSimpArgs false
namespace Go.Proofs.YtedmjlflppckmaaGreatDoor.PK
open Go.RowKit Go.Proofs.YtedmjlflppckmaaGreatDoorW.PrintWords Go.Proofs.YtedmjlflppckmaaGreatDoorW.PrintLast Go.Proofs.YtedmjlflppckmaaGreatDoorW.PrintMore
open Go.Proofs.YtedmjlflppckmaaGreatDoor.Pre
attribute [local go_sem] max2_int min2_int max_two min_two max_three min_three max_four min_four binOp_gtr_str binOp_leq_str binOp_geq_str



def errW : Option Int → Value
  | none => .nilIface
  | some c => .iface 0 (.int .i64 c)
theorem errW_none : errW none = .nilIface := rfl
theorem errW_some (c : Int) : errW (some c) = .iface 0 (.int .i64 c) := rfl

theorem info3 : (Tryz.prog.info? 3).map (fun i => (i.zero, i.size, i.bytes)) = some (some (.int .i64 0), 1, 8) := by kernel_rfl
theorem info5 : (Tryz.prog.info? 5).map (fun i => (i.zero, i.size, i.bytes)) = some (some (.int .u8 0), 1, 1) := by kernel_rfl
theorem info9 : (Tryz.prog.info? 9).map (fun i => (i.zero, i.size, i.bytes)) = some (some (.string ⟨#[]⟩), 1, 16) := by kernel_rfl
-- the values' own types

end Go.Proofs.YtedmjlflppckmaaGreatDoor.PK

namespace Go.Proofs.YtedmjlflppckmaaGreatDoor.PK
open Go.RowKit Go.Proofs.YtedmjlflppckmaaGreatDoorW.PrintWords Go.Proofs.YtedmjlflppckmaaGreatDoorW.PrintLast Go.Proofs.YtedmjlflppckmaaGreatDoorW.PrintMore
open Go.Proofs.YtedmjlflppckmaaGreatDoor.Pre
attribute [local go_sem] max2_int min2_int max_two min_two max_three min_three max_four min_four binOp_gtr_str binOp_leq_str binOp_geq_str

/-! ### route_single: function 15 -/
def route_single.f (a0 : ByteArray) : Option (Int × ByteArray) := if a0.toList = ([97, 108, 101, 114, 116, 115] : List UInt8) then (some (1, (⟨#[80, 79, 83, 84]⟩ : ByteArray))) else (if a0.toList = ([115, 105, 108, 101, 110, 99, 101, 115] : List UInt8) then (some (2, (⟨#[80, 79, 83, 84]⟩ : ByteArray))) else (if a0.toList = ([103, 114, 111, 117, 112, 115] : List UInt8) then (some (6, (⟨#[71, 69, 84]⟩ : ByteArray))) else (if a0.toList = ([119, 97, 116, 99, 104] : List UInt8) then (some (7, (⟨#[71, 69, 84]⟩ : ByteArray))) else (if a0.toList = ([111, 117, 116, 98, 111, 120] : List UInt8) then (some (8, (⟨#[71, 69, 84]⟩ : ByteArray))) else (some (0, (⟨#[]⟩ : ByteArray)))))))
set_option maxHeartbeats 8000000 in
set_option maxRecDepth 100000 in
theorem route_single.calls (a0 : ByteArray) (r1 : Int) (r2 : ByteArray) (w : World) (h : route_single.f a0 = some (r1, r2)) :
    Calls Tryz.prog 15 #[.string a0] w fun e w' => e = .returned (.tuple #[.int .i64 r1, .string r2]) ∧ Drawn0 w w' := by
  have H : (if a0.toList = ([97, 108, 101, 114, 116, 115] : List UInt8) then (some (1, (⟨#[80, 79, 83, 84]⟩ : ByteArray))) else (if a0.toList = ([115, 105, 108, 101, 110, 99, 101, 115] : List UInt8) then (some (2, (⟨#[80, 79, 83, 84]⟩ : ByteArray))) else (if a0.toList = ([103, 114, 111, 117, 112, 115] : List UInt8) then (some (6, (⟨#[71, 69, 84]⟩ : ByteArray))) else (if a0.toList = ([119, 97, 116, 99, 104] : List UInt8) then (some (7, (⟨#[71, 69, 84]⟩ : ByteArray))) else (if a0.toList = ([111, 117, 116, 98, 111, 120] : List UInt8) then (some (8, (⟨#[71, 69, 84]⟩ : ByteArray))) else (some (0, (⟨#[]⟩ : ByteArray)))))))) = some (r1, r2) := h
  clear h
  by_cases c2 : a0.toList = ([97, 108, 101, 114, 116, 115] : List UInt8)
  · rw [if_pos c2] at H
    have c2b0 : (a0.toList == ([97, 108, 101, 114, 116, 115] : List UInt8)) = true := beq_iff_eq.mpr c2
    have c2b1 : (a0.toList != ([97, 108, 101, 114, 116, 115] : List UInt8)) = false := bne_eq_false_iff_eq.mpr c2
    clear c2
    simp only [Option.some.injEq, Prod.mk.injEq] at H
    obtain ⟨rfl, rfl⟩ := H
    go_enter Tryz.func15, Tryz.ntmps15
    go_wp2
    go_ret2
    exact ⟨by first | rfl | (simp; done) | (simp [*]; done) | (simp [isEmpty_bne]; done) | (simp; simp only [wrap64]; omega) | (simp [*]; simp only [wrap64]; omega), by repeat (first | exact Drawn0.refl _ | apply Drawn0.step)⟩
  · rw [if_neg c2] at H
    have c2b0 : (a0.toList == ([97, 108, 101, 114, 116, 115] : List UInt8)) = false := beq_eq_false_iff_ne.mpr c2
    have c2b1 : (a0.toList != ([97, 108, 101, 114, 116, 115] : List UInt8)) = true := bne_iff_ne.mpr c2
    by_cases c3 : a0.toList = ([115, 105, 108, 101, 110, 99, 101, 115] : List UInt8)
    · rw [if_pos c3] at H
      have c3b0 : (a0.toList == ([115, 105, 108, 101, 110, 99, 101, 115] : List UInt8)) = true := beq_iff_eq.mpr c3
      have c3b1 : (a0.toList != ([115, 105, 108, 101, 110, 99, 101, 115] : List UInt8)) = false := bne_eq_false_iff_eq.mpr c3
      clear c3
      simp only [Option.some.injEq, Prod.mk.injEq] at H
      obtain ⟨rfl, rfl⟩ := H
      go_enter Tryz.func15, Tryz.ntmps15
      go_wp2
      go_ret2
      exact ⟨by first | rfl | (simp; done) | (simp [*]; done) | (simp [isEmpty_bne]; done) | (simp; simp only [wrap64]; omega) | (simp [*]; simp only [wrap64]; omega), by repeat (first | exact Drawn0.refl _ | apply Drawn0.step)⟩
    · rw [if_neg c3] at H
      have c3b0 : (a0.toList == ([115, 105, 108, 101, 110, 99, 101, 115] : List UInt8)) = false := beq_eq_false_iff_ne.mpr c3
      have c3b1 : (a0.toList != ([115, 105, 108, 101, 110, 99, 101, 115] : List UInt8)) = true := bne_iff_ne.mpr c3
      by_cases c4 : a0.toList = ([103, 114, 111, 117, 112, 115] : List UInt8)
      · rw [if_pos c4] at H
        have c4b0 : (a0.toList == ([103, 114, 111, 117, 112, 115] : List UInt8)) = true := beq_iff_eq.mpr c4
        have c4b1 : (a0.toList != ([103, 114, 111, 117, 112, 115] : List UInt8)) = false := bne_eq_false_iff_eq.mpr c4
        clear c4
        simp only [Option.some.injEq, Prod.mk.injEq] at H
        obtain ⟨rfl, rfl⟩ := H
        go_enter Tryz.func15, Tryz.ntmps15
        go_wp2
        go_ret2
        exact ⟨by first | rfl | (simp; done) | (simp [*]; done) | (simp [isEmpty_bne]; done) | (simp; simp only [wrap64]; omega) | (simp [*]; simp only [wrap64]; omega), by repeat (first | exact Drawn0.refl _ | apply Drawn0.step)⟩
      · rw [if_neg c4] at H
        have c4b0 : (a0.toList == ([103, 114, 111, 117, 112, 115] : List UInt8)) = false := beq_eq_false_iff_ne.mpr c4
        have c4b1 : (a0.toList != ([103, 114, 111, 117, 112, 115] : List UInt8)) = true := bne_iff_ne.mpr c4
        by_cases c5 : a0.toList = ([119, 97, 116, 99, 104] : List UInt8)
        · rw [if_pos c5] at H
          have c5b0 : (a0.toList == ([119, 97, 116, 99, 104] : List UInt8)) = true := beq_iff_eq.mpr c5
          have c5b1 : (a0.toList != ([119, 97, 116, 99, 104] : List UInt8)) = false := bne_eq_false_iff_eq.mpr c5
          clear c5
          simp only [Option.some.injEq, Prod.mk.injEq] at H
          obtain ⟨rfl, rfl⟩ := H
          go_enter Tryz.func15, Tryz.ntmps15
          go_wp2
          go_ret2
          exact ⟨by first | rfl | (simp; done) | (simp [*]; done) | (simp [isEmpty_bne]; done) | (simp; simp only [wrap64]; omega) | (simp [*]; simp only [wrap64]; omega), by repeat (first | exact Drawn0.refl _ | apply Drawn0.step)⟩
        · rw [if_neg c5] at H
          have c5b0 : (a0.toList == ([119, 97, 116, 99, 104] : List UInt8)) = false := beq_eq_false_iff_ne.mpr c5
          have c5b1 : (a0.toList != ([119, 97, 116, 99, 104] : List UInt8)) = true := bne_iff_ne.mpr c5
          by_cases c6 : a0.toList = ([111, 117, 116, 98, 111, 120] : List UInt8)
          · rw [if_pos c6] at H
            have c6b0 : (a0.toList == ([111, 117, 116, 98, 111, 120] : List UInt8)) = true := beq_iff_eq.mpr c6
            have c6b1 : (a0.toList != ([111, 117, 116, 98, 111, 120] : List UInt8)) = false := bne_eq_false_iff_eq.mpr c6
            clear c6
            simp only [Option.some.injEq, Prod.mk.injEq] at H
            obtain ⟨rfl, rfl⟩ := H
            go_enter Tryz.func15, Tryz.ntmps15
            go_wp2
            go_ret2
            exact ⟨by first | rfl | (simp; done) | (simp [*]; done) | (simp [isEmpty_bne]; done) | (simp; simp only [wrap64]; omega) | (simp [*]; simp only [wrap64]; omega), by repeat (first | exact Drawn0.refl _ | apply Drawn0.step)⟩
          · rw [if_neg c6] at H
            have c6b0 : (a0.toList == ([111, 117, 116, 98, 111, 120] : List UInt8)) = false := beq_eq_false_iff_ne.mpr c6
            have c6b1 : (a0.toList != ([111, 117, 116, 98, 111, 120] : List UInt8)) = true := bne_iff_ne.mpr c6
            simp only [Option.some.injEq, Prod.mk.injEq] at H
            obtain ⟨rfl, rfl⟩ := H
            go_enter Tryz.func15, Tryz.ntmps15
            go_wp2
            go_ret2
            exact ⟨by first | rfl | (simp; done) | (simp [*]; done) | (simp [isEmpty_bne]; done) | (simp; simp only [wrap64]; omega) | (simp [*]; simp only [wrap64]; omega), by repeat (first | exact Drawn0.refl _ | apply Drawn0.step)⟩

end Go.Proofs.YtedmjlflppckmaaGreatDoor.PK

namespace Go.Proofs.YtedmjlflppckmaaGreatDoor.PK
open Go.RowKit Go.Proofs.YtedmjlflppckmaaGreatDoorW.PrintWords Go.Proofs.YtedmjlflppckmaaGreatDoorW.PrintLast Go.Proofs.YtedmjlflppckmaaGreatDoorW.PrintMore
open Go.Proofs.YtedmjlflppckmaaGreatDoor.Pre
attribute [local go_sem] max2_int min2_int max_two min_two max_three min_three max_four min_four binOp_gtr_str binOp_leq_str binOp_geq_str

/-! ### chars_Digit: function 68 -/
def chars_Digit.f (a0 : Int) : Option (Bool) := if a0 ≥ 48 then (some (decide (a0 ≤ 57))) else (some false)
set_option maxHeartbeats 8000000 in
set_option maxRecDepth 100000 in
theorem chars_Digit.calls (a0 : Int) (r : Bool) (w : World) (h : chars_Digit.f a0 = some r) :
    Calls Tryz.prog 68 #[.int .u8 a0] w fun e w' => e = .returned (.bool r) ∧ Drawn0 w w' := by
  have H : (if a0 ≥ 48 then (some (decide (a0 ≤ 57))) else (some false)) = some r := h
  clear h
  by_cases c2 : a0 ≥ 48
  · rw [if_pos c2] at H
    have c2b0 : decide (48 ≤ a0) = true := decide_eq_true c2
    clear c2
    obtain rfl := Option.some.inj H
    go_enter Tryz.func68, Tryz.ntmps68
    go_wp2
    go_ret
    exact ⟨by first | rfl | (simp; done) | (simp [*]; done) | (simp [isEmpty_bne]; done) | (simp; simp only [wrap64]; omega) | (simp [*]; simp only [wrap64]; omega), by repeat (first | exact Drawn0.refl _ | apply Drawn0.step)⟩
  · rw [if_neg c2] at H
    have c2b0 : decide (48 ≤ a0) = false := decide_eq_false c2
    clear c2
    obtain rfl := Option.some.inj H
    go_enter Tryz.func68, Tryz.ntmps68
    go_wp2
    go_ret
    exact ⟨by first | rfl | (simp; done) | (simp [*]; done) | (simp [isEmpty_bne]; done) | (simp; simp only [wrap64]; omega) | (simp [*]; simp only [wrap64]; omega), by repeat (first | exact Drawn0.refl _ | apply Drawn0.step)⟩

end Go.Proofs.YtedmjlflppckmaaGreatDoor.PK

namespace Go.Proofs.YtedmjlflppckmaaGreatDoor.PK
open Go.RowKit Go.Proofs.YtedmjlflppckmaaGreatDoorW.PrintWords Go.Proofs.YtedmjlflppckmaaGreatDoorW.PrintLast Go.Proofs.YtedmjlflppckmaaGreatDoorW.PrintMore
open Go.Proofs.YtedmjlflppckmaaGreatDoor.Pre
attribute [local go_sem] max2_int min2_int max_two min_two max_three min_three max_four min_four binOp_gtr_str binOp_leq_str binOp_geq_str


/-! ### chars_All: function 67 -/
/-- A function value over bytes: what it answers; it turns nothing. -/
structure FnB (g : Nat) (p : Int → Bool) : Prop where
  ent : ∀ (args : Array Value) (W : World), (callFunc g args).run Tryz.prog W = .ok (.enter g args) W
  out : ∀ (c : Int) (W : World), 0 ≤ c → c ≤ 255 → Calls Tryz.prog g #[.int .u8 c] W fun e w' => e = .returned (.bool (p c)) ∧ Drawn0 W w'
def allTo (p : Int → Bool) (s : ByteArray) (k : Nat) : Bool := (s.data.toList.take k).all fun c => p (c.toNat : Int)
/-- Are all bytes of a text such? -/
def allP (p : Int → Bool) (s : ByteArray) : Bool := s.data.toList.all fun c => p (c.toNat : Int)
theorem allTo_succ (p : Int → Bool) (s : ByteArray) (k : Nat) (h : k < s.size) : allTo p s (k + 1) = (allTo p s k && p (s[k].toNat : Int)) := by
  unfold allTo
  rw [List.take_succ_eq_append_getElem (by simpa using h)]
  simp [List.all_append]
  rfl
theorem allTo_all (p : Int → Bool) (s : ByteArray) (k : Nat) (h : s.size ≤ k) : allTo p s k = allP p s := by
  unfold allTo allP
  rw [List.take_of_length_le (by simpa using h)]
theorem allP_false (p : Int → Bool) (s : ByteArray) (k : Nat) (h : k < s.size) (hp : p (s[k].toNat : Int) = false) : allP p s = false := by
  unfold allP
  rw [List.all_eq_false]
  exact ⟨s.data.toList[k]'(by simpa using h), List.getElem_mem _, by rw [Bool.not_eq_true]; exact hp⟩
theorem ne_nilFunc (g : Nat) (W : World) : (binOp .neq 182 (.func (.func g) #[] #[]) .nilFunc).run Tryz.prog W = .ok (.bool true) W := by kernel_rfl
set_option maxRecDepth 100000 in
set_option maxHeartbeats 1000000 in
theorem all_any (s : ByteArray) (g : Nat) (p : Int → Bool) (hp : FnB g p) (w : World) (hs : s.size ≤ 9223372036854775807) :
    Calls Tryz.prog 67 #[.string s, .func (.func g) #[] #[]] w fun e w' => e = .returned (.bool (allP p s)) ∧ Drawn0 w w' := by
  have hne := ne_nilFunc g
  have hent := hp.ent
  go_enter Tryz.func67, Tryz.ntmps67
  go_wp2
  go_loopw [4, 5] (fun r i wr => ∃ k : Nat, k ≤ s.size ∧ r = .bool false ∧ i = .int .i64 k ∧ Aside0 (allTo p s k = true) ∧ Aside0 (Drawn0 w wr)) (fun _ i _ => s.size - (intOf i).toNat)
  case atStart => exact ⟨0, Nat.zero_le _, rfl, rfl, ⟨by simp [allTo]⟩, ⟨Drawn0.refl _⟩⟩
  case round =>
    obtain ⟨k, hk, rfl, rfl, ha, hd⟩ := hrel
    by_cases hlt : k < s.size
    · go_wp2_with fail
      refine (hp.out _ _ (by omega) (by have := (s[k]).toNat_lt; omega)).mono ?_
      rintro e w' ⟨rfl, hd2⟩
      have hd3 : Aside0 (Drawn0 w w') := by
        obtain ⟨⟨n, rfl⟩⟩ := hd2
        exact ⟨hd.out.step n⟩
      clear hd2
      cases hpc : p (↑s[k].toNat)
      · have hf := Lib.hid (allP_false p s k hlt hpc)
        clear hpc
        go_wp2
        go_ret
        exact ⟨by rw [hf.out]; rfl, hd3.out⟩
      · have hf : Hid (allTo p s (k + 1) = true) := Lib.hid (by rw [allTo_succ p s k hlt, ha.out, hpc]; rfl)
        clear hpc ha
        go_wp2
        go_roundw
        case rel => exact ⟨k + 1, by omega, rfl, by go_num, ⟨hf.out⟩, hd3⟩
        case measure => simp [intOf]; omega
    · go_wp2
      go_ret
      exact ⟨by rw [← allTo_all p s k (by omega), ha.out]; rfl, hd.out⟩


/-! ### chars_All_chars_Digit: function 67 -/
def chars_All_chars_Digit.f (a0 : ByteArray) : Option Bool := if a0.size ≤ 9223372036854775807 then some (allP (fun c => decide (48 ≤ c ∧ c ≤ 57)) a0) else none
theorem chars_Digit_fn : FnB 68 (fun c => decide (48 ≤ c ∧ c ≤ 57)) where
  ent := enters_of Tryz.func68 (by kernel_rfl) rfl
  out c W _ _ := (chars_Digit.calls c (decide (48 ≤ c ∧ c ≤ 57)) W (by unfold chars_Digit.f; split <;> simp <;> omega))
theorem chars_All_chars_Digit.calls (a0 : ByteArray) (r : Bool) (w : World) (h : chars_All_chars_Digit.f a0 = some r) :
    Calls Tryz.prog 67 #[.string a0, .func (.func 68) #[] #[]] w fun e w' => e = .returned (.bool r) ∧ Drawn0 w w' := by
  unfold chars_All_chars_Digit.f at h
  split at h
  · rename_i hs
    obtain rfl : _ = r := Option.some.inj h
    exact all_any a0 _ _ chars_Digit_fn w hs
  · cases h


end Go.Proofs.YtedmjlflppckmaaGreatDoor.PK

namespace Go.Proofs.YtedmjlflppckmaaGreatDoor.PK
open Go.RowKit Go.Proofs.YtedmjlflppckmaaGreatDoorW.PrintWords Go.Proofs.YtedmjlflppckmaaGreatDoorW.PrintLast Go.Proofs.YtedmjlflppckmaaGreatDoorW.PrintMore
open Go.Proofs.YtedmjlflppckmaaGreatDoor.Pre
attribute [local go_sem] max2_int min2_int max_two min_two max_three min_three max_four min_four binOp_gtr_str binOp_leq_str binOp_geq_str

/-! ### num_digits: function 69 -/
def num_digits.l0 : Nat → ByteArray → Int → Int → Int → Int → Option (Int × Int)
  | 0, _, _, _, _, _ => none
  | k + 1, x0, x1, x6, x10, x11 => if x11 < x10 then (if 0 ≤ x11 then (if x11 < (x0.size : Int) then (if x6 > (IntKind.u64.wrap (Int.tdiv (IntKind.u64.wrap (x1 - (((bt x0 x11) - 48) % 256))) 10)) then (some (0, 5)) else (num_digits.l0 k x0 x1 (IntKind.u64.wrap ((IntKind.u64.wrap (x6 * 10)) + (((bt x0 x11) - 48) % 256))) x10 (wrap64 (x11 + 1)))) else (none)) else (none)) else (some (x6, 0))
def num_digits.f (k : Nat) (a0 : ByteArray) (a1 : Int) : Option (Int × Int) := num_digits.l0 k a0 a1 0 (a0.size : Int) 0
theorem num_digits.mono_l : ∀ k, (∀ y0 y1 y2 y3 y4, LeO (num_digits.l0 k y0 y1 y2 y3 y4) (num_digits.l0 (k + 1) y0 y1 y2 y3 y4))
  | 0 => fun _ _ _ _ _ r h => by simp [num_digits.l0] at h
  | k + 1 => by
    have ih0 := num_digits.mono_l k
    · intro y0 y1 y2 y3 y4
      unfold num_digits.l0
      repeat' first
      | (with_reducible exact ih0 _ _ _ _ _)
      | (with_reducible exact LeO.refl _)
      | (with_reducible exact LeO.none _)
      | (with_reducible refine LeO.ite ?_ ?_)
      | (with_reducible refine LeO.bind ?_ (fun _ => ?_))
      | exact ih0 _ _ _ _ _
      | exact LeO.none _
      | refine LeO.ite ?_ ?_
      | refine LeO.bind ?_ (fun _ => ?_)
theorem num_digits.mono : ∀ a0 a1 k, LeO (num_digits.f k a0 a1) (num_digits.f (k + 1) a0 a1) := by
  intro a0 a1 k
  have ih0 := num_digits.mono_l k
  unfold num_digits.f
  repeat' first
      | (with_reducible exact ih0 _ _ _ _ _)
      | (with_reducible exact LeO.refl _)
      | (with_reducible exact LeO.none _)
      | (with_reducible refine LeO.ite ?_ ?_)
      | (with_reducible refine LeO.bind ?_ (fun _ => ?_))
      | exact ih0 _ _ _ _ _
      | exact LeO.none _
      | refine LeO.ite ?_ ?_
      | refine LeO.bind ?_ (fun _ => ?_)
set_option maxHeartbeats 8000000 in
set_option maxRecDepth 100000 in
theorem num_digits.calls (k : Nat) (a0 : ByteArray) (a1 : Int) (r1 : Int) (r2 : Int) (w : World) (h : num_digits.f k a0 a1 = some (r1, r2)) :
    Calls Tryz.prog 69 #[.string a0, .int .u64 a1] w fun e w' => e = .returned (.tuple #[.int .u64 r1, .int .i64 r2]) ∧ Drawn0 w w' := by
  have H : (num_digits.l0 k a0 a1 0 (a0.size : Int) 0) = some (r1, r2) := h
  clear h
  have H' := Aside0.mk H
  clear H
  go_enter Tryz.func69, Tryz.ntmps69
  go_wp2
  go_loopg [6, 11] k (fun kq v6 v11 w' => ∃ (x6_1 : Int) (x11_1 : Int), v6 = .int .u64 x6_1 ∧ v11 = .int .i64 x11_1 ∧ Aside0 (num_digits.l0 kq a0 a1 x6_1 (a0.size : Int) x11_1 = some (r1, r2)) ∧ Aside0 (kq ≤ k) ∧ Drawn0 w w')
  case atStart => exact ⟨(0), (0), (by first | rfl | (simp; done) | (simp [*]; done) | (simp [isEmpty_bne]; done) | (simp; simp only [wrap64]; omega) | (simp [*]; simp only [wrap64]; omega)), (by first | rfl | (simp; done) | (simp [*]; done) | (simp [isEmpty_bne]; done) | (simp; simp only [wrap64]; omega) | (simp [*]; simp only [wrap64]; omega)), H', ⟨Nat.le_refl _⟩, by repeat (first | exact Drawn0.refl _ | apply Drawn0.step)⟩
  case round =>
    clear H'
    try clear p2
    obtain ⟨x6_1, x11_1, rfl, rfl, HA, HK1, ⟨m1, rfl⟩⟩ := hrel
    cases gk with
    | zero => exact absurd HA.out (by simp [num_digits.l0])
    | succ k1 =>
      have H := HA.out
      clear HA
      simp only [num_digits.l0] at H
      by_cases c3 : x11_1 < (a0.size : Int)
      · rw [if_pos c3] at H
        have c3b0 : decide (x11_1 < (a0.size : Int)) = true := decide_eq_true c3
        clear c3
        by_cases c4 : 0 ≤ x11_1
        · rw [if_pos c4] at H
          have c4b0 : decide (0 ≤ x11_1) = true := decide_eq_true c4
          clear c4
          by_cases c5 : x11_1 < (a0.size : Int)
          · rw [if_pos c5] at H
            have c5b0 : decide (x11_1 < (a0.size : Int)) = true := decide_eq_true c5
            clear c5
            by_cases c7 : x6_1 > (IntKind.u64.wrap (Int.tdiv (IntKind.u64.wrap (a1 - (((bt a0 x11_1) - 48) % 256))) 10))
            · rw [if_pos c7] at H
              have c7b0 : decide ((IntKind.u64.wrap (Int.tdiv (IntKind.u64.wrap (a1 - (((bt a0 x11_1) - 48) % 256))) 10)) < x6_1) = true := decide_eq_true c7
              clear c7
              simp only [Option.some.injEq, Prod.mk.injEq] at H
              obtain ⟨rfl, rfl⟩ := H
              have p6 : 0 ≤ (x11_1 : Int) := of_decide_eq_true (by first | (with_reducible assumption) | assumption)
              have q6 : x11_1 < (a0.size : Int) := of_decide_eq_true (by first | (with_reducible assumption) | assumption)
              have hx6 := bt_at a0 x11_1
              replace p6 := eq_true p6
              replace q6 := eq_true q6
              go_wp2
              go_ret2
              exact ⟨by first | rfl | (simp; done) | (simp [*]; done) | (simp [isEmpty_bne]; done) | (simp; simp only [wrap64]; omega) | (simp [*]; simp only [wrap64]; omega), by repeat (first | exact Drawn0.refl _ | apply Drawn0.step)⟩
            · rw [if_neg c7] at H
              have c7b0 : decide ((IntKind.u64.wrap (Int.tdiv (IntKind.u64.wrap (a1 - (((bt a0 x11_1) - 48) % 256))) 10)) < x6_1) = false := decide_eq_false c7
              clear c7
              have H' := Aside0.mk H
              clear H
              have p6 : 0 ≤ (x11_1 : Int) := of_decide_eq_true (by first | (with_reducible assumption) | assumption)
              have q6 : x11_1 < (a0.size : Int) := of_decide_eq_true (by first | (with_reducible assumption) | assumption)
              have hx6 := bt_at a0 x11_1
              replace p6 := eq_true p6
              replace q6 := eq_true q6
              go_wp2
              go_roundg k1
              case measure => have := HK1.out; omega
              case rel => exact ⟨(IntKind.u64.wrap ((IntKind.u64.wrap (x6_1 * 10)) + (((bt a0 x11_1) - 48) % 256))), (wrap64 (x11_1 + 1)), (by first | rfl | (simp; done) | (simp [*]; done) | (simp [isEmpty_bne]; done) | (simp; simp only [wrap64]; omega) | (simp [*]; simp only [wrap64]; omega)), (by first | rfl | (simp; done) | (simp [*]; done) | (simp [isEmpty_bne]; done) | (simp; simp only [wrap64]; omega) | (simp [*]; simp only [wrap64]; omega)), H', ⟨by have := HK1.out; omega⟩, by repeat (first | exact Drawn0.refl _ | apply Drawn0.step)⟩
          · rw [if_neg c5] at H
            exact absurd H (by simp)
        · rw [if_neg c4] at H
          exact absurd H (by simp)
      · rw [if_neg c3] at H
        have c3b0 : decide (x11_1 < (a0.size : Int)) = false := decide_eq_false c3
        clear c3
        simp only [Option.some.injEq, Prod.mk.injEq] at H
        obtain ⟨rfl, rfl⟩ := H
        go_wp2
        go_ret2
        exact ⟨by first | rfl | (simp; done) | (simp [*]; done) | (simp [isEmpty_bne]; done) | (simp; simp only [wrap64]; omega) | (simp [*]; simp only [wrap64]; omega), by repeat (first | exact Drawn0.refl _ | apply Drawn0.step)⟩

end Go.Proofs.YtedmjlflppckmaaGreatDoor.PK

namespace Go.Proofs.YtedmjlflppckmaaGreatDoor.PK
open Go.RowKit Go.Proofs.YtedmjlflppckmaaGreatDoorW.PrintWords Go.Proofs.YtedmjlflppckmaaGreatDoorW.PrintLast Go.Proofs.YtedmjlflppckmaaGreatDoorW.PrintMore
open Go.Proofs.YtedmjlflppckmaaGreatDoor.Pre
attribute [local go_sem] max2_int min2_int max_two min_two max_three min_three max_four min_four binOp_gtr_str binOp_leq_str binOp_geq_str

/-! ### num_Parse: function 38 -/
mutual
def num_Parse.j0 : Nat → ByteArray → Bool → Option (Int × Int)
  | 0, _, _ => none
  | k + 1, x0, x4 => if x4 = true then (if 1 ≤ (x0.size : Int) then (num_Parse.j1 k (x0.extract 1 x0.size) x4 (9223372036854775807 + 1)) else (none)) else (num_Parse.j1 k x0 x4 9223372036854775807)
def num_Parse.j1 : Nat → ByteArray → Bool → Int → Option (Int × Int)
  | 0, _, _, _ => none
  | k + 1, x0, x4, x5 => if x0.toList = ([] : List UInt8) then (num_Parse.j2 k x0 x4 x5 true) else ((chars_All_chars_Digit.f x0).bind fun t101 => (if t101 = true then (if (x0.size : Int) > 1 then (if 0 < (x0.size : Int) then (num_Parse.j2 k x0 x4 x5 ((bt x0 0) == 48)) else (none)) else (num_Parse.j2 k x0 x4 x5 false)) else (num_Parse.j2 k x0 x4 x5 true)))
def num_Parse.j2 : Nat → ByteArray → Bool → Int → Bool → Option (Int × Int)
  | 0, _, _, _, _ => none
  | k + 1, x0, x4, x5, x37 => if x37 = true then (some (0, 3)) else ((num_digits.f k x0 x5).bind fun bt102 => (if bt102.2 = 0 then (if x4 = true then (some (wrap64 (IntKind.u64.wrap (-bt102.1)), 0)) else (some (wrap64 (bt102.1), 0))) else (some (0, bt102.2))))
end
def num_Parse.f (k : Nat) (a0 : ByteArray) : Option (Int × Int) := if (a0.size : Int) > 0 then (if 0 < (a0.size : Int) then (num_Parse.j0 k a0 ((bt a0 0) == 45)) else (none)) else (num_Parse.j0 k a0 false)
theorem num_Parse.mono_l : ∀ k, (∀ y0 y1, LeO (num_Parse.j0 k y0 y1) (num_Parse.j0 (k + 1) y0 y1)) ∧ (∀ y0 y1 y2, LeO (num_Parse.j1 k y0 y1 y2) (num_Parse.j1 (k + 1) y0 y1 y2)) ∧ (∀ y0 y1 y2 y3, LeO (num_Parse.j2 k y0 y1 y2 y3) (num_Parse.j2 (k + 1) y0 y1 y2 y3))
  | 0 => ⟨fun _ _ r h => by simp [num_Parse.j0] at h, fun _ _ _ r h => by simp [num_Parse.j1] at h, fun _ _ _ _ r h => by simp [num_Parse.j2] at h⟩
  | k + 1 => by
    obtain ⟨ih0, ih1, ih2⟩ := num_Parse.mono_l k
    refine ⟨?_, ?_, ?_⟩
    · intro y0 y1
      unfold num_Parse.j0
      repeat' first
      | (with_reducible exact ih0 _ _)
      | (with_reducible exact ih1 _ _ _)
      | (with_reducible exact ih2 _ _ _ _)
      | (with_reducible exact num_digits.mono _ _ _)
      | (with_reducible exact LeO.refl _)
      | (with_reducible exact LeO.none _)
      | (with_reducible refine LeO.ite ?_ ?_)
      | (with_reducible refine LeO.bind ?_ (fun _ => ?_))
      | exact ih0 _ _
      | exact ih1 _ _ _
      | exact ih2 _ _ _ _
      | exact num_digits.mono _ _ _
      | exact LeO.none _
      | refine LeO.ite ?_ ?_
      | refine LeO.bind ?_ (fun _ => ?_)
    · intro y0 y1 y2
      unfold num_Parse.j1
      repeat' first
      | (with_reducible exact ih0 _ _)
      | (with_reducible exact ih1 _ _ _)
      | (with_reducible exact ih2 _ _ _ _)
      | (with_reducible exact num_digits.mono _ _ _)
      | (with_reducible exact LeO.refl _)
      | (with_reducible exact LeO.none _)
      | (with_reducible refine LeO.ite ?_ ?_)
      | (with_reducible refine LeO.bind ?_ (fun _ => ?_))
      | exact ih0 _ _
      | exact ih1 _ _ _
      | exact ih2 _ _ _ _
      | exact num_digits.mono _ _ _
      | exact LeO.none _
      | refine LeO.ite ?_ ?_
      | refine LeO.bind ?_ (fun _ => ?_)
    · intro y0 y1 y2 y3
      unfold num_Parse.j2
      repeat' first
      | (with_reducible exact ih0 _ _)
      | (with_reducible exact ih1 _ _ _)
      | (with_reducible exact ih2 _ _ _ _)
      | (with_reducible exact num_digits.mono _ _ _)
      | (with_reducible exact LeO.refl _)
      | (with_reducible exact LeO.none _)
      | (with_reducible refine LeO.ite ?_ ?_)
      | (with_reducible refine LeO.bind ?_ (fun _ => ?_))
      | exact ih0 _ _
      | exact ih1 _ _ _
      | exact ih2 _ _ _ _
      | exact num_digits.mono _ _ _
      | exact LeO.none _
      | refine LeO.ite ?_ ?_
      | refine LeO.bind ?_ (fun _ => ?_)
theorem num_Parse.mono : ∀ a0 k, LeO (num_Parse.f k a0) (num_Parse.f (k + 1) a0) := by
  intro a0 k
  obtain ⟨ih0, ih1, ih2⟩ := num_Parse.mono_l k
  unfold num_Parse.f
  repeat' first
      | (with_reducible exact ih0 _ _)
      | (with_reducible exact ih1 _ _ _)
      | (with_reducible exact ih2 _ _ _ _)
      | (with_reducible exact num_digits.mono _ _ _)
      | (with_reducible exact LeO.refl _)
      | (with_reducible exact LeO.none _)
      | (with_reducible refine LeO.ite ?_ ?_)
      | (with_reducible refine LeO.bind ?_ (fun _ => ?_))
      | exact ih0 _ _
      | exact ih1 _ _ _
      | exact ih2 _ _ _ _
      | exact num_digits.mono _ _ _
      | exact LeO.none _
      | refine LeO.ite ?_ ?_
      | refine LeO.bind ?_ (fun _ => ?_)
set_option maxHeartbeats 8000000 in
set_option maxRecDepth 100000 in
theorem num_Parse.calls (k : Nat) (a0 : ByteArray) (r1 : Int) (r2 : Int) (w : World) (h : num_Parse.f k a0 = some (r1, r2)) :
    Calls Tryz.prog 38 #[.string a0] w fun e w' => e = .returned (.tuple #[.int .i64 r1, .int .i64 r2]) ∧ Drawn0 w w' := by
  have H : (if (a0.size : Int) > 0 then (if 0 < (a0.size : Int) then (num_Parse.j0 k a0 ((bt a0 0) == 45)) else (none)) else (num_Parse.j0 k a0 false)) = some (r1, r2) := h
  clear h
  have HC2 := Aside0.mk H
  clear H
  go_enter Tryz.func38, Tryz.ntmps38
  go_upto_region 1 with (fail)
  go_cut [4] (fun v4 wc => ∃ (kq : Nat) (x4_1 : Bool), v4 = .bool x4_1 ∧ Aside0 (num_Parse.j0 kq a0 x4_1 = some (r1, r2)) ∧ Aside0 (kq ≤ k) ∧ Drawn0 w wc)
  case first =>
    have H := HC2.out
    clear HC2
    by_cases c3 : (a0.size : Int) > 0
    · rw [if_pos c3] at H
      have c3b0 : decide (0 < (a0.size : Int)) = true := decide_eq_true c3
      have c3b1 : decide (0 < a0.size) = true := decide_eq_true (by omega)
      clear c3
      (first | rw [c3b0] | (simp only [i64_w, i32_w]; rw [c3b0]) | skip)
      by_cases c4 : 0 < (a0.size : Int)
      · rw [if_pos c4] at H
        have c4b0 : decide (0 < (a0.size : Int)) = true := decide_eq_true c4
        have c4b1 : decide (0 < a0.size) = true := decide_eq_true (by omega)
        clear c4
        have H' := Aside0.mk H
        clear H
        have p5 : 0 ≤ (0 : Int) := (by omega)
        have q5 : 0 < a0.size := (by have : (0 : Int) < (a0.size : Int) := of_decide_eq_true (by first | (with_reducible assumption) | assumption); omega)
        have hx5 : ∀ h : 0 < a0.size, ((a0[0]'h).toNat : Int) = bt a0 0 := bt_at a0 0
        clear p5
        have qi5 : (0 < (a0.size : Int)) = True := eq_true (of_decide_eq_true (by first | (with_reducible assumption) | assumption))
        replace q5 := eq_true q5
        go_wp2
        go_meet
        case rel => exact ⟨_, (((bt a0 0) == 45)), (by first | rfl | (simp; done) | (simp [*]; done) | (simp [isEmpty_bne]; done) | (simp; simp only [wrap64]; omega) | (simp [*]; simp only [wrap64]; omega)), H', ⟨by first | omega | exact Nat.le_refl _⟩, by repeat (first | exact Drawn0.refl _ | apply Drawn0.step)⟩
      · rw [if_neg c4] at H
        exact absurd H (by simp)
    · rw [if_neg c3] at H
      have c3b0 : decide (0 < (a0.size : Int)) = false := decide_eq_false c3
      have c3b1 : decide (0 < a0.size) = false := decide_eq_false (by omega)
      clear c3
      (first | rw [c3b0] | (simp only [i64_w, i32_w]; rw [c3b0]) | skip)
      have H' := Aside0.mk H
      clear H
      go_wp2
      go_meet
      case rel => exact ⟨_, (false), (by first | rfl | (simp; done) | (simp [*]; done) | (simp [isEmpty_bne]; done) | (simp; simp only [wrap64]; omega) | (simp [*]; simp only [wrap64]; omega)), H', ⟨by first | omega | exact Nat.le_refl _⟩, by repeat (first | exact Drawn0.refl _ | apply Drawn0.step)⟩
  case rest =>
    clear HC2
    try clear p2
    try clear c3
    try clear c3b0
    try clear c3b1
    try clear c4
    try clear c4b0
    try clear c4b1
    try clear p5
    try clear q5
    try clear hx5
    try clear qi5
    try clear p5
    try clear q5
    obtain ⟨kq, x4_1, rfl, HA, HJ1, ⟨mc1, rfl⟩⟩ := hcut
    cases kq with
    | zero => exact absurd HA.out (by simp [num_Parse.j0])
    | succ kj1 =>
      have H := HA.out
      clear HA
      simp only [num_Parse.j0] at H
      have HC6 := Aside0.mk H
      clear H
      go_upto_if 16 with (fail)
      go_cut [0, 5] (fun v0 v5 wc => ∃ (kq : Nat) (x0_5 : ByteArray) (x5_5 : Int), v0 = .string x0_5 ∧ v5 = .int .u64 x5_5 ∧ Aside0 (num_Parse.j1 kq x0_5 x4_1 x5_5 = some (r1, r2)) ∧ Aside0 (kq ≤ kj1) ∧ Drawn0 w wc)
      case first =>
        have H := HC6.out
        clear HC6
        by_cases c7 : x4_1 = true
        · subst c7
          have H1 : (if 1 ≤ (a0.size : Int) then (num_Parse.j1 kj1 (a0.extract 1 a0.size) true (9223372036854775807 + 1)) else (none)) = some (r1, r2) := by rw [if_pos rfl] at H; exact H
          clear H
          have H := H1
          clear H1
          by_cases c8 : 1 ≤ (a0.size : Int)
          · rw [if_pos c8] at H
            have c8b0 := eq_true c8
            have c8b1 : decide (1 ≤ (a0.size : Int)) = true := decide_eq_true c8
            clear c8
            have H' := Aside0.mk H
            clear H
            go_wp2
            go_meet
            case rel => exact ⟨_, (a0.extract 1 a0.size), (9223372036854775807 + 1), (by first | rfl | (simp; done) | (simp [*]; done) | (simp [isEmpty_bne]; done) | (simp; simp only [wrap64]; omega) | (simp [*]; simp only [wrap64]; omega)), (by first | rfl | (simp; done) | (simp [*]; done) | (simp [isEmpty_bne]; done) | (simp; simp only [wrap64]; omega) | (simp [*]; simp only [wrap64]; omega)), H', ⟨by have := HJ1.out; first | omega | exact Nat.le_refl _⟩, by repeat (first | exact Drawn0.refl _ | apply Drawn0.step)⟩
          · rw [if_neg c8] at H
            exact absurd H (by simp)
        · replace c7 := Bool.eq_false_iff.mpr c7
          subst c7
          have H1 : (num_Parse.j1 kj1 a0 false 9223372036854775807) = some (r1, r2) := by rw [if_neg (show ¬ (false = true) by decide)] at H; exact H
          clear H
          have H := H1
          clear H1
          have H' := Aside0.mk H
          clear H
          go_wp2
          go_meet
          case rel => exact ⟨_, (a0), (9223372036854775807), (by first | rfl | (simp; done) | (simp [*]; done) | (simp [isEmpty_bne]; done) | (simp; simp only [wrap64]; omega) | (simp [*]; simp only [wrap64]; omega)), (by first | rfl | (simp; done) | (simp [*]; done) | (simp [isEmpty_bne]; done) | (simp; simp only [wrap64]; omega) | (simp [*]; simp only [wrap64]; omega)), H', ⟨by have := HJ1.out; first | omega | exact Nat.le_refl _⟩, by repeat (first | exact Drawn0.refl _ | apply Drawn0.step)⟩
      case rest =>
        clear HC6
        try clear c1
        try clear p2
        try clear c3
        try clear c3b0
        try clear c3b1
        try clear c4
        try clear c4b0
        try clear c4b1
        try clear p5
        try clear q5
        try clear hx5
        try clear qi5
        try clear c7
        try clear c8
        try clear c8b0
        try clear c8b1
        try clear p2
        try clear p5
        try clear q5
        obtain ⟨kq, x0_5, x5_5, rfl, rfl, HA, HJ5, ⟨mc5, rfl⟩⟩ := hcut
        cases kq with
        | zero => exact absurd HA.out (by simp [num_Parse.j1])
        | succ kj5 =>
          have H := HA.out
          clear HA
          simp only [num_Parse.j1] at H
          have HC9 := Aside0.mk H
          clear H
          go_upto_region 6 with (fail)
          go_cut [37] (fun v37 wc => ∃ (kq : Nat) (x37_8 : Bool), v37 = .bool x37_8 ∧ Aside0 (num_Parse.j2 kq x0_5 x4_1 x5_5 x37_8 = some (r1, r2)) ∧ Aside0 (kq ≤ kj5) ∧ Drawn0 w wc)
          case first =>
            have H := HC9.out
            clear HC9
            by_cases c10 : x0_5.toList = ([] : List UInt8)
            · rw [if_pos c10] at H
              have c10b0 : (x0_5.toList == ([] : List UInt8)) = true := beq_iff_eq.mpr c10
              have c10b1 : (x0_5.toList != ([] : List UInt8)) = false := bne_eq_false_iff_eq.mpr c10
              clear c10
              (first | rw [c10b0] | (simp only [i64_w, i32_w]; rw [c10b0]) | skip)
              have H' := Aside0.mk H
              clear H
              go_wp2
              go_meet
              case rel => exact ⟨_, (true), (by first | rfl | (simp; done) | (simp [*]; done) | (simp [isEmpty_bne]; done) | (simp; simp only [wrap64]; omega) | (simp [*]; simp only [wrap64]; omega)), H', ⟨by have := HJ1.out; have := HJ5.out; first | omega | exact Nat.le_refl _⟩, by repeat (first | exact Drawn0.refl _ | apply Drawn0.step)⟩
            · rw [if_neg c10] at H
              have c10b0 : (x0_5.toList == ([] : List UInt8)) = false := beq_eq_false_iff_ne.mpr c10
              have c10b1 : (x0_5.toList != ([] : List UInt8)) = true := bne_iff_ne.mpr c10
              (first | rw [c10b0] | (simp only [i64_w, i32_w]; rw [c10b0]) | skip)
              replace H := Option.bind_eq_some_iff.mp H
              obtain ⟨t101, A110, H⟩ := H
              replace H : (if t101 = true then (if (x0_5.size : Int) > 1 then (if 0 < (x0_5.size : Int) then (num_Parse.j2 kj5 x0_5 x4_1 x5_5 ((bt x0_5 0) == 48)) else (none)) else (num_Parse.j2 kj5 x0_5 x4_1 x5_5 false)) else (num_Parse.j2 kj5 x0_5 x4_1 x5_5 true)) = some (r1, r2) := H
              have A11 := Aside0.mk A110
              clear A110
              by_cases c12 : t101 = true
              · subst c12
                have H1 : (if (x0_5.size : Int) > 1 then (if 0 < (x0_5.size : Int) then (num_Parse.j2 kj5 x0_5 x4_1 x5_5 ((bt x0_5 0) == 48)) else (none)) else (num_Parse.j2 kj5 x0_5 x4_1 x5_5 false)) = some (r1, r2) := by rw [if_pos rfl] at H; exact H
                clear H
                have H := H1
                clear H1
                by_cases c13 : (x0_5.size : Int) > 1
                · rw [if_pos c13] at H
                  have c13b0 : decide (1 < (x0_5.size : Int)) = true := decide_eq_true c13
                  have c13b1 : decide (1 < x0_5.size) = true := decide_eq_true (by omega)
                  clear c13
                  by_cases c14 : 0 < (x0_5.size : Int)
                  · rw [if_pos c14] at H
                    have c14b0 : decide (0 < (x0_5.size : Int)) = true := decide_eq_true c14
                    have c14b1 : decide (0 < x0_5.size) = true := decide_eq_true (by omega)
                    clear c14
                    have H' := Aside0.mk H
                    clear H
                    go_wp2_with (first | (go_at_call 67; (with_reducible refine (chars_All_chars_Digit.calls x0_5  true _ A11.out).mono ?_); rintro e w' ⟨rfl, ⟨nd, rfl⟩⟩; have p15 : 0 ≤ (0 : Int) := (by omega); have q15 : 0 < x0_5.size := (by have : (0 : Int) < (x0_5.size : Int) := of_decide_eq_true (by first | (with_reducible assumption) | assumption); omega); have hx15 : ∀ h : 0 < x0_5.size, ((x0_5[0]'h).toNat : Int) = bt x0_5 0 := bt_at x0_5 0; clear p15; have qi15 : (0 < (x0_5.size : Int)) = True := eq_true (of_decide_eq_true (by first | (with_reducible assumption) | assumption)); replace q15 := eq_true q15))
                    go_meet
                    case rel => exact ⟨_, (((bt x0_5 0) == 48)), (by first | rfl | (simp; done) | (simp [*]; done) | (simp [isEmpty_bne]; done) | (simp; simp only [wrap64]; omega) | (simp [*]; simp only [wrap64]; omega)), H', ⟨by have := HJ1.out; have := HJ5.out; first | omega | exact Nat.le_refl _⟩, by repeat (first | exact Drawn0.refl _ | apply Drawn0.step)⟩
                  · rw [if_neg c14] at H
                    exact absurd H (by simp)
                · rw [if_neg c13] at H
                  have c13b0 : decide (1 < (x0_5.size : Int)) = false := decide_eq_false c13
                  have c13b1 : decide (1 < x0_5.size) = false := decide_eq_false (by omega)
                  clear c13
                  have H' := Aside0.mk H
                  clear H
                  go_wp2_with (first | (go_at_call 67; (with_reducible refine (chars_All_chars_Digit.calls x0_5  true _ A11.out).mono ?_); rintro e w' ⟨rfl, ⟨nd, rfl⟩⟩))
                  go_meet
                  case rel => exact ⟨_, (false), (by first | rfl | (simp; done) | (simp [*]; done) | (simp [isEmpty_bne]; done) | (simp; simp only [wrap64]; omega) | (simp [*]; simp only [wrap64]; omega)), H', ⟨by have := HJ1.out; have := HJ5.out; first | omega | exact Nat.le_refl _⟩, by repeat (first | exact Drawn0.refl _ | apply Drawn0.step)⟩
              · replace c12 := Bool.eq_false_iff.mpr c12
                subst c12
                have H1 : (num_Parse.j2 kj5 x0_5 x4_1 x5_5 true) = some (r1, r2) := by rw [if_neg (show ¬ (false = true) by decide)] at H; exact H
                clear H
                have H := H1
                clear H1
                have H' := Aside0.mk H
                clear H
                go_wp2_with (first | (go_at_call 67; (with_reducible refine (chars_All_chars_Digit.calls x0_5  false _ A11.out).mono ?_); rintro e w' ⟨rfl, ⟨nd, rfl⟩⟩))
                go_meet
                case rel => exact ⟨_, (true), (by first | rfl | (simp; done) | (simp [*]; done) | (simp [isEmpty_bne]; done) | (simp; simp only [wrap64]; omega) | (simp [*]; simp only [wrap64]; omega)), H', ⟨by have := HJ1.out; have := HJ5.out; first | omega | exact Nat.le_refl _⟩, by repeat (first | exact Drawn0.refl _ | apply Drawn0.step)⟩
          case rest =>
            clear HC9
            try clear c1
            try clear p1
            try clear q1
            try clear hx1
            try clear qi1
            try clear p2
            try clear c3
            try clear c3b0
            try clear c3b1
            try clear c4
            try clear c4b0
            try clear c4b1
            try clear c5
            try clear p5
            try clear q5
            try clear hx5
            try clear qi5
            try clear c7
            try clear c8
            try clear c8b0
            try clear c8b1
            try clear c10
            try clear c10b0
            try clear c10b1
            try clear c12
            try clear c13
            try clear c13b0
            try clear c13b1
            try clear c14
            try clear c14b0
            try clear c14b1
            try clear p15
            try clear q15
            try clear hx15
            try clear qi15
            try clear p15
            try clear p2
            try clear p5
            try clear q15
            try clear q5
            obtain ⟨kq, x37_8, rfl, HA, HJ8, ⟨mc8, rfl⟩⟩ := hcut
            cases kq with
            | zero => exact absurd HA.out (by simp [num_Parse.j2])
            | succ kj8 =>
              have H := HA.out
              clear HA
              simp only [num_Parse.j2] at H
              by_cases c16 : x37_8 = true
              · subst c16
                have H1 : (some (0, 3)) = some (r1, r2) := by rw [if_pos rfl] at H; exact H
                clear H
                have H := H1
                clear H1
                simp only [Option.some.injEq, Prod.mk.injEq] at H
                obtain ⟨rfl, rfl⟩ := H
                go_wp2
                go_ret2
                exact ⟨by first | rfl | (simp; done) | (simp [*]; done) | (simp [isEmpty_bne]; done) | (simp; simp only [wrap64]; omega) | (simp [*]; simp only [wrap64]; omega), by repeat (first | exact Drawn0.refl _ | apply Drawn0.step)⟩
              · replace c16 := Bool.eq_false_iff.mpr c16
                subst c16
                have H1 : ((num_digits.f kj8 x0_5 x5_5).bind fun bt102 => (if bt102.2 = 0 then (if x4_1 = true then (some (wrap64 (IntKind.u64.wrap (-bt102.1)), 0)) else (some (wrap64 (bt102.1), 0))) else (some (0, bt102.2)))) = some (r1, r2) := by rw [if_neg (show ¬ (false = true) by decide)] at H; exact H
                clear H
                have H := H1
                clear H1
                replace H := Option.bind_eq_some_iff.mp H
                obtain ⟨⟨t102, t103⟩, A170, H⟩ := H
                replace H : (if t103 = 0 then (if x4_1 = true then (some (wrap64 (IntKind.u64.wrap (-t102)), 0)) else (some (wrap64 (t102), 0))) else (some (0, t103))) = some (r1, r2) := H
                have A17 := Aside0.mk A170
                clear A170
                by_cases c18 : t103 = 0
                · rw [if_pos c18] at H
                  have c18b0 : (t103 == 0) = true := beq_iff_eq.mpr c18
                  have c18b1 : (t103 != 0) = false := bne_eq_false_iff_eq.mpr c18
                  clear c18
                  by_cases c19 : x4_1 = true
                  · subst c19
                    have H1 : (some (wrap64 (IntKind.u64.wrap (-t102)), 0)) = some (r1, r2) := by rw [if_pos rfl] at H; exact H
                    clear H
                    have H := H1
                    clear H1
                    simp only [Option.some.injEq, Prod.mk.injEq] at H
                    obtain ⟨rfl, rfl⟩ := H
                    go_wp2_with (first | ((with_reducible refine gate_callee (f := 69) rfl ?_); refine goesL_ (some 41) rfl rfl Tryz.func69 (by kernel_rfl) rfl #[.string x0_5, .int .u64 x5_5] rfl (by (try simp only [List.map_toArray, List.map_cons, List.map_nil]); first | done | rfl | (simp only [List.length_drop, List.length_take]; rfl)) ?_; (with_reducible refine (num_digits.calls kj8 x0_5 x5_5 t102 t103 _ A17.out).mono ?_); rintro e w' ⟨rfl, ⟨nd, rfl⟩⟩; refine ⟨_, rfl, ?_⟩))
                    go_ret2
                    exact ⟨by first | rfl | (simp; done) | (simp [*]; done) | (simp [isEmpty_bne]; done) | (simp; simp only [wrap64]; omega) | (simp [*]; simp only [wrap64]; omega), by repeat (first | exact Drawn0.refl _ | apply Drawn0.step)⟩
                  · replace c19 := Bool.eq_false_iff.mpr c19
                    subst c19
                    have H1 : (some (wrap64 (t102), 0)) = some (r1, r2) := by rw [if_neg (show ¬ (false = true) by decide)] at H; exact H
                    clear H
                    have H := H1
                    clear H1
                    simp only [Option.some.injEq, Prod.mk.injEq] at H
                    obtain ⟨rfl, rfl⟩ := H
                    go_wp2_with (first | ((with_reducible refine gate_callee (f := 69) rfl ?_); refine goesL_ (some 41) rfl rfl Tryz.func69 (by kernel_rfl) rfl #[.string x0_5, .int .u64 x5_5] rfl (by (try simp only [List.map_toArray, List.map_cons, List.map_nil]); first | done | rfl | (simp only [List.length_drop, List.length_take]; rfl)) ?_; (with_reducible refine (num_digits.calls kj8 x0_5 x5_5 t102 t103 _ A17.out).mono ?_); rintro e w' ⟨rfl, ⟨nd, rfl⟩⟩; refine ⟨_, rfl, ?_⟩))
                    go_ret2
                    exact ⟨by first | rfl | (simp; done) | (simp [*]; done) | (simp [isEmpty_bne]; done) | (simp; simp only [wrap64]; omega) | (simp [*]; simp only [wrap64]; omega), by repeat (first | exact Drawn0.refl _ | apply Drawn0.step)⟩
                · rw [if_neg c18] at H
                  have c18b0 : (t103 == 0) = false := beq_eq_false_iff_ne.mpr c18
                  have c18b1 : (t103 != 0) = true := bne_iff_ne.mpr c18
                  simp only [Option.some.injEq, Prod.mk.injEq] at H
                  obtain ⟨rfl, rfl⟩ := H
                  go_wp2_with (first | ((with_reducible refine gate_callee (f := 69) rfl ?_); refine goesL_ (some 41) rfl rfl Tryz.func69 (by kernel_rfl) rfl #[.string x0_5, .int .u64 x5_5] rfl (by (try simp only [List.map_toArray, List.map_cons, List.map_nil]); first | done | rfl | (simp only [List.length_drop, List.length_take]; rfl)) ?_; (with_reducible refine (num_digits.calls kj8 x0_5 x5_5 t102 t103 _ A17.out).mono ?_); rintro e w' ⟨rfl, ⟨nd, rfl⟩⟩; refine ⟨_, rfl, ?_⟩))
                  go_ret2
                  exact ⟨by first | rfl | (simp; done) | (simp [*]; done) | (simp [isEmpty_bne]; done) | (simp; simp only [wrap64]; omega) | (simp [*]; simp only [wrap64]; omega), by repeat (first | exact Drawn0.refl _ | apply Drawn0.step)⟩

end Go.Proofs.YtedmjlflppckmaaGreatDoor.PK

namespace Go.Proofs.YtedmjlflppckmaaGreatDoor.PK
open Go.RowKit Go.Proofs.YtedmjlflppckmaaGreatDoorW.PrintWords Go.Proofs.YtedmjlflppckmaaGreatDoorW.PrintLast Go.Proofs.YtedmjlflppckmaaGreatDoorW.PrintMore
open Go.Proofs.YtedmjlflppckmaaGreatDoor.Pre
attribute [local go_sem] max2_int min2_int max_two min_two max_three min_three max_four min_four binOp_gtr_str binOp_leq_str binOp_geq_str

/-! ### num_based: function 70 -/
def num_based.l0 : Nat → Int → Int → ByteArray → Bool → Option (ByteArray)
  | 0, _, _, _, _ => none
  | k + 1, x0, x1, x5, x6 => if x6 = true then (if x1 = 0 then (none) else (if 0 ≤ (Int.tmod x0 x1) then (if (Int.tmod x0 x1) ≤ (IntKind.u64.wrap ((Int.tmod x0 x1) + 1)) then (if (IntKind.u64.wrap ((Int.tmod x0 x1) + 1)) ≤ 16 then (if ((⟨#[48, 49, 50, 51, 52, 53, 54, 55, 56, 57, 97, 98, 99, 100, 101, 102]⟩ : ByteArray).extract ((Int.tmod x0 x1) : Int).toNat ((IntKind.u64.wrap ((Int.tmod x0 x1) + 1)) : Int).toNat).size + x5.size ≤ 9223372036854775807 then (num_based.l0 k (IntKind.u64.wrap (Int.tdiv x0 x1)) x1 (((⟨#[48, 49, 50, 51, 52, 53, 54, 55, 56, 57, 97, 98, 99, 100, 101, 102]⟩ : ByteArray).extract ((Int.tmod x0 x1) : Int).toNat ((IntKind.u64.wrap ((Int.tmod x0 x1) + 1)) : Int).toNat) ++ x5) (decide ((IntKind.u64.wrap (Int.tdiv x0 x1)) > 0))) else (none)) else (none)) else (none)) else (none))) else (some x5)
def num_based.f (k : Nat) (a0 : Int) (a1 : Int) : Option (ByteArray) := num_based.l0 k a0 a1 (⟨#[]⟩ : ByteArray) true
theorem num_based.mono_l : ∀ k, (∀ y0 y1 y2 y3, LeO (num_based.l0 k y0 y1 y2 y3) (num_based.l0 (k + 1) y0 y1 y2 y3))
  | 0 => fun _ _ _ _ r h => by simp [num_based.l0] at h
  | k + 1 => by
    have ih0 := num_based.mono_l k
    · intro y0 y1 y2 y3
      unfold num_based.l0
      repeat' first
      | (with_reducible exact ih0 _ _ _ _)
      | (with_reducible exact LeO.refl _)
      | (with_reducible exact LeO.none _)
      | (with_reducible refine LeO.ite ?_ ?_)
      | (with_reducible refine LeO.bind ?_ (fun _ => ?_))
      | exact ih0 _ _ _ _
      | exact LeO.none _
      | refine LeO.ite ?_ ?_
      | refine LeO.bind ?_ (fun _ => ?_)
theorem num_based.mono : ∀ a0 a1 k, LeO (num_based.f k a0 a1) (num_based.f (k + 1) a0 a1) := by
  intro a0 a1 k
  have ih0 := num_based.mono_l k
  unfold num_based.f
  repeat' first
      | (with_reducible exact ih0 _ _ _ _)
      | (with_reducible exact LeO.refl _)
      | (with_reducible exact LeO.none _)
      | (with_reducible refine LeO.ite ?_ ?_)
      | (with_reducible refine LeO.bind ?_ (fun _ => ?_))
      | exact ih0 _ _ _ _
      | exact LeO.none _
      | refine LeO.ite ?_ ?_
      | refine LeO.bind ?_ (fun _ => ?_)
set_option maxHeartbeats 8000000 in
set_option maxRecDepth 100000 in
theorem num_based.calls (k : Nat) (a0 : Int) (a1 : Int) (r : ByteArray) (w : World) (h : num_based.f k a0 a1 = some r) :
    Calls Tryz.prog 70 #[.int .u64 a0, .int .u64 a1] w fun e w' => e = .returned (.string r) ∧ Drawn0 w w' := by
  have H : (num_based.l0 k a0 a1 (⟨#[]⟩ : ByteArray) true) = some r := h
  clear h
  have H' := Aside0.mk H
  clear H
  go_enter Tryz.func70, Tryz.ntmps70
  go_wp2
  repeat (go_quiet (fail); try go_wp2)
  go_loopg [0, 5, 6] k (fun kq v0 v5 v6 w' => ∃ (x0_1 : Int) (x5_1 : ByteArray) (x6_1 : Bool), v0 = .int .u64 x0_1 ∧ v5 = .string x5_1 ∧ v6 = .bool x6_1 ∧ Aside0 (num_based.l0 kq x0_1 a1 x5_1 x6_1 = some r) ∧ Aside0 (kq ≤ k) ∧ Drawn0 w w')
  case atStart => exact ⟨(a0), ((⟨#[]⟩ : ByteArray)), (true), (by first | rfl | (simp; done) | (simp [*]; done) | (simp [isEmpty_bne]; done) | (simp; simp only [wrap64]; omega) | (simp [*]; simp only [wrap64]; omega)), (by first | rfl | (simp; done) | (simp [*]; done) | (simp [isEmpty_bne]; done) | (simp; simp only [wrap64]; omega) | (simp [*]; simp only [wrap64]; omega)), (by first | rfl | (simp; done) | (simp [*]; done) | (simp [isEmpty_bne]; done) | (simp; simp only [wrap64]; omega) | (simp [*]; simp only [wrap64]; omega)), H', ⟨Nat.le_refl _⟩, by repeat (first | exact Drawn0.refl _ | apply Drawn0.step)⟩
  case round =>
    clear H'
    try clear p2
    obtain ⟨x0_1, x5_1, x6_1, rfl, rfl, rfl, HA, HK1, ⟨m1, rfl⟩⟩ := hrel
    cases gk with
    | zero => exact absurd HA.out (by simp [num_based.l0])
    | succ k1 =>
      have H := HA.out
      clear HA
      simp only [num_based.l0] at H
      by_cases c3 : x6_1 = true
      · subst c3
        have H1 : (if a1 = 0 then (none) else (if 0 ≤ (Int.tmod x0_1 a1) then (if (Int.tmod x0_1 a1) ≤ (IntKind.u64.wrap ((Int.tmod x0_1 a1) + 1)) then (if (IntKind.u64.wrap ((Int.tmod x0_1 a1) + 1)) ≤ 16 then (if ((⟨#[48, 49, 50, 51, 52, 53, 54, 55, 56, 57, 97, 98, 99, 100, 101, 102]⟩ : ByteArray).extract ((Int.tmod x0_1 a1) : Int).toNat ((IntKind.u64.wrap ((Int.tmod x0_1 a1) + 1)) : Int).toNat).size + x5_1.size ≤ 9223372036854775807 then (num_based.l0 k1 (IntKind.u64.wrap (Int.tdiv x0_1 a1)) a1 (((⟨#[48, 49, 50, 51, 52, 53, 54, 55, 56, 57, 97, 98, 99, 100, 101, 102]⟩ : ByteArray).extract ((Int.tmod x0_1 a1) : Int).toNat ((IntKind.u64.wrap ((Int.tmod x0_1 a1) + 1)) : Int).toNat) ++ x5_1) (decide ((IntKind.u64.wrap (Int.tdiv x0_1 a1)) > 0))) else (none)) else (none)) else (none)) else (none))) = some r := by rw [if_pos rfl] at H; exact H
        clear H
        have H := H1
        clear H1
        by_cases c4 : a1 = 0
        · rw [if_pos c4] at H
          exact absurd H (by simp)
        · rw [if_neg c4] at H
          have c4b0 : (a1 == 0) = false := beq_eq_false_iff_ne.mpr c4
          have c4b1 : (a1 != 0) = true := bne_iff_ne.mpr c4
          obtain ⟨ji5, hji5⟩ : ∃ j_ : Int, (Int.tmod x0_1 a1) = j_ := ⟨_, rfl⟩
          replace H : (if 0 ≤ (ji5) then (if (ji5) ≤ (IntKind.u64.wrap ((ji5) + 1)) then (if (IntKind.u64.wrap ((ji5) + 1)) ≤ 16 then (if ((⟨#[48, 49, 50, 51, 52, 53, 54, 55, 56, 57, 97, 98, 99, 100, 101, 102]⟩ : ByteArray).extract ((ji5) : Int).toNat ((IntKind.u64.wrap ((ji5) + 1)) : Int).toNat).size + x5_1.size ≤ 9223372036854775807 then (num_based.l0 k1 (IntKind.u64.wrap (Int.tdiv x0_1 a1)) a1 (((⟨#[48, 49, 50, 51, 52, 53, 54, 55, 56, 57, 97, 98, 99, 100, 101, 102]⟩ : ByteArray).extract ((ji5) : Int).toNat ((IntKind.u64.wrap ((ji5) + 1)) : Int).toNat) ++ x5_1) (decide ((IntKind.u64.wrap (Int.tdiv x0_1 a1)) > 0))) else (none)) else (none)) else (none)) else (none)) = some r := by first | (rw [hji5] at H; exact H) | (simp only [hji5] at H ⊢; exact H)
          by_cases c6 : 0 ≤ (ji5)
          · rw [if_pos c6] at H
            have c6b0 := eq_true c6
            have c6b1 : decide (0 ≤ (ji5)) = true := decide_eq_true c6
            clear c6
            by_cases c7 : (ji5) ≤ (IntKind.u64.wrap ((ji5) + 1))
            · rw [if_pos c7] at H
              have c7b0 := eq_true c7
              have c7b1 : decide ((ji5) ≤ (IntKind.u64.wrap ((ji5) + 1))) = true := decide_eq_true c7
              by_cases c8 : (IntKind.u64.wrap ((ji5) + 1)) ≤ 16
              · rw [if_pos c8] at H
                have c8b0 := eq_true c8
                have c8b1 : decide ((IntKind.u64.wrap ((ji5) + 1)) ≤ 16) = true := decide_eq_true c8
                by_cases c9 : ((⟨#[48, 49, 50, 51, 52, 53, 54, 55, 56, 57, 97, 98, 99, 100, 101, 102]⟩ : ByteArray).extract ((ji5) : Int).toNat ((IntKind.u64.wrap ((ji5) + 1)) : Int).toNat).size + x5_1.size ≤ 9223372036854775807
                · rw [if_pos c9] at H
                  have c9b0 := eq_true c9
                  have c9b1 : decide (((⟨#[48, 49, 50, 51, 52, 53, 54, 55, 56, 57, 97, 98, 99, 100, 101, 102]⟩ : ByteArray).extract ((ji5) : Int).toNat ((IntKind.u64.wrap ((ji5) + 1)) : Int).toNat).size + x5_1.size ≤ 9223372036854775807) = true := decide_eq_true c9
                  try have c9b2 : (9223372036854775807 < ((⟨#[48, 49, 50, 51, 52, 53, 54, 55, 56, 57, 97, 98, 99, 100, 101, 102]⟩ : ByteArray).extract ((ji5) : Int).toNat ((IntKind.u64.wrap ((ji5) + 1)) : Int).toNat).size + x5_1.size) = False := eq_false (Nat.not_lt.2 c9)
                  have H' := Aside0.mk H
                  clear H
                  go_wp2
                  repeat (go_quiet (fail); try go_wp2)
                  go_roundg k1
                  case measure => have := HK1.out; omega
                  case rel => exact ⟨(IntKind.u64.wrap (Int.tdiv x0_1 a1)), (((⟨#[48, 49, 50, 51, 52, 53, 54, 55, 56, 57, 97, 98, 99, 100, 101, 102]⟩ : ByteArray).extract ((ji5) : Int).toNat ((IntKind.u64.wrap ((ji5) + 1)) : Int).toNat) ++ x5_1), (decide ((IntKind.u64.wrap (Int.tdiv x0_1 a1)) > 0)), (by first | rfl | (simp; done) | (simp [*]; done) | (simp [isEmpty_bne]; done) | (simp; simp only [wrap64]; omega) | (simp [*]; simp only [wrap64]; omega)), (by first | rfl | (simp; done) | (simp only [← hji5] <;> (first | rfl | simp)) | (simp [*]; done)), (by first | rfl | (simp; done) | (simp [*]; done) | (simp [isEmpty_bne]; done) | (simp; simp only [wrap64]; omega) | (simp [*]; simp only [wrap64]; omega)), H', ⟨by have := HK1.out; omega⟩, by repeat (first | exact Drawn0.refl _ | apply Drawn0.step)⟩
                · rw [if_neg c9] at H
                  exact absurd H (by simp)
              · rw [if_neg c8] at H
                exact absurd H (by simp)
            · rw [if_neg c7] at H
              exact absurd H (by simp)
          · rw [if_neg c6] at H
            exact absurd H (by simp)
      · replace c3 := Bool.eq_false_iff.mpr c3
        subst c3
        have H1 : (some x5_1) = some r := by rw [if_neg (show ¬ (false = true) by decide)] at H; exact H
        clear H
        have H := H1
        clear H1
        obtain rfl := Option.some.inj H
        go_wp2
        repeat (go_quiet (fail); try go_wp2)
        go_ret
        exact ⟨by first | rfl | (simp; done) | (simp [*]; done) | (simp [isEmpty_bne]; done) | (simp; simp only [wrap64]; omega) | (simp [*]; simp only [wrap64]; omega), by repeat (first | exact Drawn0.refl _ | apply Drawn0.step)⟩

end Go.Proofs.YtedmjlflppckmaaGreatDoor.PK

namespace Go.Proofs.YtedmjlflppckmaaGreatDoor.PK
open Go.RowKit Go.Proofs.YtedmjlflppckmaaGreatDoorW.PrintWords Go.Proofs.YtedmjlflppckmaaGreatDoorW.PrintLast Go.Proofs.YtedmjlflppckmaaGreatDoorW.PrintMore
open Go.Proofs.YtedmjlflppckmaaGreatDoor.Pre
attribute [local go_sem] max2_int min2_int max_two min_two max_three min_three max_four min_four binOp_gtr_str binOp_leq_str binOp_geq_str

/-! ### num_Print: function 39 -/
def num_Print.f (k : Nat) (a0 : Int) : Option (ByteArray) := if a0 < 0 then ((num_based.f k (IntKind.u64.wrap (-(IntKind.u64.wrap (a0)))) 10).bind fun t104 => (if 1 + t104.size ≤ 9223372036854775807 then (some ((⟨#[45]⟩ : ByteArray) ++ t104)) else (none))) else ((num_based.f k (IntKind.u64.wrap (a0)) 10).bind fun t105 => (some t105))
theorem num_Print.mono : ∀ a0 k, LeO (num_Print.f k a0) (num_Print.f (k + 1) a0) := by
  intro a0 k
  unfold num_Print.f
  repeat' first
      | (with_reducible exact num_based.mono _ _ _)
      | (with_reducible exact LeO.refl _)
      | (with_reducible exact LeO.none _)
      | (with_reducible refine LeO.ite ?_ ?_)
      | (with_reducible refine LeO.bind ?_ (fun _ => ?_))
      | exact num_based.mono _ _ _
      | exact LeO.none _
      | refine LeO.ite ?_ ?_
      | refine LeO.bind ?_ (fun _ => ?_)
set_option maxHeartbeats 8000000 in
set_option maxRecDepth 100000 in
theorem num_Print.calls (k : Nat) (a0 : Int) (r : ByteArray) (w : World) (h : num_Print.f k a0 = some r) :
    Calls Tryz.prog 39 #[.int .i64 a0] w fun e w' => e = .returned (.string r) ∧ Drawn0 w w' := by
  have H : (if a0 < 0 then ((num_based.f k (IntKind.u64.wrap (-(IntKind.u64.wrap (a0)))) 10).bind fun t104 => (if 1 + t104.size ≤ 9223372036854775807 then (some ((⟨#[45]⟩ : ByteArray) ++ t104)) else (none))) else ((num_based.f k (IntKind.u64.wrap (a0)) 10).bind fun t105 => (some t105))) = some r := h
  clear h
  by_cases c2 : a0 < 0
  · rw [if_pos c2] at H
    have c2b0 : decide (a0 < 0) = true := decide_eq_true c2
    clear c2
    replace H := Option.bind_eq_some_iff.mp H
    obtain ⟨t104, A30, H⟩ := H
    replace H : (if 1 + t104.size ≤ 9223372036854775807 then (some ((⟨#[45]⟩ : ByteArray) ++ t104)) else (none)) = some r := H
    have A3 := Aside0.mk A30
    clear A30
    by_cases c4 : 1 + t104.size ≤ 9223372036854775807
    · rw [if_pos c4] at H
      have c4b0 := eq_true c4
      have c4b1 : decide (1 + t104.size ≤ 9223372036854775807) = true := decide_eq_true c4
      try have c4b2 : (9223372036854775807 < 1 + t104.size) = False := eq_false (Nat.not_lt.2 c4)
      obtain rfl := Option.some.inj H
      go_enter Tryz.func39, Tryz.ntmps39
      go_wp2_with (first | ((with_reducible refine gate_callee (f := 70) rfl ?_); refine goesL_ (some 8) rfl rfl Tryz.func70 (by kernel_rfl) rfl #[.int .u64 (IntKind.u64.wrap (-(IntKind.u64.wrap (a0)))), .int .u64 10] rfl (by (try simp only [List.map_toArray, List.map_cons, List.map_nil]); first | done | rfl | (simp only [List.length_drop, List.length_take]; rfl)) ?_; (with_reducible refine (num_based.calls k (IntKind.u64.wrap (-(IntKind.u64.wrap (a0)))) 10 t104 _ A3.out).mono ?_); rintro e w' ⟨rfl, ⟨nd, rfl⟩⟩; refine ⟨_, rfl, ?_⟩))
      go_ret
      exact ⟨by first | rfl | (simp; done) | (simp [*]; done) | (simp [isEmpty_bne]; done) | (simp; simp only [wrap64]; omega) | (simp [*]; simp only [wrap64]; omega), by repeat (first | exact Drawn0.refl _ | apply Drawn0.step)⟩
    · rw [if_neg c4] at H
      exact absurd H (by simp)
  · rw [if_neg c2] at H
    have c2b0 : decide (a0 < 0) = false := decide_eq_false c2
    clear c2
    replace H := Option.bind_eq_some_iff.mp H
    obtain ⟨t105, A50, H⟩ := H
    replace H : (some t105) = some r := H
    have A5 := Aside0.mk A50
    clear A50
    obtain rfl := Option.some.inj H
    go_enter Tryz.func39, Tryz.ntmps39
    go_wp2_with (first | ((with_reducible refine gate_callee (f := 70) rfl ?_); refine goesL_ (some 12) rfl rfl Tryz.func70 (by kernel_rfl) rfl #[.int .u64 (IntKind.u64.wrap (a0)), .int .u64 10] rfl (by (try simp only [List.map_toArray, List.map_cons, List.map_nil]); first | done | rfl | (simp only [List.length_drop, List.length_take]; rfl)) ?_; (with_reducible refine (num_based.calls k (IntKind.u64.wrap (a0)) 10 t105 _ A5.out).mono ?_); rintro e w' ⟨rfl, ⟨nd, rfl⟩⟩; refine ⟨_, rfl, ?_⟩))
    go_ret
    exact ⟨by first | rfl | (simp; done) | (simp [*]; done) | (simp [isEmpty_bne]; done) | (simp; simp only [wrap64]; omega) | (simp [*]; simp only [wrap64]; omega), by repeat (first | exact Drawn0.refl _ | apply Drawn0.step)⟩

end Go.Proofs.YtedmjlflppckmaaGreatDoor.PK

namespace Go.Proofs.YtedmjlflppckmaaGreatDoor.PK
open Go.RowKit Go.Proofs.YtedmjlflppckmaaGreatDoorW.PrintWords Go.Proofs.YtedmjlflppckmaaGreatDoorW.PrintLast Go.Proofs.YtedmjlflppckmaaGreatDoorW.PrintMore
open Go.Proofs.YtedmjlflppckmaaGreatDoor.Pre
attribute [local go_sem] max2_int min2_int max_two min_two max_three min_three max_four min_four binOp_gtr_str binOp_leq_str binOp_geq_str

/-! ### route_ident: function 16 -/
def route_ident.f (k : Nat) (a0 : ByteArray) : Option (Int × Bool) := (num_Parse.f k a0).bind fun bt106 => (if bt106.2 = 0 then (if bt106.1 > 0 then ((num_Print.f k bt106.1).bind fun t108 => (some (bt106.1, (t108.toList == a0.toList)))) else (some (bt106.1, false))) else (some (bt106.1, false)))
theorem route_ident.mono : ∀ a0 k, LeO (route_ident.f k a0) (route_ident.f (k + 1) a0) := by
  intro a0 k
  unfold route_ident.f
  repeat' first
      | (with_reducible exact num_Parse.mono _ _)
      | (with_reducible exact num_Print.mono _ _)
      | (with_reducible exact LeO.refl _)
      | (with_reducible exact LeO.none _)
      | (with_reducible refine LeO.ite ?_ ?_)
      | (with_reducible refine LeO.bind ?_ (fun _ => ?_))
      | exact num_Parse.mono _ _
      | exact num_Print.mono _ _
      | exact LeO.none _
      | refine LeO.ite ?_ ?_
      | refine LeO.bind ?_ (fun _ => ?_)
set_option maxHeartbeats 8000000 in
set_option maxRecDepth 100000 in
theorem route_ident.calls (k : Nat) (a0 : ByteArray) (r1 : Int) (r2 : Bool) (w : World) (h : route_ident.f k a0 = some (r1, r2)) :
    Calls Tryz.prog 16 #[.string a0] w fun e w' => e = .returned (.tuple #[.int .i64 r1, .bool r2]) ∧ Drawn0 w w' := by
  have H : ((num_Parse.f k a0).bind fun bt106 => (if bt106.2 = 0 then (if bt106.1 > 0 then ((num_Print.f k bt106.1).bind fun t108 => (some (bt106.1, (t108.toList == a0.toList)))) else (some (bt106.1, false))) else (some (bt106.1, false)))) = some (r1, r2) := h
  clear h
  replace H := Option.bind_eq_some_iff.mp H
  obtain ⟨⟨t106, t107⟩, A20, H⟩ := H
  replace H : (if t107 = 0 then (if t106 > 0 then ((num_Print.f k t106).bind fun t108 => (some (t106, (t108.toList == a0.toList)))) else (some (t106, false))) else (some (t106, false))) = some (r1, r2) := H
  have A2 := Aside0.mk A20
  clear A20
  by_cases c3 : t107 = 0
  · rw [if_pos c3] at H
    have c3b0 : (t107 == 0) = true := beq_iff_eq.mpr c3
    have c3b1 : (t107 != 0) = false := bne_eq_false_iff_eq.mpr c3
    clear c3
    by_cases c4 : t106 > 0
    · rw [if_pos c4] at H
      have c4b0 : decide (0 < t106) = true := decide_eq_true c4
      clear c4
      replace H := Option.bind_eq_some_iff.mp H
      obtain ⟨t108, A50, H⟩ := H
      replace H : (some (t106, (t108.toList == a0.toList))) = some (r1, r2) := H
      have A5 := Aside0.mk A50
      clear A50
      simp only [Option.some.injEq, Prod.mk.injEq] at H
      obtain ⟨rfl, rfl⟩ := H
      go_enter Tryz.func16, Tryz.ntmps16
      go_wp2_with (first | ((with_reducible refine gate_callee (f := 38) rfl ?_); refine goesL_ (some 8) rfl rfl Tryz.func38 (by kernel_rfl) rfl #[.string a0] rfl (by (try simp only [List.map_toArray, List.map_cons, List.map_nil]); first | done | rfl | (simp only [List.length_drop, List.length_take]; rfl)) ?_; (with_reducible refine (num_Parse.calls k a0 t106 t107 _ A2.out).mono ?_); rintro e w' ⟨rfl, ⟨nd, rfl⟩⟩; refine ⟨_, rfl, ?_⟩) | (go_at_call 39; (with_reducible refine (num_Print.calls k t106 t108 _ A5.out).mono ?_); rintro e w' ⟨rfl, ⟨nd, rfl⟩⟩))
      go_ret2
      exact ⟨by first | rfl | (simp; done) | (simp [*]; done) | (simp [isEmpty_bne]; done) | (simp; simp only [wrap64]; omega) | (simp [*]; simp only [wrap64]; omega), by repeat (first | exact Drawn0.refl _ | apply Drawn0.step)⟩
    · rw [if_neg c4] at H
      have c4b0 : decide (0 < t106) = false := decide_eq_false c4
      clear c4
      simp only [Option.some.injEq, Prod.mk.injEq] at H
      obtain ⟨rfl, rfl⟩ := H
      go_enter Tryz.func16, Tryz.ntmps16
      go_wp2_with (first | ((with_reducible refine gate_callee (f := 38) rfl ?_); refine goesL_ (some 8) rfl rfl Tryz.func38 (by kernel_rfl) rfl #[.string a0] rfl (by (try simp only [List.map_toArray, List.map_cons, List.map_nil]); first | done | rfl | (simp only [List.length_drop, List.length_take]; rfl)) ?_; (with_reducible refine (num_Parse.calls k a0 t106 t107 _ A2.out).mono ?_); rintro e w' ⟨rfl, ⟨nd, rfl⟩⟩; refine ⟨_, rfl, ?_⟩))
      go_ret2
      exact ⟨by first | rfl | (simp; done) | (simp [*]; done) | (simp [isEmpty_bne]; done) | (simp; simp only [wrap64]; omega) | (simp [*]; simp only [wrap64]; omega), by repeat (first | exact Drawn0.refl _ | apply Drawn0.step)⟩
  · rw [if_neg c3] at H
    have c3b0 : (t107 == 0) = false := beq_eq_false_iff_ne.mpr c3
    have c3b1 : (t107 != 0) = true := bne_iff_ne.mpr c3
    simp only [Option.some.injEq, Prod.mk.injEq] at H
    obtain ⟨rfl, rfl⟩ := H
    go_enter Tryz.func16, Tryz.ntmps16
    go_wp2_with (first | ((with_reducible refine gate_callee (f := 38) rfl ?_); refine goesL_ (some 8) rfl rfl Tryz.func38 (by kernel_rfl) rfl #[.string a0] rfl (by (try simp only [List.map_toArray, List.map_cons, List.map_nil]); first | done | rfl | (simp only [List.length_drop, List.length_take]; rfl)) ?_; (with_reducible refine (num_Parse.calls k a0 t106 t107 _ A2.out).mono ?_); rintro e w' ⟨rfl, ⟨nd, rfl⟩⟩; refine ⟨_, rfl, ?_⟩))
    go_ret2
    exact ⟨by first | rfl | (simp; done) | (simp [*]; done) | (simp [isEmpty_bne]; done) | (simp; simp only [wrap64]; omega) | (simp [*]; simp only [wrap64]; omega), by repeat (first | exact Drawn0.refl _ | apply Drawn0.step)⟩

end Go.Proofs.YtedmjlflppckmaaGreatDoor.PK

namespace Go.Proofs.YtedmjlflppckmaaGreatDoor.PK
open Go.RowKit Go.Proofs.YtedmjlflppckmaaGreatDoorW.PrintWords Go.Proofs.YtedmjlflppckmaaGreatDoorW.PrintLast Go.Proofs.YtedmjlflppckmaaGreatDoorW.PrintMore
open Go.Proofs.YtedmjlflppckmaaGreatDoor.Pre
attribute [local go_sem] max2_int min2_int max_two min_two max_three min_three max_four min_four binOp_gtr_str binOp_leq_str binOp_geq_str

/-! ### route_ofOne: function 17 -/
def route_ofOne.f (a0 : ByteArray) : Option (Int) := if a0.toList = ([71, 69, 84] : List UInt8) then (some 3) else (if a0.toList = ([80, 85, 84] : List UInt8) then (some 4) else (if a0.toList = ([68, 69, 76, 69, 84, 69] : List UInt8) then (some 5) else (some 0)))
set_option maxHeartbeats 8000000 in
set_option maxRecDepth 100000 in
theorem route_ofOne.calls (a0 : ByteArray) (r : Int) (w : World) (h : route_ofOne.f a0 = some r) :
    Calls Tryz.prog 17 #[.string a0] w fun e w' => e = .returned (.int .i64 r) ∧ Drawn0 w w' := by
  have H : (if a0.toList = ([71, 69, 84] : List UInt8) then (some 3) else (if a0.toList = ([80, 85, 84] : List UInt8) then (some 4) else (if a0.toList = ([68, 69, 76, 69, 84, 69] : List UInt8) then (some 5) else (some 0)))) = some r := h
  clear h
  by_cases c2 : a0.toList = ([71, 69, 84] : List UInt8)
  · rw [if_pos c2] at H
    have c2b0 : (a0.toList == ([71, 69, 84] : List UInt8)) = true := beq_iff_eq.mpr c2
    have c2b1 : (a0.toList != ([71, 69, 84] : List UInt8)) = false := bne_eq_false_iff_eq.mpr c2
    clear c2
    obtain rfl := Option.some.inj H
    go_enter Tryz.func17, Tryz.ntmps17
    go_wp2
    go_ret
    exact ⟨by first | rfl | (simp; done) | (simp [*]; done) | (simp [isEmpty_bne]; done) | (simp; simp only [wrap64]; omega) | (simp [*]; simp only [wrap64]; omega), by repeat (first | exact Drawn0.refl _ | apply Drawn0.step)⟩
  · rw [if_neg c2] at H
    have c2b0 : (a0.toList == ([71, 69, 84] : List UInt8)) = false := beq_eq_false_iff_ne.mpr c2
    have c2b1 : (a0.toList != ([71, 69, 84] : List UInt8)) = true := bne_iff_ne.mpr c2
    by_cases c3 : a0.toList = ([80, 85, 84] : List UInt8)
    · rw [if_pos c3] at H
      have c3b0 : (a0.toList == ([80, 85, 84] : List UInt8)) = true := beq_iff_eq.mpr c3
      have c3b1 : (a0.toList != ([80, 85, 84] : List UInt8)) = false := bne_eq_false_iff_eq.mpr c3
      clear c3
      obtain rfl := Option.some.inj H
      go_enter Tryz.func17, Tryz.ntmps17
      go_wp2
      go_ret
      exact ⟨by first | rfl | (simp; done) | (simp [*]; done) | (simp [isEmpty_bne]; done) | (simp; simp only [wrap64]; omega) | (simp [*]; simp only [wrap64]; omega), by repeat (first | exact Drawn0.refl _ | apply Drawn0.step)⟩
    · rw [if_neg c3] at H
      have c3b0 : (a0.toList == ([80, 85, 84] : List UInt8)) = false := beq_eq_false_iff_ne.mpr c3
      have c3b1 : (a0.toList != ([80, 85, 84] : List UInt8)) = true := bne_iff_ne.mpr c3
      by_cases c4 : a0.toList = ([68, 69, 76, 69, 84, 69] : List UInt8)
      · rw [if_pos c4] at H
        have c4b0 : (a0.toList == ([68, 69, 76, 69, 84, 69] : List UInt8)) = true := beq_iff_eq.mpr c4
        have c4b1 : (a0.toList != ([68, 69, 76, 69, 84, 69] : List UInt8)) = false := bne_eq_false_iff_eq.mpr c4
        clear c4
        obtain rfl := Option.some.inj H
        go_enter Tryz.func17, Tryz.ntmps17
        go_wp2
        go_ret
        exact ⟨by first | rfl | (simp; done) | (simp [*]; done) | (simp [isEmpty_bne]; done) | (simp; simp only [wrap64]; omega) | (simp [*]; simp only [wrap64]; omega), by repeat (first | exact Drawn0.refl _ | apply Drawn0.step)⟩
      · rw [if_neg c4] at H
        have c4b0 : (a0.toList == ([68, 69, 76, 69, 84, 69] : List UInt8)) = false := beq_eq_false_iff_ne.mpr c4
        have c4b1 : (a0.toList != ([68, 69, 76, 69, 84, 69] : List UInt8)) = true := bne_iff_ne.mpr c4
        obtain rfl := Option.some.inj H
        go_enter Tryz.func17, Tryz.ntmps17
        go_wp2
        go_ret
        exact ⟨by first | rfl | (simp; done) | (simp [*]; done) | (simp [isEmpty_bne]; done) | (simp; simp only [wrap64]; omega) | (simp [*]; simp only [wrap64]; omega), by repeat (first | exact Drawn0.refl _ | apply Drawn0.step)⟩

end Go.Proofs.YtedmjlflppckmaaGreatDoor.PK

namespace Go.Proofs.YtedmjlflppckmaaGreatDoor.PK
open Go.RowKit Go.Proofs.YtedmjlflppckmaaGreatDoorW.PrintWords Go.Proofs.YtedmjlflppckmaaGreatDoorW.PrintLast Go.Proofs.YtedmjlflppckmaaGreatDoorW.PrintMore
open Go.Proofs.YtedmjlflppckmaaGreatDoor.Pre
attribute [local go_sem] max2_int min2_int max_two min_two max_three min_three max_four min_four binOp_gtr_str binOp_leq_str binOp_geq_str

/-! ### route_Kind: function 6 -/
def route_Kind.j0 : Nat → Int → Int → Bool → Option (Int × Int × Int)
  | 0, _, _, _ => none
  | k + 1, x9, x11, x42 => if x42 = true then (some (0, 0, 404)) else (if x11 = 0 then (some (0, 0, 405)) else (some (x11, x9, 0)))
def route_Kind.f (k : Nat) (a0 : ByteArray) (l1 : List ByteArray) : Option (Int × Int × Int) := if (l1.length : Int) = 1 then (if 0 < (l1.length : Int) then ((route_single.f (rdOf ByteArray.empty l1 0)).bind fun bt110 => (if bt110.1 = 0 then (some (0, 0, 404)) else (if bt110.2.toList = a0.toList then (some (bt110.1, 0, 0)) else (some (0, 0, 405))))) else (none)) else (if (l1.length : Int) = 2 then (if 1 < (l1.length : Int) then ((route_ident.f k (rdOf ByteArray.empty l1 1)).bind fun bt113 => ((route_ofOne.f a0).bind fun t115 => (if 0 < (l1.length : Int) then (if (rdOf ByteArray.empty l1 0).toList = ([115, 105, 108, 101, 110, 99, 101, 115] : List UInt8) then (route_Kind.j0 k bt113.1 t115 (!bt113.2)) else (route_Kind.j0 k bt113.1 t115 true)) else (none)))) else (none)) else (some (0, 0, 404)))
theorem route_Kind.mono_l : ∀ k, (∀ y0 y1 y2, LeO (route_Kind.j0 k y0 y1 y2) (route_Kind.j0 (k + 1) y0 y1 y2))
  | 0 => fun _ _ _ r h => by simp [route_Kind.j0] at h
  | k + 1 => by
    have ih0 := route_Kind.mono_l k
    · intro y0 y1 y2
      unfold route_Kind.j0
      repeat' first
      | (with_reducible exact ih0 _ _ _)
      | (with_reducible exact route_ident.mono _ _)
      | (with_reducible exact LeO.refl _)
      | (with_reducible exact LeO.none _)
      | (with_reducible refine LeO.ite ?_ ?_)
      | (with_reducible refine LeO.bind ?_ (fun _ => ?_))
      | exact ih0 _ _ _
      | exact route_ident.mono _ _
      | exact LeO.none _
      | refine LeO.ite ?_ ?_
      | refine LeO.bind ?_ (fun _ => ?_)
theorem route_Kind.mono : ∀ a0 a1 k, LeO (route_Kind.f k a0 a1) (route_Kind.f (k + 1) a0 a1) := by
  intro a0 a1 k
  have ih0 := route_Kind.mono_l k
  unfold route_Kind.f
  repeat' first
      | (with_reducible exact ih0 _ _ _)
      | (with_reducible exact route_ident.mono _ _)
      | (with_reducible exact LeO.refl _)
      | (with_reducible exact LeO.none _)
      | (with_reducible refine LeO.ite ?_ ?_)
      | (with_reducible refine LeO.bind ?_ (fun _ => ?_))
      | exact ih0 _ _ _
      | exact route_ident.mono _ _
      | exact LeO.none _
      | refine LeO.ite ?_ ?_
      | refine LeO.bind ?_ (fun _ => ?_)
set_option maxHeartbeats 8000000 in
set_option maxRecDepth 100000 in
theorem route_Kind.calls (k : Nat) (a0 : ByteArray) (A1 : Option Addr) (c1 : Nat) (l1 : List ByteArray) (r1 : Int) (r2 : Int) (r3 : Int) (w : World) (hr1 : Kd.C Kd.string w A1 l1.length l1) (hc1 : l1.length ≤ c1) (h : route_Kind.f k a0 l1 = some (r1, r2, r3)) :
    Calls Tryz.prog 6 #[.string a0, .slice A1 l1.length c1] w fun e w' => e = .returned (.tuple #[.int .i64 r1, .int .i64 r2, .int .i64 r3]) ∧ Drawn0 w w' := by
  have HR1 := Aside0.mk hr1
  have HC1 := Aside0.mk hc1
  clear hr1 hc1
  have H : (if (l1.length : Int) = 1 then (if 0 < (l1.length : Int) then ((route_single.f (rdOf ByteArray.empty l1 0)).bind fun bt110 => (if bt110.1 = 0 then (some (0, 0, 404)) else (if bt110.2.toList = a0.toList then (some (bt110.1, 0, 0)) else (some (0, 0, 405))))) else (none)) else (if (l1.length : Int) = 2 then (if 1 < (l1.length : Int) then ((route_ident.f k (rdOf ByteArray.empty l1 1)).bind fun bt113 => ((route_ofOne.f a0).bind fun t115 => (if 0 < (l1.length : Int) then (if (rdOf ByteArray.empty l1 0).toList = ([115, 105, 108, 101, 110, 99, 101, 115] : List UInt8) then (route_Kind.j0 k bt113.1 t115 (!bt113.2)) else (route_Kind.j0 k bt113.1 t115 true)) else (none)))) else (none)) else (some (0, 0, 404)))) = some (r1, r2, r3) := h
  clear h
  by_cases c3 : (l1.length : Int) = 1
  · rw [if_pos c3] at H
    have c3b0 : ((l1.length : Int) == 1) = true := beq_iff_eq.mpr c3
    have c3b1 : ((l1.length : Int) != 1) = false := bne_eq_false_iff_eq.mpr c3
    clear c3
    by_cases c4 : 0 < (l1.length : Int)
    · rw [if_pos c4] at H
      have c4b0 : decide (0 < (l1.length : Int)) = true := decide_eq_true c4
      have c4b1 : decide (0 < l1.length) = true := decide_eq_true (by omega)
      clear c4
      replace H := Option.bind_eq_some_iff.mp H
      obtain ⟨⟨t110, t111⟩, A50, H⟩ := H
      replace H : (if t110 = 0 then (some (0, 0, 404)) else (if t111.toList = a0.toList then (some (t110, 0, 0)) else (some (0, 0, 405)))) = some (r1, r2, r3) := H
      have A5 := Aside0.mk A50
      clear A50
      by_cases c6 : t110 = 0
      · rw [if_pos c6] at H
        have c6b0 : (t110 == 0) = true := beq_iff_eq.mpr c6
        have c6b1 : (t110 != 0) = false := bne_eq_false_iff_eq.mpr c6
        clear c6
        simp only [Option.some.injEq, Prod.mk.injEq] at H
        obtain ⟨rfl, rfl, rfl⟩ := H
        have p109 : 0 ≤ (0 : Int) := (by omega)
        have q109 : 0 < (l1.length : Int) := of_decide_eq_true (by first | (with_reducible assumption) | assumption)
        obtain ⟨ad109, e109, hx109_0⟩ := Kd.at_string HR1.out 0 p109 q109
        cases e109
        have qi109 : (0 < l1.length) = True := eq_true (by omega)
        (try rw [show ((0 : Int)).toNat = 0 from rfl] at hx109_0)
        (try rw [Addr.add_zero'] at hx109_0)
        replace p109 := eq_true p109
        replace q109 := eq_true q109
        go_enter Tryz.func6, Tryz.ntmps6
        go_wp2_with (first | ((with_reducible refine gate_callee (f := 15) rfl ?_); refine goesL_ (some 20) rfl rfl Tryz.func15 (by kernel_rfl) rfl #[.string (rdOf ByteArray.empty l1 0)] rfl (by (try simp only [List.map_toArray, List.map_cons, List.map_nil]); first | done | rfl | (simp only [List.length_drop, List.length_take]; rfl)) ?_; (with_reducible refine (route_single.calls (rdOf ByteArray.empty l1 0) t110 t111 _ A5.out).mono ?_); rintro e w' ⟨rfl, ⟨nd, rfl⟩⟩; refine ⟨_, rfl, ?_⟩))
        go_ret3
        exact ⟨by first | rfl | (simp; done) | (simp [*]; done) | (simp [isEmpty_bne]; done) | (simp; simp only [wrap64]; omega) | (simp [*]; simp only [wrap64]; omega), by repeat (first | exact Drawn0.refl _ | apply Drawn0.step)⟩
      · rw [if_neg c6] at H
        have c6b0 : (t110 == 0) = false := beq_eq_false_iff_ne.mpr c6
        have c6b1 : (t110 != 0) = true := bne_iff_ne.mpr c6
        by_cases c7 : t111.toList = a0.toList
        · rw [if_pos c7] at H
          have c7b0 : (t111.toList == a0.toList) = true := beq_iff_eq.mpr c7
          have c7b1 : (t111.toList != a0.toList) = false := bne_eq_false_iff_eq.mpr c7
          clear c7
          simp only [Option.some.injEq, Prod.mk.injEq] at H
          obtain ⟨rfl, rfl, rfl⟩ := H
          have p109 : 0 ≤ (0 : Int) := (by omega)
          have q109 : 0 < (l1.length : Int) := of_decide_eq_true (by first | (with_reducible assumption) | assumption)
          obtain ⟨ad109, e109, hx109_0⟩ := Kd.at_string HR1.out 0 p109 q109
          cases e109
          have qi109 : (0 < l1.length) = True := eq_true (by omega)
          (try rw [show ((0 : Int)).toNat = 0 from rfl] at hx109_0)
          (try rw [Addr.add_zero'] at hx109_0)
          replace p109 := eq_true p109
          replace q109 := eq_true q109
          go_enter Tryz.func6, Tryz.ntmps6
          go_wp2_with (first | ((with_reducible refine gate_callee (f := 15) rfl ?_); refine goesL_ (some 20) rfl rfl Tryz.func15 (by kernel_rfl) rfl #[.string (rdOf ByteArray.empty l1 0)] rfl (by (try simp only [List.map_toArray, List.map_cons, List.map_nil]); first | done | rfl | (simp only [List.length_drop, List.length_take]; rfl)) ?_; (with_reducible refine (route_single.calls (rdOf ByteArray.empty l1 0) t110 t111 _ A5.out).mono ?_); rintro e w' ⟨rfl, ⟨nd, rfl⟩⟩; refine ⟨_, rfl, ?_⟩))
          go_ret3
          exact ⟨by first | rfl | (simp; done) | (simp [*]; done) | (simp [isEmpty_bne]; done) | (simp; simp only [wrap64]; omega) | (simp [*]; simp only [wrap64]; omega), by repeat (first | exact Drawn0.refl _ | apply Drawn0.step)⟩
        · rw [if_neg c7] at H
          have c7b0 : (t111.toList == a0.toList) = false := beq_eq_false_iff_ne.mpr c7
          have c7b1 : (t111.toList != a0.toList) = true := bne_iff_ne.mpr c7
          simp only [Option.some.injEq, Prod.mk.injEq] at H
          obtain ⟨rfl, rfl, rfl⟩ := H
          have p109 : 0 ≤ (0 : Int) := (by omega)
          have q109 : 0 < (l1.length : Int) := of_decide_eq_true (by first | (with_reducible assumption) | assumption)
          obtain ⟨ad109, e109, hx109_0⟩ := Kd.at_string HR1.out 0 p109 q109
          cases e109
          have qi109 : (0 < l1.length) = True := eq_true (by omega)
          (try rw [show ((0 : Int)).toNat = 0 from rfl] at hx109_0)
          (try rw [Addr.add_zero'] at hx109_0)
          replace p109 := eq_true p109
          replace q109 := eq_true q109
          go_enter Tryz.func6, Tryz.ntmps6
          go_wp2_with (first | ((with_reducible refine gate_callee (f := 15) rfl ?_); refine goesL_ (some 20) rfl rfl Tryz.func15 (by kernel_rfl) rfl #[.string (rdOf ByteArray.empty l1 0)] rfl (by (try simp only [List.map_toArray, List.map_cons, List.map_nil]); first | done | rfl | (simp only [List.length_drop, List.length_take]; rfl)) ?_; (with_reducible refine (route_single.calls (rdOf ByteArray.empty l1 0) t110 t111 _ A5.out).mono ?_); rintro e w' ⟨rfl, ⟨nd, rfl⟩⟩; refine ⟨_, rfl, ?_⟩))
          go_ret3
          exact ⟨by first | rfl | (simp; done) | (simp [*]; done) | (simp [isEmpty_bne]; done) | (simp; simp only [wrap64]; omega) | (simp [*]; simp only [wrap64]; omega), by repeat (first | exact Drawn0.refl _ | apply Drawn0.step)⟩
    · rw [if_neg c4] at H
      exact absurd H (by simp)
  · rw [if_neg c3] at H
    have c3b0 : ((l1.length : Int) == 1) = false := beq_eq_false_iff_ne.mpr c3
    have c3b1 : ((l1.length : Int) != 1) = true := bne_iff_ne.mpr c3
    by_cases c8 : (l1.length : Int) = 2
    · rw [if_pos c8] at H
      have c8b0 : ((l1.length : Int) == 2) = true := beq_iff_eq.mpr c8
      have c8b1 : ((l1.length : Int) != 2) = false := bne_eq_false_iff_eq.mpr c8
      clear c8
      by_cases c9 : 1 < (l1.length : Int)
      · rw [if_pos c9] at H
        have c9b0 : decide (1 < (l1.length : Int)) = true := decide_eq_true c9
        have c9b1 : decide (1 < l1.length) = true := decide_eq_true (by omega)
        clear c9
        replace H := Option.bind_eq_some_iff.mp H
        obtain ⟨⟨t113, t114⟩, A100, H⟩ := H
        replace H : ((route_ofOne.f a0).bind fun t115 => (if 0 < (l1.length : Int) then (if (rdOf ByteArray.empty l1 0).toList = ([115, 105, 108, 101, 110, 99, 101, 115] : List UInt8) then (route_Kind.j0 k t113 t115 (!t114)) else (route_Kind.j0 k t113 t115 true)) else (none))) = some (r1, r2, r3) := H
        have A10 := Aside0.mk A100
        clear A100
        replace H := Option.bind_eq_some_iff.mp H
        obtain ⟨t115, A110, H⟩ := H
        replace H : (if 0 < (l1.length : Int) then (if (rdOf ByteArray.empty l1 0).toList = ([115, 105, 108, 101, 110, 99, 101, 115] : List UInt8) then (route_Kind.j0 k t113 t115 (!t114)) else (route_Kind.j0 k t113 t115 true)) else (none)) = some (r1, r2, r3) := H
        have A11 := Aside0.mk A110
        clear A110
        have HC12 := Aside0.mk H
        clear H
        have p112 : 0 ≤ (1 : Int) := (by omega)
        have q112 : 1 < (l1.length : Int) := of_decide_eq_true (by first | (with_reducible assumption) | assumption)
        obtain ⟨ad112, e112, hx112_0⟩ := Kd.at_string HR1.out 1 p112 q112
        cases e112
        (try simp only [show (1 : Int).toNat = 1 from rfl, Nat.reduceMul, Nat.reduceEqDiff, Go.Addr.add, ↓reduceIte] at hx112_0)
        have qi112 : (1 < l1.length) = True := eq_true (by omega)
        (try rw [show ((1 : Int)).toNat = 1 from rfl] at hx112_0)
        replace p112 := eq_true p112
        replace q112 := eq_true q112
        go_enter Tryz.func6, Tryz.ntmps6
        go_upto_region 12 with (first | ((with_reducible refine gate_callee (f := 16) rfl ?_); refine goesL_ (some 37) rfl rfl Tryz.func16 (by kernel_rfl) rfl #[.string (rdOf ByteArray.empty l1 1)] rfl (by (try simp only [List.map_toArray, List.map_cons, List.map_nil]); first | done | rfl | (simp only [List.length_drop, List.length_take]; rfl)) ?_; (with_reducible refine (route_ident.calls k (rdOf ByteArray.empty l1 1) t113 t114 _ A10.out).mono ?_); rintro e w' ⟨rfl, ⟨nd, rfl⟩⟩; refine ⟨_, rfl, ?_⟩) | ((with_reducible refine gate_callee (f := 17) rfl ?_); refine goesL_ (some 41) rfl rfl Tryz.func17 (by kernel_rfl) rfl #[.string a0] rfl (by (try simp only [List.map_toArray, List.map_cons, List.map_nil]); first | done | rfl | (simp only [List.length_drop, List.length_take]; rfl)) ?_; (with_reducible refine (route_ofOne.calls a0 t115 _ A11.out).mono ?_); rintro e w' ⟨rfl, ⟨nd, rfl⟩⟩; refine ⟨_, rfl, ?_⟩))
        (try simp only [Act.put, List.setIfInBounds_toArray, List.set_cons_zero, List.set_cons_succ])
        go_cut [42] (fun v42 wc => ∃ (kq : Nat) (x42_11 : Bool), v42 = .bool x42_11 ∧ Aside0 (route_Kind.j0 kq t113 t115 x42_11 = some (r1, r2, r3)) ∧ Aside0 (kq ≤ k) ∧ Drawn0 w wc)
        case first =>
          have H := HC12.out
          clear HC12
          by_cases c13 : 0 < (l1.length : Int)
          · rw [if_pos c13] at H
            have c13b0 : decide (0 < (l1.length : Int)) = true := decide_eq_true c13
            have c13b1 : decide (0 < l1.length) = true := decide_eq_true (by omega)
            clear c13
            (first | rw [c13b0] | (simp only [i64_w, i32_w]; rw [c13b0]) | skip)
            by_cases c14 : (rdOf ByteArray.empty l1 0).toList = ([115, 105, 108, 101, 110, 99, 101, 115] : List UInt8)
            · rw [if_pos c14] at H
              have c14b0 : ((rdOf ByteArray.empty l1 0).toList == ([115, 105, 108, 101, 110, 99, 101, 115] : List UInt8)) = true := beq_iff_eq.mpr c14
              have c14b1 : ((rdOf ByteArray.empty l1 0).toList != ([115, 105, 108, 101, 110, 99, 101, 115] : List UInt8)) = false := bne_eq_false_iff_eq.mpr c14
              clear c14
              have H' := Aside0.mk H
              clear H
              have p116 : 0 ≤ (0 : Int) := (by omega)
              have q116 : 0 < (l1.length : Int) := of_decide_eq_true (by first | (with_reducible assumption) | assumption)
              obtain ⟨ad116, e116, hx116_0⟩ := Kd.at_string HR1.out 0 p116 q116
              obtain rfl : ad112 = ad116 := (by injection e116)
              have qi116 : (0 < l1.length) = True := eq_true (by omega)
              (try rw [show ((0 : Int)).toNat = 0 from rfl] at hx116_0)
              (try rw [Addr.add_zero'] at hx116_0)
              replace p116 := eq_true p116
              replace q116 := eq_true q116
              go_wp2
              go_meet
              case rel => exact ⟨_, (!t114), (by first | rfl | (simp; done) | (simp [*]; done) | (simp [isEmpty_bne]; done) | (simp; simp only [wrap64]; omega) | (simp [*]; simp only [wrap64]; omega)), H', ⟨by first | omega | exact Nat.le_refl _⟩, by repeat (first | exact Drawn0.refl _ | apply Drawn0.step)⟩
            · rw [if_neg c14] at H
              have c14b0 : ((rdOf ByteArray.empty l1 0).toList == ([115, 105, 108, 101, 110, 99, 101, 115] : List UInt8)) = false := beq_eq_false_iff_ne.mpr c14
              have c14b1 : ((rdOf ByteArray.empty l1 0).toList != ([115, 105, 108, 101, 110, 99, 101, 115] : List UInt8)) = true := bne_iff_ne.mpr c14
              have H' := Aside0.mk H
              clear H
              have p116 : 0 ≤ (0 : Int) := (by omega)
              have q116 : 0 < (l1.length : Int) := of_decide_eq_true (by first | (with_reducible assumption) | assumption)
              obtain ⟨ad116, e116, hx116_0⟩ := Kd.at_string HR1.out 0 p116 q116
              obtain rfl : ad112 = ad116 := (by injection e116)
              have qi116 : (0 < l1.length) = True := eq_true (by omega)
              (try rw [show ((0 : Int)).toNat = 0 from rfl] at hx116_0)
              (try rw [Addr.add_zero'] at hx116_0)
              replace p116 := eq_true p116
              replace q116 := eq_true q116
              go_wp2
              go_meet
              case rel => exact ⟨_, (true), (by first | rfl | (simp; done) | (simp [*]; done) | (simp [isEmpty_bne]; done) | (simp; simp only [wrap64]; omega) | (simp [*]; simp only [wrap64]; omega)), H', ⟨by first | omega | exact Nat.le_refl _⟩, by repeat (first | exact Drawn0.refl _ | apply Drawn0.step)⟩
          · rw [if_neg c13] at H
            exact absurd H (by simp)
        case rest =>
          clear HC12
          try clear c1
          try clear p1
          try clear q1
          try clear hx1
          try clear qi1
          try clear p2
          try clear c3
          try clear c3b0
          try clear c3b1
          try clear c4
          try clear c4b0
          try clear c4b1
          try clear c6
          try clear c6b0
          try clear c6b1
          try clear c7
          try clear c7b0
          try clear c7b1
          try clear c8
          try clear c8b0
          try clear c8b1
          try clear c9
          try clear c9b0
          try clear c9b1
          try clear p10
          try clear q10
          try clear hx10
          try clear qi10
          try clear p11
          try clear q11
          try clear hx11
          try clear qi11
          try clear c13
          try clear c13b0
          try clear c13b1
          try clear c14
          try clear c14b0
          try clear c14b1
          try clear hx109_0
          try clear hx112_0
          try clear hx116_0
          try clear p109
          try clear p112
          try clear p116
          try clear q109
          try clear q112
          try clear q116
          obtain ⟨kq, x42_11, rfl, HA, HJ11, ⟨mc11, rfl⟩⟩ := hcut
          cases kq with
          | zero => exact absurd HA.out (by simp [route_Kind.j0])
          | succ kj11 =>
            have H := HA.out
            clear HA
            simp only [route_Kind.j0] at H
            by_cases c15 : x42_11 = true
            · subst c15
              have H1 : (some (0, 0, 404)) = some (r1, r2, r3) := by rw [if_pos rfl] at H; exact H
              clear H
              have H := H1
              clear H1
              simp only [Option.some.injEq, Prod.mk.injEq] at H
              obtain ⟨rfl, rfl, rfl⟩ := H
              go_wp2
              go_ret3
              exact ⟨by first | rfl | (simp; done) | (simp [*]; done) | (simp [isEmpty_bne]; done) | (simp; simp only [wrap64]; omega) | (simp [*]; simp only [wrap64]; omega), by repeat (first | exact Drawn0.refl _ | apply Drawn0.step)⟩
            · replace c15 := Bool.eq_false_iff.mpr c15
              subst c15
              have H1 : (if t115 = 0 then (some (0, 0, 405)) else (some (t115, t113, 0))) = some (r1, r2, r3) := by rw [if_neg (show ¬ (false = true) by decide)] at H; exact H
              clear H
              have H := H1
              clear H1
              by_cases c16 : t115 = 0
              · rw [if_pos c16] at H
                have c16b0 : (t115 == 0) = true := beq_iff_eq.mpr c16
                have c16b1 : (t115 != 0) = false := bne_eq_false_iff_eq.mpr c16
                clear c16
                simp only [Option.some.injEq, Prod.mk.injEq] at H
                obtain ⟨rfl, rfl, rfl⟩ := H
                go_wp2
                go_ret3
                exact ⟨by first | rfl | (simp; done) | (simp [*]; done) | (simp [isEmpty_bne]; done) | (simp; simp only [wrap64]; omega) | (simp [*]; simp only [wrap64]; omega), by repeat (first | exact Drawn0.refl _ | apply Drawn0.step)⟩
              · rw [if_neg c16] at H
                have c16b0 : (t115 == 0) = false := beq_eq_false_iff_ne.mpr c16
                have c16b1 : (t115 != 0) = true := bne_iff_ne.mpr c16
                simp only [Option.some.injEq, Prod.mk.injEq] at H
                obtain ⟨rfl, rfl, rfl⟩ := H
                go_wp2
                go_ret3
                exact ⟨by first | rfl | (simp; done) | (simp [*]; done) | (simp [isEmpty_bne]; done) | (simp; simp only [wrap64]; omega) | (simp [*]; simp only [wrap64]; omega), by repeat (first | exact Drawn0.refl _ | apply Drawn0.step)⟩
      · rw [if_neg c9] at H
        exact absurd H (by simp)
    · rw [if_neg c8] at H
      have c8b0 : ((l1.length : Int) == 2) = false := beq_eq_false_iff_ne.mpr c8
      have c8b1 : ((l1.length : Int) != 2) = true := bne_iff_ne.mpr c8
      simp only [Option.some.injEq, Prod.mk.injEq] at H
      obtain ⟨rfl, rfl, rfl⟩ := H
      go_enter Tryz.func6, Tryz.ntmps6
      go_wp2
      go_ret3
      exact ⟨by first | rfl | (simp; done) | (simp [*]; done) | (simp [isEmpty_bne]; done) | (simp; simp only [wrap64]; omega) | (simp [*]; simp only [wrap64]; omega), by repeat (first | exact Drawn0.refl _ | apply Drawn0.step)⟩

end Go.Proofs.YtedmjlflppckmaaGreatDoor.PK

namespace Go.Proofs.YtedmjlflppckmaaGreatDoor.PK
open Go.RowKit Go.Proofs.YtedmjlflppckmaaGreatDoorW.PrintWords Go.Proofs.YtedmjlflppckmaaGreatDoorW.PrintLast Go.Proofs.YtedmjlflppckmaaGreatDoorW.PrintMore
open Go.Proofs.YtedmjlflppckmaaGreatDoor.Pre
attribute [local go_sem] max2_int min2_int max_two min_two max_three min_three max_four min_four binOp_gtr_str binOp_leq_str binOp_geq_str

/-! ### larumref01_is: function 90 -/
def larumref01_is.f (a0 : Int) (a1 : Int) (a2 : Int) : Option (Bool) := if (wrap64 (a0)) ≥ a1 then (some (decide ((wrap64 (a0)) ≤ a2))) else (some false)
set_option maxHeartbeats 8000000 in
set_option maxRecDepth 100000 in
theorem larumref01_is.calls (a0 : Int) (a1 : Int) (a2 : Int) (r : Bool) (w : World) (h : larumref01_is.f a0 a1 a2 = some r) :
    Calls Tryz.prog 90 #[.int .u8 a0, .int .i64 a1, .int .i64 a2] w fun e w' => e = .returned (.bool r) ∧ Drawn0 w w' := by
  have H : (if (wrap64 (a0)) ≥ a1 then (some (decide ((wrap64 (a0)) ≤ a2))) else (some false)) = some r := h
  clear h
  by_cases c4 : (wrap64 (a0)) ≥ a1
  · rw [if_pos c4] at H
    have c4b0 : decide (a1 ≤ (wrap64 (a0))) = true := decide_eq_true c4
    clear c4
    obtain rfl := Option.some.inj H
    go_enter Tryz.func90, Tryz.ntmps90
    go_wp2
    go_ret
    exact ⟨by first | rfl | (simp; done) | (simp [*]; done) | (simp [isEmpty_bne]; done) | (simp; simp only [wrap64]; omega) | (simp [*]; simp only [wrap64]; omega), by repeat (first | exact Drawn0.refl _ | apply Drawn0.step)⟩
  · rw [if_neg c4] at H
    have c4b0 : decide (a1 ≤ (wrap64 (a0))) = false := decide_eq_false c4
    clear c4
    obtain rfl := Option.some.inj H
    go_enter Tryz.func90, Tryz.ntmps90
    go_wp2
    go_ret
    exact ⟨by first | rfl | (simp; done) | (simp [*]; done) | (simp [isEmpty_bne]; done) | (simp; simp only [wrap64]; omega) | (simp [*]; simp only [wrap64]; omega), by repeat (first | exact Drawn0.refl _ | apply Drawn0.step)⟩

end Go.Proofs.YtedmjlflppckmaaGreatDoor.PK

namespace Go.Proofs.YtedmjlflppckmaaGreatDoor.PK
open Go.RowKit Go.Proofs.YtedmjlflppckmaaGreatDoorW.PrintWords Go.Proofs.YtedmjlflppckmaaGreatDoorW.PrintLast Go.Proofs.YtedmjlflppckmaaGreatDoorW.PrintMore
open Go.Proofs.YtedmjlflppckmaaGreatDoor.Pre
attribute [local go_sem] max2_int min2_int max_two min_two max_three min_three max_four min_four binOp_gtr_str binOp_leq_str binOp_geq_str

/-! ### larumref01_Digit: function 71 -/
def larumref01_Digit.f (a0 : Int) : Option (Bool) := (larumref01_is.f a0 48 57).bind fun t117 => (some t117)
set_option maxHeartbeats 8000000 in
set_option maxRecDepth 100000 in
theorem larumref01_Digit.calls (a0 : Int) (r : Bool) (w : World) (h : larumref01_Digit.f a0 = some r) :
    Calls Tryz.prog 71 #[.int .u8 a0] w fun e w' => e = .returned (.bool r) ∧ Drawn0 w w' := by
  have H : ((larumref01_is.f a0 48 57).bind fun t117 => (some t117)) = some r := h
  clear h
  replace H := Option.bind_eq_some_iff.mp H
  obtain ⟨t117, A20, H⟩ := H
  replace H : (some t117) = some r := H
  have A2 := Aside0.mk A20
  clear A20
  obtain rfl := Option.some.inj H
  go_enter Tryz.func71, Tryz.ntmps71
  go_wp2_with (first | ((with_reducible refine gate_callee (f := 90) rfl ?_); refine goesL_ (some 4) rfl rfl Tryz.func90 (by kernel_rfl) rfl #[.int .u8 a0, .int .i64 48, .int .i64 57] rfl (by (try simp only [List.map_toArray, List.map_cons, List.map_nil]); first | done | rfl | (simp only [List.length_drop, List.length_take]; rfl)) ?_; (with_reducible refine (larumref01_is.calls a0 48 57 t117 _ A2.out).mono ?_); rintro e w' ⟨rfl, ⟨nd, rfl⟩⟩; refine ⟨_, rfl, ?_⟩))
  go_ret
  exact ⟨by first | rfl | (simp; done) | (simp [*]; done) | (simp [isEmpty_bne]; done) | (simp; simp only [wrap64]; omega) | (simp [*]; simp only [wrap64]; omega), by repeat (first | exact Drawn0.refl _ | apply Drawn0.step)⟩

end Go.Proofs.YtedmjlflppckmaaGreatDoor.PK

namespace Go.Proofs.YtedmjlflppckmaaGreatDoor.PK
open Go.RowKit Go.Proofs.YtedmjlflppckmaaGreatDoorW.PrintWords Go.Proofs.YtedmjlflppckmaaGreatDoorW.PrintLast Go.Proofs.YtedmjlflppckmaaGreatDoorW.PrintMore
open Go.Proofs.YtedmjlflppckmaaGreatDoor.Pre
attribute [local go_sem] max2_int min2_int max_two min_two max_three min_three max_four min_four binOp_gtr_str binOp_leq_str binOp_geq_str

/-! ### larumref03_all: function 40 -/
def larumref03_all.l0 : Nat → ByteArray → Int → Option (Bool)
  | 0, _, _ => none
  | k + 1, x0, x3 => if x3 < (x0.size : Int) then (if 0 ≤ x3 then ((larumref01_Digit.f (bt x0 x3)).bind fun t118 => (if t118 = true then (larumref03_all.l0 k x0 (wrap64 (x3 + 1))) else (some false))) else (none)) else (some (x0.toList != ([] : List UInt8)))
def larumref03_all.f (k : Nat) (a0 : ByteArray) : Option (Bool) := larumref03_all.l0 k a0 0
theorem larumref03_all.mono_l : ∀ k, (∀ y0 y1, LeO (larumref03_all.l0 k y0 y1) (larumref03_all.l0 (k + 1) y0 y1))
  | 0 => fun _ _ r h => by simp [larumref03_all.l0] at h
  | k + 1 => by
    have ih0 := larumref03_all.mono_l k
    · intro y0 y1
      unfold larumref03_all.l0
      repeat' first
      | (with_reducible exact ih0 _ _)
      | (with_reducible exact LeO.refl _)
      | (with_reducible exact LeO.none _)
      | (with_reducible refine LeO.ite ?_ ?_)
      | (with_reducible refine LeO.bind ?_ (fun _ => ?_))
      | exact ih0 _ _
      | exact LeO.none _
      | refine LeO.ite ?_ ?_
      | refine LeO.bind ?_ (fun _ => ?_)
theorem larumref03_all.mono : ∀ a0 k, LeO (larumref03_all.f k a0) (larumref03_all.f (k + 1) a0) := by
  intro a0 k
  have ih0 := larumref03_all.mono_l k
  unfold larumref03_all.f
  repeat' first
      | (with_reducible exact ih0 _ _)
      | (with_reducible exact LeO.refl _)
      | (with_reducible exact LeO.none _)
      | (with_reducible refine LeO.ite ?_ ?_)
      | (with_reducible refine LeO.bind ?_ (fun _ => ?_))
      | exact ih0 _ _
      | exact LeO.none _
      | refine LeO.ite ?_ ?_
      | refine LeO.bind ?_ (fun _ => ?_)
set_option maxHeartbeats 8000000 in
set_option maxRecDepth 100000 in
theorem larumref03_all.calls (k : Nat) (a0 : ByteArray) (r : Bool) (w : World) (h : larumref03_all.f k a0 = some r) :
    Calls Tryz.prog 40 #[.string a0] w fun e w' => e = .returned (.bool r) ∧ Drawn0 w w' := by
  have H : (larumref03_all.l0 k a0 0) = some r := h
  clear h
  have H' := Aside0.mk H
  clear H
  go_enter Tryz.func40, Tryz.ntmps40
  go_wp2
  go_loopg [3] k (fun kq v3 w' => ∃ (x3_1 : Int), v3 = .int .i64 x3_1 ∧ Aside0 (larumref03_all.l0 kq a0 x3_1 = some r) ∧ Aside0 (kq ≤ k) ∧ Drawn0 w w')
  case atStart => exact ⟨(0), (by first | rfl | (simp; done) | (simp [*]; done) | (simp [isEmpty_bne]; done) | (simp; simp only [wrap64]; omega) | (simp [*]; simp only [wrap64]; omega)), H', ⟨Nat.le_refl _⟩, by repeat (first | exact Drawn0.refl _ | apply Drawn0.step)⟩
  case round =>
    clear H'
    obtain ⟨x3_1, rfl, HA, HK1, ⟨m1, rfl⟩⟩ := hrel
    cases gk with
    | zero => exact absurd HA.out (by simp [larumref03_all.l0])
    | succ k1 =>
      have H := HA.out
      clear HA
      simp only [larumref03_all.l0] at H
      by_cases c2 : x3_1 < (a0.size : Int)
      · rw [if_pos c2] at H
        have c2b0 : decide (x3_1 < (a0.size : Int)) = true := decide_eq_true c2
        clear c2
        by_cases c3 : 0 ≤ x3_1
        · rw [if_pos c3] at H
          have c3b0 : decide (0 ≤ x3_1) = true := decide_eq_true c3
          clear c3
          replace H := Option.bind_eq_some_iff.mp H
          obtain ⟨t118, A50, H⟩ := H
          replace H : (if t118 = true then (larumref03_all.l0 k1 a0 (wrap64 (x3_1 + 1))) else (some false)) = some r := H
          have A5 := Aside0.mk A50
          clear A50
          by_cases c6 : t118 = true
          · subst c6
            have H1 : (larumref03_all.l0 k1 a0 (wrap64 (x3_1 + 1))) = some r := by rw [if_pos rfl] at H; exact H
            clear H
            have H := H1
            clear H1
            have H' := Aside0.mk H
            clear H
            have p4 : 0 ≤ (x3_1 : Int) := of_decide_eq_true (by first | (with_reducible assumption) | assumption)
            have q4 : x3_1 < (a0.size : Int) := of_decide_eq_true (by first | (with_reducible assumption) | assumption)
            have hx4 := bt_at a0 x3_1
            replace p4 := eq_true p4
            replace q4 := eq_true q4
            go_wp2_with (first | ((with_reducible refine gate_callee (f := 71) rfl ?_); refine goesL_ (some 13) rfl rfl Tryz.func71 (by kernel_rfl) rfl #[.int .u8 (bt a0 x3_1)] rfl (by (try simp only [List.map_toArray, List.map_cons, List.map_nil]); first | done | rfl | (simp only [List.length_drop, List.length_take]; rfl)) ?_; (with_reducible refine (larumref01_Digit.calls (bt a0 x3_1) true _ A5.out).mono ?_); rintro e w' ⟨rfl, ⟨nd, rfl⟩⟩; refine ⟨_, rfl, ?_⟩))
            go_roundg k1
            case measure => have := HK1.out; omega
            case rel => exact ⟨(wrap64 (x3_1 + 1)), (by first | rfl | (simp; done) | (simp [*]; done) | (simp [isEmpty_bne]; done) | (simp; simp only [wrap64]; omega) | (simp [*]; simp only [wrap64]; omega)), H', ⟨by have := HK1.out; omega⟩, by repeat (first | exact Drawn0.refl _ | apply Drawn0.step)⟩
          · replace c6 := Bool.eq_false_iff.mpr c6
            subst c6
            have H1 : (some false) = some r := by rw [if_neg (show ¬ (false = true) by decide)] at H; exact H
            clear H
            have H := H1
            clear H1
            obtain rfl := Option.some.inj H
            have p4 : 0 ≤ (x3_1 : Int) := of_decide_eq_true (by first | (with_reducible assumption) | assumption)
            have q4 : x3_1 < (a0.size : Int) := of_decide_eq_true (by first | (with_reducible assumption) | assumption)
            have hx4 := bt_at a0 x3_1
            replace p4 := eq_true p4
            replace q4 := eq_true q4
            go_wp2_with (first | ((with_reducible refine gate_callee (f := 71) rfl ?_); refine goesL_ (some 13) rfl rfl Tryz.func71 (by kernel_rfl) rfl #[.int .u8 (bt a0 x3_1)] rfl (by (try simp only [List.map_toArray, List.map_cons, List.map_nil]); first | done | rfl | (simp only [List.length_drop, List.length_take]; rfl)) ?_; (with_reducible refine (larumref01_Digit.calls (bt a0 x3_1) false _ A5.out).mono ?_); rintro e w' ⟨rfl, ⟨nd, rfl⟩⟩; refine ⟨_, rfl, ?_⟩))
            go_ret
            exact ⟨by first | rfl | (simp; done) | (simp [*]; done) | (simp [isEmpty_bne]; done) | (simp; simp only [wrap64]; omega) | (simp [*]; simp only [wrap64]; omega), by repeat (first | exact Drawn0.refl _ | apply Drawn0.step)⟩
        · rw [if_neg c3] at H
          exact absurd H (by simp)
      · rw [if_neg c2] at H
        have c2b0 : decide (x3_1 < (a0.size : Int)) = false := decide_eq_false c2
        clear c2
        obtain rfl := Option.some.inj H
        go_wp2
        go_ret
        exact ⟨by first | rfl | (simp; done) | (simp [*]; done) | (simp [isEmpty_bne]; done) | (simp; simp only [wrap64]; omega) | (simp [*]; simp only [wrap64]; omega), by repeat (first | exact Drawn0.refl _ | apply Drawn0.step)⟩

end Go.Proofs.YtedmjlflppckmaaGreatDoor.PK

namespace Go.Proofs.YtedmjlflppckmaaGreatDoor.PK
open Go.RowKit Go.Proofs.YtedmjlflppckmaaGreatDoorW.PrintWords Go.Proofs.YtedmjlflppckmaaGreatDoorW.PrintLast Go.Proofs.YtedmjlflppckmaaGreatDoorW.PrintMore
open Go.Proofs.YtedmjlflppckmaaGreatDoor.Pre
attribute [local go_sem] max2_int min2_int max_two min_two max_three min_three max_four min_four binOp_gtr_str binOp_leq_str binOp_geq_str

/-! ### larumref03_strip: function 72 -/
def larumref03_strip.l0 : Nat → ByteArray → Option (ByteArray)
  | 0, _ => none
  | k + 1, x0 => if (x0.size : Int) > 1 then (if 0 < (x0.size : Int) then (if (bt x0 0) = 48 then (if 1 ≤ (x0.size : Int) then (larumref03_strip.l0 k (x0.extract 1 x0.size)) else (none)) else (some x0)) else (none)) else (some x0)
def larumref03_strip.f (k : Nat) (a0 : ByteArray) : Option (ByteArray) := larumref03_strip.l0 k a0
theorem larumref03_strip.mono_l : ∀ k, (∀ y0, LeO (larumref03_strip.l0 k y0) (larumref03_strip.l0 (k + 1) y0))
  | 0 => fun _ r h => by simp [larumref03_strip.l0] at h
  | k + 1 => by
    have ih0 := larumref03_strip.mono_l k
    · intro y0
      unfold larumref03_strip.l0
      repeat' first
      | (with_reducible exact ih0 _)
      | (with_reducible exact LeO.refl _)
      | (with_reducible exact LeO.none _)
      | (with_reducible refine LeO.ite ?_ ?_)
      | (with_reducible refine LeO.bind ?_ (fun _ => ?_))
      | exact ih0 _
      | exact LeO.none _
      | refine LeO.ite ?_ ?_
      | refine LeO.bind ?_ (fun _ => ?_)
theorem larumref03_strip.mono : ∀ a0 k, LeO (larumref03_strip.f k a0) (larumref03_strip.f (k + 1) a0) := by
  intro a0 k
  have ih0 := larumref03_strip.mono_l k
  unfold larumref03_strip.f
  repeat' first
      | (with_reducible exact ih0 _)
      | (with_reducible exact LeO.refl _)
      | (with_reducible exact LeO.none _)
      | (with_reducible refine LeO.ite ?_ ?_)
      | (with_reducible refine LeO.bind ?_ (fun _ => ?_))
      | exact ih0 _
      | exact LeO.none _
      | refine LeO.ite ?_ ?_
      | refine LeO.bind ?_ (fun _ => ?_)
set_option maxHeartbeats 8000000 in
set_option maxRecDepth 100000 in
theorem larumref03_strip.calls (k : Nat) (a0 : ByteArray) (r : ByteArray) (w : World) (h : larumref03_strip.f k a0 = some r) :
    Calls Tryz.prog 72 #[.string a0] w fun e w' => e = .returned (.string r) ∧ Drawn0 w w' := by
  have H : (larumref03_strip.l0 k a0) = some r := h
  clear h
  have H' := Aside0.mk H
  clear H
  go_enter Tryz.func72, Tryz.ntmps72
  go_wp2
  go_loopg [0] k (fun kq v0 w' => ∃ (x0_1 : ByteArray), v0 = .string x0_1 ∧ Aside0 (larumref03_strip.l0 kq x0_1 = some r) ∧ Aside0 (kq ≤ k) ∧ Drawn0 w w')
  case atStart => exact ⟨(a0), (by first | rfl | (simp; done) | (simp [*]; done) | (simp [isEmpty_bne]; done) | (simp; simp only [wrap64]; omega) | (simp [*]; simp only [wrap64]; omega)), H', ⟨Nat.le_refl _⟩, by repeat (first | exact Drawn0.refl _ | apply Drawn0.step)⟩
  case round =>
    clear H'
    obtain ⟨x0_1, rfl, HA, HK1, ⟨m1, rfl⟩⟩ := hrel
    cases gk with
    | zero => exact absurd HA.out (by simp [larumref03_strip.l0])
    | succ k1 =>
      have H := HA.out
      clear HA
      simp only [larumref03_strip.l0] at H
      by_cases c2 : (x0_1.size : Int) > 1
      · rw [if_pos c2] at H
        have c2b0 : decide (1 < (x0_1.size : Int)) = true := decide_eq_true c2
        have c2b1 : decide (1 < x0_1.size) = true := decide_eq_true (by omega)
        clear c2
        by_cases c3 : 0 < (x0_1.size : Int)
        · rw [if_pos c3] at H
          have c3b0 : decide (0 < (x0_1.size : Int)) = true := decide_eq_true c3
          have c3b1 : decide (0 < x0_1.size) = true := decide_eq_true (by omega)
          clear c3
          by_cases c5 : (bt x0_1 0) = 48
          · rw [if_pos c5] at H
            have c5b0 : ((bt x0_1 0) == 48) = true := beq_iff_eq.mpr c5
            have c5b1 : ((bt x0_1 0) != 48) = false := bne_eq_false_iff_eq.mpr c5
            clear c5
            by_cases c6 : 1 ≤ (x0_1.size : Int)
            · rw [if_pos c6] at H
              have c6b0 := eq_true c6
              have c6b1 : decide (1 ≤ (x0_1.size : Int)) = true := decide_eq_true c6
              clear c6
              have H' := Aside0.mk H
              clear H
              have p4 : 0 ≤ (0 : Int) := (by omega)
              have q4 : 0 < x0_1.size := (by have : (0 : Int) < (x0_1.size : Int) := of_decide_eq_true (by first | (with_reducible assumption) | assumption); omega)
              have hx4 : ∀ h : 0 < x0_1.size, ((x0_1[0]'h).toNat : Int) = bt x0_1 0 := bt_at x0_1 0
              clear p4
              have qi4 : (0 < (x0_1.size : Int)) = True := eq_true (of_decide_eq_true (by first | (with_reducible assumption) | assumption))
              replace q4 := eq_true q4
              go_wp2
              go_roundg k1
              case measure => have := HK1.out; omega
              case rel => exact ⟨(x0_1.extract 1 x0_1.size), (by first | rfl | (simp; done) | (simp [*]; done) | (simp [isEmpty_bne]; done) | (simp; simp only [wrap64]; omega) | (simp [*]; simp only [wrap64]; omega)), H', ⟨by have := HK1.out; omega⟩, by repeat (first | exact Drawn0.refl _ | apply Drawn0.step)⟩
            · rw [if_neg c6] at H
              exact absurd H (by simp)
          · rw [if_neg c5] at H
            have c5b0 : ((bt x0_1 0) == 48) = false := beq_eq_false_iff_ne.mpr c5
            have c5b1 : ((bt x0_1 0) != 48) = true := bne_iff_ne.mpr c5
            obtain rfl := Option.some.inj H
            have p4 : 0 ≤ (0 : Int) := (by omega)
            have q4 : 0 < x0_1.size := (by have : (0 : Int) < (x0_1.size : Int) := of_decide_eq_true (by first | (with_reducible assumption) | assumption); omega)
            have hx4 : ∀ h : 0 < x0_1.size, ((x0_1[0]'h).toNat : Int) = bt x0_1 0 := bt_at x0_1 0
            clear p4
            have qi4 : (0 < (x0_1.size : Int)) = True := eq_true (of_decide_eq_true (by first | (with_reducible assumption) | assumption))
            replace q4 := eq_true q4
            go_wp2
            go_ret
            exact ⟨by first | rfl | (simp; done) | (simp [*]; done) | (simp [isEmpty_bne]; done) | (simp; simp only [wrap64]; omega) | (simp [*]; simp only [wrap64]; omega), by repeat (first | exact Drawn0.refl _ | apply Drawn0.step)⟩
        · rw [if_neg c3] at H
          exact absurd H (by simp)
      · rw [if_neg c2] at H
        have c2b0 : decide (1 < (x0_1.size : Int)) = false := decide_eq_false c2
        have c2b1 : decide (1 < x0_1.size) = false := decide_eq_false (by omega)
        clear c2
        obtain rfl := Option.some.inj H
        go_wp2
        go_ret
        exact ⟨by first | rfl | (simp; done) | (simp [*]; done) | (simp [isEmpty_bne]; done) | (simp; simp only [wrap64]; omega) | (simp [*]; simp only [wrap64]; omega), by repeat (first | exact Drawn0.refl _ | apply Drawn0.step)⟩

end Go.Proofs.YtedmjlflppckmaaGreatDoor.PK

namespace Go.Proofs.YtedmjlflppckmaaGreatDoor.PK
open Go.RowKit Go.Proofs.YtedmjlflppckmaaGreatDoorW.PrintWords Go.Proofs.YtedmjlflppckmaaGreatDoorW.PrintLast Go.Proofs.YtedmjlflppckmaaGreatDoorW.PrintMore
open Go.Proofs.YtedmjlflppckmaaGreatDoor.Pre
attribute [local go_sem] max2_int min2_int max_two min_two max_three min_three max_four min_four binOp_gtr_str binOp_leq_str binOp_geq_str

/-! ### larumref03_above: function 41 -/
def larumref03_above.f (k : Nat) (a0 : ByteArray) (a1 : ByteArray) : Option (Bool) := (larumref03_strip.f k a0).bind fun t119 => ((larumref03_strip.f k a1).bind fun t120 => (if (t119.size : Int) = (t120.size : Int) then (some (Op.bytesLess t120.toList t119.toList)) else (some (decide ((t119.size : Int) > (t120.size : Int))))))
theorem larumref03_above.mono : ∀ a0 a1 k, LeO (larumref03_above.f k a0 a1) (larumref03_above.f (k + 1) a0 a1) := by
  intro a0 a1 k
  unfold larumref03_above.f
  repeat' first
      | (with_reducible exact larumref03_strip.mono _ _)
      | (with_reducible exact LeO.refl _)
      | (with_reducible exact LeO.none _)
      | (with_reducible refine LeO.ite ?_ ?_)
      | (with_reducible refine LeO.bind ?_ (fun _ => ?_))
      | exact larumref03_strip.mono _ _
      | exact LeO.none _
      | refine LeO.ite ?_ ?_
      | refine LeO.bind ?_ (fun _ => ?_)
set_option maxHeartbeats 8000000 in
set_option maxRecDepth 100000 in
theorem larumref03_above.calls (k : Nat) (a0 : ByteArray) (a1 : ByteArray) (r : Bool) (w : World) (h : larumref03_above.f k a0 a1 = some r) :
    Calls Tryz.prog 41 #[.string a0, .string a1] w fun e w' => e = .returned (.bool r) ∧ Drawn0 w w' := by
  have H : ((larumref03_strip.f k a0).bind fun t119 => ((larumref03_strip.f k a1).bind fun t120 => (if (t119.size : Int) = (t120.size : Int) then (some (Op.bytesLess t120.toList t119.toList)) else (some (decide ((t119.size : Int) > (t120.size : Int))))))) = some r := h
  clear h
  replace H := Option.bind_eq_some_iff.mp H
  obtain ⟨t119, A30, H⟩ := H
  replace H : ((larumref03_strip.f k a1).bind fun t120 => (if (t119.size : Int) = (t120.size : Int) then (some (Op.bytesLess t120.toList t119.toList)) else (some (decide ((t119.size : Int) > (t120.size : Int)))))) = some r := H
  have A3 := Aside0.mk A30
  clear A30
  replace H := Option.bind_eq_some_iff.mp H
  obtain ⟨t120, A40, H⟩ := H
  replace H : (if (t119.size : Int) = (t120.size : Int) then (some (Op.bytesLess t120.toList t119.toList)) else (some (decide ((t119.size : Int) > (t120.size : Int))))) = some r := H
  have A4 := Aside0.mk A40
  clear A40
  by_cases c5 : (t119.size : Int) = (t120.size : Int)
  · rw [if_pos c5] at H
    have c5b0 : ((t119.size : Int) == (t120.size : Int)) = true := beq_iff_eq.mpr c5
    have c5b1 : ((t119.size : Int) != (t120.size : Int)) = false := bne_eq_false_iff_eq.mpr c5
    have c5b2 : (t119.size == t120.size) = true := by first | simpa using c5 | (simp at c5 ⊢; omega)
    clear c5
    obtain rfl := Option.some.inj H
    go_enter Tryz.func41, Tryz.ntmps41
    go_wp2_with (first | ((with_reducible refine gate_callee (f := 72) rfl ?_); refine goesL_ (some 6) rfl rfl Tryz.func72 (by kernel_rfl) rfl #[.string a0] rfl (by (try simp only [List.map_toArray, List.map_cons, List.map_nil]); first | done | rfl | (simp only [List.length_drop, List.length_take]; rfl)) ?_; (with_reducible refine (larumref03_strip.calls k a0 t119 _ A3.out).mono ?_); rintro e w' ⟨rfl, ⟨nd, rfl⟩⟩; refine ⟨_, rfl, ?_⟩) | ((with_reducible refine gate_callee (f := 72) rfl ?_); refine goesL_ (some 8) rfl rfl Tryz.func72 (by kernel_rfl) rfl #[.string a1] rfl (by (try simp only [List.map_toArray, List.map_cons, List.map_nil]); first | done | rfl | (simp only [List.length_drop, List.length_take]; rfl)) ?_; (with_reducible refine (larumref03_strip.calls k a1 t120 _ A4.out).mono ?_); rintro e w' ⟨rfl, ⟨nd, rfl⟩⟩; refine ⟨_, rfl, ?_⟩))
    go_ret
    exact ⟨by first | rfl | (simp; done) | (simp [*]; done) | (simp [isEmpty_bne]; done) | (simp; simp only [wrap64]; omega) | (simp [*]; simp only [wrap64]; omega), by repeat (first | exact Drawn0.refl _ | apply Drawn0.step)⟩
  · rw [if_neg c5] at H
    have c5b0 : ((t119.size : Int) == (t120.size : Int)) = false := beq_eq_false_iff_ne.mpr c5
    have c5b1 : ((t119.size : Int) != (t120.size : Int)) = true := bne_iff_ne.mpr c5
    have c5b2 : (t119.size == t120.size) = false := by first | simpa using c5 | (simp at c5 ⊢; omega)
    obtain rfl := Option.some.inj H
    go_enter Tryz.func41, Tryz.ntmps41
    go_wp2_with (first | ((with_reducible refine gate_callee (f := 72) rfl ?_); refine goesL_ (some 6) rfl rfl Tryz.func72 (by kernel_rfl) rfl #[.string a0] rfl (by (try simp only [List.map_toArray, List.map_cons, List.map_nil]); first | done | rfl | (simp only [List.length_drop, List.length_take]; rfl)) ?_; (with_reducible refine (larumref03_strip.calls k a0 t119 _ A3.out).mono ?_); rintro e w' ⟨rfl, ⟨nd, rfl⟩⟩; refine ⟨_, rfl, ?_⟩) | ((with_reducible refine gate_callee (f := 72) rfl ?_); refine goesL_ (some 8) rfl rfl Tryz.func72 (by kernel_rfl) rfl #[.string a1] rfl (by (try simp only [List.map_toArray, List.map_cons, List.map_nil]); first | done | rfl | (simp only [List.length_drop, List.length_take]; rfl)) ?_; (with_reducible refine (larumref03_strip.calls k a1 t120 _ A4.out).mono ?_); rintro e w' ⟨rfl, ⟨nd, rfl⟩⟩; refine ⟨_, rfl, ?_⟩))
    go_ret
    exact ⟨by first | rfl | (simp; done) | (simp [*]; done) | (simp [isEmpty_bne]; done) | (simp; simp only [wrap64]; omega) | (simp [*]; simp only [wrap64]; omega), by repeat (first | exact Drawn0.refl _ | apply Drawn0.step)⟩

end Go.Proofs.YtedmjlflppckmaaGreatDoor.PK

namespace Go.Proofs.YtedmjlflppckmaaGreatDoor.PK
open Go.RowKit Go.Proofs.YtedmjlflppckmaaGreatDoorW.PrintWords Go.Proofs.YtedmjlflppckmaaGreatDoorW.PrintLast Go.Proofs.YtedmjlflppckmaaGreatDoorW.PrintMore
open Go.Proofs.YtedmjlflppckmaaGreatDoor.Pre
attribute [local go_sem] max2_int min2_int max_two min_two max_three min_three max_four min_four binOp_gtr_str binOp_leq_str binOp_geq_str

/-! ### larumref03_Parse: function 18 -/
mutual
def larumref03_Parse.j0 : Nat → ByteArray → Bool → Option (Int × Int)
  | 0, _, _ => none
  | k + 1, x0, x4 => if x4 = true then (if 1 ≤ (x0.size : Int) then (larumref03_Parse.j1 k x4 (x0.extract 1 x0.size)) else (none)) else (larumref03_Parse.j1 k x4 x0)
def larumref03_Parse.j1 : Nat → Bool → ByteArray → Option (Int × Int)
  | 0, _, _ => none
  | k + 1, x4, x5 => (larumref03_all.f k x5).bind fun t121 => (if t121 = true then (if (x5.size : Int) > 1 then (if 0 < (x5.size : Int) then (larumref03_Parse.j2 k x4 x5 ((bt x5 0) == 48)) else (none)) else (larumref03_Parse.j2 k x4 x5 false)) else (larumref03_Parse.j2 k x4 x5 true))
def larumref03_Parse.j2 : Nat → Bool → ByteArray → Bool → Option (Int × Int)
  | 0, _, _, _ => none
  | k + 1, x4, x5, x31 => if x31 = true then (some (0, 3)) else (if x4 = true then ((larumref03_above.f k x5 (⟨#[57, 50, 50, 51, 51, 55, 50, 48, 51, 54, 56, 53, 52, 55, 55, 53, 56, 48, 56]⟩ : ByteArray)).bind fun t122 => (larumref03_Parse.j3 k x4 x5 t122)) else ((larumref03_above.f k x5 (⟨#[57, 50, 50, 51, 51, 55, 50, 48, 51, 54, 56, 53, 52, 55, 55, 53, 56, 48, 55]⟩ : ByteArray)).bind fun t123 => (if t123 = true then (larumref03_Parse.j3 k x4 x5 true) else (larumref03_Parse.j3 k x4 x5 false))))
def larumref03_Parse.j3 : Nat → Bool → ByteArray → Bool → Option (Int × Int)
  | 0, _, _, _ => none
  | k + 1, x4, x5, x44 => if x44 = true then (some (0, 5)) else (larumref03_Parse.l0 k x4 x5 0 0)
def larumref03_Parse.l0 : Nat → Bool → ByteArray → Int → Int → Option (Int × Int)
  | 0, _, _, _, _ => none
  | k + 1, x4, x5, x6, x7 => if x7 < (x5.size : Int) then (if x4 = true then (if 0 ≤ x7 then (larumref03_Parse.l0 k x4 x5 (wrap64 ((wrap64 (10 * x6)) - (((bt x5 x7) - 48) % 256))) (wrap64 (x7 + 1))) else (none)) else (if 0 ≤ x7 then (larumref03_Parse.l0 k x4 x5 (wrap64 ((wrap64 (10 * x6)) + (((bt x5 x7) - 48) % 256))) (wrap64 (x7 + 1))) else (none))) else (some (x6, 0))
end
def larumref03_Parse.f (k : Nat) (a0 : ByteArray) : Option (Int × Int) := if a0.toList = ([] : List UInt8) then (larumref03_Parse.j0 k a0 false) else (if 0 < (a0.size : Int) then (larumref03_Parse.j0 k a0 ((bt a0 0) == 45)) else (none))
theorem larumref03_Parse.mono_l : ∀ k, (∀ y0 y1, LeO (larumref03_Parse.j0 k y0 y1) (larumref03_Parse.j0 (k + 1) y0 y1)) ∧ (∀ y0 y1, LeO (larumref03_Parse.j1 k y0 y1) (larumref03_Parse.j1 (k + 1) y0 y1)) ∧ (∀ y0 y1 y2, LeO (larumref03_Parse.j2 k y0 y1 y2) (larumref03_Parse.j2 (k + 1) y0 y1 y2)) ∧ (∀ y0 y1 y2, LeO (larumref03_Parse.j3 k y0 y1 y2) (larumref03_Parse.j3 (k + 1) y0 y1 y2)) ∧ (∀ y0 y1 y2 y3, LeO (larumref03_Parse.l0 k y0 y1 y2 y3) (larumref03_Parse.l0 (k + 1) y0 y1 y2 y3))
  | 0 => ⟨fun _ _ r h => by simp [larumref03_Parse.j0] at h, fun _ _ r h => by simp [larumref03_Parse.j1] at h, fun _ _ _ r h => by simp [larumref03_Parse.j2] at h, fun _ _ _ r h => by simp [larumref03_Parse.j3] at h, fun _ _ _ _ r h => by simp [larumref03_Parse.l0] at h⟩
  | k + 1 => by
    obtain ⟨ih0, ih1, ih2, ih3, ih4⟩ := larumref03_Parse.mono_l k
    refine ⟨?_, ?_, ?_, ?_, ?_⟩
    · intro y0 y1
      unfold larumref03_Parse.j0
      repeat' first
      | (with_reducible exact ih0 _ _)
      | (with_reducible exact ih1 _ _)
      | (with_reducible exact ih2 _ _ _)
      | (with_reducible exact ih3 _ _ _)
      | (with_reducible exact ih4 _ _ _ _)
      | (with_reducible exact larumref03_above.mono _ _ _)
      | (with_reducible exact larumref03_all.mono _ _)
      | (with_reducible exact LeO.refl _)
      | (with_reducible exact LeO.none _)
      | (with_reducible refine LeO.ite ?_ ?_)
      | (with_reducible refine LeO.bind ?_ (fun _ => ?_))
      | exact ih0 _ _
      | exact ih1 _ _
      | exact ih2 _ _ _
      | exact ih3 _ _ _
      | exact ih4 _ _ _ _
      | exact larumref03_above.mono _ _ _
      | exact larumref03_all.mono _ _
      | exact LeO.none _
      | refine LeO.ite ?_ ?_
      | refine LeO.bind ?_ (fun _ => ?_)
    · intro y0 y1
      unfold larumref03_Parse.j1
      repeat' first
      | (with_reducible exact ih0 _ _)
      | (with_reducible exact ih1 _ _)
      | (with_reducible exact ih2 _ _ _)
      | (with_reducible exact ih3 _ _ _)
      | (with_reducible exact ih4 _ _ _ _)
      | (with_reducible exact larumref03_above.mono _ _ _)
      | (with_reducible exact larumref03_all.mono _ _)
      | (with_reducible exact LeO.refl _)
      | (with_reducible exact LeO.none _)
      | (with_reducible refine LeO.ite ?_ ?_)
      | (with_reducible refine LeO.bind ?_ (fun _ => ?_))
      | exact ih0 _ _
      | exact ih1 _ _
      | exact ih2 _ _ _
      | exact ih3 _ _ _
      | exact ih4 _ _ _ _
      | exact larumref03_above.mono _ _ _
      | exact larumref03_all.mono _ _
      | exact LeO.none _
      | refine LeO.ite ?_ ?_
      | refine LeO.bind ?_ (fun _ => ?_)
    · intro y0 y1 y2
      unfold larumref03_Parse.j2
      repeat' first
      | (with_reducible exact ih0 _ _)
      | (with_reducible exact ih1 _ _)
      | (with_reducible exact ih2 _ _ _)
      | (with_reducible exact ih3 _ _ _)
      | (with_reducible exact ih4 _ _ _ _)
      | (with_reducible exact larumref03_above.mono _ _ _)
      | (with_reducible exact larumref03_all.mono _ _)
      | (with_reducible exact LeO.refl _)
      | (with_reducible exact LeO.none _)
      | (with_reducible refine LeO.ite ?_ ?_)
      | (with_reducible refine LeO.bind ?_ (fun _ => ?_))
      | exact ih0 _ _
      | exact ih1 _ _
      | exact ih2 _ _ _
      | exact ih3 _ _ _
      | exact ih4 _ _ _ _
      | exact larumref03_above.mono _ _ _
      | exact larumref03_all.mono _ _
      | exact LeO.none _
      | refine LeO.ite ?_ ?_
      | refine LeO.bind ?_ (fun _ => ?_)
    · intro y0 y1 y2
      unfold larumref03_Parse.j3
      repeat' first
      | (with_reducible exact ih0 _ _)
      | (with_reducible exact ih1 _ _)
      | (with_reducible exact ih2 _ _ _)
      | (with_reducible exact ih3 _ _ _)
      | (with_reducible exact ih4 _ _ _ _)
      | (with_reducible exact larumref03_above.mono _ _ _)
      | (with_reducible exact larumref03_all.mono _ _)
      | (with_reducible exact LeO.refl _)
      | (with_reducible exact LeO.none _)
      | (with_reducible refine LeO.ite ?_ ?_)
      | (with_reducible refine LeO.bind ?_ (fun _ => ?_))
      | exact ih0 _ _
      | exact ih1 _ _
      | exact ih2 _ _ _
      | exact ih3 _ _ _
      | exact ih4 _ _ _ _
      | exact larumref03_above.mono _ _ _
      | exact larumref03_all.mono _ _
      | exact LeO.none _
      | refine LeO.ite ?_ ?_
      | refine LeO.bind ?_ (fun _ => ?_)
    · intro y0 y1 y2 y3
      unfold larumref03_Parse.l0
      repeat' first
      | (with_reducible exact ih0 _ _)
      | (with_reducible exact ih1 _ _)
      | (with_reducible exact ih2 _ _ _)
      | (with_reducible exact ih3 _ _ _)
      | (with_reducible exact ih4 _ _ _ _)
      | (with_reducible exact larumref03_above.mono _ _ _)
      | (with_reducible exact larumref03_all.mono _ _)
      | (with_reducible exact LeO.refl _)
      | (with_reducible exact LeO.none _)
      | (with_reducible refine LeO.ite ?_ ?_)
      | (with_reducible refine LeO.bind ?_ (fun _ => ?_))
      | exact ih0 _ _
      | exact ih1 _ _
      | exact ih2 _ _ _
      | exact ih3 _ _ _
      | exact ih4 _ _ _ _
      | exact larumref03_above.mono _ _ _
      | exact larumref03_all.mono _ _
      | exact LeO.none _
      | refine LeO.ite ?_ ?_
      | refine LeO.bind ?_ (fun _ => ?_)
theorem larumref03_Parse.mono : ∀ a0 k, LeO (larumref03_Parse.f k a0) (larumref03_Parse.f (k + 1) a0) := by
  intro a0 k
  obtain ⟨ih0, ih1, ih2, ih3, ih4⟩ := larumref03_Parse.mono_l k
  unfold larumref03_Parse.f
  repeat' first
      | (with_reducible exact ih0 _ _)
      | (with_reducible exact ih1 _ _)
      | (with_reducible exact ih2 _ _ _)
      | (with_reducible exact ih3 _ _ _)
      | (with_reducible exact ih4 _ _ _ _)
      | (with_reducible exact larumref03_above.mono _ _ _)
      | (with_reducible exact larumref03_all.mono _ _)
      | (with_reducible exact LeO.refl _)
      | (with_reducible exact LeO.none _)
      | (with_reducible refine LeO.ite ?_ ?_)
      | (with_reducible refine LeO.bind ?_ (fun _ => ?_))
      | exact ih0 _ _
      | exact ih1 _ _
      | exact ih2 _ _ _
      | exact ih3 _ _ _
      | exact ih4 _ _ _ _
      | exact larumref03_above.mono _ _ _
      | exact larumref03_all.mono _ _
      | exact LeO.none _
      | refine LeO.ite ?_ ?_
      | refine LeO.bind ?_ (fun _ => ?_)
set_option maxHeartbeats 8000000 in
set_option maxRecDepth 100000 in
theorem larumref03_Parse.calls (k : Nat) (a0 : ByteArray) (r1 : Int) (r2 : Int) (w : World) (h : larumref03_Parse.f k a0 = some (r1, r2)) :
    Calls Tryz.prog 18 #[.string a0] w fun e w' => e = .returned (.tuple #[.int .i64 r1, .int .i64 r2]) ∧ Drawn0 w w' := by
  have H : (if a0.toList = ([] : List UInt8) then (larumref03_Parse.j0 k a0 false) else (if 0 < (a0.size : Int) then (larumref03_Parse.j0 k a0 ((bt a0 0) == 45)) else (none))) = some (r1, r2) := h
  clear h
  have HC2 := Aside0.mk H
  clear H
  go_enter Tryz.func18, Tryz.ntmps18
  go_upto_region 1 with (fail)
  go_cut [4] (fun v4 wc => ∃ (kq : Nat) (x4_1 : Bool), v4 = .bool x4_1 ∧ Aside0 (larumref03_Parse.j0 kq a0 x4_1 = some (r1, r2)) ∧ Aside0 (kq ≤ k) ∧ Drawn0 w wc)
  case first =>
    have H := HC2.out
    clear HC2
    by_cases c3 : a0.toList = ([] : List UInt8)
    · rw [if_pos c3] at H
      have c3b0 : (a0.toList == ([] : List UInt8)) = true := beq_iff_eq.mpr c3
      have c3b1 : (a0.toList != ([] : List UInt8)) = false := bne_eq_false_iff_eq.mpr c3
      clear c3
      (first | rw [c3b0] | (simp only [i64_w, i32_w]; rw [c3b0]) | skip)
      have H' := Aside0.mk H
      clear H
      go_wp2
      go_meet
      case rel => exact ⟨_, (false), (by first | rfl | (simp; done) | (simp [*]; done) | (simp [isEmpty_bne]; done) | (simp; simp only [wrap64]; omega) | (simp [*]; simp only [wrap64]; omega)), H', ⟨by first | omega | exact Nat.le_refl _⟩, by repeat (first | exact Drawn0.refl _ | apply Drawn0.step)⟩
    · rw [if_neg c3] at H
      have c3b0 : (a0.toList == ([] : List UInt8)) = false := beq_eq_false_iff_ne.mpr c3
      have c3b1 : (a0.toList != ([] : List UInt8)) = true := bne_iff_ne.mpr c3
      (first | rw [c3b0] | (simp only [i64_w, i32_w]; rw [c3b0]) | skip)
      by_cases c4 : 0 < (a0.size : Int)
      · rw [if_pos c4] at H
        have c4b0 : decide (0 < (a0.size : Int)) = true := decide_eq_true c4
        have c4b1 : decide (0 < a0.size) = true := decide_eq_true (by omega)
        clear c4
        have H' := Aside0.mk H
        clear H
        have p5 : 0 ≤ (0 : Int) := (by omega)
        have q5 : 0 < a0.size := (by have : (0 : Int) < (a0.size : Int) := of_decide_eq_true (by first | (with_reducible assumption) | assumption); omega)
        have hx5 : ∀ h : 0 < a0.size, ((a0[0]'h).toNat : Int) = bt a0 0 := bt_at a0 0
        clear p5
        have qi5 : (0 < (a0.size : Int)) = True := eq_true (of_decide_eq_true (by first | (with_reducible assumption) | assumption))
        replace q5 := eq_true q5
        go_wp2
        go_meet
        case rel => exact ⟨_, (((bt a0 0) == 45)), (by first | rfl | (simp; done) | (simp [*]; done) | (simp [isEmpty_bne]; done) | (simp; simp only [wrap64]; omega) | (simp [*]; simp only [wrap64]; omega)), H', ⟨by first | omega | exact Nat.le_refl _⟩, by repeat (first | exact Drawn0.refl _ | apply Drawn0.step)⟩
      · rw [if_neg c4] at H
        exact absurd H (by simp)
  case rest =>
    clear HC2
    try clear c1
    try clear p2
    try clear c3
    try clear c3b0
    try clear c3b1
    try clear c4
    try clear c4b0
    try clear c4b1
    try clear p5
    try clear q5
    try clear hx5
    try clear qi5
    try clear p5
    try clear q5
    obtain ⟨kq, x4_1, rfl, HA, HJ1, ⟨mc1, rfl⟩⟩ := hcut
    cases kq with
    | zero => exact absurd HA.out (by simp [larumref03_Parse.j0])
    | succ kj1 =>
      have H := HA.out
      clear HA
      simp only [larumref03_Parse.j0] at H
      have HC6 := Aside0.mk H
      clear H
      go_upto_if 16 with (fail)
      go_cut [5] (fun v5 wc => ∃ (kq : Nat) (x5_5 : ByteArray), v5 = .string x5_5 ∧ Aside0 (larumref03_Parse.j1 kq x4_1 x5_5 = some (r1, r2)) ∧ Aside0 (kq ≤ kj1) ∧ Drawn0 w wc)
      case first =>
        have H := HC6.out
        clear HC6
        by_cases c7 : x4_1 = true
        · subst c7
          have H1 : (if 1 ≤ (a0.size : Int) then (larumref03_Parse.j1 kj1 true (a0.extract 1 a0.size)) else (none)) = some (r1, r2) := by rw [if_pos rfl] at H; exact H
          clear H
          have H := H1
          clear H1
          by_cases c8 : 1 ≤ (a0.size : Int)
          · rw [if_pos c8] at H
            have c8b0 := eq_true c8
            have c8b1 : decide (1 ≤ (a0.size : Int)) = true := decide_eq_true c8
            clear c8
            have H' := Aside0.mk H
            clear H
            go_wp2
            go_meet
            case rel => exact ⟨_, (a0.extract 1 a0.size), (by first | rfl | (simp; done) | (simp [*]; done) | (simp [isEmpty_bne]; done) | (simp; simp only [wrap64]; omega) | (simp [*]; simp only [wrap64]; omega)), H', ⟨by have := HJ1.out; first | omega | exact Nat.le_refl _⟩, by repeat (first | exact Drawn0.refl _ | apply Drawn0.step)⟩
          · rw [if_neg c8] at H
            exact absurd H (by simp)
        · replace c7 := Bool.eq_false_iff.mpr c7
          subst c7
          have H1 : (larumref03_Parse.j1 kj1 false a0) = some (r1, r2) := by rw [if_neg (show ¬ (false = true) by decide)] at H; exact H
          clear H
          have H := H1
          clear H1
          have H' := Aside0.mk H
          clear H
          go_wp2
          go_meet
          case rel => exact ⟨_, (a0), (by first | rfl | (simp; done) | (simp [*]; done) | (simp [isEmpty_bne]; done) | (simp; simp only [wrap64]; omega) | (simp [*]; simp only [wrap64]; omega)), H', ⟨by have := HJ1.out; first | omega | exact Nat.le_refl _⟩, by repeat (first | exact Drawn0.refl _ | apply Drawn0.step)⟩
      case rest =>
        clear HC6
        try clear c1
        try clear p2
        try clear c3
        try clear c3b0
        try clear c3b1
        try clear c4
        try clear c4b0
        try clear c4b1
        try clear p5
        try clear q5
        try clear hx5
        try clear qi5
        try clear c7
        try clear c8
        try clear c8b0
        try clear c8b1
        try clear p2
        try clear p5
        try clear q5
        obtain ⟨kq, x5_5, rfl, HA, HJ5, ⟨mc5, rfl⟩⟩ := hcut
        cases kq with
        | zero => exact absurd HA.out (by simp [larumref03_Parse.j1])
        | succ kj5 =>
          have H := HA.out
          clear HA
          simp only [larumref03_Parse.j1] at H
          have HC9 := Aside0.mk H
          clear H
          go_upto_region 5 with (fail)
          go_cut [31] (fun v31 wc => ∃ (kq : Nat) (x31_8 : Bool), v31 = .bool x31_8 ∧ Aside0 (larumref03_Parse.j2 kq x4_1 x5_5 x31_8 = some (r1, r2)) ∧ Aside0 (kq ≤ kj5) ∧ Drawn0 w wc)
          case first =>
            have H := HC9.out
            clear HC9
            replace H := Option.bind_eq_some_iff.mp H
            obtain ⟨t121, A100, H⟩ := H
            replace H : (if t121 = true then (if (x5_5.size : Int) > 1 then (if 0 < (x5_5.size : Int) then (larumref03_Parse.j2 kj5 x4_1 x5_5 ((bt x5_5 0) == 48)) else (none)) else (larumref03_Parse.j2 kj5 x4_1 x5_5 false)) else (larumref03_Parse.j2 kj5 x4_1 x5_5 true)) = some (r1, r2) := H
            have A10 := Aside0.mk A100
            clear A100
            by_cases c11 : t121 = true
            · subst c11
              have H1 : (if (x5_5.size : Int) > 1 then (if 0 < (x5_5.size : Int) then (larumref03_Parse.j2 kj5 x4_1 x5_5 ((bt x5_5 0) == 48)) else (none)) else (larumref03_Parse.j2 kj5 x4_1 x5_5 false)) = some (r1, r2) := by rw [if_pos rfl] at H; exact H
              clear H
              have H := H1
              clear H1
              by_cases c12 : (x5_5.size : Int) > 1
              · rw [if_pos c12] at H
                have c12b0 : decide (1 < (x5_5.size : Int)) = true := decide_eq_true c12
                have c12b1 : decide (1 < x5_5.size) = true := decide_eq_true (by omega)
                clear c12
                (first | rw [c12b0] | (simp only [i64_w, i32_w]; rw [c12b0]) | skip)
                by_cases c13 : 0 < (x5_5.size : Int)
                · rw [if_pos c13] at H
                  have c13b0 : decide (0 < (x5_5.size : Int)) = true := decide_eq_true c13
                  have c13b1 : decide (0 < x5_5.size) = true := decide_eq_true (by omega)
                  clear c13
                  have H' := Aside0.mk H
                  clear H
                  go_wp2_with (first | ((with_reducible refine gate_callee (f := 40) rfl ?_); refine goesL_ (some 20) rfl rfl Tryz.func40 (by kernel_rfl) rfl #[.string x5_5] rfl (by (try simp only [List.map_toArray, List.map_cons, List.map_nil]); first | done | rfl | (simp only [List.length_drop, List.length_take]; rfl)) ?_; (with_reducible refine (larumref03_all.calls kj5 x5_5 true _ A10.out).mono ?_); rintro e w' ⟨rfl, ⟨nd, rfl⟩⟩; refine ⟨_, rfl, ?_⟩; have p14 : 0 ≤ (0 : Int) := (by omega); have q14 : 0 < x5_5.size := (by have : (0 : Int) < (x5_5.size : Int) := of_decide_eq_true (by first | (with_reducible assumption) | assumption); omega); have hx14 : ∀ h : 0 < x5_5.size, ((x5_5[0]'h).toNat : Int) = bt x5_5 0 := bt_at x5_5 0; clear p14; have qi14 : (0 < (x5_5.size : Int)) = True := eq_true (of_decide_eq_true (by first | (with_reducible assumption) | assumption)); replace q14 := eq_true q14))
                  go_meet
                  case rel => exact ⟨_, (((bt x5_5 0) == 48)), (by first | rfl | (simp; done) | (simp [*]; done) | (simp [isEmpty_bne]; done) | (simp; simp only [wrap64]; omega) | (simp [*]; simp only [wrap64]; omega)), H', ⟨by have := HJ1.out; have := HJ5.out; first | omega | exact Nat.le_refl _⟩, by repeat (first | exact Drawn0.refl _ | apply Drawn0.step)⟩
                · rw [if_neg c13] at H
                  exact absurd H (by simp)
              · rw [if_neg c12] at H
                have c12b0 : decide (1 < (x5_5.size : Int)) = false := decide_eq_false c12
                have c12b1 : decide (1 < x5_5.size) = false := decide_eq_false (by omega)
                clear c12
                (first | rw [c12b0] | (simp only [i64_w, i32_w]; rw [c12b0]) | skip)
                have H' := Aside0.mk H
                clear H
                go_wp2_with (first | ((with_reducible refine gate_callee (f := 40) rfl ?_); refine goesL_ (some 20) rfl rfl Tryz.func40 (by kernel_rfl) rfl #[.string x5_5] rfl (by (try simp only [List.map_toArray, List.map_cons, List.map_nil]); first | done | rfl | (simp only [List.length_drop, List.length_take]; rfl)) ?_; (with_reducible refine (larumref03_all.calls kj5 x5_5 true _ A10.out).mono ?_); rintro e w' ⟨rfl, ⟨nd, rfl⟩⟩; refine ⟨_, rfl, ?_⟩))
                go_meet
                case rel => exact ⟨_, (false), (by first | rfl | (simp; done) | (simp [*]; done) | (simp [isEmpty_bne]; done) | (simp; simp only [wrap64]; omega) | (simp [*]; simp only [wrap64]; omega)), H', ⟨by have := HJ1.out; have := HJ5.out; first | omega | exact Nat.le_refl _⟩, by repeat (first | exact Drawn0.refl _ | apply Drawn0.step)⟩
            · replace c11 := Bool.eq_false_iff.mpr c11
              subst c11
              have H1 : (larumref03_Parse.j2 kj5 x4_1 x5_5 true) = some (r1, r2) := by rw [if_neg (show ¬ (false = true) by decide)] at H; exact H
              clear H
              have H := H1
              clear H1
              have H' := Aside0.mk H
              clear H
              go_wp2_with (first | ((with_reducible refine gate_callee (f := 40) rfl ?_); refine goesL_ (some 20) rfl rfl Tryz.func40 (by kernel_rfl) rfl #[.string x5_5] rfl (by (try simp only [List.map_toArray, List.map_cons, List.map_nil]); first | done | rfl | (simp only [List.length_drop, List.length_take]; rfl)) ?_; (with_reducible refine (larumref03_all.calls kj5 x5_5 false _ A10.out).mono ?_); rintro e w' ⟨rfl, ⟨nd, rfl⟩⟩; refine ⟨_, rfl, ?_⟩))
              go_meet
              case rel => exact ⟨_, (true), (by first | rfl | (simp; done) | (simp [*]; done) | (simp [isEmpty_bne]; done) | (simp; simp only [wrap64]; omega) | (simp [*]; simp only [wrap64]; omega)), H', ⟨by have := HJ1.out; have := HJ5.out; first | omega | exact Nat.le_refl _⟩, by repeat (first | exact Drawn0.refl _ | apply Drawn0.step)⟩
          case rest =>
            clear HC9
            try clear c1
            try clear p1
            try clear q1
            try clear hx1
            try clear qi1
            try clear p2
            try clear c3
            try clear c3b0
            try clear c3b1
            try clear c4
            try clear c4b0
            try clear c4b1
            try clear c5
            try clear p5
            try clear q5
            try clear hx5
            try clear qi5
            try clear c7
            try clear c8
            try clear c8b0
            try clear c8b1
            try clear c11
            try clear c12
            try clear c12b0
            try clear c12b1
            try clear c13
            try clear c13b0
            try clear c13b1
            try clear p14
            try clear q14
            try clear hx14
            try clear qi14
            try clear p14
            try clear p2
            try clear p5
            try clear q14
            try clear q5
            obtain ⟨kq, x31_8, rfl, HA, HJ8, ⟨mc8, rfl⟩⟩ := hcut
            cases kq with
            | zero => exact absurd HA.out (by simp [larumref03_Parse.j2])
            | succ kj8 =>
              have H := HA.out
              clear HA
              simp only [larumref03_Parse.j2] at H
              by_cases c15 : x31_8 = true
              · subst c15
                have H1 : (some (0, 3)) = some (r1, r2) := by rw [if_pos rfl] at H; exact H
                clear H
                have H := H1
                clear H1
                simp only [Option.some.injEq, Prod.mk.injEq] at H
                obtain ⟨rfl, rfl⟩ := H
                go_wp2
                go_ret2
                exact ⟨by first | rfl | (simp; done) | (simp [*]; done) | (simp [isEmpty_bne]; done) | (simp; simp only [wrap64]; omega) | (simp [*]; simp only [wrap64]; omega), by repeat (first | exact Drawn0.refl _ | apply Drawn0.step)⟩
              · replace c15 := Bool.eq_false_iff.mpr c15
                subst c15
                have H1 : (if x4_1 = true then ((larumref03_above.f kj8 x5_5 (⟨#[57, 50, 50, 51, 51, 55, 50, 48, 51, 54, 56, 53, 52, 55, 55, 53, 56, 48, 56]⟩ : ByteArray)).bind fun t122 => (larumref03_Parse.j3 kj8 x4_1 x5_5 t122)) else ((larumref03_above.f kj8 x5_5 (⟨#[57, 50, 50, 51, 51, 55, 50, 48, 51, 54, 56, 53, 52, 55, 55, 53, 56, 48, 55]⟩ : ByteArray)).bind fun t123 => (if t123 = true then (larumref03_Parse.j3 kj8 x4_1 x5_5 true) else (larumref03_Parse.j3 kj8 x4_1 x5_5 false)))) = some (r1, r2) := by rw [if_neg (show ¬ (false = true) by decide)] at H; exact H
                clear H
                have H := H1
                clear H1
                have HC16 := Aside0.mk H
                clear H
                go_upto_region 7 with (fail)
                go_cut [44] (fun v44 wc => ∃ (kq : Nat) (x44_15 : Bool), v44 = .bool x44_15 ∧ Aside0 (larumref03_Parse.j3 kq x4_1 x5_5 x44_15 = some (r1, r2)) ∧ Aside0 (kq ≤ kj8) ∧ Drawn0 w wc)
                case first =>
                  have H := HC16.out
                  clear HC16
                  by_cases c17 : x4_1 = true
                  · subst c17
                    have H1 : ((larumref03_above.f kj8 x5_5 (⟨#[57, 50, 50, 51, 51, 55, 50, 48, 51, 54, 56, 53, 52, 55, 55, 53, 56, 48, 56]⟩ : ByteArray)).bind fun t122 => (larumref03_Parse.j3 kj8 true x5_5 t122)) = some (r1, r2) := by rw [if_pos rfl] at H; exact H
                    clear H
                    have H := H1
                    clear H1
                    replace H := Option.bind_eq_some_iff.mp H
                    obtain ⟨t122, A180, H⟩ := H
                    replace H : (larumref03_Parse.j3 kj8 true x5_5 t122) = some (r1, r2) := H
                    have A18 := Aside0.mk A180
                    clear A180
                    have H' := Aside0.mk H
                    clear H
                    go_wp2_with (first | (go_at_call 41; (with_reducible refine (larumref03_above.calls kj8 x5_5 (⟨#[57, 50, 50, 51, 51, 55, 50, 48, 51, 54, 56, 53, 52, 55, 55, 53, 56, 48, 56]⟩ : ByteArray) t122 _ A18.out).mono ?_); rintro e w' ⟨rfl, ⟨nd, rfl⟩⟩))
                    go_meet
                    case rel => exact ⟨_, (t122), (by first | rfl | (simp; done) | (simp [*]; done) | (simp [isEmpty_bne]; done) | (simp; simp only [wrap64]; omega) | (simp [*]; simp only [wrap64]; omega)), H', ⟨by have := HJ1.out; have := HJ5.out; have := HJ8.out; first | omega | exact Nat.le_refl _⟩, by repeat (first | exact Drawn0.refl _ | apply Drawn0.step)⟩
                  · replace c17 := Bool.eq_false_iff.mpr c17
                    subst c17
                    have H1 : ((larumref03_above.f kj8 x5_5 (⟨#[57, 50, 50, 51, 51, 55, 50, 48, 51, 54, 56, 53, 52, 55, 55, 53, 56, 48, 55]⟩ : ByteArray)).bind fun t123 => (if t123 = true then (larumref03_Parse.j3 kj8 false x5_5 true) else (larumref03_Parse.j3 kj8 false x5_5 false))) = some (r1, r2) := by rw [if_neg (show ¬ (false = true) by decide)] at H; exact H
                    clear H
                    have H := H1
                    clear H1
                    replace H := Option.bind_eq_some_iff.mp H
                    obtain ⟨t123, A190, H⟩ := H
                    replace H : (if t123 = true then (larumref03_Parse.j3 kj8 false x5_5 true) else (larumref03_Parse.j3 kj8 false x5_5 false)) = some (r1, r2) := H
                    have A19 := Aside0.mk A190
                    clear A190
                    by_cases c20 : t123 = true
                    · subst c20
                      have H1 : (larumref03_Parse.j3 kj8 false x5_5 true) = some (r1, r2) := by rw [if_pos rfl] at H; exact H
                      clear H
                      have H := H1
                      clear H1
                      have H' := Aside0.mk H
                      clear H
                      go_wp2_with (first | (go_at_call 41; (with_reducible refine (larumref03_above.calls kj8 x5_5 (⟨#[57, 50, 50, 51, 51, 55, 50, 48, 51, 54, 56, 53, 52, 55, 55, 53, 56, 48, 55]⟩ : ByteArray) true _ A19.out).mono ?_); rintro e w' ⟨rfl, ⟨nd, rfl⟩⟩))
                      go_meet
                      case rel => exact ⟨_, (true), (by first | rfl | (simp; done) | (simp [*]; done) | (simp [isEmpty_bne]; done) | (simp; simp only [wrap64]; omega) | (simp [*]; simp only [wrap64]; omega)), H', ⟨by have := HJ1.out; have := HJ5.out; have := HJ8.out; first | omega | exact Nat.le_refl _⟩, by repeat (first | exact Drawn0.refl _ | apply Drawn0.step)⟩
                    · replace c20 := Bool.eq_false_iff.mpr c20
                      subst c20
                      have H1 : (larumref03_Parse.j3 kj8 false x5_5 false) = some (r1, r2) := by rw [if_neg (show ¬ (false = true) by decide)] at H; exact H
                      clear H
                      have H := H1
                      clear H1
                      have H' := Aside0.mk H
                      clear H
                      go_wp2_with (first | (go_at_call 41; (with_reducible refine (larumref03_above.calls kj8 x5_5 (⟨#[57, 50, 50, 51, 51, 55, 50, 48, 51, 54, 56, 53, 52, 55, 55, 53, 56, 48, 55]⟩ : ByteArray) false _ A19.out).mono ?_); rintro e w' ⟨rfl, ⟨nd, rfl⟩⟩))
                      go_meet
                      case rel => exact ⟨_, (false), (by first | rfl | (simp; done) | (simp [*]; done) | (simp [isEmpty_bne]; done) | (simp; simp only [wrap64]; omega) | (simp [*]; simp only [wrap64]; omega)), H', ⟨by have := HJ1.out; have := HJ5.out; have := HJ8.out; first | omega | exact Nat.le_refl _⟩, by repeat (first | exact Drawn0.refl _ | apply Drawn0.step)⟩
                case rest =>
                  clear HC16
                  try clear c1
                  try clear p1
                  try clear q1
                  try clear hx1
                  try clear qi1
                  try clear c2
                  try clear p2
                  try clear c3
                  try clear c3b0
                  try clear c3b1
                  try clear c4
                  try clear c4b0
                  try clear c4b1
                  try clear c5
                  try clear p5
                  try clear q5
                  try clear hx5
                  try clear qi5
                  try clear c7
                  try clear c8
                  try clear c8b0
                  try clear c8b1
                  try clear c11
                  try clear c12
                  try clear c12b0
                  try clear c12b1
                  try clear c13
                  try clear c13b0
                  try clear c13b1
                  try clear p14
                  try clear q14
                  try clear hx14
                  try clear qi14
                  try clear c15
                  try clear c17
                  try clear c18
                  try clear c20
                  try clear p1
                  try clear p14
                  try clear p2
                  try clear p5
                  try clear q1
                  try clear q14
                  try clear q5
                  obtain ⟨kq, x44_15, rfl, HA, HJ15, ⟨mc15, rfl⟩⟩ := hcut
                  cases kq with
                  | zero => exact absurd HA.out (by simp [larumref03_Parse.j3])
                  | succ kj15 =>
                    have H := HA.out
                    clear HA
                    simp only [larumref03_Parse.j3] at H
                    by_cases c21 : x44_15 = true
                    · subst c21
                      have H1 : (some (0, 5)) = some (r1, r2) := by rw [if_pos rfl] at H; exact H
                      clear H
                      have H := H1
                      clear H1
                      simp only [Option.some.injEq, Prod.mk.injEq] at H
                      obtain ⟨rfl, rfl⟩ := H
                      go_wp2
                      go_ret2
                      exact ⟨by first | rfl | (simp; done) | (simp [*]; done) | (simp [isEmpty_bne]; done) | (simp; simp only [wrap64]; omega) | (simp [*]; simp only [wrap64]; omega), by repeat (first | exact Drawn0.refl _ | apply Drawn0.step)⟩
                    · replace c21 := Bool.eq_false_iff.mpr c21
                      subst c21
                      have H1 : (larumref03_Parse.l0 kj15 x4_1 x5_5 0 0) = some (r1, r2) := by rw [if_neg (show ¬ (false = true) by decide)] at H; exact H
                      clear H
                      have H := H1
                      clear H1
                      have H' := Aside0.mk H
                      clear H
                      go_wp2
                      go_loopg [6, 7] kj15 (fun kq v6 v7 w' => ∃ (x6_5 : Int) (x7_5 : Int), v6 = .int .i64 x6_5 ∧ v7 = .int .i64 x7_5 ∧ Aside0 (larumref03_Parse.l0 kq x4_1 x5_5 x6_5 x7_5 = some (r1, r2)) ∧ Aside0 (kq ≤ kj15) ∧ Drawn0 w w')
                      case atStart => exact ⟨(0), (0), (by first | rfl | (simp; done) | (simp [*]; done) | (simp [isEmpty_bne]; done) | (simp; simp only [wrap64]; omega) | (simp [*]; simp only [wrap64]; omega)), (by first | rfl | (simp; done) | (simp [*]; done) | (simp [isEmpty_bne]; done) | (simp; simp only [wrap64]; omega) | (simp [*]; simp only [wrap64]; omega)), H', ⟨Nat.le_refl _⟩, by repeat (first | exact Drawn0.refl _ | apply Drawn0.step)⟩
                      case round =>
                        clear H'
                        try clear c1
                        try clear p1
                        try clear q1
                        try clear hx1
                        try clear qi1
                        try clear c2
                        try clear p2
                        try clear c3
                        try clear c3b0
                        try clear c3b1
                        try clear c4
                        try clear c4b0
                        try clear c4b1
                        try clear c5
                        try clear p5
                        try clear q5
                        try clear hx5
                        try clear qi5
                        try clear c7
                        try clear c8
                        try clear c8b0
                        try clear c8b1
                        try clear c11
                        try clear c12
                        try clear c12b0
                        try clear c12b1
                        try clear c13
                        try clear c13b0
                        try clear c13b1
                        try clear p14
                        try clear q14
                        try clear hx14
                        try clear qi14
                        try clear c15
                        try clear c17
                        try clear c18
                        try clear c20
                        try clear c21
                        try clear p1
                        try clear p14
                        try clear p2
                        try clear p5
                        try clear q1
                        try clear q14
                        try clear q5
                        obtain ⟨x6_5, x7_5, rfl, rfl, HA, HK5, ⟨m5, rfl⟩⟩ := hrel
                        cases gk with
                        | zero => exact absurd HA.out (by simp [larumref03_Parse.l0])
                        | succ k5 =>
                          have H := HA.out
                          clear HA
                          simp only [larumref03_Parse.l0] at H
                          by_cases c22 : x7_5 < (x5_5.size : Int)
                          · rw [if_pos c22] at H
                            have c22b0 : decide (x7_5 < (x5_5.size : Int)) = true := decide_eq_true c22
                            clear c22
                            by_cases c23 : x4_1 = true
                            · subst c23
                              have H1 : (if 0 ≤ x7_5 then (larumref03_Parse.l0 k5 true x5_5 (wrap64 ((wrap64 (10 * x6_5)) - (((bt x5_5 x7_5) - 48) % 256))) (wrap64 (x7_5 + 1))) else (none)) = some (r1, r2) := by rw [if_pos rfl] at H; exact H
                              clear H
                              have H := H1
                              clear H1
                              by_cases c24 : 0 ≤ x7_5
                              · rw [if_pos c24] at H
                                have c24b0 : decide (0 ≤ x7_5) = true := decide_eq_true c24
                                clear c24
                                have H' := Aside0.mk H
                                clear H
                                have p25 : 0 ≤ (x7_5 : Int) := of_decide_eq_true (by first | (with_reducible assumption) | assumption)
                                have q25 : x7_5 < (x5_5.size : Int) := of_decide_eq_true (by first | (with_reducible assumption) | assumption)
                                have hx25 := bt_at x5_5 x7_5
                                replace p25 := eq_true p25
                                replace q25 := eq_true q25
                                go_wp2
                                go_roundg k5
                                case measure => have := HJ1.out; have := HJ5.out; have := HJ8.out; have := HJ15.out; have := HK5.out; omega
                                case rel => exact ⟨(wrap64 ((wrap64 (10 * x6_5)) - (((bt x5_5 x7_5) - 48) % 256))), (wrap64 (x7_5 + 1)), (by first | rfl | (simp; done) | (simp [*]; done) | (simp [isEmpty_bne]; done) | (simp; simp only [wrap64]; omega) | (simp [*]; simp only [wrap64]; omega)), (by first | rfl | (simp; done) | (simp [*]; done) | (simp [isEmpty_bne]; done) | (simp; simp only [wrap64]; omega) | (simp [*]; simp only [wrap64]; omega)), H', ⟨by have := HJ1.out; have := HJ5.out; have := HJ8.out; have := HJ15.out; have := HK5.out; omega⟩, by repeat (first | exact Drawn0.refl _ | apply Drawn0.step)⟩
                              · rw [if_neg c24] at H
                                exact absurd H (by simp)
                            · replace c23 := Bool.eq_false_iff.mpr c23
                              subst c23
                              have H1 : (if 0 ≤ x7_5 then (larumref03_Parse.l0 k5 false x5_5 (wrap64 ((wrap64 (10 * x6_5)) + (((bt x5_5 x7_5) - 48) % 256))) (wrap64 (x7_5 + 1))) else (none)) = some (r1, r2) := by rw [if_neg (show ¬ (false = true) by decide)] at H; exact H
                              clear H
                              have H := H1
                              clear H1
                              by_cases c26 : 0 ≤ x7_5
                              · rw [if_pos c26] at H
                                have c26b0 : decide (0 ≤ x7_5) = true := decide_eq_true c26
                                clear c26
                                have H' := Aside0.mk H
                                clear H
                                have p27 : 0 ≤ (x7_5 : Int) := of_decide_eq_true (by first | (with_reducible assumption) | assumption)
                                have q27 : x7_5 < (x5_5.size : Int) := of_decide_eq_true (by first | (with_reducible assumption) | assumption)
                                have hx27 := bt_at x5_5 x7_5
                                replace p27 := eq_true p27
                                replace q27 := eq_true q27
                                go_wp2
                                go_roundg k5
                                case measure => have := HJ1.out; have := HJ5.out; have := HJ8.out; have := HJ15.out; have := HK5.out; omega
                                case rel => exact ⟨(wrap64 ((wrap64 (10 * x6_5)) + (((bt x5_5 x7_5) - 48) % 256))), (wrap64 (x7_5 + 1)), (by first | rfl | (simp; done) | (simp [*]; done) | (simp [isEmpty_bne]; done) | (simp; simp only [wrap64]; omega) | (simp [*]; simp only [wrap64]; omega)), (by first | rfl | (simp; done) | (simp [*]; done) | (simp [isEmpty_bne]; done) | (simp; simp only [wrap64]; omega) | (simp [*]; simp only [wrap64]; omega)), H', ⟨by have := HJ1.out; have := HJ5.out; have := HJ8.out; have := HJ15.out; have := HK5.out; omega⟩, by repeat (first | exact Drawn0.refl _ | apply Drawn0.step)⟩
                              · rw [if_neg c26] at H
                                exact absurd H (by simp)
                          · rw [if_neg c22] at H
                            have c22b0 : decide (x7_5 < (x5_5.size : Int)) = false := decide_eq_false c22
                            clear c22
                            simp only [Option.some.injEq, Prod.mk.injEq] at H
                            obtain ⟨rfl, rfl⟩ := H
                            go_wp2
                            go_ret2
                            exact ⟨by first | rfl | (simp; done) | (simp [*]; done) | (simp [isEmpty_bne]; done) | (simp; simp only [wrap64]; omega) | (simp [*]; simp only [wrap64]; omega), by repeat (first | exact Drawn0.refl _ | apply Drawn0.step)⟩

end Go.Proofs.YtedmjlflppckmaaGreatDoor.PK

namespace Go.Proofs.YtedmjlflppckmaaGreatDoor.PK
open Go.RowKit Go.Proofs.YtedmjlflppckmaaGreatDoorW.PrintWords Go.Proofs.YtedmjlflppckmaaGreatDoorW.PrintLast Go.Proofs.YtedmjlflppckmaaGreatDoorW.PrintMore
open Go.Proofs.YtedmjlflppckmaaGreatDoor.Pre
attribute [local go_sem] max2_int min2_int max_two min_two max_three min_three max_four min_four binOp_gtr_str binOp_leq_str binOp_geq_str

/-! ### larumref03_Print: function 19 -/
mutual
def larumref03_Print.j0 : Nat → Int → Bool → Option (ByteArray)
  | 0, _, _ => none
  | k + 1, x0, x9 => if x9 = true then (some (strOfNums (([(wrap64 (48 + x0)) % 256] : List Int)))) else (if x0 ≥ 0 then ((larumref03_Print.f k (wrap64 (Int.tdiv x0 10))).bind fun t127 => ((larumref03_Print.f k (Int.tmod x0 10)).bind fun t128 => (if t127.size + t128.size ≤ 9223372036854775807 then (some (t127 ++ t128)) else (none)))) else (if x0 > (-10) then ((larumref03_Print.f k (wrap64 (-x0))).bind fun t129 => (if 1 + t129.size ≤ 9223372036854775807 then (some ((⟨#[45]⟩ : ByteArray) ++ t129)) else (none))) else ((larumref03_Print.f k (wrap64 (Int.tdiv x0 10))).bind fun t130 => ((larumref03_Print.f k (wrap64 (-(Int.tmod x0 10)))).bind fun t131 => (if t130.size + t131.size ≤ 9223372036854775807 then (some (t130 ++ t131)) else (none))))))
def larumref03_Print.f : Nat → Int → Option (ByteArray)
  | 0, _ => none
  | k + 1, a0 => if a0 ≥ 0 then (larumref03_Print.j0 k a0 (decide (a0 < 10))) else (larumref03_Print.j0 k a0 false)
end
theorem larumref03_Print.mono_l : ∀ k, (∀ y0, LeO (larumref03_Print.f k y0) (larumref03_Print.f (k + 1) y0)) ∧ (∀ y0 y1, LeO (larumref03_Print.j0 k y0 y1) (larumref03_Print.j0 (k + 1) y0 y1))
  | 0 => ⟨fun _ r h => by simp [larumref03_Print.f] at h, fun _ _ r h => by simp [larumref03_Print.j0] at h⟩
  | k + 1 => by
    obtain ⟨ih0, ih1⟩ := larumref03_Print.mono_l k
    refine ⟨?_, ?_⟩
    · intro y0
      unfold larumref03_Print.f
      repeat' first
      | (with_reducible exact ih0 _)
      | (with_reducible exact ih1 _ _)
      | (with_reducible exact LeO.refl _)
      | (with_reducible exact LeO.none _)
      | (with_reducible refine LeO.ite ?_ ?_)
      | (with_reducible refine LeO.bind ?_ (fun _ => ?_))
      | exact ih0 _
      | exact ih1 _ _
      | exact LeO.none _
      | refine LeO.ite ?_ ?_
      | refine LeO.bind ?_ (fun _ => ?_)
    · intro y0 y1
      unfold larumref03_Print.j0
      repeat' first
      | (with_reducible exact ih0 _)
      | (with_reducible exact ih1 _ _)
      | (with_reducible exact LeO.refl _)
      | (with_reducible exact LeO.none _)
      | (with_reducible refine LeO.ite ?_ ?_)
      | (with_reducible refine LeO.bind ?_ (fun _ => ?_))
      | exact ih0 _
      | exact ih1 _ _
      | exact LeO.none _
      | refine LeO.ite ?_ ?_
      | refine LeO.bind ?_ (fun _ => ?_)
theorem larumref03_Print.mono : ∀ a0 k, LeO (larumref03_Print.f k a0) (larumref03_Print.f (k + 1) a0) := by
  intro a0 k
  obtain ⟨ih0, ih1⟩ := larumref03_Print.mono_l k
  exact ih0 a0
set_option maxHeartbeats 8000000 in
set_option maxRecDepth 100000 in
theorem larumref03_Print.calls (k : Nat) : ∀ (a0 : Int) (r : ByteArray) (w : World) (h : larumref03_Print.f k a0 = some r),
    Calls Tryz.prog 19 #[.int .i64 a0] w fun e w' => e = .returned (.string r) ∧ Below w.heap.size w w' := by
  induction k using Nat.strongRecOn with
  | _ k ih =>
  intro a0 r w h
  cases k with
  | zero => exact absurd h (by simp [larumref03_Print.f])
  | succ k =>
  simp only [larumref03_Print.f] at h
  have HB := Aside0.mk (Below.refl w.heap.size w)
  have H : (if a0 ≥ 0 then (larumref03_Print.j0 k a0 (decide (a0 < 10))) else (larumref03_Print.j0 k a0 false)) = some r := h
  clear h
  have HC2 := Aside0.mk H
  clear H
  go_enter Tryz.func19, Tryz.ntmps19
  go_upto_region 1 with (fail)
  go_cut [9] (fun v9 wc => ∃ (kq : Nat) (x9_1 : Bool), v9 = .bool x9_1 ∧ Aside0 (larumref03_Print.j0 kq a0 x9_1 = some r) ∧ Aside0 (kq ≤ k) ∧ Aside0 (Below w.heap.size w wc))
  case first =>
    have H := HC2.out
    clear HC2
    by_cases c3 : a0 ≥ 0
    · rw [if_pos c3] at H
      have c3b0 : decide (0 ≤ a0) = true := decide_eq_true c3
      clear c3
      (first | rw [c3b0] | (simp only [i64_w, i32_w]; rw [c3b0]) | skip)
      have H' := Aside0.mk H
      clear H
      go_wp2
      go_meet
      case rel => exact ⟨_, (decide (a0 < 10)), (by first | rfl | (simp; done) | (simp [*]; done) | (simp [isEmpty_bne]; done) | (simp; simp only [wrap64]; omega) | (simp [*]; simp only [wrap64]; omega)), H', ⟨by first | omega | exact Nat.le_refl _⟩, ⟨by repeat (first | (with_reducible first | exact HB.out | apply below_alloc | apply pw_below_drewN | apply below_drew1) | exact HB.out)⟩⟩
    · rw [if_neg c3] at H
      have c3b0 : decide (0 ≤ a0) = false := decide_eq_false c3
      clear c3
      (first | rw [c3b0] | (simp only [i64_w, i32_w]; rw [c3b0]) | skip)
      have H' := Aside0.mk H
      clear H
      go_wp2
      go_meet
      case rel => exact ⟨_, (false), (by first | rfl | (simp; done) | (simp [*]; done) | (simp [isEmpty_bne]; done) | (simp; simp only [wrap64]; omega) | (simp [*]; simp only [wrap64]; omega)), H', ⟨by first | omega | exact Nat.le_refl _⟩, ⟨by repeat (first | (with_reducible first | exact HB.out | apply below_alloc | apply pw_below_drewN | apply below_drew1) | exact HB.out)⟩⟩
  case rest =>
    clear HC2
    try clear c1
    try clear p2
    try clear c3
    try clear c3b0
    obtain ⟨kq, x9_1, rfl, HA, HJ1, HB⟩ := hcut
    cases kq with
    | zero => exact absurd HA.out (by simp [larumref03_Print.j0])
    | succ kj1 =>
      have H := HA.out
      clear HA
      simp only [larumref03_Print.j0] at H
      by_cases c4 : x9_1 = true
      · subst c4
        have H1 : (some (strOfNums (([(wrap64 (48 + a0)) % 256] : List Int)))) = some r := by rw [if_pos rfl] at H; exact H
        clear H
        have H := H1
        clear H1
        obtain ⟨y124, hy124⟩ : ∃ y_ : List Int, y_ = (([(wrap64 (48 + a0)) % 256] : List Int)) := ⟨_, rfl⟩
        replace H : (some (strOfNums y124)) = some r := by first | (rw [hy124]; with_reducible exact H) | (have H2_ := (Option.bind_some _ _).symm.trans H; rw [hy124]; with_reducible exact H2_) | (have H2_ := (Option.bind_some _ _).symm.trans H; with_reducible exact H2_) | with_reducible exact H | (rw [hy124]; exact H) | exact H
        have Ny124 := Aside0.mk hy124
        clear hy124
        obtain rfl := Option.some.inj H
        go_wp2_with (first | ((with_reducible refine gate_dst (N := 13) rfl ?_); refine Kd.R_lit (Kd.int .u8) _ 5 ?hg (N := 13) ?hd (xs := ([(wrap64 (48 + a0)) % 256] : List Int)) (inner := [.int .u8 ((wrap64 (48 + a0)) % 256)]) (ok := fun _ => True) (okp := fun _ => True) ?hr ?hp (fun _ hk => hk) trivial (Below.refl _ _) (Nat.le_refl _) (by simp) ?_; (case hd => rfl); (case hg => rfl); (case hr => first | (go_simp; done) | (go_simp; rfl)); (case hp => exact (Reps.one (show Kd.M (Kd.int .u8) _ _ _ ((wrap64 (48 + a0)) % 256) [.int .u8 ((wrap64 (48 + a0)) % 256)] from rfl) (Reps.none _ _))); intro v125 w5 ho6 hb hg_ hnew_; clear hg_ hnew_; (first | rw [← Ny124.out] at ho6 | (simp only [Int.reduceToNat] at ho6; rw [← Ny124.out] at ho6)); have n0_ := Aside0.mk (Kd.R_lower ho6 (below_size (by repeat (first | (with_reducible first | exact HB.out | apply below_alloc | apply pw_below_drewN | apply below_drew1) | exact HB.out)))); have n1_ := Aside0.mk (below_step (by repeat (first | (with_reducible first | exact HB.out | apply below_alloc | apply pw_below_drewN | apply below_drew1) | exact HB.out)) hb); clear HB; have HO126 := n0_; have HB := n1_; clear n0_ n1_; clear hb ho6; have hcv7 := own_string (P := Tryz.prog) Tryz.underlying119 Tryz.underlying5 Tryz.underlying9 (Kd.own_of_R HO126.out)))
        go_ret
        exact ⟨by first | rfl | (simp [errW_none, errW_some] <;> rfl) | (simp [*, errW_none, errW_some] <;> rfl), by repeat (first | (with_reducible first | exact HB.out | apply below_alloc | apply pw_below_drewN | apply below_drew1) | exact HB.out)⟩
      · replace c4 := Bool.eq_false_iff.mpr c4
        subst c4
        have H1 : (if a0 ≥ 0 then ((larumref03_Print.f kj1 (wrap64 (Int.tdiv a0 10))).bind fun t127 => ((larumref03_Print.f kj1 (Int.tmod a0 10)).bind fun t128 => (if t127.size + t128.size ≤ 9223372036854775807 then (some (t127 ++ t128)) else (none)))) else (if a0 > (-10) then ((larumref03_Print.f kj1 (wrap64 (-a0))).bind fun t129 => (if 1 + t129.size ≤ 9223372036854775807 then (some ((⟨#[45]⟩ : ByteArray) ++ t129)) else (none))) else ((larumref03_Print.f kj1 (wrap64 (Int.tdiv a0 10))).bind fun t130 => ((larumref03_Print.f kj1 (wrap64 (-(Int.tmod a0 10)))).bind fun t131 => (if t130.size + t131.size ≤ 9223372036854775807 then (some (t130 ++ t131)) else (none)))))) = some r := by rw [if_neg (show ¬ (false = true) by decide)] at H; exact H
        clear H
        have H := H1
        clear H1
        by_cases c8 : a0 ≥ 0
        · rw [if_pos c8] at H
          have c8b0 : decide (0 ≤ a0) = true := decide_eq_true c8
          clear c8
          replace H := Option.bind_eq_some_iff.mp H
          obtain ⟨t127, A90, H⟩ := H
          replace H : ((larumref03_Print.f kj1 (Int.tmod a0 10)).bind fun t128 => (if t127.size + t128.size ≤ 9223372036854775807 then (some (t127 ++ t128)) else (none))) = some r := H
          have A9 := Aside0.mk A90
          clear A90
          replace H := Option.bind_eq_some_iff.mp H
          obtain ⟨t128, A100, H⟩ := H
          replace H : (if t127.size + t128.size ≤ 9223372036854775807 then (some (t127 ++ t128)) else (none)) = some r := H
          have A10 := Aside0.mk A100
          clear A100
          by_cases c11 : t127.size + t128.size ≤ 9223372036854775807
          · rw [if_pos c11] at H
            have c11b0 := eq_true c11
            have c11b1 : decide (t127.size + t128.size ≤ 9223372036854775807) = true := decide_eq_true c11
            try have c11b2 : (9223372036854775807 < t127.size + t128.size) = False := eq_false (Nat.not_lt.2 c11)
            obtain rfl := Option.some.inj H
            go_wp2_with (first | ((with_reducible refine gate_callee (f := 19) rfl ?_); refine goesL_ (some 21) rfl rfl Tryz.func19 (by kernel_rfl) rfl #[.int .i64 (wrap64 (Int.tdiv a0 10))] rfl (by (try simp only [List.map_toArray, List.map_cons, List.map_nil]); first | done | rfl | (simp only [List.length_drop, List.length_take]; rfl)) ?_; (with_reducible refine (ih kj1 (by have := HJ1.out; omega) (wrap64 (Int.tdiv a0 10)) t127 _ A9.out).mono ?_); rintro e w12 ⟨rfl, hb⟩; refine ⟨_, rfl, ?_⟩; have n0_ := Aside0.mk (below_step (by repeat (first | (with_reducible first | exact HB.out | apply below_alloc | apply pw_below_drewN | apply below_drew1) | exact HB.out)) hb); clear HB; have HB := n0_; clear n0_; (try clear hb); (try clear hb2); (try clear hk); (try clear hi)) | ((with_reducible refine gate_callee (f := 19) rfl ?_); refine goesL_ (some 23) rfl rfl Tryz.func19 (by kernel_rfl) rfl #[.int .i64 (Int.tmod a0 10)] rfl (by (try simp only [List.map_toArray, List.map_cons, List.map_nil]); first | done | rfl | (simp only [List.length_drop, List.length_take]; rfl)) ?_; (with_reducible refine (ih kj1 (by have := HJ1.out; omega) (Int.tmod a0 10) t128 _ A10.out).mono ?_); rintro e w13 ⟨rfl, hb⟩; refine ⟨_, rfl, ?_⟩; have n0_ := Aside0.mk (below_step (by repeat (first | (with_reducible first | exact HB.out | apply below_alloc | apply pw_below_drewN | apply below_drew1) | exact HB.out)) hb); clear HB; have HB := n0_; clear n0_; (try clear hb); (try clear hb2); (try clear hk); (try clear hi)))
            go_ret
            exact ⟨by first | rfl | (simp [errW_none, errW_some] <;> rfl) | (simp [*, errW_none, errW_some] <;> rfl), by repeat (first | (with_reducible first | exact HB.out | apply below_alloc | apply pw_below_drewN | apply below_drew1) | exact HB.out)⟩
          · rw [if_neg c11] at H
            exact absurd H (by simp)
        · rw [if_neg c8] at H
          have c8b0 : decide (0 ≤ a0) = false := decide_eq_false c8
          clear c8
          by_cases c14 : a0 > (-10)
          · rw [if_pos c14] at H
            have c14b0 : decide ((-10) < a0) = true := decide_eq_true c14
            clear c14
            replace H := Option.bind_eq_some_iff.mp H
            obtain ⟨t129, A150, H⟩ := H
            replace H : (if 1 + t129.size ≤ 9223372036854775807 then (some ((⟨#[45]⟩ : ByteArray) ++ t129)) else (none)) = some r := H
            have A15 := Aside0.mk A150
            clear A150
            by_cases c16 : 1 + t129.size ≤ 9223372036854775807
            · rw [if_pos c16] at H
              have c16b0 := eq_true c16
              have c16b1 : decide (1 + t129.size ≤ 9223372036854775807) = true := decide_eq_true c16
              try have c16b2 : (9223372036854775807 < 1 + t129.size) = False := eq_false (Nat.not_lt.2 c16)
              obtain rfl := Option.some.inj H
              go_wp2_with (first | ((with_reducible refine gate_callee (f := 19) rfl ?_); refine goesL_ (some 29) rfl rfl Tryz.func19 (by kernel_rfl) rfl #[.int .i64 (wrap64 (-a0))] rfl (by (try simp only [List.map_toArray, List.map_cons, List.map_nil]); first | done | rfl | (simp only [List.length_drop, List.length_take]; rfl)) ?_; (with_reducible refine (ih kj1 (by have := HJ1.out; omega) (wrap64 (-a0)) t129 _ A15.out).mono ?_); rintro e w17 ⟨rfl, hb⟩; refine ⟨_, rfl, ?_⟩; have n0_ := Aside0.mk (below_step (by repeat (first | (with_reducible first | exact HB.out | apply below_alloc | apply pw_below_drewN | apply below_drew1) | exact HB.out)) hb); clear HB; have HB := n0_; clear n0_; (try clear hb); (try clear hb2); (try clear hk); (try clear hi)))
              go_ret
              exact ⟨by first | rfl | (simp [errW_none, errW_some] <;> rfl) | (simp [*, errW_none, errW_some] <;> rfl), by repeat (first | (with_reducible first | exact HB.out | apply below_alloc | apply pw_below_drewN | apply below_drew1) | exact HB.out)⟩
            · rw [if_neg c16] at H
              exact absurd H (by simp)
          · rw [if_neg c14] at H
            have c14b0 : decide ((-10) < a0) = false := decide_eq_false c14
            clear c14
            replace H := Option.bind_eq_some_iff.mp H
            obtain ⟨t130, A180, H⟩ := H
            replace H : ((larumref03_Print.f kj1 (wrap64 (-(Int.tmod a0 10)))).bind fun t131 => (if t130.size + t131.size ≤ 9223372036854775807 then (some (t130 ++ t131)) else (none))) = some r := H
            have A18 := Aside0.mk A180
            clear A180
            replace H := Option.bind_eq_some_iff.mp H
            obtain ⟨t131, A190, H⟩ := H
            replace H : (if t130.size + t131.size ≤ 9223372036854775807 then (some (t130 ++ t131)) else (none)) = some r := H
            have A19 := Aside0.mk A190
            clear A190
            by_cases c20 : t130.size + t131.size ≤ 9223372036854775807
            · rw [if_pos c20] at H
              have c20b0 := eq_true c20
              have c20b1 : decide (t130.size + t131.size ≤ 9223372036854775807) = true := decide_eq_true c20
              try have c20b2 : (9223372036854775807 < t130.size + t131.size) = False := eq_false (Nat.not_lt.2 c20)
              obtain rfl := Option.some.inj H
              go_wp2_with (first | ((with_reducible refine gate_callee (f := 19) rfl ?_); refine goesL_ (some 33) rfl rfl Tryz.func19 (by kernel_rfl) rfl #[.int .i64 (wrap64 (Int.tdiv a0 10))] rfl (by (try simp only [List.map_toArray, List.map_cons, List.map_nil]); first | done | rfl | (simp only [List.length_drop, List.length_take]; rfl)) ?_; (with_reducible refine (ih kj1 (by have := HJ1.out; omega) (wrap64 (Int.tdiv a0 10)) t130 _ A18.out).mono ?_); rintro e w21 ⟨rfl, hb⟩; refine ⟨_, rfl, ?_⟩; have n0_ := Aside0.mk (below_step (by repeat (first | (with_reducible first | exact HB.out | apply below_alloc | apply pw_below_drewN | apply below_drew1) | exact HB.out)) hb); clear HB; have HB := n0_; clear n0_; (try clear hb); (try clear hb2); (try clear hk); (try clear hi)) | ((with_reducible refine gate_callee (f := 19) rfl ?_); refine goesL_ (some 36) rfl rfl Tryz.func19 (by kernel_rfl) rfl #[.int .i64 (wrap64 (-(Int.tmod a0 10)))] rfl (by (try simp only [List.map_toArray, List.map_cons, List.map_nil]); first | done | rfl | (simp only [List.length_drop, List.length_take]; rfl)) ?_; (with_reducible refine (ih kj1 (by have := HJ1.out; omega) (wrap64 (-(Int.tmod a0 10))) t131 _ A19.out).mono ?_); rintro e w22 ⟨rfl, hb⟩; refine ⟨_, rfl, ?_⟩; have n0_ := Aside0.mk (below_step (by repeat (first | (with_reducible first | exact HB.out | apply below_alloc | apply pw_below_drewN | apply below_drew1) | exact HB.out)) hb); clear HB; have HB := n0_; clear n0_; (try clear hb); (try clear hb2); (try clear hk); (try clear hi)))
              go_ret
              exact ⟨by first | rfl | (simp [errW_none, errW_some] <;> rfl) | (simp [*, errW_none, errW_some] <;> rfl), by repeat (first | (with_reducible first | exact HB.out | apply below_alloc | apply pw_below_drewN | apply below_drew1) | exact HB.out)⟩
            · rw [if_neg c20] at H
              exact absurd H (by simp)

end Go.Proofs.YtedmjlflppckmaaGreatDoor.PK
