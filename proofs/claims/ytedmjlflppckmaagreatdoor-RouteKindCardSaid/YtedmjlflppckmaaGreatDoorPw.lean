import Derived.Test.YtedmjlflppckmaaGreatDoorProg
import Derived.Below
import Derived.Deep.Draws
import Derived.Deep.AppendLies
import Derived.Maps.AppendAt
import Derived.OwnWalk
import Derived.Laws.BytesArg
import Derived.Laws.MakeOwn
import Derived.Laws.OwnMore
import Derived.Deep.OwnRows
import Derived.Tactics
import Derived.Lib.ConvBytes
import Derived.Laws.Slices
import Derived.WalkKit
import Derived.KernelRfl
import Derived.RowKit3
import Derived.Deep.LoopGhost
import Derived.Deep.QuietTactic
import Derived.BigQuiet
import Derived.WideLaws
import Derived.Deep.DeepCutAuto
import Derived.Deep.CutBlock
import Derived.Deep.RegionHeld3
import Derived.Laws.Rows
import Derived.Lib.AppendStr
import Derived.ArgAppend
import Derived.Laws.IdiomCopy
import Derived.OrdersHeld
import Derived.Laws.BitsLemmas
import Derived.RowKit
import Derived.Shelf.Abstract
import Derived.Lib.Hide
import Derived.Test.YtedmjlflppckmaaGreatDoorPre
import Derived.Test.YtedmjlflppckmaaGreatDoorBld
import Derived.Test.YtedmjlflppckmaaGreatDoorShelf
import Derived.Test.YtedmjlflppckmaaGreatDoorAs
import Derived.WalkSpells
import Derived.Laws.DeepStrings4
import Derived.Outline
import Derived.Test.YtedmjlflppckmaaGreatDoorWWords
import Derived.Test.YtedmjlflppckmaaGreatDoorWLast
import Derived.Test.YtedmjlflppckmaaGreatDoorWTab
import Derived.Test.YtedmjlflppckmaaGreatDoorWFour
import Derived.Test.YtedmjlflppckmaaGreatDoorWQPut
import Derived.Test.YtedmjlflppckmaaGreatDoorWApart
import Derived.Test.YtedmjlflppckmaaGreatDoorWArr
import Derived.Test.YtedmjlflppckmaaGreatDoorWZeros
import Derived.Test.YtedmjlflppckmaaGreatDoorWFoot
import Derived.Test.YtedmjlflppckmaaGreatDoorWKept
import Derived.Test.YtedmjlflppckmaaGreatDoorWShare
import Derived.Test.YtedmjlflppckmaaGreatDoorWN
import Derived.Test.YtedmjlflppckmaaGreatDoorWFootNe
import Derived.Test.YtedmjlflppckmaaGreatDoorWAt
import Derived.Test.YtedmjlflppckmaaGreatDoorWEqStruct
import Derived.Test.YtedmjlflppckmaaGreatDoorWRepsOne
import Derived.Test.YtedmjlflppckmaaGreatDoorWInv
import Derived.Test.YtedmjlflppckmaaGreatDoorWInvWords
import Derived.Test.YtedmjlflppckmaaGreatDoorWGuard
import Derived.Test.YtedmjlflppckmaaGreatDoorWNEv
import Derived.Test.YtedmjlflppckmaaGreatDoorWMore
set_option linter.unusedVariables false
set_option linter.unusedSimpArgs false
namespace Go.Proofs.YtedmjlflppckmaaGreatDoor.PW
open Go.RowKit Go.Proofs.YtedmjlflppckmaaGreatDoorW.PrintWords Go.Proofs.YtedmjlflppckmaaGreatDoorW.PrintLast Go.Proofs.YtedmjlflppckmaaGreatDoorW.PrintMore
open Go.Proofs.YtedmjlflppckmaaGreatDoor.Pre
attribute [local go_sem] max2_int min2_int max_two min_two max_three min_three max_four min_four binOp_gtr_str binOp_leq_str binOp_geq_str



def errW : Option Int → Value
  | none => .nilIface
  | some c => .iface 0 (.int .i64 c)
theorem errW_none : errW none = .nilIface := rfl
theorem errW_some (c : Int) : errW (some c) = .iface 0 (.int .i64 c) := rfl

theorem info9 : (Tryz.prog.info? 9).map (fun i => (i.zero, i.size, i.bytes)) = some (some (.string ⟨#[]⟩), 1, 16) := by kernel_rfl
theorem info256 : (Tryz.prog.info? 256).map (fun i => (i.zero, i.size, i.bytes)) = some (some (.agg #[(.string ⟨#[]⟩), (.string ⟨#[]⟩)]), 2, 32) := by kernel_rfl
-- the values' own types
/-! #### struct type 256 -/
structure S256 where
  f0 : ByteArray
  f1 : ByteArray
def z256 : S256 := ⟨(⟨#[]⟩ : ByteArray), (⟨#[]⟩ : ByteArray)⟩
def k256 : Kd S256 := Kd.iso (Kd.pair Kd.string Kd.string) (fun x : S256 => (x.f0, x.f1))
theorem k256_open {w : World} {x : S256} {cs : List Value} (h : k256.K w x cs) : cs = [.string x.f0, .string x.f1] := by
  obtain ⟨_, _, rfl, rfl, rfl⟩ := h
  exact rfl
theorem k256_openM {w : World} {base : Nat} {ok : Nat → Prop} {x : S256} {cs : List Value} (h : k256.M w base ok x cs) : cs = [.string x.f0, .string x.f1] := by
  obtain ⟨_, _, rfl, rfl, rfl⟩ := h
  exact rfl
theorem k256_mk (w : World) (x : S256)  : k256.K w x [.string x.f0, .string x.f1] := ⟨[.string x.f0], [.string x.f1], rfl, rfl, rfl⟩
theorem k256_mkM (w : World) (base : Nat) (ok : Nat → Prop) (x : S256)  : k256.M w base ok x [.string x.f0, .string x.f1] := ⟨[.string x.f0], [.string x.f1], rfl, rfl, rfl⟩
def rd_T256 (xs : List S256) (i : Int) : S256 := xs.getD i.toNat z256
theorem at_T256 {w : World} {A : Option Addr} {n : Nat} {xs : List S256} (h : Kd.C k256 w A n xs) (i : Int) (h0 : 0 ≤ i) (h1 : i < n) : ∃ ad , A = some ad ∧ w.cell? (ad.add (i.toNat * 2)) = some (.string (rd_T256 xs i).f0) ∧ w.cell? ⟨(ad.add (i.toNat * 2)).block, (ad.add (i.toNat * 2)).off + 1, none⟩ = some (.string (rd_T256 xs i).f1) := by
  obtain ⟨ad, c, e, _, hK, hc0⟩ := Kd.C_get h z256 i h0 h1
  have hc : ∀ j u, c[j]? = some u → w.cell? (ad.add (i.toNat * 2 + j)) = some u := hc0
  obtain rfl := k256_open hK
  exact ⟨ad, e, hc 0 _ rfl, by rw [← add_field _ _ 1 (by omega)]; exact hc 1 _ rfl⟩

end Go.Proofs.YtedmjlflppckmaaGreatDoor.PW

namespace Go.Proofs.YtedmjlflppckmaaGreatDoor.PW
open Go.RowKit Go.Proofs.YtedmjlflppckmaaGreatDoorW.PrintWords Go.Proofs.YtedmjlflppckmaaGreatDoorW.PrintLast Go.Proofs.YtedmjlflppckmaaGreatDoorW.PrintMore
open Go.Proofs.YtedmjlflppckmaaGreatDoor.Pre
attribute [local go_sem] max2_int min2_int max_two min_two max_three min_three max_four min_four binOp_gtr_str binOp_leq_str binOp_geq_str

/-! ### stringslite_HasPrefix: function 148 -/
def stringslite_HasPrefix.f (a0 : ByteArray) (a1 : ByteArray) : Option (Bool) := if (a0.size : Int) ≥ (a1.size : Int) then (if 0 ≤ (a1.size : Int) then (if (a1.size : Int) ≤ (a0.size : Int) then (some ((a0.extract 0 ((a1.size : Int) : Int).toNat).toList == a1.toList)) else (none)) else (none)) else (some false)
set_option maxHeartbeats 8000000 in
set_option maxRecDepth 100000 in
theorem stringslite_HasPrefix.calls (a0 : ByteArray) (a1 : ByteArray) (r : Bool) (w : World) (h : stringslite_HasPrefix.f a0 a1 = some r) :
    Calls Tryz.prog 148 #[.string a0, .string a1] w fun e w' => e = .returned (.bool r) ∧ Drawn0 w w' := by
  have H : (if (a0.size : Int) ≥ (a1.size : Int) then (if 0 ≤ (a1.size : Int) then (if (a1.size : Int) ≤ (a0.size : Int) then (some ((a0.extract 0 ((a1.size : Int) : Int).toNat).toList == a1.toList)) else (none)) else (none)) else (some false)) = some r := h
  clear h
  by_cases c3 : (a0.size : Int) ≥ (a1.size : Int)
  · rw [if_pos c3] at H
    have c3b0 : decide ((a1.size : Int) ≤ (a0.size : Int)) = true := decide_eq_true c3
    have c3b1 : decide (a1.size ≤ a0.size) = true := decide_eq_true (Int.ofNat_le.mp c3)
    clear c3
    by_cases c4 : 0 ≤ (a1.size : Int)
    · rw [if_pos c4] at H
      have c4b0 := eq_true c4
      have c4b1 : decide (0 ≤ (a1.size : Int)) = true := decide_eq_true c4
      clear c4
      by_cases c5 : (a1.size : Int) ≤ (a0.size : Int)
      · rw [if_pos c5] at H
        have c5b0 := eq_true c5
        have c5b1 : decide ((a1.size : Int) ≤ (a0.size : Int)) = true := decide_eq_true c5
        clear c5
        obtain rfl := Option.some.inj H
        go_enter Tryz.func148, Tryz.ntmps148
        go_wp2
        go_ret
        exact ⟨by first | rfl | (simp; done) | (simp [*]; done) | (simp [isEmpty_bne]; done) | (simp; simp only [wrap64]; omega) | (simp [*]; simp only [wrap64]; omega), by repeat (first | exact Drawn0.refl _ | apply Drawn0.step)⟩
      · rw [if_neg c5] at H
        exact absurd H (by simp)
    · rw [if_neg c4] at H
      exact absurd H (by simp)
  · rw [if_neg c3] at H
    have c3b0 : decide ((a1.size : Int) ≤ (a0.size : Int)) = false := decide_eq_false c3
    have c3b1 : decide (a1.size ≤ a0.size) = false := decide_eq_false (fun h => c3 (Int.ofNat_le.mpr h))
    clear c3
    obtain rfl := Option.some.inj H
    go_enter Tryz.func148, Tryz.ntmps148
    go_wp2
    go_ret
    exact ⟨by first | rfl | (simp; done) | (simp [*]; done) | (simp [isEmpty_bne]; done) | (simp; simp only [wrap64]; omega) | (simp [*]; simp only [wrap64]; omega), by repeat (first | exact Drawn0.refl _ | apply Drawn0.step)⟩

end Go.Proofs.YtedmjlflppckmaaGreatDoor.PW

namespace Go.Proofs.YtedmjlflppckmaaGreatDoor.PW
open Go.RowKit Go.Proofs.YtedmjlflppckmaaGreatDoorW.PrintWords Go.Proofs.YtedmjlflppckmaaGreatDoorW.PrintLast Go.Proofs.YtedmjlflppckmaaGreatDoorW.PrintMore
open Go.Proofs.YtedmjlflppckmaaGreatDoor.Pre
attribute [local go_sem] max2_int min2_int max_two min_two max_three min_three max_four min_four binOp_gtr_str binOp_leq_str binOp_geq_str

/-! ### stringslite_CutPrefix: function 113 -/
def stringslite_CutPrefix.f (a0 : ByteArray) (a1 : ByteArray) : Option (ByteArray × Bool) := (stringslite_HasPrefix.f a0 a1).bind fun t101 => (if t101 = true then (if 0 ≤ (a1.size : Int) then (if (a1.size : Int) ≤ (a0.size : Int) then (some (a0.extract ((a1.size : Int) : Int).toNat a0.size, true)) else (none)) else (none)) else (some (a0, false)))
set_option maxHeartbeats 8000000 in
set_option maxRecDepth 100000 in
theorem stringslite_CutPrefix.calls (a0 : ByteArray) (a1 : ByteArray) (r1 : ByteArray) (r2 : Bool) (w : World) (h : stringslite_CutPrefix.f a0 a1 = some (r1, r2)) :
    Calls Tryz.prog 113 #[.string a0, .string a1] w fun e w' => e = .returned (.tuple #[.string r1, .bool r2]) ∧ Drawn0 w w' := by
  have H : ((stringslite_HasPrefix.f a0 a1).bind fun t101 => (if t101 = true then (if 0 ≤ (a1.size : Int) then (if (a1.size : Int) ≤ (a0.size : Int) then (some (a0.extract ((a1.size : Int) : Int).toNat a0.size, true)) else (none)) else (none)) else (some (a0, false)))) = some (r1, r2) := h
  clear h
  replace H := Option.bind_eq_some_iff.mp H
  obtain ⟨t101, A30, H⟩ := H
  replace H : (if t101 = true then (if 0 ≤ (a1.size : Int) then (if (a1.size : Int) ≤ (a0.size : Int) then (some (a0.extract ((a1.size : Int) : Int).toNat a0.size, true)) else (none)) else (none)) else (some (a0, false))) = some (r1, r2) := H
  have A3 := Aside0.mk A30
  clear A30
  by_cases c4 : t101 = true
  · subst c4
    have H1 : (if 0 ≤ (a1.size : Int) then (if (a1.size : Int) ≤ (a0.size : Int) then (some (a0.extract ((a1.size : Int) : Int).toNat a0.size, true)) else (none)) else (none)) = some (r1, r2) := by rw [if_pos rfl] at H; exact H
    clear H
    have H := H1
    clear H1
    by_cases c5 : 0 ≤ (a1.size : Int)
    · rw [if_pos c5] at H
      have c5b0 := eq_true c5
      have c5b1 : decide (0 ≤ (a1.size : Int)) = true := decide_eq_true c5
      clear c5
      by_cases c6 : (a1.size : Int) ≤ (a0.size : Int)
      · rw [if_pos c6] at H
        have c6b0 := eq_true c6
        have c6b1 : decide ((a1.size : Int) ≤ (a0.size : Int)) = true := decide_eq_true c6
        clear c6
        simp only [Option.some.injEq, Prod.mk.injEq] at H
        obtain ⟨rfl, rfl⟩ := H
        go_enter Tryz.func113, Tryz.ntmps113
        go_wp2_with (first | ((with_reducible refine gate_callee (f := 148) rfl ?_); refine goesL_ (some 8) rfl rfl Tryz.func148 (by kernel_rfl) rfl #[.string a0, .string a1] rfl (by (try simp only [List.map_toArray, List.map_cons, List.map_nil]); first | done | rfl | (simp only [List.length_drop, List.length_take]; rfl)) ?_; (with_reducible refine (stringslite_HasPrefix.calls a0 a1 true _ A3.out).mono ?_); rintro e w' ⟨rfl, ⟨nd, rfl⟩⟩; refine ⟨_, rfl, ?_⟩))
        go_ret2
        exact ⟨by first | rfl | (simp; done) | (simp [*]; done) | (simp [isEmpty_bne]; done) | (simp; simp only [wrap64]; omega) | (simp [*]; simp only [wrap64]; omega), by repeat (first | exact Drawn0.refl _ | apply Drawn0.step)⟩
      · rw [if_neg c6] at H
        exact absurd H (by simp)
    · rw [if_neg c5] at H
      exact absurd H (by simp)
  · replace c4 := Bool.eq_false_iff.mpr c4
    subst c4
    have H1 : (some (a0, false)) = some (r1, r2) := by rw [if_neg (show ¬ (false = true) by decide)] at H; exact H
    clear H
    have H := H1
    clear H1
    simp only [Option.some.injEq, Prod.mk.injEq] at H
    obtain ⟨rfl, rfl⟩ := H
    go_enter Tryz.func113, Tryz.ntmps113
    go_wp2_with (first | ((with_reducible refine gate_callee (f := 148) rfl ?_); refine goesL_ (some 8) rfl rfl Tryz.func148 (by kernel_rfl) rfl #[.string a0, .string a1] rfl (by (try simp only [List.map_toArray, List.map_cons, List.map_nil]); first | done | rfl | (simp only [List.length_drop, List.length_take]; rfl)) ?_; (with_reducible refine (stringslite_HasPrefix.calls a0 a1 false _ A3.out).mono ?_); rintro e w' ⟨rfl, ⟨nd, rfl⟩⟩; refine ⟨_, rfl, ?_⟩))
    go_ret2
    exact ⟨by first | rfl | (simp; done) | (simp [*]; done) | (simp [isEmpty_bne]; done) | (simp; simp only [wrap64]; omega) | (simp [*]; simp only [wrap64]; omega), by repeat (first | exact Drawn0.refl _ | apply Drawn0.step)⟩

end Go.Proofs.YtedmjlflppckmaaGreatDoor.PW

namespace Go.Proofs.YtedmjlflppckmaaGreatDoor.PW
open Go.RowKit Go.Proofs.YtedmjlflppckmaaGreatDoorW.PrintWords Go.Proofs.YtedmjlflppckmaaGreatDoorW.PrintLast Go.Proofs.YtedmjlflppckmaaGreatDoorW.PrintMore
open Go.Proofs.YtedmjlflppckmaaGreatDoor.Pre
attribute [local go_sem] max2_int min2_int max_two min_two max_three min_three max_four min_four binOp_gtr_str binOp_leq_str binOp_geq_str

/-! ### strings_CutPrefix: function 73 -/
def strings_CutPrefix.f (a0 : ByteArray) (a1 : ByteArray) : Option (ByteArray × Bool) := (stringslite_CutPrefix.f a0 a1).bind fun bt102 => (some (bt102.1, bt102.2))
set_option maxHeartbeats 8000000 in
set_option maxRecDepth 100000 in
theorem strings_CutPrefix.calls (a0 : ByteArray) (a1 : ByteArray) (r1 : ByteArray) (r2 : Bool) (w : World) (h : strings_CutPrefix.f a0 a1 = some (r1, r2)) :
    Calls Tryz.prog 73 #[.string a0, .string a1] w fun e w' => e = .returned (.tuple #[.string r1, .bool r2]) ∧ Drawn0 w w' := by
  have H : ((stringslite_CutPrefix.f a0 a1).bind fun bt102 => (some (bt102.1, bt102.2))) = some (r1, r2) := h
  clear h
  replace H := Option.bind_eq_some_iff.mp H
  obtain ⟨⟨t102, t103⟩, A30, H⟩ := H
  replace H : (some (t102, t103)) = some (r1, r2) := H
  have A3 := Aside0.mk A30
  clear A30
  simp only [Option.some.injEq, Prod.mk.injEq] at H
  obtain ⟨rfl, rfl⟩ := H
  go_enter Tryz.func73, Tryz.ntmps73
  go_wp2_with (first | ((with_reducible refine gate_callee (f := 113) rfl ?_); refine goesL_ (some 8) rfl rfl Tryz.func113 (by kernel_rfl) rfl #[.string a0, .string a1] rfl (by (try simp only [List.map_toArray, List.map_cons, List.map_nil]); first | done | rfl | (simp only [List.length_drop, List.length_take]; rfl)) ?_; (with_reducible refine (stringslite_CutPrefix.calls a0 a1 t102 t103 _ A3.out).mono ?_); rintro e w' ⟨rfl, ⟨nd, rfl⟩⟩; refine ⟨_, rfl, ?_⟩))
  go_ret2
  exact ⟨by first | rfl | (simp; done) | (simp [*]; done) | (simp [isEmpty_bne]; done) | (simp; simp only [wrap64]; omega) | (simp [*]; simp only [wrap64]; omega), by repeat (first | exact Drawn0.refl _ | apply Drawn0.step)⟩

end Go.Proofs.YtedmjlflppckmaaGreatDoor.PW

namespace Go.Proofs.YtedmjlflppckmaaGreatDoor.PW
open Go.RowKit Go.Proofs.YtedmjlflppckmaaGreatDoorW.PrintWords Go.Proofs.YtedmjlflppckmaaGreatDoorW.PrintLast Go.Proofs.YtedmjlflppckmaaGreatDoorW.PrintMore
open Go.Proofs.YtedmjlflppckmaaGreatDoor.Pre
attribute [local go_sem] max2_int min2_int max_two min_two max_three min_three max_four min_four binOp_gtr_str binOp_leq_str binOp_geq_str


/-! ### strings_Cut: function 74 -/
def strings_Cut.f (a0 a1 : ByteArray) : Option (ByteArray × ByteArray × Bool) :=
  if a0.size < 4294967281 then some (⟨(Lib.cut a0.data.toList a1.data.toList).1.toArray⟩, ⟨(Lib.cut a0.data.toList a1.data.toList).2.1.toArray⟩, (Lib.cut a0.data.toList a1.data.toList).2.2) else none
theorem strings_Cut.calls (a0 a1 : ByteArray) (r1 r2 : ByteArray) (r3 : Bool) (w : World) (h : strings_Cut.f a0 a1 = some (r1, r2, r3)) (hG : GOK w) :
    Calls Tryz.prog 74 #[.string a0, .string a1] w fun e w' => e = .returned (.tuple #[.string r1, .string r2, .bool r3]) ∧ Drawn0 w w' := by
  unfold strings_Cut.f at h
  split at h
  · rename_i hs
    simp only [Option.some.injEq, Prod.mk.injEq] at h
    obtain ⟨rfl, rfl, rfl⟩ := h
    obtain ⟨m, hm⟩ := hG.ml
    exact (Tryz.strings_Cut a0 a1 m w hs hm).mono fun e w' ⟨he, hw⟩ => ⟨he, ⟨hw⟩⟩
  · cases h


end Go.Proofs.YtedmjlflppckmaaGreatDoor.PW

namespace Go.Proofs.YtedmjlflppckmaaGreatDoor.PW
open Go.RowKit Go.Proofs.YtedmjlflppckmaaGreatDoorW.PrintWords Go.Proofs.YtedmjlflppckmaaGreatDoorW.PrintLast Go.Proofs.YtedmjlflppckmaaGreatDoorW.PrintMore
open Go.Proofs.YtedmjlflppckmaaGreatDoor.Pre
attribute [local go_sem] max2_int min2_int max_two min_two max_three min_three max_four min_four binOp_gtr_str binOp_leq_str binOp_geq_str


/-! ### strings_Split: function 75 -/
def strings_Split.f (a0 a1 : ByteArray) : Option (List ByteArray) :=
  if a0.size < 4294967281 ∧ 1 ≤ a1.size then some (Lib.splitB a1 0 (Lib.countB a0 a1) a0) else none
theorem strings_Split.calls (a0 a1 : ByteArray) (r : List ByteArray) (w : World) (h : strings_Split.f a0 a1 = some r) (hG : GOK w) :
    Calls Tryz.prog 75 #[.string a0, .string a1] w fun e w' => ∃ v0_ : Value, e = .returned v0_ ∧ Kd.R Kd.string 9 w' w.heap.size (fun _ => True) v0_ r ∧ Below w.heap.size w w' := by
  unfold strings_Split.f at h
  split at h
  · rename_i hs
    simp only [Option.some.injEq] at h
    obtain ⟨m, hm⟩ := hG.ml
    have hl : r.length = Lib.countB a0 a1 + 1 := by rw [← h]; exact Lib.splitB_all a1 hs.2 0 _ a0 rfl
    have hm1 : Lib.countB a0 a1 + 1 ≤ 9223372036854775807 := by have := Lib.countB_le a1 hs.2 _ a0 (Nat.le_refl _); omega
    refine (Tryz.strings_Split a0 a1 m w hs.1 hm hs.2).mono fun e w' ⟨he, hw⟩ => ?_
    subst hw
    rw [h] at *
    refine ⟨_, he, ?_, (Below.refl _ _).alloc (Nat.le_refl _) _⟩
    have ho := own_lit_of (enc := Value.string) w w.heap.size 9 r (Nat.le_refl _) (by omega)
    rw [hl] at ho
    exact Kd.R_of_own (by rw [hl]; exact ho) (fun _ _ => trivial)
  · cases h


end Go.Proofs.YtedmjlflppckmaaGreatDoor.PW

namespace Go.Proofs.YtedmjlflppckmaaGreatDoor.PW
open Go.RowKit Go.Proofs.YtedmjlflppckmaaGreatDoorW.PrintWords Go.Proofs.YtedmjlflppckmaaGreatDoorW.PrintLast Go.Proofs.YtedmjlflppckmaaGreatDoorW.PrintMore
open Go.Proofs.YtedmjlflppckmaaGreatDoor.Pre
attribute [local go_sem] max2_int min2_int max_two min_two max_three min_three max_four min_four binOp_gtr_str binOp_leq_str binOp_geq_str

/-! ### chars_Digit: function 68 -/
def chars_Digit.f (a0 : Int) : Option (Bool) := if a0 ≥ 48 then (some (decide (a0 ≤ 57))) else (some false)
set_option maxHeartbeats 8000000 in
set_option maxRecDepth 100000 in
theorem chars_Digit.calls (a0 : Int) (r : Bool) (w : World) (h : chars_Digit.f a0 = some r) :
    Calls Tryz.prog 68 #[.int .u8 a0] w fun e w' => e = .returned (.bool r) ∧ Drawn0 w w' := by
  have H : (if a0 ≥ 48 then (some (decide (a0 ≤ 57))) else (some false)) = some r := h
  clear h
  by_cases c2 : a0 ≥ 48
  · rw [if_pos c2] at H
    have c2b0 : decide (48 ≤ a0) = true := decide_eq_true c2
    clear c2
    obtain rfl := Option.some.inj H
    go_enter Tryz.func68, Tryz.ntmps68
    go_wp2
    go_ret
    exact ⟨by first | rfl | (simp; done) | (simp [*]; done) | (simp [isEmpty_bne]; done) | (simp; simp only [wrap64]; omega) | (simp [*]; simp only [wrap64]; omega), by repeat (first | exact Drawn0.refl _ | apply Drawn0.step)⟩
  · rw [if_neg c2] at H
    have c2b0 : decide (48 ≤ a0) = false := decide_eq_false c2
    clear c2
    obtain rfl := Option.some.inj H
    go_enter Tryz.func68, Tryz.ntmps68
    go_wp2
    go_ret
    exact ⟨by first | rfl | (simp; done) | (simp [*]; done) | (simp [isEmpty_bne]; done) | (simp; simp only [wrap64]; omega) | (simp [*]; simp only [wrap64]; omega), by repeat (first | exact Drawn0.refl _ | apply Drawn0.step)⟩

end Go.Proofs.YtedmjlflppckmaaGreatDoor.PW

namespace Go.Proofs.YtedmjlflppckmaaGreatDoor.PW
open Go.RowKit Go.Proofs.YtedmjlflppckmaaGreatDoorW.PrintWords Go.Proofs.YtedmjlflppckmaaGreatDoorW.PrintLast Go.Proofs.YtedmjlflppckmaaGreatDoorW.PrintMore
open Go.Proofs.YtedmjlflppckmaaGreatDoor.Pre
attribute [local go_sem] max2_int min2_int max_two min_two max_three min_three max_four min_four binOp_gtr_str binOp_leq_str binOp_geq_str

/-! ### num_hex: function 153 -/
mutual
def num_hex.j0 : Nat → Int → Int → Bool → Option (Int)
  | 0, _, _, _ => none
  | k + 1, x0, x3, x4 => if x4 = true then (some (10 + ((((((x0 + 32) % 256) - 49) % 256) - 48) % 256))) else (if x0 ≥ 97 then (num_hex.j1 k x0 x3 (decide (x0 ≤ 102))) else (num_hex.j1 k x0 x3 false))
def num_hex.j1 : Nat → Int → Int → Bool → Option (Int)
  | 0, _, _, _ => none
  | k + 1, x0, x3, x11 => if x11 = true then (some (10 + ((((x0 - 49) % 256) - 48) % 256))) else ((chars_Digit.f x0).bind fun t104 => (if t104 = true then (some (wrap64 (x3 + ((x0 - 48) % 256)))) else (some (-1))))
end
def num_hex.f (k : Nat) (a0 : Int) : Option (Int) := if a0 ≥ 65 then (num_hex.j0 k a0 0 (decide (a0 ≤ 70))) else (num_hex.j0 k a0 0 false)
theorem num_hex.mono_l : ∀ k, (∀ y0 y1 y2, LeO (num_hex.j0 k y0 y1 y2) (num_hex.j0 (k + 1) y0 y1 y2)) ∧ (∀ y0 y1 y2, LeO (num_hex.j1 k y0 y1 y2) (num_hex.j1 (k + 1) y0 y1 y2))
  | 0 => ⟨fun _ _ _ r h => by simp [num_hex.j0] at h, fun _ _ _ r h => by simp [num_hex.j1] at h⟩
  | k + 1 => by
    obtain ⟨ih0, ih1⟩ := num_hex.mono_l k
    refine ⟨?_, ?_⟩
    · intro y0 y1 y2
      unfold num_hex.j0
      repeat' first
      | (with_reducible exact ih0 _ _ _)
      | (with_reducible exact ih1 _ _ _)
      | (with_reducible exact LeO.refl _)
      | (with_reducible exact LeO.none _)
      | (with_reducible refine LeO.ite ?_ ?_)
      | (with_reducible refine LeO.bind ?_ (fun _ => ?_))
      | exact ih0 _ _ _
      | exact ih1 _ _ _
      | exact LeO.none _
      | refine LeO.ite ?_ ?_
      | refine LeO.bind ?_ (fun _ => ?_)
    · intro y0 y1 y2
      unfold num_hex.j1
      repeat' first
      | (with_reducible exact ih0 _ _ _)
      | (with_reducible exact ih1 _ _ _)
      | (with_reducible exact LeO.refl _)
      | (with_reducible exact LeO.none _)
      | (with_reducible refine LeO.ite ?_ ?_)
      | (with_reducible refine LeO.bind ?_ (fun _ => ?_))
      | exact ih0 _ _ _
      | exact ih1 _ _ _
      | exact LeO.none _
      | refine LeO.ite ?_ ?_
      | refine LeO.bind ?_ (fun _ => ?_)
theorem num_hex.mono : ∀ a0 k, LeO (num_hex.f k a0) (num_hex.f (k + 1) a0) := by
  intro a0 k
  obtain ⟨ih0, ih1⟩ := num_hex.mono_l k
  unfold num_hex.f
  repeat' first
      | (with_reducible exact ih0 _ _ _)
      | (with_reducible exact ih1 _ _ _)
      | (with_reducible exact LeO.refl _)
      | (with_reducible exact LeO.none _)
      | (with_reducible refine LeO.ite ?_ ?_)
      | (with_reducible refine LeO.bind ?_ (fun _ => ?_))
      | exact ih0 _ _ _
      | exact ih1 _ _ _
      | exact LeO.none _
      | refine LeO.ite ?_ ?_
      | refine LeO.bind ?_ (fun _ => ?_)
set_option maxHeartbeats 8000000 in
set_option maxRecDepth 100000 in
theorem num_hex.calls (k : Nat) (a0 : Int) (r : Int) (w : World) (h : num_hex.f k a0 = some r) :
    Calls Tryz.prog 153 #[.int .u8 a0] w fun e w' => e = .returned (.int .i64 r) ∧ Drawn0 w w' := by
  have H : (if a0 ≥ 65 then (num_hex.j0 k a0 0 (decide (a0 ≤ 70))) else (num_hex.j0 k a0 0 false)) = some r := h
  clear h
  have HC2 := Aside0.mk H
  clear H
  go_enter Tryz.func153, Tryz.ntmps153
  go_upto_region 2 with (fail)
  go_cut [4] (fun v4 wc => ∃ (kq : Nat) (x4_1 : Bool), v4 = .bool x4_1 ∧ Aside0 (num_hex.j0 kq a0 0 x4_1 = some r) ∧ Aside0 (kq ≤ k) ∧ Drawn0 w wc)
  case first =>
    have H := HC2.out
    clear HC2
    by_cases c3 : a0 ≥ 65
    · rw [if_pos c3] at H
      have c3b0 : decide (65 ≤ a0) = true := decide_eq_true c3
      clear c3
      (first | rw [c3b0] | (simp only [i64_w, i32_w]; rw [c3b0]) | skip)
      have H' := Aside0.mk H
      clear H
      go_wp2
      go_meet
      case rel => exact ⟨_, (decide (a0 ≤ 70)), (by first | rfl | (simp; done) | (simp [*]; done) | (simp [isEmpty_bne]; done) | (simp; simp only [wrap64]; omega) | (simp [*]; simp only [wrap64]; omega)), H', ⟨by first | omega | exact Nat.le_refl _⟩, by repeat (first | exact Drawn0.refl _ | apply Drawn0.step)⟩
    · rw [if_neg c3] at H
      have c3b0 : decide (65 ≤ a0) = false := decide_eq_false c3
      clear c3
      (first | rw [c3b0] | (simp only [i64_w, i32_w]; rw [c3b0]) | skip)
      have H' := Aside0.mk H
      clear H
      go_wp2
      go_meet
      case rel => exact ⟨_, (false), (by first | rfl | (simp; done) | (simp [*]; done) | (simp [isEmpty_bne]; done) | (simp; simp only [wrap64]; omega) | (simp [*]; simp only [wrap64]; omega)), H', ⟨by first | omega | exact Nat.le_refl _⟩, by repeat (first | exact Drawn0.refl _ | apply Drawn0.step)⟩
  case rest =>
    clear HC2
    try clear c1
    try clear p2
    try clear c3
    try clear c3b0
    obtain ⟨kq, x4_1, rfl, HA, HJ1, ⟨mc1, rfl⟩⟩ := hcut
    cases kq with
    | zero => exact absurd HA.out (by simp [num_hex.j0])
    | succ kj1 =>
      have H := HA.out
      clear HA
      simp only [num_hex.j0] at H
      by_cases c4 : x4_1 = true
      · subst c4
        have H1 : (some (10 + ((((((a0 + 32) % 256) - 49) % 256) - 48) % 256))) = some r := by rw [if_pos rfl] at H; exact H
        clear H
        have H := H1
        clear H1
        obtain rfl := Option.some.inj H
        go_wp2
        go_ret
        exact ⟨by first | rfl | (simp; done) | (simp [*]; done) | (simp [isEmpty_bne]; done) | (simp; simp only [wrap64]; omega) | (simp [*]; simp only [wrap64]; omega), by repeat (first | exact Drawn0.refl _ | apply Drawn0.step)⟩
      · replace c4 := Bool.eq_false_iff.mpr c4
        subst c4
        have H1 : (if a0 ≥ 97 then (num_hex.j1 kj1 a0 0 (decide (a0 ≤ 102))) else (num_hex.j1 kj1 a0 0 false)) = some r := by rw [if_neg (show ¬ (false = true) by decide)] at H; exact H
        clear H
        have H := H1
        clear H1
        have HC5 := Aside0.mk H
        clear H
        go_upto_region 3 with (fail)
        go_cut [11] (fun v11 wc => ∃ (kq : Nat) (x11_4 : Bool), v11 = .bool x11_4 ∧ Aside0 (num_hex.j1 kq a0 0 x11_4 = some r) ∧ Aside0 (kq ≤ kj1) ∧ Drawn0 w wc)
        case first =>
          have H := HC5.out
          clear HC5
          by_cases c6 : a0 ≥ 97
          · rw [if_pos c6] at H
            have c6b0 : decide (97 ≤ a0) = true := decide_eq_true c6
            clear c6
            (first | rw [c6b0] | (simp only [i64_w, i32_w]; rw [c6b0]) | skip)
            have H' := Aside0.mk H
            clear H
            go_wp2
            go_meet
            case rel => exact ⟨_, (decide (a0 ≤ 102)), (by first | rfl | (simp; done) | (simp [*]; done) | (simp [isEmpty_bne]; done) | (simp; simp only [wrap64]; omega) | (simp [*]; simp only [wrap64]; omega)), H', ⟨by have := HJ1.out; first | omega | exact Nat.le_refl _⟩, by repeat (first | exact Drawn0.refl _ | apply Drawn0.step)⟩
          · rw [if_neg c6] at H
            have c6b0 : decide (97 ≤ a0) = false := decide_eq_false c6
            clear c6
            (first | rw [c6b0] | (simp only [i64_w, i32_w]; rw [c6b0]) | skip)
            have H' := Aside0.mk H
            clear H
            go_wp2
            go_meet
            case rel => exact ⟨_, (false), (by first | rfl | (simp; done) | (simp [*]; done) | (simp [isEmpty_bne]; done) | (simp; simp only [wrap64]; omega) | (simp [*]; simp only [wrap64]; omega)), H', ⟨by have := HJ1.out; first | omega | exact Nat.le_refl _⟩, by repeat (first | exact Drawn0.refl _ | apply Drawn0.step)⟩
        case rest =>
          clear HC5
          try clear c1
          try clear p2
          try clear c3
          try clear c3b0
          try clear c4
          try clear c6
          try clear c6b0
          try clear p2
          obtain ⟨kq, x11_4, rfl, HA, HJ4, ⟨mc4, rfl⟩⟩ := hcut
          cases kq with
          | zero => exact absurd HA.out (by simp [num_hex.j1])
          | succ kj4 =>
            have H := HA.out
            clear HA
            simp only [num_hex.j1] at H
            by_cases c7 : x11_4 = true
            · subst c7
              have H1 : (some (10 + ((((a0 - 49) % 256) - 48) % 256))) = some r := by rw [if_pos rfl] at H; exact H
              clear H
              have H := H1
              clear H1
              obtain rfl := Option.some.inj H
              go_wp2
              go_ret
              exact ⟨by first | rfl | (simp; done) | (simp [*]; done) | (simp [isEmpty_bne]; done) | (simp; simp only [wrap64]; omega) | (simp [*]; simp only [wrap64]; omega), by repeat (first | exact Drawn0.refl _ | apply Drawn0.step)⟩
            · replace c7 := Bool.eq_false_iff.mpr c7
              subst c7
              have H1 : ((chars_Digit.f a0).bind fun t104 => (if t104 = true then (some (wrap64 (0 + ((a0 - 48) % 256)))) else (some (-1)))) = some r := by rw [if_neg (show ¬ (false = true) by decide)] at H; exact H
              clear H
              have H := H1
              clear H1
              replace H := Option.bind_eq_some_iff.mp H
              obtain ⟨t104, A80, H⟩ := H
              replace H : (if t104 = true then (some (wrap64 (0 + ((a0 - 48) % 256)))) else (some (-1))) = some r := H
              have A8 := Aside0.mk A80
              clear A80
              by_cases c9 : t104 = true
              · subst c9
                have H1 : (some (wrap64 (0 + ((a0 - 48) % 256)))) = some r := by rw [if_pos rfl] at H; exact H
                clear H
                have H := H1
                clear H1
                obtain rfl := Option.some.inj H
                go_wp2_with (first | ((with_reducible refine gate_callee (f := 68) rfl ?_); refine goesL_ (some 20) rfl rfl Tryz.func68 (by kernel_rfl) rfl #[.int .u8 a0] rfl (by (try simp only [List.map_toArray, List.map_cons, List.map_nil]); first | done | rfl | (simp only [List.length_drop, List.length_take]; rfl)) ?_; (with_reducible refine (chars_Digit.calls a0 true _ A8.out).mono ?_); rintro e w' ⟨rfl, ⟨nd, rfl⟩⟩; refine ⟨_, rfl, ?_⟩))
                go_ret
                exact ⟨by first | rfl | (simp; done) | (simp [*]; done) | (simp [isEmpty_bne]; done) | (simp; simp only [wrap64]; omega) | (simp [*]; simp only [wrap64]; omega), by repeat (first | exact Drawn0.refl _ | apply Drawn0.step)⟩
              · replace c9 := Bool.eq_false_iff.mpr c9
                subst c9
                have H1 : (some (-1)) = some r := by rw [if_neg (show ¬ (false = true) by decide)] at H; exact H
                clear H
                have H := H1
                clear H1
                obtain rfl := Option.some.inj H
                go_wp2_with (first | ((with_reducible refine gate_callee (f := 68) rfl ?_); refine goesL_ (some 20) rfl rfl Tryz.func68 (by kernel_rfl) rfl #[.int .u8 a0] rfl (by (try simp only [List.map_toArray, List.map_cons, List.map_nil]); first | done | rfl | (simp only [List.length_drop, List.length_take]; rfl)) ?_; (with_reducible refine (chars_Digit.calls a0 false _ A8.out).mono ?_); rintro e w' ⟨rfl, ⟨nd, rfl⟩⟩; refine ⟨_, rfl, ?_⟩))
                go_ret
                exact ⟨by first | rfl | (simp; done) | (simp [*]; done) | (simp [isEmpty_bne]; done) | (simp; simp only [wrap64]; omega) | (simp [*]; simp only [wrap64]; omega), by repeat (first | exact Drawn0.refl _ | apply Drawn0.step)⟩

end Go.Proofs.YtedmjlflppckmaaGreatDoor.PW

namespace Go.Proofs.YtedmjlflppckmaaGreatDoor.PW
open Go.RowKit Go.Proofs.YtedmjlflppckmaaGreatDoorW.PrintWords Go.Proofs.YtedmjlflppckmaaGreatDoorW.PrintLast Go.Proofs.YtedmjlflppckmaaGreatDoorW.PrintMore
open Go.Proofs.YtedmjlflppckmaaGreatDoor.Pre
attribute [local go_sem] max2_int min2_int max_two min_two max_three min_three max_four min_four binOp_gtr_str binOp_leq_str binOp_geq_str

/-! ### num_Hex: function 116 -/
def num_Hex.l0 : Nat → ByteArray → Int → Bool → Int → Int → Option (Int × Int)
  | 0, _, _, _, _, _ => none
  | k + 1, x0, x4, x5, x9, x10 => if x10 < x9 then (if 0 ≤ x10 then (if x10 < (x0.size : Int) then ((num_hex.f k (bt x0 x10)).bind fun t105 => (if t105 < 0 then (some (0, 3)) else (if x5 = true then (num_Hex.l0 k x0 x4 true x9 (wrap64 (x10 + 1))) else (if (x4 > (wrap64 (Int.tdiv (wrap64 (2147483647 - t105)) 16))) then (num_Hex.l0 k x0 x4 (decide (x4 > (wrap64 (Int.tdiv (wrap64 (2147483647 - t105)) 16)))) x9 (wrap64 (x10 + 1))) else (num_Hex.l0 k x0 (wrap64 ((wrap64 (x4 * 16)) + t105)) (decide (x4 > (wrap64 (Int.tdiv (wrap64 (2147483647 - t105)) 16)))) x9 (wrap64 (x10 + 1))))))) else (none)) else (none)) else (if x0.toList = ([] : List UInt8) then (some (0, 3)) else (if x5 = true then (some (0, 5)) else (some (x4, 0))))
def num_Hex.f (k : Nat) (a0 : ByteArray) : Option (Int × Int) := num_Hex.l0 k a0 0 false (a0.size : Int) 0
theorem num_Hex.mono_l : ∀ k, (∀ y0 y1 y2 y3 y4, LeO (num_Hex.l0 k y0 y1 y2 y3 y4) (num_Hex.l0 (k + 1) y0 y1 y2 y3 y4))
  | 0 => fun _ _ _ _ _ r h => by simp [num_Hex.l0] at h
  | k + 1 => by
    have ih0 := num_Hex.mono_l k
    · intro y0 y1 y2 y3 y4
      unfold num_Hex.l0
      repeat' first
      | (with_reducible exact ih0 _ _ _ _ _)
      | (with_reducible exact num_hex.mono _ _)
      | (with_reducible exact LeO.refl _)
      | (with_reducible exact LeO.none _)
      | (with_reducible refine LeO.ite ?_ ?_)
      | (with_reducible refine LeO.bind ?_ (fun _ => ?_))
      | exact ih0 _ _ _ _ _
      | exact num_hex.mono _ _
      | exact LeO.none _
      | refine LeO.ite ?_ ?_
      | refine LeO.bind ?_ (fun _ => ?_)
theorem num_Hex.mono : ∀ a0 k, LeO (num_Hex.f k a0) (num_Hex.f (k + 1) a0) := by
  intro a0 k
  have ih0 := num_Hex.mono_l k
  unfold num_Hex.f
  repeat' first
      | (with_reducible exact ih0 _ _ _ _ _)
      | (with_reducible exact num_hex.mono _ _)
      | (with_reducible exact LeO.refl _)
      | (with_reducible exact LeO.none _)
      | (with_reducible refine LeO.ite ?_ ?_)
      | (with_reducible refine LeO.bind ?_ (fun _ => ?_))
      | exact ih0 _ _ _ _ _
      | exact num_hex.mono _ _
      | exact LeO.none _
      | refine LeO.ite ?_ ?_
      | refine LeO.bind ?_ (fun _ => ?_)
set_option maxHeartbeats 8000000 in
set_option maxRecDepth 100000 in
theorem num_Hex.calls (k : Nat) (a0 : ByteArray) (r1 : Int) (r2 : Int) (w : World) (h : num_Hex.f k a0 = some (r1, r2)) :
    Calls Tryz.prog 116 #[.string a0] w fun e w' => e = .returned (.tuple #[.int .i64 r1, .int .i64 r2]) ∧ Drawn0 w w' := by
  have H : (num_Hex.l0 k a0 0 false (a0.size : Int) 0) = some (r1, r2) := h
  clear h
  have H' := Aside0.mk H
  clear H
  go_enter Tryz.func116, Tryz.ntmps116
  go_wp2
  go_loopg [4, 5, 10] k (fun kq v4 v5 v10 w' => ∃ (x4_1 : Int) (x5_1 : Bool) (x10_1 : Int), v4 = .int .i64 x4_1 ∧ v5 = .bool x5_1 ∧ v10 = .int .i64 x10_1 ∧ Aside0 (num_Hex.l0 kq a0 x4_1 x5_1 (a0.size : Int) x10_1 = some (r1, r2)) ∧ Aside0 (kq ≤ k) ∧ Drawn0 w w')
  case atStart => exact ⟨(0), (false), (0), (by first | rfl | (simp; done) | (simp [*]; done) | (simp [isEmpty_bne]; done) | (simp; simp only [wrap64]; omega) | (simp [*]; simp only [wrap64]; omega)), (by first | rfl | (simp; done) | (simp [*]; done) | (simp [isEmpty_bne]; done) | (simp; simp only [wrap64]; omega) | (simp [*]; simp only [wrap64]; omega)), (by first | rfl | (simp; done) | (simp [*]; done) | (simp [isEmpty_bne]; done) | (simp; simp only [wrap64]; omega) | (simp [*]; simp only [wrap64]; omega)), H', ⟨Nat.le_refl _⟩, by repeat (first | exact Drawn0.refl _ | apply Drawn0.step)⟩
  case round =>
    clear H'
    try clear c1
    obtain ⟨x4_1, x5_1, x10_1, rfl, rfl, rfl, HA, HK1, ⟨m1, rfl⟩⟩ := hrel
    cases gk with
    | zero => exact absurd HA.out (by simp [num_Hex.l0])
    | succ k1 =>
      have H := HA.out
      clear HA
      simp only [num_Hex.l0] at H
      by_cases c2 : x10_1 < (a0.size : Int)
      · rw [if_pos c2] at H
        have c2b0 : decide (x10_1 < (a0.size : Int)) = true := decide_eq_true c2
        clear c2
        by_cases c3 : 0 ≤ x10_1
        · rw [if_pos c3] at H
          have c3b0 : decide (0 ≤ x10_1) = true := decide_eq_true c3
          clear c3
          by_cases c4 : x10_1 < (a0.size : Int)
          · rw [if_pos c4] at H
            have c4b0 : decide (x10_1 < (a0.size : Int)) = true := decide_eq_true c4
            clear c4
            replace H := Option.bind_eq_some_iff.mp H
            obtain ⟨t105, A60, H⟩ := H
            replace H : (if t105 < 0 then (some (0, 3)) else (if x5_1 = true then (num_Hex.l0 k1 a0 x4_1 true (a0.size : Int) (wrap64 (x10_1 + 1))) else (if (x4_1 > (wrap64 (Int.tdiv (wrap64 (2147483647 - t105)) 16))) then (num_Hex.l0 k1 a0 x4_1 (decide (x4_1 > (wrap64 (Int.tdiv (wrap64 (2147483647 - t105)) 16)))) (a0.size : Int) (wrap64 (x10_1 + 1))) else (num_Hex.l0 k1 a0 (wrap64 ((wrap64 (x4_1 * 16)) + t105)) (decide (x4_1 > (wrap64 (Int.tdiv (wrap64 (2147483647 - t105)) 16)))) (a0.size : Int) (wrap64 (x10_1 + 1)))))) = some (r1, r2) := H
            have A6 := Aside0.mk A60
            clear A60
            by_cases c7 : t105 < 0
            · rw [if_pos c7] at H
              have c7b0 : decide (t105 < 0) = true := decide_eq_true c7
              clear c7
              simp only [Option.some.injEq, Prod.mk.injEq] at H
              obtain ⟨rfl, rfl⟩ := H
              have p5 : 0 ≤ (x10_1 : Int) := of_decide_eq_true (by first | (with_reducible assumption) | assumption)
              have q5 : x10_1 < (a0.size : Int) := of_decide_eq_true (by first | (with_reducible assumption) | assumption)
              have hx5 := bt_at a0 x10_1
              replace p5 := eq_true p5
              replace q5 := eq_true q5
              go_wp2_with (first | ((with_reducible refine gate_callee (f := 153) rfl ?_); refine goesL_ (some 16) rfl rfl Tryz.func153 (by kernel_rfl) rfl #[.int .u8 (bt a0 x10_1)] rfl (by (try simp only [List.map_toArray, List.map_cons, List.map_nil]); first | done | rfl | (simp only [List.length_drop, List.length_take]; rfl)) ?_; (with_reducible refine (num_hex.calls k1 (bt a0 x10_1) t105 _ A6.out).mono ?_); rintro e w' ⟨rfl, ⟨nd, rfl⟩⟩; refine ⟨_, rfl, ?_⟩))
              go_ret2
              exact ⟨by first | rfl | (simp; done) | (simp [*]; done) | (simp [isEmpty_bne]; done) | (simp; simp only [wrap64]; omega) | (simp [*]; simp only [wrap64]; omega), by repeat (first | exact Drawn0.refl _ | apply Drawn0.step)⟩
            · rw [if_neg c7] at H
              have c7b0 : decide (t105 < 0) = false := decide_eq_false c7
              clear c7
              by_cases c8 : x5_1 = true
              · subst c8
                have H1 : (num_Hex.l0 k1 a0 x4_1 true (a0.size : Int) (wrap64 (x10_1 + 1))) = some (r1, r2) := by rw [if_pos rfl] at H; exact H
                clear H
                have H := H1
                clear H1
                have H' := Aside0.mk H
                clear H
                have p5 : 0 ≤ (x10_1 : Int) := of_decide_eq_true (by first | (with_reducible assumption) | assumption)
                have q5 : x10_1 < (a0.size : Int) := of_decide_eq_true (by first | (with_reducible assumption) | assumption)
                have hx5 := bt_at a0 x10_1
                replace p5 := eq_true p5
                replace q5 := eq_true q5
                go_wp2_with (first | ((with_reducible refine gate_callee (f := 153) rfl ?_); refine goesL_ (some 16) rfl rfl Tryz.func153 (by kernel_rfl) rfl #[.int .u8 (bt a0 x10_1)] rfl (by (try simp only [List.map_toArray, List.map_cons, List.map_nil]); first | done | rfl | (simp only [List.length_drop, List.length_take]; rfl)) ?_; (with_reducible refine (num_hex.calls k1 (bt a0 x10_1) t105 _ A6.out).mono ?_); rintro e w' ⟨rfl, ⟨nd, rfl⟩⟩; refine ⟨_, rfl, ?_⟩))
                go_roundg k1
                case measure => have := HK1.out; omega
                case rel => exact ⟨(x4_1), (true), (wrap64 (x10_1 + 1)), (by first | rfl | (simp; done) | (simp [*]; done) | (simp [isEmpty_bne]; done) | (simp; simp only [wrap64]; omega) | (simp [*]; simp only [wrap64]; omega)), (by first | rfl | (simp; done) | (simp [*]; done) | (simp [isEmpty_bne]; done) | (simp; simp only [wrap64]; omega) | (simp [*]; simp only [wrap64]; omega)), (by first | rfl | (simp; done) | (simp [*]; done) | (simp [isEmpty_bne]; done) | (simp; simp only [wrap64]; omega) | (simp [*]; simp only [wrap64]; omega)), H', ⟨by have := HK1.out; omega⟩, by repeat (first | exact Drawn0.refl _ | apply Drawn0.step)⟩
              · replace c8 := Bool.eq_false_iff.mpr c8
                subst c8
                have H1 : (if (x4_1 > (wrap64 (Int.tdiv (wrap64 (2147483647 - t105)) 16))) then (num_Hex.l0 k1 a0 x4_1 (decide (x4_1 > (wrap64 (Int.tdiv (wrap64 (2147483647 - t105)) 16)))) (a0.size : Int) (wrap64 (x10_1 + 1))) else (num_Hex.l0 k1 a0 (wrap64 ((wrap64 (x4_1 * 16)) + t105)) (decide (x4_1 > (wrap64 (Int.tdiv (wrap64 (2147483647 - t105)) 16)))) (a0.size : Int) (wrap64 (x10_1 + 1)))) = some (r1, r2) := by rw [if_neg (show ¬ (false = true) by decide)] at H; exact H
                clear H
                have H := H1
                clear H1
                by_cases c9 : (x4_1 > (wrap64 (Int.tdiv (wrap64 (2147483647 - t105)) 16)))
                · rw [if_pos c9] at H
                  have c9b0 : decide ((wrap64 (Int.tdiv (wrap64 (2147483647 - t105)) 16)) < x4_1) = true := decide_eq_true c9
                  clear c9
                  have H' := Aside0.mk H
                  clear H
                  have p5 : 0 ≤ (x10_1 : Int) := of_decide_eq_true (by first | (with_reducible assumption) | assumption)
                  have q5 : x10_1 < (a0.size : Int) := of_decide_eq_true (by first | (with_reducible assumption) | assumption)
                  have hx5 := bt_at a0 x10_1
                  replace p5 := eq_true p5
                  replace q5 := eq_true q5
                  go_wp2_with (first | ((with_reducible refine gate_callee (f := 153) rfl ?_); refine goesL_ (some 16) rfl rfl Tryz.func153 (by kernel_rfl) rfl #[.int .u8 (bt a0 x10_1)] rfl (by (try simp only [List.map_toArray, List.map_cons, List.map_nil]); first | done | rfl | (simp only [List.length_drop, List.length_take]; rfl)) ?_; (with_reducible refine (num_hex.calls k1 (bt a0 x10_1) t105 _ A6.out).mono ?_); rintro e w' ⟨rfl, ⟨nd, rfl⟩⟩; refine ⟨_, rfl, ?_⟩))
                  go_roundg k1
                  case measure => have := HK1.out; omega
                  case rel => exact ⟨(x4_1), (decide (x4_1 > (wrap64 (Int.tdiv (wrap64 (2147483647 - t105)) 16)))), (wrap64 (x10_1 + 1)), (by first | rfl | (simp; done) | (simp [*]; done) | (simp [isEmpty_bne]; done) | (simp; simp only [wrap64]; omega) | (simp [*]; simp only [wrap64]; omega)), (by first | rfl | (simp; done) | (simp [*]; done) | (simp [isEmpty_bne]; done) | (simp; simp only [wrap64]; omega) | (simp [*]; simp only [wrap64]; omega)), (by first | rfl | (simp; done) | (simp [*]; done) | (simp [isEmpty_bne]; done) | (simp; simp only [wrap64]; omega) | (simp [*]; simp only [wrap64]; omega)), H', ⟨by have := HK1.out; omega⟩, by repeat (first | exact Drawn0.refl _ | apply Drawn0.step)⟩
                · rw [if_neg c9] at H
                  have c9b0 : decide ((wrap64 (Int.tdiv (wrap64 (2147483647 - t105)) 16)) < x4_1) = false := decide_eq_false c9
                  clear c9
                  have H' := Aside0.mk H
                  clear H
                  have p5 : 0 ≤ (x10_1 : Int) := of_decide_eq_true (by first | (with_reducible assumption) | assumption)
                  have q5 : x10_1 < (a0.size : Int) := of_decide_eq_true (by first | (with_reducible assumption) | assumption)
                  have hx5 := bt_at a0 x10_1
                  replace p5 := eq_true p5
                  replace q5 := eq_true q5
                  go_wp2_with (first | ((with_reducible refine gate_callee (f := 153) rfl ?_); refine goesL_ (some 16) rfl rfl Tryz.func153 (by kernel_rfl) rfl #[.int .u8 (bt a0 x10_1)] rfl (by (try simp only [List.map_toArray, List.map_cons, List.map_nil]); first | done | rfl | (simp only [List.length_drop, List.length_take]; rfl)) ?_; (with_reducible refine (num_hex.calls k1 (bt a0 x10_1) t105 _ A6.out).mono ?_); rintro e w' ⟨rfl, ⟨nd, rfl⟩⟩; refine ⟨_, rfl, ?_⟩))
                  go_roundg k1
                  case measure => have := HK1.out; omega
                  case rel => exact ⟨(wrap64 ((wrap64 (x4_1 * 16)) + t105)), (decide (x4_1 > (wrap64 (Int.tdiv (wrap64 (2147483647 - t105)) 16)))), (wrap64 (x10_1 + 1)), (by first | rfl | (simp; done) | (simp [*]; done) | (simp [isEmpty_bne]; done) | (simp; simp only [wrap64]; omega) | (simp [*]; simp only [wrap64]; omega)), (by first | rfl | (simp; done) | (simp [*]; done) | (simp [isEmpty_bne]; done) | (simp; simp only [wrap64]; omega) | (simp [*]; simp only [wrap64]; omega)), (by first | rfl | (simp; done) | (simp [*]; done) | (simp [isEmpty_bne]; done) | (simp; simp only [wrap64]; omega) | (simp [*]; simp only [wrap64]; omega)), H', ⟨by have := HK1.out; omega⟩, by repeat (first | exact Drawn0.refl _ | apply Drawn0.step)⟩
          · rw [if_neg c4] at H
            exact absurd H (by simp)
        · rw [if_neg c3] at H
          exact absurd H (by simp)
      · rw [if_neg c2] at H
        have c2b0 : decide (x10_1 < (a0.size : Int)) = false := decide_eq_false c2
        clear c2
        by_cases c10 : a0.toList = ([] : List UInt8)
        · rw [if_pos c10] at H
          have c10b0 : (a0.toList == ([] : List UInt8)) = true := beq_iff_eq.mpr c10
          have c10b1 : (a0.toList != ([] : List UInt8)) = false := bne_eq_false_iff_eq.mpr c10
          clear c10
          simp only [Option.some.injEq, Prod.mk.injEq] at H
          obtain ⟨rfl, rfl⟩ := H
          go_wp2
          go_ret2
          exact ⟨by first | rfl | (simp; done) | (simp [*]; done) | (simp [isEmpty_bne]; done) | (simp; simp only [wrap64]; omega) | (simp [*]; simp only [wrap64]; omega), by repeat (first | exact Drawn0.refl _ | apply Drawn0.step)⟩
        · rw [if_neg c10] at H
          have c10b0 : (a0.toList == ([] : List UInt8)) = false := beq_eq_false_iff_ne.mpr c10
          have c10b1 : (a0.toList != ([] : List UInt8)) = true := bne_iff_ne.mpr c10
          by_cases c11 : x5_1 = true
          · subst c11
            have H1 : (some (0, 5)) = some (r1, r2) := by rw [if_pos rfl] at H; exact H
            clear H
            have H := H1
            clear H1
            simp only [Option.some.injEq, Prod.mk.injEq] at H
            obtain ⟨rfl, rfl⟩ := H
            go_wp2
            go_ret2
            exact ⟨by first | rfl | (simp; done) | (simp [*]; done) | (simp [isEmpty_bne]; done) | (simp; simp only [wrap64]; omega) | (simp [*]; simp only [wrap64]; omega), by repeat (first | exact Drawn0.refl _ | apply Drawn0.step)⟩
          · replace c11 := Bool.eq_false_iff.mpr c11
            subst c11
            have H1 : (some (x4_1, 0)) = some (r1, r2) := by rw [if_neg (show ¬ (false = true) by decide)] at H; exact H
            clear H
            have H := H1
            clear H1
            simp only [Option.some.injEq, Prod.mk.injEq] at H
            obtain ⟨rfl, rfl⟩ := H
            go_wp2
            go_ret2
            exact ⟨by first | rfl | (simp; done) | (simp [*]; done) | (simp [isEmpty_bne]; done) | (simp; simp only [wrap64]; omega) | (simp [*]; simp only [wrap64]; omega), by repeat (first | exact Drawn0.refl _ | apply Drawn0.step)⟩

end Go.Proofs.YtedmjlflppckmaaGreatDoor.PW

namespace Go.Proofs.YtedmjlflppckmaaGreatDoor.PW
open Go.RowKit Go.Proofs.YtedmjlflppckmaaGreatDoorW.PrintWords Go.Proofs.YtedmjlflppckmaaGreatDoorW.PrintLast Go.Proofs.YtedmjlflppckmaaGreatDoorW.PrintMore
open Go.Proofs.YtedmjlflppckmaaGreatDoor.Pre
attribute [local go_sem] max2_int min2_int max_two min_two max_three min_three max_four min_four binOp_gtr_str binOp_leq_str binOp_geq_str


/-! ### pct_Decode: function 76 -/
def pct_Decode.go : Nat → ByteArray → Bool → List UInt8 → Nat → Option (ByteArray × Int)
  | 0, _, _, _, _ => none
  | k + 1, s, plus, acc, i =>
    if h : i < s.size then
      if (s[i].toNat : Int) = 37 then
        (num_Hex.f k (s.extract (i + 1) (min (i + 3) s.size))).bind fun t =>
          if t.2 = 0 ∧ i + 3 ≤ s.size then pct_Decode.go k s plus (acc ++ [(t.1 % 256).toNat.toUInt8]) (i + 3) else some (⟨#[]⟩, 3)
      else if (s[i].toNat : Int) = 43 ∧ plus = true then pct_Decode.go k s plus (acc ++ [32]) (i + 1)
      else pct_Decode.go k s plus (acc ++ [s[i]]) (i + 1)
    else some (⟨acc.toArray⟩, 0)
def pct_Decode.f (k : Nat) (a0 : ByteArray) (a1 : Bool) : Option (ByteArray × Int) := if a0.size ≤ 140737488351232 then pct_Decode.go k a0 a1 [] 0 else none
theorem pct_Decode.mono_go : ∀ k, ∀ s p acc i, LeO (pct_Decode.go k s p acc i) (pct_Decode.go (k + 1) s p acc i)
  | 0 => fun _ _ _ _ r h => by simp [pct_Decode.go] at h
  | k + 1 => by
    intro s p acc i
    have ih := pct_Decode.mono_go k
    unfold pct_Decode.go
    split
    · refine LeO.ite (LeO.bind (num_Hex.mono _ _) fun t => LeO.ite (ih _ _ _ _) (LeO.refl _)) (LeO.ite (ih _ _ _ _) (ih _ _ _ _))
    · exact LeO.refl _
theorem pct_Decode.mono : ∀ a0 a1 k, LeO (pct_Decode.f k a0 a1) (pct_Decode.f (k + 1) a0 a1) := by
  intro a0 a1 k
  unfold pct_Decode.f
  exact LeO.ite (pct_Decode.mono_go k _ _ _ _) (LeO.refl _)
theorem byteCells_snoc (acc : List UInt8) (c : UInt8) : Lib.byteCells (acc ++ [c]) = Lib.byteCells acc ++ [.int .u8 (c.toNat : Int)] := by simp [Lib.byteCells]
theorem byteCells_len (acc : List UInt8) : (Lib.byteCells acc).length = acc.length := by simp [Lib.byteCells]
theorem u8_mod (n : Int) : (((n % 256).toNat.toUInt8).toNat : Int) = n % 256 := by
  have h0 : 0 ≤ n % 256 := by omega
  have h1 : n % 256 < 256 := by omega
  simp [Nat.toUInt8, UInt8.toNat_ofNat']
  omega
theorem slice_lh {P : Program} {t : TypeId} (h : P.underlying t = some .string) (s : ByteArray) (i j : Nat) (x y : Int) (hx : x = i) (hy : y = j) (hij : i ≤ j) (hj : j ≤ s.size) (W : World) :
    (Instr.slice t (.string s) (some (.int .i64 x)) (some (.int .i64 y)) none).run P W = .ok (.string (s.extract i j)) W := by
  subst hx hy
  rw [run_slice_string_if W t s .i64 .i64 i j h, if_pos ⟨by omega, by omega⟩, if_pos ⟨by omega, by omega⟩]
  simp
set_option maxHeartbeats 4000000 in
set_option maxRecDepth 100000 in
theorem pct_Decode.calls (k : Nat) (a0 : ByteArray) (a1 : Bool) (r1 : ByteArray) (r2 : Int) (w : World) (h : pct_Decode.f k a0 a1 = some (r1, r2)) :
    Calls Tryz.prog 76 #[.string a0, .bool a1] w fun e w' => e = .returned (.tuple #[.string r1, .int .i64 r2]) ∧ Below w.heap.size w w' := by
  unfold pct_Decode.f at h
  by_cases hs : a0.size ≤ 140737488351232
  case neg => rw [if_neg hs] at h; cases h
  rw [if_pos hs] at h
  have H0 := Lib.hid h
  clear h
  go_enter Tryz.func76, Tryz.ntmps76
  go_wp2
  have hb0 := Lib.fresh_isBuilder 247 5 w
  have hB0 : Below w.heap.size w (w.alloc (.cells #[.pointer none, .slice none 0 0] 247)) := (Below.refl _ _).alloc (Nat.le_refl _) _
  go_loopw [4, 5, 7, 8, 9] (fun _ _ i _ _ wr => ∃ (q : Nat) (j : Nat) (acc : List UInt8), j ≤ a0.size ∧ i = .int .i64 j ∧ Aside0 (acc.length ≤ j) ∧ Aside0 (Lib.IsBuilder 247 5 w.heap.size w.heap.size (Lib.byteCells acc) wr) ∧ Aside0 (Below w.heap.size w wr) ∧ Aside0 (pct_Decode.go q a0 a1 acc j = some (r1, r2))) (fun _ _ i _ _ _ => a0.size - (intOf i).toNat)
  case atStart => exact ⟨k, 0, [], Nat.zero_le _, rfl, ⟨Nat.le_refl _⟩, ⟨hb0⟩, ⟨hB0⟩, ⟨H0.out⟩⟩
  case round =>
    obtain ⟨q, j, acc, hj, rfl, ha, hb, hB, H⟩ := hrel
    clear H0 hb0 hB0
    obtain ⟨q, rfl⟩ : ∃ m, q = m + 1 := by
      cases q with
      | zero => have := H.out; simp [pct_Decode.go] at this
      | succ m => exact ⟨m, rfl⟩
    have H1 := H.out
    clear H
    unfold pct_Decode.go at H1
    by_cases hlt : j < a0.size
    · rw [dif_pos hlt] at H1
      by_cases c37 : (a0[j].toNat : Int) = 37
      · rw [if_pos c37] at H1
        obtain ⟨⟨t1, t2⟩, ht, H1⟩ := Option.bind_eq_some_iff.1 H1
        have b37 : ((a0[j].toNat : Int) == 37) = true := beq_iff_eq.2 c37
        clear c37
        by_cases h3 : j + 3 ≤ a0.size
        · have hm : min (j + 3) a0.size = j + 3 := Nat.min_eq_left h3
          rw [hm] at ht
          have hsl : ∀ W : World, (Instr.slice 9 (.string a0) (some (.int .i64 ((j : Int) + 1))) (some (.int .i64 ((j : Int) + 3))) none).run Tryz.prog W = .ok (.string (a0.extract (j + 1) (j + 3))) W := fun W => slice_lh Tryz.underlying9 a0 (j + 1) (j + 3) _ _ (by omega) (by omega) (by omega) h3 W
          have ht' := Lib.hid ht
          by_cases c2 : t2 = 0
          · rw [if_pos ⟨c2, h3⟩] at H1
            have H2 := Lib.hid H1
            subst c2
            clear ht H1 hm
            go_wp2_with fail
            refine (num_Hex.calls q _ t1 0 _ ht'.out).mono ?_
            rintro e w1 ⟨rfl, hd⟩
            obtain ⟨⟨nd, rfl⟩⟩ := hd
            have hB1 := pw_below_drewN hB.out nd
            go_wp2_with fail
            refine (bld_byteW _ _ (Lib.byteCells acc) _ _ (show Lib.IsBuilder 247 5 w.heap.size w.heap.size (Lib.byteCells acc) (wr.drewN nd) from hb.out) (by rw [byteCells_len]; have := ha.out; omega) (by simpa using hB.out.size)).mono ?_
            rintro e w2 ⟨rfl, hb2, hB2⟩
            have hb3 : Aside0 (Lib.IsBuilder 247 5 w.heap.size w.heap.size (Lib.byteCells (acc ++ [(t1 % 256).toNat.toUInt8])) w2) := ⟨by rw [byteCells_snoc, u8_mod]; exact .inr hb2⟩
            have hB3 : Aside0 (Below w.heap.size w w2) := ⟨hB1.trans hB2⟩
            clear hb2 hB2 hB1 hb hB hsl
            go_wp2
            go_roundw
            case rel => exact ⟨q, j + 3, acc ++ [(t1 % 256).toNat.toUInt8], h3, by go_num, ⟨by have := ha.out; simp; omega⟩, hb3, hB3, ⟨H2.out⟩⟩
            case measure => simp [intOf]; omega
          · rw [if_neg (fun e => c2 e.1)] at H1
            have b2 : (t2 != 0) = true := bne_iff_ne.2 c2
            simp only [Option.some.injEq, Prod.mk.injEq] at H1
            obtain ⟨rfl, rfl⟩ := H1
            clear ht c2 hm
            go_wp2_with fail
            refine (num_Hex.calls q _ t1 t2 _ ht'.out).mono ?_
            rintro e w1 ⟨rfl, hd⟩
            obtain ⟨⟨nd, rfl⟩⟩ := hd
            have hB1 := pw_below_drewN hB.out nd
            go_wp2
            go_ret2
            exact ⟨rfl, hB1⟩
        · have hm : min (j + 3) a0.size = a0.size := Nat.min_eq_right (by omega)
          rw [hm] at ht
          rw [if_neg (fun e => h3 e.2)] at H1
          simp only [Option.some.injEq, Prod.mk.injEq] at H1
          obtain ⟨rfl, rfl⟩ := H1
          have hsl : ∀ W : World, (Instr.slice 9 (.string a0) (some (.int .i64 ((j : Int) + 1))) (some (.int .i64 (a0.size : Int))) none).run Tryz.prog W = .ok (.string (a0.extract (j + 1) a0.size)) W := fun W => slice_lh Tryz.underlying9 a0 (j + 1) a0.size _ _ (by omega) (by omega) (by omega) (by omega) W
          have ht' := Lib.hid ht
          clear ht hm
          cases hc2 : (t2 != 0)
          all_goals
            go_wp2_with fail
            refine (num_Hex.calls q _ t1 t2 _ ht'.out).mono ?_
            rintro e w1 ⟨rfl, hd⟩
            obtain ⟨⟨nd, rfl⟩⟩ := hd
            have hB1 := pw_below_drewN hB.out nd
            go_wp2
            go_ret2
            exact ⟨rfl, hB1⟩
      · rw [if_neg c37] at H1
        have b37 : ((a0[j].toNat : Int) == 37) = false := beq_eq_false_iff_ne.2 c37
        clear c37
        by_cases c43 : (a0[j].toNat : Int) = 43
        · have b43 : ((a0[j].toNat : Int) == 43) = true := beq_iff_eq.2 c43
          cases a1 with
          | true =>
            rw [if_pos ⟨c43, rfl⟩] at H1
            have H2 := Lib.hid H1
            clear H1 c43
            go_wp2_with fail
            refine (bld_byteW _ _ (Lib.byteCells acc) _ _ hb.out (by rw [byteCells_len]; have := ha.out; omega) hB.out.size).mono ?_
            rintro e w2 ⟨rfl, hb2, hB2⟩
            have hb3 : Aside0 (Lib.IsBuilder 247 5 w.heap.size w.heap.size (Lib.byteCells (acc ++ [32])) w2) := ⟨by rw [byteCells_snoc]; exact .inr hb2⟩
            have hB3 : Aside0 (Below w.heap.size w w2) := ⟨hB.out.trans hB2⟩
            clear hb2 hB2 hb hB
            go_wp2
            go_roundw
            case rel => exact ⟨q, j + 1, acc ++ [32], by omega, by go_num, ⟨by have := ha.out; simp; omega⟩, hb3, hB3, ⟨H2.out⟩⟩
            case measure => simp [intOf]; omega
          | false =>
            rw [if_neg (fun e => by cases e.2)] at H1
            have H2 := Lib.hid H1
            clear H1 c43
            go_wp2_with fail
            refine (bld_byteW _ _ (Lib.byteCells acc) _ _ hb.out (by rw [byteCells_len]; have := ha.out; omega) hB.out.size).mono ?_
            rintro e w2 ⟨rfl, hb2, hB2⟩
            have hb3 : Aside0 (Lib.IsBuilder 247 5 w.heap.size w.heap.size (Lib.byteCells (acc ++ [a0[j]])) w2) := ⟨by rw [byteCells_snoc]; exact .inr hb2⟩
            have hB3 : Aside0 (Below w.heap.size w w2) := ⟨hB.out.trans hB2⟩
            clear hb2 hB2 hb hB
            go_wp2
            go_roundw
            case rel => exact ⟨q, j + 1, acc ++ [a0[j]], by omega, by go_num, ⟨by have := ha.out; simp; omega⟩, hb3, hB3, ⟨H2.out⟩⟩
            case measure => simp [intOf]; omega
        · have b43 : ((a0[j].toNat : Int) == 43) = false := beq_eq_false_iff_ne.2 c43
          rw [if_neg (fun e => c43 e.1)] at H1
          have H2 := Lib.hid H1
          clear H1 c43
          go_wp2_with fail
          refine (bld_byteW _ _ (Lib.byteCells acc) _ _ hb.out (by rw [byteCells_len]; have := ha.out; omega) hB.out.size).mono ?_
          rintro e w2 ⟨rfl, hb2, hB2⟩
          have hb3 : Aside0 (Lib.IsBuilder 247 5 w.heap.size w.heap.size (Lib.byteCells (acc ++ [a0[j]])) w2) := ⟨by rw [byteCells_snoc]; exact .inr hb2⟩
          have hB3 : Aside0 (Below w.heap.size w w2) := ⟨hB.out.trans hB2⟩
          clear hb2 hB2 hb hB
          go_wp2
          go_roundw
          case rel => exact ⟨q, j + 1, acc ++ [a0[j]], by omega, by go_num, ⟨by have := ha.out; simp; omega⟩, hb3, hB3, ⟨H2.out⟩⟩
          case measure => simp [intOf]; omega
    · rw [dif_neg hlt] at H1
      simp only [Option.some.injEq, Prod.mk.injEq] at H1
      obtain ⟨rfl, rfl⟩ := H1
      go_wp2_with fail
      refine (Tryz.Builder_String_any _ _ acc _ hb.out hB.out.size).mono ?_
      rintro e w2 ⟨rfl, hB2⟩
      have hB3 := hB.out.trans hB2
      go_wp2
      go_ret2
      exact ⟨rfl, hB3⟩


end Go.Proofs.YtedmjlflppckmaaGreatDoor.PW

namespace Go.Proofs.YtedmjlflppckmaaGreatDoor.PW
open Go.RowKit Go.Proofs.YtedmjlflppckmaaGreatDoorW.PrintWords Go.Proofs.YtedmjlflppckmaaGreatDoorW.PrintLast Go.Proofs.YtedmjlflppckmaaGreatDoorW.PrintMore
open Go.Proofs.YtedmjlflppckmaaGreatDoor.Pre
attribute [local go_sem] max2_int min2_int max_two min_two max_three min_three max_four min_four binOp_gtr_str binOp_leq_str binOp_geq_str

/-! ### pct_Query: function 77 -/
def pct_Query.l0 : Nat → List (S256) → List ByteArray → Int → Int → Option ((List (S256)) × Int)
  | 0, _, _, _, _ => none
  | k + 1, x4, x15, x16, x17 => if x17 < x16 then (if 0 ≤ x17 then (if x17 < (x15.length : Int) then (if (rdOf ByteArray.empty x15 x17).toList = ([] : List UInt8) then (pct_Query.l0 k x4 x15 x16 (wrap64 (x17 + 1))) else ((strings_Cut.f (rdOf ByteArray.empty x15 x17) (⟨#[61]⟩ : ByteArray)).bind fun bt110 => ((pct_Decode.f k bt110.1 true).bind fun bt113 => ((pct_Decode.f k bt110.2.1 true).bind fun bt115 => (if bt113.2 = 0 then (if bt115.2 = 0 then (if x4.length < 4398046511104 then (pct_Query.l0 k (x4 ++ [(⟨bt113.1, bt115.1⟩ : S256)]) x15 x16 (wrap64 (x17 + 1))) else (none)) else (some (([] : List (S256)), 3))) else (some (([] : List (S256)), 3))))))) else (none)) else (none)) else (some (x4, 0))
def pct_Query.f (k : Nat) (a0 : ByteArray) : Option ((List (S256)) × Int) := (strings_Split.f a0 (⟨#[38]⟩ : ByteArray)).bind fun t106 => (pct_Query.l0 k ([] : List (S256)) t106 (t106.length : Int) 0)
theorem pct_Query.mono_l : ∀ k, (∀ y0 y1 y2 y3, LeO (pct_Query.l0 k y0 y1 y2 y3) (pct_Query.l0 (k + 1) y0 y1 y2 y3))
  | 0 => fun _ _ _ _ r h => by simp [pct_Query.l0] at h
  | k + 1 => by
    have ih0 := pct_Query.mono_l k
    · intro y0 y1 y2 y3
      unfold pct_Query.l0
      repeat' first
      | (with_reducible exact ih0 _ _ _ _)
      | (with_reducible exact pct_Decode.mono _ _ _)
      | (with_reducible exact LeO.refl _)
      | (with_reducible exact LeO.none _)
      | (with_reducible refine LeO.ite ?_ ?_)
      | (with_reducible refine LeO.bind ?_ (fun _ => ?_))
      | exact ih0 _ _ _ _
      | exact pct_Decode.mono _ _ _
      | exact LeO.none _
      | refine LeO.ite ?_ ?_
      | refine LeO.bind ?_ (fun _ => ?_)
theorem pct_Query.mono : ∀ a0 k, LeO (pct_Query.f k a0) (pct_Query.f (k + 1) a0) := by
  intro a0 k
  have ih0 := pct_Query.mono_l k
  unfold pct_Query.f
  repeat' first
      | (with_reducible exact ih0 _ _ _ _)
      | (with_reducible exact pct_Decode.mono _ _ _)
      | (with_reducible exact LeO.refl _)
      | (with_reducible exact LeO.none _)
      | (with_reducible refine LeO.ite ?_ ?_)
      | (with_reducible refine LeO.bind ?_ (fun _ => ?_))
      | exact ih0 _ _ _ _
      | exact pct_Decode.mono _ _ _
      | exact LeO.none _
      | refine LeO.ite ?_ ?_
      | refine LeO.bind ?_ (fun _ => ?_)
set_option maxHeartbeats 8000000 in
set_option maxRecDepth 100000 in
theorem pct_Query.calls (k : Nat) (a0 : ByteArray) (r1 : List (S256)) (r2 : Int) (w : World) (h : pct_Query.f k a0 = some (r1, r2)) (hG : GOK w) :
    Calls Tryz.prog 77 #[.string a0] w fun e w' => ∃ v0_ : Value, e = .returned (.tuple #[v0_, .int .i64 r2]) ∧ Kd.R k256 256 w' w.heap.size (fun _ => True) v0_ r1 ∧ Below w.heap.size w w' := by
  have hu256 := Tryz.underlying256
  have HB := Aside0.mk (Below.refl w.heap.size w)
  have H : ((strings_Split.f a0 (⟨#[38]⟩ : ByteArray)).bind fun t106 => (pct_Query.l0 k ([] : List (S256)) t106 (t106.length : Int) 0)) = some (r1, r2) := h
  clear h
  replace H := Option.bind_eq_some_iff.mp H
  obtain ⟨t106, A20, H⟩ := H
  replace H : (pct_Query.l0 k ([] : List (S256)) t106 (t106.length : Int) 0) = some (r1, r2) := H
  have A2 := Aside0.mk A20
  clear A20
  have H' := Aside0.mk H
  clear H
  go_enter Tryz.func77, Tryz.ntmps77
  go_wp2_with (first | ((with_reducible refine gate_callee (f := 75) rfl ?_); refine goesL_ (some 15) rfl rfl Tryz.func75 (by kernel_rfl) rfl #[.string a0, .string (⟨#[38]⟩ : ByteArray)] rfl (by (try simp only [List.map_toArray, List.map_cons, List.map_nil]); first | done | rfl | (simp only [List.length_drop, List.length_take]; rfl)) ?_; (with_reducible refine (strings_Split.calls a0 (⟨#[38]⟩ : ByteArray) t106 _ A2.out (by repeat (first | exact hG | refine GOK.drewN ?_ _ | refine GOK.alloc ?_ _ | exact GOK.below hG HB.out))).mono ?_); rintro e w3 ⟨v107, rfl, ho0, hb⟩; refine ⟨_, rfl, ?_⟩; have n0_ := Aside0.mk (Kd.R_lower ho0 (below_size (by repeat (first | (with_reducible first | exact HB.out | apply below_alloc | apply pw_below_drewN | apply below_drew1) | exact HB.out)))); have n1_ := Aside0.mk (below_step (by repeat (first | (with_reducible first | exact HB.out | apply below_alloc | apply pw_below_drewN | apply below_drew1) | exact HB.out)) hb); clear HB; have HO108 := n0_; have HB := n1_; clear n0_ n1_; (try clear hb); (try clear hb2); (try clear hk); (try clear hi); (try clear ho0); obtain ⟨Ao4, co4, eo4⟩ := Kd.R_slice HO108.out; subst eo4))
  go_loopg [4, 17] k (fun kq v4 v17 w' => ∃ (x4_1 : List (S256)) (x17_1 : Int), v17 = .int .i64 x17_1 ∧ Aside0 (pct_Query.l0 kq x4_1 t106 (t106.length : Int) x17_1 = some (r1, r2)) ∧ Aside0 (kq ≤ k) ∧ Aside0 (Kd.R k256 256 w' w.heap.size (fun _ => True) v4 x4_1) ∧ Aside0 (Kd.R Kd.string 9 w' w.heap.size (fun _ => True) (.slice Ao4 t106.length co4) t106) ∧ Aside0 (Below w.heap.size w w'))
  case atStart => exact ⟨(([] : List (S256))), (0), (by first | rfl | (simp; done) | (simp [*]; done) | (simp [isEmpty_bne]; done) | (simp; simp only [wrap64]; omega) | (simp [*]; simp only [wrap64]; omega)), H', ⟨Nat.le_refl _⟩, ⟨by first | exact Kd.R_nil _ _ _ _ _ | exact Kd.N_nil _ _ _ _ _ | exact Kd.V_nil _ _ _ _ _ | exact Kd.Q_nil _ _ _ _ _ | exact Kd.S_nil _ _ _ _ _⟩, ⟨by (with_reducible repeat (first | apply Kd.R_alloc | apply Kd.R_drewN | apply Kd.R_drew)); exact HO108.out⟩, ⟨by repeat (first | (with_reducible first | exact HB.out | apply below_alloc | apply pw_below_drewN | apply below_drew1) | exact HB.out)⟩⟩
  case round =>
    clear H'
    try clear p2
    obtain ⟨x4_1, x17_1, rfl, HA, HK1, HO_4, HO_15, HB⟩ := hrel
    cases gk with
    | zero => exact absurd HA.out (by simp [pct_Query.l0])
    | succ k1 =>
      have H := HA.out
      clear HA
      simp only [pct_Query.l0] at H
      by_cases c5 : x17_1 < (t106.length : Int)
      · rw [if_pos c5] at H
        have c5b0 : decide (x17_1 < (t106.length : Int)) = true := decide_eq_true c5
        clear c5
        by_cases c6 : 0 ≤ x17_1
        · rw [if_pos c6] at H
          have c6b0 : decide (0 ≤ x17_1) = true := decide_eq_true c6
          clear c6
          by_cases c7 : x17_1 < (t106.length : Int)
          · rw [if_pos c7] at H
            have c7b0 : decide (x17_1 < (t106.length : Int)) = true := decide_eq_true c7
            clear c7
            by_cases c8 : (rdOf ByteArray.empty t106 x17_1).toList = ([] : List UInt8)
            · rw [if_pos c8] at H
              have c8b0 : ((rdOf ByteArray.empty t106 x17_1).toList == ([] : List UInt8)) = true := beq_iff_eq.mpr c8
              have c8b1 : ((rdOf ByteArray.empty t106 x17_1).toList != ([] : List UInt8)) = false := bne_eq_false_iff_eq.mpr c8
              clear c8
              have H' := Aside0.mk H
              clear H
              have p109 : 0 ≤ (x17_1 : Int) := of_decide_eq_true (by first | (with_reducible assumption) | assumption)
              have q109 : x17_1 < (t106.length : Int) := of_decide_eq_true (by first | (with_reducible assumption) | assumption)
              obtain ⟨ad109, e109, hx109_0⟩ := Kd.at_string (Kd.R_reads' HO_15.out).2.2 x17_1 p109 q109
              cases e109
              replace p109 := eq_true p109
              replace q109 := eq_true q109
              go_wp2
              go_roundg k1
              case measure => have := HK1.out; omega
              case rel => exact ⟨(x4_1), (wrap64 (x17_1 + 1)), (by first | rfl | (simp; done) | (simp [*]; done) | (simp [isEmpty_bne]; done) | (simp; simp only [wrap64]; omega) | (simp [*]; simp only [wrap64]; omega)), H', ⟨by have := HK1.out; omega⟩, ⟨by (with_reducible repeat (first | apply Kd.R_alloc | apply Kd.R_drewN | apply Kd.R_drew)); exact HO_4.out⟩, ⟨by (with_reducible repeat (first | apply Kd.R_alloc | apply Kd.R_drewN | apply Kd.R_drew)); exact HO_15.out⟩, ⟨by repeat (first | (with_reducible first | exact HB.out | apply below_alloc | apply pw_below_drewN | apply below_drew1) | exact HB.out)⟩⟩
            · rw [if_neg c8] at H
              have c8b0 : ((rdOf ByteArray.empty t106 x17_1).toList == ([] : List UInt8)) = false := beq_eq_false_iff_ne.mpr c8
              have c8b1 : ((rdOf ByteArray.empty t106 x17_1).toList != ([] : List UInt8)) = true := bne_iff_ne.mpr c8
              replace H := Option.bind_eq_some_iff.mp H
              obtain ⟨⟨t110, t111, t112⟩, A90, H⟩ := H
              replace H : ((pct_Decode.f k1 t110 true).bind fun bt113 => ((pct_Decode.f k1 t111 true).bind fun bt115 => (if bt113.2 = 0 then (if bt115.2 = 0 then (if x4_1.length < 4398046511104 then (pct_Query.l0 k1 (x4_1 ++ [(⟨bt113.1, bt115.1⟩ : S256)]) t106 (t106.length : Int) (wrap64 (x17_1 + 1))) else (none)) else (some (([] : List (S256)), 3))) else (some (([] : List (S256)), 3))))) = some (r1, r2) := H
              have A9 := Aside0.mk A90
              clear A90
              replace H := Option.bind_eq_some_iff.mp H
              obtain ⟨⟨t113, t114⟩, A100, H⟩ := H
              replace H : ((pct_Decode.f k1 t111 true).bind fun bt115 => (if t114 = 0 then (if bt115.2 = 0 then (if x4_1.length < 4398046511104 then (pct_Query.l0 k1 (x4_1 ++ [(⟨t113, bt115.1⟩ : S256)]) t106 (t106.length : Int) (wrap64 (x17_1 + 1))) else (none)) else (some (([] : List (S256)), 3))) else (some (([] : List (S256)), 3)))) = some (r1, r2) := H
              have A10 := Aside0.mk A100
              clear A100
              replace H := Option.bind_eq_some_iff.mp H
              obtain ⟨⟨t115, t116⟩, A110, H⟩ := H
              replace H : (if t114 = 0 then (if t116 = 0 then (if x4_1.length < 4398046511104 then (pct_Query.l0 k1 (x4_1 ++ [(⟨t113, t115⟩ : S256)]) t106 (t106.length : Int) (wrap64 (x17_1 + 1))) else (none)) else (some (([] : List (S256)), 3))) else (some (([] : List (S256)), 3))) = some (r1, r2) := H
              have A11 := Aside0.mk A110
              clear A110
              by_cases c12 : t114 = 0
              · rw [if_pos c12] at H
                have c12b0 : (t114 == 0) = true := beq_iff_eq.mpr c12
                have c12b1 : (t114 != 0) = false := bne_eq_false_iff_eq.mpr c12
                clear c12
                by_cases c13 : t116 = 0
                · rw [if_pos c13] at H
                  have c13b0 : (t116 == 0) = true := beq_iff_eq.mpr c13
                  have c13b1 : (t116 != 0) = false := bne_eq_false_iff_eq.mpr c13
                  clear c13
                  by_cases c14 : x4_1.length < 4398046511104
                  · rw [if_pos c14] at H
                    have LMc14 := Aside0.mk c14
                    clear c14
                    obtain ⟨y117, hy117⟩ : ∃ y_ : List (S256), y_ = (x4_1 ++ [(⟨t113, t115⟩ : S256)]) := ⟨_, rfl⟩
                    replace H : (pct_Query.l0 k1 y117 t106 (t106.length : Int) (wrap64 (x17_1 + 1))) = some (r1, r2) := by first | (rw [hy117]; with_reducible exact H) | (have H2_ := (Option.bind_some _ _).symm.trans H; rw [hy117]; with_reducible exact H2_) | (have H2_ := (Option.bind_some _ _).symm.trans H; with_reducible exact H2_) | with_reducible exact H | (rw [hy117]; exact H) | exact H
                    have Ny117 := Aside0.mk hy117
                    clear hy117
                    have H' := Aside0.mk H
                    clear H
                    have p109 : 0 ≤ (x17_1 : Int) := of_decide_eq_true (by first | (with_reducible assumption) | assumption)
                    have q109 : x17_1 < (t106.length : Int) := of_decide_eq_true (by first | (with_reducible assumption) | assumption)
                    obtain ⟨ad109, e109, hx109_0⟩ := Kd.at_string (Kd.R_reads' HO_15.out).2.2 x17_1 p109 q109
                    cases e109
                    replace p109 := eq_true p109
                    replace q109 := eq_true q109
                    go_wp2_with (first | ((with_reducible refine gate_callee (f := 74) rfl ?_); refine goesL_ (some 25) rfl rfl Tryz.func74 (by kernel_rfl) rfl #[.string (rdOf ByteArray.empty t106 x17_1), .string (⟨#[61]⟩ : ByteArray)] rfl (by (try simp only [List.map_toArray, List.map_cons, List.map_nil]); first | done | rfl | (simp only [List.length_drop, List.length_take]; rfl)) ?_; (with_reducible refine (strings_Cut.calls (rdOf ByteArray.empty t106 x17_1) (⟨#[61]⟩ : ByteArray) t110 t111 t112 _ A9.out (by repeat (first | exact hG | refine GOK.drewN ?_ _ | refine GOK.alloc ?_ _ | exact GOK.below hG HB.out))).mono ?_); rintro e w' ⟨rfl, ⟨nd, rfl⟩⟩; refine ⟨_, rfl, ?_⟩) | ((with_reducible refine gate_callee (f := 76) rfl ?_); refine goesL_ (some 31) rfl rfl Tryz.func76 (by kernel_rfl) rfl #[.string t110, .bool true] rfl (by (try simp only [List.map_toArray, List.map_cons, List.map_nil]); first | done | rfl | (simp only [List.length_drop, List.length_take]; rfl)) ?_; (with_reducible refine (pct_Decode.calls k1 t110 true t113 t114 _ A10.out).mono ?_); rintro e w15 ⟨rfl, hb⟩; refine ⟨_, rfl, ?_⟩; have n0_ := Aside0.mk (Kd.R_below (by (with_reducible repeat (first | apply Kd.R_alloc | apply Kd.R_drewN | apply Kd.R_drew)); exact HO_4.out) hb); have n1_ := Aside0.mk (Kd.R_below (by (with_reducible repeat (first | apply Kd.R_alloc | apply Kd.R_drewN | apply Kd.R_drew)); exact HO_15.out) hb); have n2_ := Aside0.mk (below_step (by repeat (first | (with_reducible first | exact HB.out | apply below_alloc | apply pw_below_drewN | apply below_drew1) | exact HB.out)) hb); clear HO_4; clear HO_15; clear HB; have HO_4 := n0_; have HO_15 := n1_; have HB := n2_; clear n0_ n1_ n2_; (try clear hb); (try clear hb2); (try clear hk); (try clear hi)) | ((with_reducible refine gate_callee (f := 76) rfl ?_); refine goesL_ (some 36) rfl rfl Tryz.func76 (by kernel_rfl) rfl #[.string t111, .bool true] rfl (by (try simp only [List.map_toArray, List.map_cons, List.map_nil]); first | done | rfl | (simp only [List.length_drop, List.length_take]; rfl)) ?_; (with_reducible refine (pct_Decode.calls k1 t111 true t115 t116 _ A11.out).mono ?_); rintro e w16 ⟨rfl, hb⟩; refine ⟨_, rfl, ?_⟩; have n0_ := Aside0.mk (Kd.R_below (by (with_reducible repeat (first | apply Kd.R_alloc | apply Kd.R_drewN | apply Kd.R_drew)); exact HO_4.out) hb); have n1_ := Aside0.mk (Kd.R_below (by (with_reducible repeat (first | apply Kd.R_alloc | apply Kd.R_drewN | apply Kd.R_drew)); exact HO_15.out) hb); have n2_ := Aside0.mk (below_step (by repeat (first | (with_reducible first | exact HB.out | apply below_alloc | apply pw_below_drewN | apply below_drew1) | exact HB.out)) hb); clear HO_4; clear HO_15; clear HB; have HO_4 := n0_; have HO_15 := n1_; have HB := n2_; clear n0_ n1_ n2_; (try clear hb); (try clear hb2); (try clear hk); (try clear hi)) | ((with_reducible refine gate_builtin (b := .append) (xs := #[.tmp 45, .tmp 49]) rfl ?_); at_builtin; refine Kd.R_append k256 (w0 := w) w.heap.size rfl (.tmp 45) (.tmp 49) 123 256 (.agg #[(.string ⟨#[]⟩), (.string ⟨#[]⟩)]) 32 rfl Tryz.underlying123 info256 rfl (by decide) (by omega) u4 x4_1 (⟨t113, t115⟩ : S256) [.string t113, .string t115] (fun _ => True) (fun _ => False) rfl rfl ?aP (fun _ hk => hk.elim) ?aF ?aO ?aB ?aS ?aL ?_; (case aP => exact k256_mkM _ _ _ (⟨t113, t115⟩ : S256)); (case aB => exact (by repeat (first | (with_reducible first | exact HB.out | apply below_alloc | apply pw_below_drewN | apply below_drew1) | exact HB.out))); (case aF => exact (fun _ _ => trivial)); (case aO => exact (by (with_reducible repeat (first | apply Kd.R_alloc | apply Kd.R_drewN | apply Kd.R_drew)); exact HO_4.out)); (case aS => exact (below_size (by repeat (first | (with_reducible first | exact HB.out | apply below_alloc | apply pw_below_drewN | apply below_drew1) | exact HB.out)))); (case aL => have := LMc14.out; omega); intro v118 w17 ho hb hg hat; rw [← Ny117.out] at ho; have n0_ := Aside0.mk (Kd.R_over' (by (with_reducible repeat (first | apply Kd.R_alloc | apply Kd.R_drewN | apply Kd.R_drew)); exact HO_15.out) (Kd.R_typed (by (with_reducible repeat (first | apply Kd.R_alloc | apply Kd.R_drewN | apply Kd.R_drew)); exact HO_4.out)) (by decide) hg); have n1_ := Aside0.mk (hb); have n2_ := Aside0.mk (ho); clear HO_15; clear HB; clear HO_4; have HO_15 := n0_; have HB := n1_; have HO119 := n2_; clear n0_ n1_ n2_; clear ho hb hg hat))
                    go_roundg k1
                    case measure => have := HK1.out; omega
                    case rel => exact ⟨(y117), (wrap64 (x17_1 + 1)), (by first | rfl | (simp; done) | (simp [*]; done) | (simp [isEmpty_bne]; done) | (simp; simp only [wrap64]; omega) | (simp [*]; simp only [wrap64]; omega)), H', ⟨by have := HK1.out; omega⟩, ⟨by (with_reducible repeat (first | apply Kd.R_alloc | apply Kd.R_drewN | apply Kd.R_drew)); exact HO119.out⟩, ⟨by (with_reducible repeat (first | apply Kd.R_alloc | apply Kd.R_drewN | apply Kd.R_drew)); exact HO_15.out⟩, ⟨by repeat (first | (with_reducible first | exact HB.out | apply below_alloc | apply pw_below_drewN | apply below_drew1) | exact HB.out)⟩⟩
                  · rw [if_neg c14] at H
                    exact absurd H (by simp)
                · rw [if_neg c13] at H
                  have c13b0 : (t116 == 0) = false := beq_eq_false_iff_ne.mpr c13
                  have c13b1 : (t116 != 0) = true := bne_iff_ne.mpr c13
                  simp only [Option.some.injEq, Prod.mk.injEq] at H
                  obtain ⟨rfl, rfl⟩ := H
                  have p109 : 0 ≤ (x17_1 : Int) := of_decide_eq_true (by first | (with_reducible assumption) | assumption)
                  have q109 : x17_1 < (t106.length : Int) := of_decide_eq_true (by first | (with_reducible assumption) | assumption)
                  obtain ⟨ad109, e109, hx109_0⟩ := Kd.at_string (Kd.R_reads' HO_15.out).2.2 x17_1 p109 q109
                  cases e109
                  replace p109 := eq_true p109
                  replace q109 := eq_true q109
                  go_wp2_with (first | ((with_reducible refine gate_callee (f := 74) rfl ?_); refine goesL_ (some 25) rfl rfl Tryz.func74 (by kernel_rfl) rfl #[.string (rdOf ByteArray.empty t106 x17_1), .string (⟨#[61]⟩ : ByteArray)] rfl (by (try simp only [List.map_toArray, List.map_cons, List.map_nil]); first | done | rfl | (simp only [List.length_drop, List.length_take]; rfl)) ?_; (with_reducible refine (strings_Cut.calls (rdOf ByteArray.empty t106 x17_1) (⟨#[61]⟩ : ByteArray) t110 t111 t112 _ A9.out (by repeat (first | exact hG | refine GOK.drewN ?_ _ | refine GOK.alloc ?_ _ | exact GOK.below hG HB.out))).mono ?_); rintro e w' ⟨rfl, ⟨nd, rfl⟩⟩; refine ⟨_, rfl, ?_⟩) | ((with_reducible refine gate_callee (f := 76) rfl ?_); refine goesL_ (some 31) rfl rfl Tryz.func76 (by kernel_rfl) rfl #[.string t110, .bool true] rfl (by (try simp only [List.map_toArray, List.map_cons, List.map_nil]); first | done | rfl | (simp only [List.length_drop, List.length_take]; rfl)) ?_; (with_reducible refine (pct_Decode.calls k1 t110 true t113 t114 _ A10.out).mono ?_); rintro e w18 ⟨rfl, hb⟩; refine ⟨_, rfl, ?_⟩; have n0_ := Aside0.mk (Kd.R_below (by (with_reducible repeat (first | apply Kd.R_alloc | apply Kd.R_drewN | apply Kd.R_drew)); exact HO_4.out) hb); have n1_ := Aside0.mk (Kd.R_below (by (with_reducible repeat (first | apply Kd.R_alloc | apply Kd.R_drewN | apply Kd.R_drew)); exact HO_15.out) hb); have n2_ := Aside0.mk (below_step (by repeat (first | (with_reducible first | exact HB.out | apply below_alloc | apply pw_below_drewN | apply below_drew1) | exact HB.out)) hb); clear HO_4; clear HO_15; clear HB; have HO_4 := n0_; have HO_15 := n1_; have HB := n2_; clear n0_ n1_ n2_; (try clear hb); (try clear hb2); (try clear hk); (try clear hi)) | ((with_reducible refine gate_callee (f := 76) rfl ?_); refine goesL_ (some 36) rfl rfl Tryz.func76 (by kernel_rfl) rfl #[.string t111, .bool true] rfl (by (try simp only [List.map_toArray, List.map_cons, List.map_nil]); first | done | rfl | (simp only [List.length_drop, List.length_take]; rfl)) ?_; (with_reducible refine (pct_Decode.calls k1 t111 true t115 t116 _ A11.out).mono ?_); rintro e w19 ⟨rfl, hb⟩; refine ⟨_, rfl, ?_⟩; have n0_ := Aside0.mk (Kd.R_below (by (with_reducible repeat (first | apply Kd.R_alloc | apply Kd.R_drewN | apply Kd.R_drew)); exact HO_4.out) hb); have n1_ := Aside0.mk (Kd.R_below (by (with_reducible repeat (first | apply Kd.R_alloc | apply Kd.R_drewN | apply Kd.R_drew)); exact HO_15.out) hb); have n2_ := Aside0.mk (below_step (by repeat (first | (with_reducible first | exact HB.out | apply below_alloc | apply pw_below_drewN | apply below_drew1) | exact HB.out)) hb); clear HO_4; clear HO_15; clear HB; have HO_4 := n0_; have HO_15 := n1_; have HB := n2_; clear n0_ n1_ n2_; (try clear hb); (try clear hb2); (try clear hk); (try clear hi)))
                  go_ret2
                  exact ⟨_, by first | rfl | (simp [errW_none, errW_some] <;> rfl) | (simp [*, errW_none, errW_some] <;> rfl), by first | exact Kd.R_nil _ _ _ _ _ | exact Kd.N_nil _ _ _ _ _ | exact Kd.V_nil _ _ _ _ _ | exact Kd.Q_nil _ _ _ _ _ | exact Kd.S_nil _ _ _ _ _, by repeat (first | (with_reducible first | exact HB.out | apply below_alloc | apply pw_below_drewN | apply below_drew1) | exact HB.out)⟩
              · rw [if_neg c12] at H
                have c12b0 : (t114 == 0) = false := beq_eq_false_iff_ne.mpr c12
                have c12b1 : (t114 != 0) = true := bne_iff_ne.mpr c12
                simp only [Option.some.injEq, Prod.mk.injEq] at H
                obtain ⟨rfl, rfl⟩ := H
                have p109 : 0 ≤ (x17_1 : Int) := of_decide_eq_true (by first | (with_reducible assumption) | assumption)
                have q109 : x17_1 < (t106.length : Int) := of_decide_eq_true (by first | (with_reducible assumption) | assumption)
                obtain ⟨ad109, e109, hx109_0⟩ := Kd.at_string (Kd.R_reads' HO_15.out).2.2 x17_1 p109 q109
                cases e109
                replace p109 := eq_true p109
                replace q109 := eq_true q109
                go_wp2_with (first | ((with_reducible refine gate_callee (f := 74) rfl ?_); refine goesL_ (some 25) rfl rfl Tryz.func74 (by kernel_rfl) rfl #[.string (rdOf ByteArray.empty t106 x17_1), .string (⟨#[61]⟩ : ByteArray)] rfl (by (try simp only [List.map_toArray, List.map_cons, List.map_nil]); first | done | rfl | (simp only [List.length_drop, List.length_take]; rfl)) ?_; (with_reducible refine (strings_Cut.calls (rdOf ByteArray.empty t106 x17_1) (⟨#[61]⟩ : ByteArray) t110 t111 t112 _ A9.out (by repeat (first | exact hG | refine GOK.drewN ?_ _ | refine GOK.alloc ?_ _ | exact GOK.below hG HB.out))).mono ?_); rintro e w' ⟨rfl, ⟨nd, rfl⟩⟩; refine ⟨_, rfl, ?_⟩) | ((with_reducible refine gate_callee (f := 76) rfl ?_); refine goesL_ (some 31) rfl rfl Tryz.func76 (by kernel_rfl) rfl #[.string t110, .bool true] rfl (by (try simp only [List.map_toArray, List.map_cons, List.map_nil]); first | done | rfl | (simp only [List.length_drop, List.length_take]; rfl)) ?_; (with_reducible refine (pct_Decode.calls k1 t110 true t113 t114 _ A10.out).mono ?_); rintro e w20 ⟨rfl, hb⟩; refine ⟨_, rfl, ?_⟩; have n0_ := Aside0.mk (Kd.R_below (by (with_reducible repeat (first | apply Kd.R_alloc | apply Kd.R_drewN | apply Kd.R_drew)); exact HO_4.out) hb); have n1_ := Aside0.mk (Kd.R_below (by (with_reducible repeat (first | apply Kd.R_alloc | apply Kd.R_drewN | apply Kd.R_drew)); exact HO_15.out) hb); have n2_ := Aside0.mk (below_step (by repeat (first | (with_reducible first | exact HB.out | apply below_alloc | apply pw_below_drewN | apply below_drew1) | exact HB.out)) hb); clear HO_4; clear HO_15; clear HB; have HO_4 := n0_; have HO_15 := n1_; have HB := n2_; clear n0_ n1_ n2_; (try clear hb); (try clear hb2); (try clear hk); (try clear hi)) | ((with_reducible refine gate_callee (f := 76) rfl ?_); refine goesL_ (some 36) rfl rfl Tryz.func76 (by kernel_rfl) rfl #[.string t111, .bool true] rfl (by (try simp only [List.map_toArray, List.map_cons, List.map_nil]); first | done | rfl | (simp only [List.length_drop, List.length_take]; rfl)) ?_; (with_reducible refine (pct_Decode.calls k1 t111 true t115 t116 _ A11.out).mono ?_); rintro e w21 ⟨rfl, hb⟩; refine ⟨_, rfl, ?_⟩; have n0_ := Aside0.mk (Kd.R_below (by (with_reducible repeat (first | apply Kd.R_alloc | apply Kd.R_drewN | apply Kd.R_drew)); exact HO_4.out) hb); have n1_ := Aside0.mk (Kd.R_below (by (with_reducible repeat (first | apply Kd.R_alloc | apply Kd.R_drewN | apply Kd.R_drew)); exact HO_15.out) hb); have n2_ := Aside0.mk (below_step (by repeat (first | (with_reducible first | exact HB.out | apply below_alloc | apply pw_below_drewN | apply below_drew1) | exact HB.out)) hb); clear HO_4; clear HO_15; clear HB; have HO_4 := n0_; have HO_15 := n1_; have HB := n2_; clear n0_ n1_ n2_; (try clear hb); (try clear hb2); (try clear hk); (try clear hi)))
                go_ret2
                exact ⟨_, by first | rfl | (simp [errW_none, errW_some] <;> rfl) | (simp [*, errW_none, errW_some] <;> rfl), by first | exact Kd.R_nil _ _ _ _ _ | exact Kd.N_nil _ _ _ _ _ | exact Kd.V_nil _ _ _ _ _ | exact Kd.Q_nil _ _ _ _ _ | exact Kd.S_nil _ _ _ _ _, by repeat (first | (with_reducible first | exact HB.out | apply below_alloc | apply pw_below_drewN | apply below_drew1) | exact HB.out)⟩
          · rw [if_neg c7] at H
            exact absurd H (by simp)
        · rw [if_neg c6] at H
          exact absurd H (by simp)
      · rw [if_neg c5] at H
        have c5b0 : decide (x17_1 < (t106.length : Int)) = false := decide_eq_false c5
        clear c5
        simp only [Option.some.injEq, Prod.mk.injEq] at H
        obtain ⟨rfl, rfl⟩ := H
        go_wp2
        go_ret2
        exact ⟨_, by first | rfl | (simp [errW_none, errW_some] <;> rfl) | (simp [*, errW_none, errW_some] <;> rfl), by (with_reducible repeat (first | apply Kd.R_alloc | apply Kd.R_drewN | apply Kd.R_drew)); exact HO_4.out, by repeat (first | (with_reducible first | exact HB.out | apply below_alloc | apply pw_below_drewN | apply below_drew1) | exact HB.out)⟩

end Go.Proofs.YtedmjlflppckmaaGreatDoor.PW

namespace Go.Proofs.YtedmjlflppckmaaGreatDoor.PW
open Go.RowKit Go.Proofs.YtedmjlflppckmaaGreatDoorW.PrintWords Go.Proofs.YtedmjlflppckmaaGreatDoorW.PrintLast Go.Proofs.YtedmjlflppckmaaGreatDoorW.PrintMore
open Go.Proofs.YtedmjlflppckmaaGreatDoor.Pre
attribute [local go_sem] max2_int min2_int max_two min_two max_three min_three max_four min_four binOp_gtr_str binOp_leq_str binOp_geq_str

/-! ### pct_Split: function 42 -/
def pct_Split.l0 : Nat → List ByteArray → ByteArray → List ByteArray → Int → Int → Option (List ByteArray × (List (S256)) × Int)
  | 0, _, _, _, _, _ => none
  | k + 1, x5, x9, x31, x32, x33 => if x33 < x32 then (if 0 ≤ x33 then (if x33 < (x31.length : Int) then ((pct_Decode.f k (rdOf ByteArray.empty x31 x33) false).bind fun bt129 => (if bt129.2 = 0 then (if x5.length < 8796093022208 then (pct_Split.l0 k (x5 ++ [bt129.1]) x9 x31 x32 (wrap64 (x33 + 1))) else (none)) else (some (([] : List ByteArray), ([] : List (S256)), bt129.2)))) else (none)) else (none)) else ((pct_Query.f k x9).bind fun bt134 => (if bt134.2 = 0 then (some (x5, bt134.1, 0)) else (some (([] : List ByteArray), ([] : List (S256)), bt134.2))))
def pct_Split.f (k : Nat) (a0 : ByteArray) : Option (List ByteArray × (List (S256)) × Int) := (strings_CutPrefix.f a0 (⟨#[47]⟩ : ByteArray)).bind fun bt120 => (if bt120.2 = true then ((strings_Cut.f bt120.1 (⟨#[63]⟩ : ByteArray)).bind fun bt122 => ((strings_Split.f bt122.1 (⟨#[47]⟩ : ByteArray)).bind fun t125 => (pct_Split.l0 k ([] : List ByteArray) bt122.2.1 t125 (t125.length : Int) 0))) else (some (([] : List ByteArray), ([] : List (S256)), 3)))
theorem pct_Split.mono_l : ∀ k, (∀ y0 y1 y2 y3 y4, LeO (pct_Split.l0 k y0 y1 y2 y3 y4) (pct_Split.l0 (k + 1) y0 y1 y2 y3 y4))
  | 0 => fun _ _ _ _ _ r h => by simp [pct_Split.l0] at h
  | k + 1 => by
    have ih0 := pct_Split.mono_l k
    · intro y0 y1 y2 y3 y4
      unfold pct_Split.l0
      repeat' first
      | (with_reducible exact ih0 _ _ _ _ _)
      | (with_reducible exact pct_Decode.mono _ _ _)
      | (with_reducible exact pct_Query.mono _ _)
      | (with_reducible exact LeO.refl _)
      | (with_reducible exact LeO.none _)
      | (with_reducible refine LeO.ite ?_ ?_)
      | (with_reducible refine LeO.bind ?_ (fun _ => ?_))
      | exact ih0 _ _ _ _ _
      | exact pct_Decode.mono _ _ _
      | exact pct_Query.mono _ _
      | exact LeO.none _
      | refine LeO.ite ?_ ?_
      | refine LeO.bind ?_ (fun _ => ?_)
theorem pct_Split.mono : ∀ a0 k, LeO (pct_Split.f k a0) (pct_Split.f (k + 1) a0) := by
  intro a0 k
  have ih0 := pct_Split.mono_l k
  unfold pct_Split.f
  repeat' first
      | (with_reducible exact ih0 _ _ _ _ _)
      | (with_reducible exact pct_Decode.mono _ _ _)
      | (with_reducible exact pct_Query.mono _ _)
      | (with_reducible exact LeO.refl _)
      | (with_reducible exact LeO.none _)
      | (with_reducible refine LeO.ite ?_ ?_)
      | (with_reducible refine LeO.bind ?_ (fun _ => ?_))
      | exact ih0 _ _ _ _ _
      | exact pct_Decode.mono _ _ _
      | exact pct_Query.mono _ _
      | exact LeO.none _
      | refine LeO.ite ?_ ?_
      | refine LeO.bind ?_ (fun _ => ?_)
set_option maxHeartbeats 8000000 in
set_option maxRecDepth 100000 in
theorem pct_Split.calls (k : Nat) (a0 : ByteArray) (r1 : List ByteArray) (r2 : List (S256)) (r3 : Int) (w : World) (h : pct_Split.f k a0 = some (r1, r2, r3)) (hG : GOK w) :
    Calls Tryz.prog 42 #[.string a0] w fun e w' => ∃ v0_ v1_ : Value, e = .returned (.tuple #[v0_, v1_, .int .i64 r3]) ∧ Kd.R Kd.string 9 w' w.heap.size (fun _ => True) v0_ r1 ∧ Kd.R k256 256 w' w.heap.size (fun _ => True) v1_ r2 ∧ Below w.heap.size w w' := by
  have HB := Aside0.mk (Below.refl w.heap.size w)
  have H : ((strings_CutPrefix.f a0 (⟨#[47]⟩ : ByteArray)).bind fun bt120 => (if bt120.2 = true then ((strings_Cut.f bt120.1 (⟨#[63]⟩ : ByteArray)).bind fun bt122 => ((strings_Split.f bt122.1 (⟨#[47]⟩ : ByteArray)).bind fun t125 => (pct_Split.l0 k ([] : List ByteArray) bt122.2.1 t125 (t125.length : Int) 0))) else (some (([] : List ByteArray), ([] : List (S256)), 3)))) = some (r1, r2, r3) := h
  clear h
  replace H := Option.bind_eq_some_iff.mp H
  obtain ⟨⟨t120, t121⟩, A20, H⟩ := H
  replace H : (if t121 = true then ((strings_Cut.f t120 (⟨#[63]⟩ : ByteArray)).bind fun bt122 => ((strings_Split.f bt122.1 (⟨#[47]⟩ : ByteArray)).bind fun t125 => (pct_Split.l0 k ([] : List ByteArray) bt122.2.1 t125 (t125.length : Int) 0))) else (some (([] : List ByteArray), ([] : List (S256)), 3))) = some (r1, r2, r3) := H
  have A2 := Aside0.mk A20
  clear A20
  by_cases c3 : t121 = true
  · subst c3
    have H1 : ((strings_Cut.f t120 (⟨#[63]⟩ : ByteArray)).bind fun bt122 => ((strings_Split.f bt122.1 (⟨#[47]⟩ : ByteArray)).bind fun t125 => (pct_Split.l0 k ([] : List ByteArray) bt122.2.1 t125 (t125.length : Int) 0))) = some (r1, r2, r3) := by rw [if_pos rfl] at H; exact H
    clear H
    have H := H1
    clear H1
    replace H := Option.bind_eq_some_iff.mp H
    obtain ⟨⟨t122, t123, t124⟩, A40, H⟩ := H
    replace H : ((strings_Split.f t122 (⟨#[47]⟩ : ByteArray)).bind fun t125 => (pct_Split.l0 k ([] : List ByteArray) t123 t125 (t125.length : Int) 0)) = some (r1, r2, r3) := H
    have A4 := Aside0.mk A40
    clear A40
    replace H := Option.bind_eq_some_iff.mp H
    obtain ⟨t125, A50, H⟩ := H
    replace H : (pct_Split.l0 k ([] : List ByteArray) t123 t125 (t125.length : Int) 0) = some (r1, r2, r3) := H
    have A5 := Aside0.mk A50
    clear A50
    have H' := Aside0.mk H
    clear H
    go_enter Tryz.func42, Tryz.ntmps42
    go_wp2_with (first | ((with_reducible refine gate_callee (f := 73) rfl ?_); refine goesL_ (some 19) rfl rfl Tryz.func73 (by kernel_rfl) rfl #[.string a0, .string (⟨#[47]⟩ : ByteArray)] rfl (by (try simp only [List.map_toArray, List.map_cons, List.map_nil]); first | done | rfl | (simp only [List.length_drop, List.length_take]; rfl)) ?_; (with_reducible refine (strings_CutPrefix.calls a0 (⟨#[47]⟩ : ByteArray) t120 true _ A2.out).mono ?_); rintro e w' ⟨rfl, ⟨nd, rfl⟩⟩; refine ⟨_, rfl, ?_⟩) | ((with_reducible refine gate_callee (f := 74) rfl ?_); refine goesL_ (some 26) rfl rfl Tryz.func74 (by kernel_rfl) rfl #[.string t120, .string (⟨#[63]⟩ : ByteArray)] rfl (by (try simp only [List.map_toArray, List.map_cons, List.map_nil]); first | done | rfl | (simp only [List.length_drop, List.length_take]; rfl)) ?_; (with_reducible refine (strings_Cut.calls t120 (⟨#[63]⟩ : ByteArray) t122 t123 t124 _ A4.out (by repeat (first | exact hG | refine GOK.drewN ?_ _ | refine GOK.alloc ?_ _ | exact GOK.below hG HB.out))).mono ?_); rintro e w' ⟨rfl, ⟨nd, rfl⟩⟩; refine ⟨_, rfl, ?_⟩) | ((with_reducible refine gate_callee (f := 75) rfl ?_); refine goesL_ (some 31) rfl rfl Tryz.func75 (by kernel_rfl) rfl #[.string t122, .string (⟨#[47]⟩ : ByteArray)] rfl (by (try simp only [List.map_toArray, List.map_cons, List.map_nil]); first | done | rfl | (simp only [List.length_drop, List.length_take]; rfl)) ?_; (with_reducible refine (strings_Split.calls t122 (⟨#[47]⟩ : ByteArray) t125 _ A5.out (by repeat (first | exact hG | refine GOK.drewN ?_ _ | refine GOK.alloc ?_ _ | exact GOK.below hG HB.out))).mono ?_); rintro e w6 ⟨v126, rfl, ho0, hb⟩; refine ⟨_, rfl, ?_⟩; have n0_ := Aside0.mk (Kd.R_lower ho0 (below_size (by repeat (first | (with_reducible first | exact HB.out | apply below_alloc | apply pw_below_drewN | apply below_drew1) | exact HB.out)))); have n1_ := Aside0.mk (below_step (by repeat (first | (with_reducible first | exact HB.out | apply below_alloc | apply pw_below_drewN | apply below_drew1) | exact HB.out)) hb); clear HB; have HO127 := n0_; have HB := n1_; clear n0_ n1_; (try clear hb); (try clear hb2); (try clear hk); (try clear hi); (try clear ho0); obtain ⟨Ao7, co7, eo7⟩ := Kd.R_slice HO127.out; subst eo7))
    go_loopg [5, 33] k (fun kq v5 v33 w' => ∃ (x5_1 : List ByteArray) (x33_1 : Int), v33 = .int .i64 x33_1 ∧ Aside0 (pct_Split.l0 kq x5_1 t123 t125 (t125.length : Int) x33_1 = some (r1, r2, r3)) ∧ Aside0 (kq ≤ k) ∧ Aside0 (Kd.R Kd.string 9 w' w.heap.size (fun k_ => some k_ ≠ ((.slice Ao7 t125.length co7) : Value).ownBlock) v5 x5_1) ∧ Aside0 (Kd.R Kd.string 9 w' w.heap.size (fun k_ => some k_ ≠ (v5 : Value).ownBlock) (.slice Ao7 t125.length co7) t125) ∧ Aside0 (Below w.heap.size w w'))
    case atStart => exact ⟨(([] : List ByteArray)), (0), (by first | rfl | (simp; done) | (simp [*]; done) | (simp [isEmpty_bne]; done) | (simp; simp only [wrap64]; omega) | (simp [*]; simp only [wrap64]; omega)), H', ⟨Nat.le_refl _⟩, ⟨by first | exact Kd.R_nil _ _ _ _ _ | exact Kd.N_nil _ _ _ _ _ | exact Kd.V_nil _ _ _ _ _ | exact Kd.Q_nil _ _ _ _ _ | exact Kd.S_nil _ _ _ _ _⟩, ⟨by (with_reducible repeat (first | apply Kd.R_alloc | apply Kd.R_drewN | apply Kd.R_drew)); exact Kd.R_mono HO127.out (fun _ hk => (by simp [Value.ownBlock]))⟩, ⟨by repeat (first | (with_reducible first | exact HB.out | apply below_alloc | apply pw_below_drewN | apply below_drew1) | exact HB.out)⟩⟩
    case round =>
      clear H'
      try clear p2
      try clear c3
      try clear c4
      try clear c7
      obtain ⟨x5_1, x33_1, rfl, HA, HK1, HO_5, HO_31, HB⟩ := hrel
      cases gk with
      | zero => exact absurd HA.out (by simp [pct_Split.l0])
      | succ k1 =>
        have H := HA.out
        clear HA
        simp only [pct_Split.l0] at H
        by_cases c8 : x33_1 < (t125.length : Int)
        · rw [if_pos c8] at H
          have c8b0 : decide (x33_1 < (t125.length : Int)) = true := decide_eq_true c8
          clear c8
          by_cases c9 : 0 ≤ x33_1
          · rw [if_pos c9] at H
            have c9b0 : decide (0 ≤ x33_1) = true := decide_eq_true c9
            clear c9
            by_cases c10 : x33_1 < (t125.length : Int)
            · rw [if_pos c10] at H
              have c10b0 : decide (x33_1 < (t125.length : Int)) = true := decide_eq_true c10
              clear c10
              replace H := Option.bind_eq_some_iff.mp H
              obtain ⟨⟨t129, t130⟩, A110, H⟩ := H
              replace H : (if t130 = 0 then (if x5_1.length < 8796093022208 then (pct_Split.l0 k1 (x5_1 ++ [t129]) t123 t125 (t125.length : Int) (wrap64 (x33_1 + 1))) else (none)) else (some (([] : List ByteArray), ([] : List (S256)), t130))) = some (r1, r2, r3) := H
              have A11 := Aside0.mk A110
              clear A110
              by_cases c12 : t130 = 0
              · rw [if_pos c12] at H
                have c12b0 : (t130 == 0) = true := beq_iff_eq.mpr c12
                have c12b1 : (t130 != 0) = false := bne_eq_false_iff_eq.mpr c12
                clear c12
                by_cases c13 : x5_1.length < 8796093022208
                · rw [if_pos c13] at H
                  have LMc13 := Aside0.mk c13
                  clear c13
                  obtain ⟨y131, hy131⟩ : ∃ y_ : List ByteArray, y_ = (x5_1 ++ [t129]) := ⟨_, rfl⟩
                  replace H : (pct_Split.l0 k1 y131 t123 t125 (t125.length : Int) (wrap64 (x33_1 + 1))) = some (r1, r2, r3) := by first | (rw [hy131]; with_reducible exact H) | (have H2_ := (Option.bind_some _ _).symm.trans H; rw [hy131]; with_reducible exact H2_) | (have H2_ := (Option.bind_some _ _).symm.trans H; with_reducible exact H2_) | with_reducible exact H | (rw [hy131]; exact H) | exact H
                  have Ny131 := Aside0.mk hy131
                  clear hy131
                  have H' := Aside0.mk H
                  clear H
                  have p128 : 0 ≤ (x33_1 : Int) := of_decide_eq_true (by first | (with_reducible assumption) | assumption)
                  have q128 : x33_1 < (t125.length : Int) := of_decide_eq_true (by first | (with_reducible assumption) | assumption)
                  obtain ⟨ad128, e128, hx128_0⟩ := Kd.at_string (Kd.R_reads' HO_31.out).2.2 x33_1 p128 q128
                  cases e128
                  replace p128 := eq_true p128
                  replace q128 := eq_true q128
                  go_wp2_with (first | ((with_reducible refine gate_callee (f := 76) rfl ?_); refine goesL_ (some 39) rfl rfl Tryz.func76 (by kernel_rfl) rfl #[.string (rdOf ByteArray.empty t125 x33_1), .bool false] rfl (by (try simp only [List.map_toArray, List.map_cons, List.map_nil]); first | done | rfl | (simp only [List.length_drop, List.length_take]; rfl)) ?_; (with_reducible refine (pct_Decode.calls k1 (rdOf ByteArray.empty t125 x33_1) false t129 t130 _ A11.out).mono ?_); rintro e w14 ⟨rfl, hb⟩; refine ⟨_, rfl, ?_⟩; have n0_ := Aside0.mk (Kd.R_below (by (with_reducible repeat (first | apply Kd.R_alloc | apply Kd.R_drewN | apply Kd.R_drew)); exact HO_5.out) hb); have n1_ := Aside0.mk (Kd.R_below (by (with_reducible repeat (first | apply Kd.R_alloc | apply Kd.R_drewN | apply Kd.R_drew)); exact HO_31.out) hb); have n2_ := Aside0.mk (below_step (by repeat (first | (with_reducible first | exact HB.out | apply below_alloc | apply pw_below_drewN | apply below_drew1) | exact HB.out)) hb); clear HO_5; clear HO_31; clear HB; have HO_5 := n0_; have HO_31 := n1_; have HB := n2_; clear n0_ n1_ n2_; (try clear hb); (try clear hb2); (try clear hk); (try clear hi)) | ((with_reducible refine gate_builtin (b := .append) (xs := #[.tmp 45, .tmp 47]) rfl ?_); at_builtin; refine Kd.R_append Kd.string (w0 := w) w.heap.size rfl (.tmp 45) (.tmp 47) 22 9 (.string ⟨#[]⟩) 16 rfl Tryz.underlying22 info9 rfl (by decide) (by omega) u5 x5_1 t129 [.string t129] (fun k_ => some k_ ≠ (.slice (some ad128) t125.length co7 : Value).ownBlock) (fun _ => False) rfl rfl ?aP (fun _ hk => hk.elim) ?aF ?aO ?aB ?aS ?aL ?_; (case aP => exact rfl); (case aB => exact (by repeat (first | (with_reducible first | exact HB.out | apply below_alloc | apply pw_below_drewN | apply below_drew1) | exact HB.out))); (case aF => exact (fun k_ hk => Kd.fresh' (Kd.R_lt (by (with_reducible repeat (first | apply Kd.R_alloc | apply Kd.R_drewN | apply Kd.R_drew)); exact HO_31.out)) k_ hk)); (case aO => exact (by (with_reducible repeat (first | apply Kd.R_alloc | apply Kd.R_drewN | apply Kd.R_drew)); exact HO_5.out)); (case aS => exact (below_size (by repeat (first | (with_reducible first | exact HB.out | apply below_alloc | apply pw_below_drewN | apply below_drew1) | exact HB.out)))); (case aL => have := LMc13.out; omega); intro v132 w15 ho hb hg hat; rw [← Ny131.out] at ho; have n0_ := Aside0.mk (Kd.R_after (ok := (fun _ => True)) (by (with_reducible repeat (first | apply Kd.R_alloc | apply Kd.R_drewN | apply Kd.R_drew)); exact Kd.R_mono HO_31.out (fun _ hk => ⟨trivial, hk⟩)) hg hat); have n1_ := Aside0.mk (hb); have n2_ := Aside0.mk (ho); clear HO_31; clear HB; clear HO_5; have HO_31 := n0_; have HB := n1_; have HO133 := n2_; clear n0_ n1_ n2_; clear ho hb hg hat))
                  go_roundg k1
                  case measure => have := HK1.out; omega
                  case rel => exact ⟨(y131), (wrap64 (x33_1 + 1)), (by first | rfl | (simp; done) | (simp [*]; done) | (simp [isEmpty_bne]; done) | (simp; simp only [wrap64]; omega) | (simp [*]; simp only [wrap64]; omega)), H', ⟨by have := HK1.out; omega⟩, ⟨by (with_reducible repeat (first | apply Kd.R_alloc | apply Kd.R_drewN | apply Kd.R_drew)); exact HO133.out⟩, ⟨by (with_reducible repeat (first | apply Kd.R_alloc | apply Kd.R_drewN | apply Kd.R_drew)); exact Kd.R_mono HO_31.out (fun _ hk => hk.2)⟩, ⟨by repeat (first | (with_reducible first | exact HB.out | apply below_alloc | apply pw_below_drewN | apply below_drew1) | exact HB.out)⟩⟩
                · rw [if_neg c13] at H
                  exact absurd H (by simp)
              · rw [if_neg c12] at H
                have c12b0 : (t130 == 0) = false := beq_eq_false_iff_ne.mpr c12
                have c12b1 : (t130 != 0) = true := bne_iff_ne.mpr c12
                simp only [Option.some.injEq, Prod.mk.injEq] at H
                obtain ⟨rfl, rfl, rfl⟩ := H
                have p128 : 0 ≤ (x33_1 : Int) := of_decide_eq_true (by first | (with_reducible assumption) | assumption)
                have q128 : x33_1 < (t125.length : Int) := of_decide_eq_true (by first | (with_reducible assumption) | assumption)
                obtain ⟨ad128, e128, hx128_0⟩ := Kd.at_string (Kd.R_reads' HO_31.out).2.2 x33_1 p128 q128
                cases e128
                replace p128 := eq_true p128
                replace q128 := eq_true q128
                go_wp2_with (first | ((with_reducible refine gate_callee (f := 76) rfl ?_); refine goesL_ (some 39) rfl rfl Tryz.func76 (by kernel_rfl) rfl #[.string (rdOf ByteArray.empty t125 x33_1), .bool false] rfl (by (try simp only [List.map_toArray, List.map_cons, List.map_nil]); first | done | rfl | (simp only [List.length_drop, List.length_take]; rfl)) ?_; (with_reducible refine (pct_Decode.calls k1 (rdOf ByteArray.empty t125 x33_1) false t129 t130 _ A11.out).mono ?_); rintro e w16 ⟨rfl, hb⟩; refine ⟨_, rfl, ?_⟩; have n0_ := Aside0.mk (Kd.R_below (by (with_reducible repeat (first | apply Kd.R_alloc | apply Kd.R_drewN | apply Kd.R_drew)); exact HO_5.out) hb); have n1_ := Aside0.mk (Kd.R_below (by (with_reducible repeat (first | apply Kd.R_alloc | apply Kd.R_drewN | apply Kd.R_drew)); exact HO_31.out) hb); have n2_ := Aside0.mk (below_step (by repeat (first | (with_reducible first | exact HB.out | apply below_alloc | apply pw_below_drewN | apply below_drew1) | exact HB.out)) hb); clear HO_5; clear HO_31; clear HB; have HO_5 := n0_; have HO_31 := n1_; have HB := n2_; clear n0_ n1_ n2_; (try clear hb); (try clear hb2); (try clear hk); (try clear hi)))
                go_ret3
                exact ⟨_, _, by first | rfl | (simp [errW_none, errW_some] <;> rfl) | (simp [*, errW_none, errW_some] <;> rfl), by first | exact Kd.R_nil _ _ _ _ _ | exact Kd.N_nil _ _ _ _ _ | exact Kd.V_nil _ _ _ _ _ | exact Kd.Q_nil _ _ _ _ _ | exact Kd.S_nil _ _ _ _ _, by first | exact Kd.R_nil _ _ _ _ _ | exact Kd.N_nil _ _ _ _ _ | exact Kd.V_nil _ _ _ _ _ | exact Kd.Q_nil _ _ _ _ _ | exact Kd.S_nil _ _ _ _ _, by repeat (first | (with_reducible first | exact HB.out | apply below_alloc | apply pw_below_drewN | apply below_drew1) | exact HB.out)⟩
            · rw [if_neg c10] at H
              exact absurd H (by simp)
          · rw [if_neg c9] at H
            exact absurd H (by simp)
        · rw [if_neg c8] at H
          have c8b0 : decide (x33_1 < (t125.length : Int)) = false := decide_eq_false c8
          clear c8
          replace H := Option.bind_eq_some_iff.mp H
          obtain ⟨⟨t134, t135⟩, A170, H⟩ := H
          replace H : (if t135 = 0 then (some (x5_1, t134, 0)) else (some (([] : List ByteArray), ([] : List (S256)), t135))) = some (r1, r2, r3) := H
          have A17 := Aside0.mk A170
          clear A170
          by_cases c18 : t135 = 0
          · rw [if_pos c18] at H
            have c18b0 : (t135 == 0) = true := beq_iff_eq.mpr c18
            have c18b1 : (t135 != 0) = false := bne_eq_false_iff_eq.mpr c18
            clear c18
            simp only [Option.some.injEq, Prod.mk.injEq] at H
            obtain ⟨rfl, rfl, rfl⟩ := H
            go_wp2_with (first | ((with_reducible refine gate_callee (f := 77) rfl ?_); refine goesL_ (some 52) rfl rfl Tryz.func77 (by kernel_rfl) rfl #[.string t123] rfl (by (try simp only [List.map_toArray, List.map_cons, List.map_nil]); first | done | rfl | (simp only [List.length_drop, List.length_take]; rfl)) ?_; (with_reducible refine (pct_Query.calls k1 t123 t134 t135 _ A17.out (by repeat (first | exact hG | refine GOK.drewN ?_ _ | refine GOK.alloc ?_ _ | exact GOK.below hG HB.out))).mono ?_); rintro e w19 ⟨v136, rfl, ho0, hb⟩; refine ⟨_, rfl, ?_⟩; have n0_ := Aside0.mk (Kd.R_below (by (with_reducible repeat (first | apply Kd.R_alloc | apply Kd.R_drewN | apply Kd.R_drew)); exact HO_5.out) hb); have n1_ := Aside0.mk (Kd.R_below (by (with_reducible repeat (first | apply Kd.R_alloc | apply Kd.R_drewN | apply Kd.R_drew)); exact HO_31.out) hb); have n2_ := Aside0.mk (Kd.R_lower ho0 (below_size (by repeat (first | (with_reducible first | exact HB.out | apply below_alloc | apply pw_below_drewN | apply below_drew1) | exact HB.out)))); have n3_ := Aside0.mk (below_step (by repeat (first | (with_reducible first | exact HB.out | apply below_alloc | apply pw_below_drewN | apply below_drew1) | exact HB.out)) hb); clear HO_5; clear HO_31; clear HB; have HO_5 := n0_; have HO_31 := n1_; have HO137 := n2_; have HB := n3_; clear n0_ n1_ n2_ n3_; (try clear hb); (try clear hb2); (try clear hk); (try clear hi); (try clear ho0)))
            go_ret3
            exact ⟨_, _, by first | rfl | (simp [errW_none, errW_some] <;> rfl) | (simp [*, errW_none, errW_some] <;> rfl), by (with_reducible repeat (first | apply Kd.R_alloc | apply Kd.R_drewN | apply Kd.R_drew)); exact Kd.R_mono HO_5.out (fun _ hk => trivial), by (with_reducible repeat (first | apply Kd.R_alloc | apply Kd.R_drewN | apply Kd.R_drew)); exact HO137.out, by repeat (first | (with_reducible first | exact HB.out | apply below_alloc | apply pw_below_drewN | apply below_drew1) | exact HB.out)⟩
          · rw [if_neg c18] at H
            have c18b0 : (t135 == 0) = false := beq_eq_false_iff_ne.mpr c18
            have c18b1 : (t135 != 0) = true := bne_iff_ne.mpr c18
            simp only [Option.some.injEq, Prod.mk.injEq] at H
            obtain ⟨rfl, rfl, rfl⟩ := H
            go_wp2_with (first | ((with_reducible refine gate_callee (f := 77) rfl ?_); refine goesL_ (some 52) rfl rfl Tryz.func77 (by kernel_rfl) rfl #[.string t123] rfl (by (try simp only [List.map_toArray, List.map_cons, List.map_nil]); first | done | rfl | (simp only [List.length_drop, List.length_take]; rfl)) ?_; (with_reducible refine (pct_Query.calls k1 t123 t134 t135 _ A17.out (by repeat (first | exact hG | refine GOK.drewN ?_ _ | refine GOK.alloc ?_ _ | exact GOK.below hG HB.out))).mono ?_); rintro e w20 ⟨v136, rfl, ho0, hb⟩; refine ⟨_, rfl, ?_⟩; have n0_ := Aside0.mk (Kd.R_below (by (with_reducible repeat (first | apply Kd.R_alloc | apply Kd.R_drewN | apply Kd.R_drew)); exact HO_5.out) hb); have n1_ := Aside0.mk (Kd.R_below (by (with_reducible repeat (first | apply Kd.R_alloc | apply Kd.R_drewN | apply Kd.R_drew)); exact HO_31.out) hb); have n2_ := Aside0.mk (Kd.R_lower ho0 (below_size (by repeat (first | (with_reducible first | exact HB.out | apply below_alloc | apply pw_below_drewN | apply below_drew1) | exact HB.out)))); have n3_ := Aside0.mk (below_step (by repeat (first | (with_reducible first | exact HB.out | apply below_alloc | apply pw_below_drewN | apply below_drew1) | exact HB.out)) hb); clear HO_5; clear HO_31; clear HB; have HO_5 := n0_; have HO_31 := n1_; have HO137 := n2_; have HB := n3_; clear n0_ n1_ n2_ n3_; (try clear hb); (try clear hb2); (try clear hk); (try clear hi); (try clear ho0)))
            go_ret3
            exact ⟨_, _, by first | rfl | (simp [errW_none, errW_some] <;> rfl) | (simp [*, errW_none, errW_some] <;> rfl), by first | exact Kd.R_nil _ _ _ _ _ | exact Kd.N_nil _ _ _ _ _ | exact Kd.V_nil _ _ _ _ _ | exact Kd.Q_nil _ _ _ _ _ | exact Kd.S_nil _ _ _ _ _, by first | exact Kd.R_nil _ _ _ _ _ | exact Kd.N_nil _ _ _ _ _ | exact Kd.V_nil _ _ _ _ _ | exact Kd.Q_nil _ _ _ _ _ | exact Kd.S_nil _ _ _ _ _, by repeat (first | (with_reducible first | exact HB.out | apply below_alloc | apply pw_below_drewN | apply below_drew1) | exact HB.out)⟩
  · replace c3 := Bool.eq_false_iff.mpr c3
    subst c3
    have H1 : (some (([] : List ByteArray), ([] : List (S256)), 3)) = some (r1, r2, r3) := by rw [if_neg (show ¬ (false = true) by decide)] at H; exact H
    clear H
    have H := H1
    clear H1
    simp only [Option.some.injEq, Prod.mk.injEq] at H
    obtain ⟨rfl, rfl, rfl⟩ := H
    go_enter Tryz.func42, Tryz.ntmps42
    go_wp2_with (first | ((with_reducible refine gate_callee (f := 73) rfl ?_); refine goesL_ (some 19) rfl rfl Tryz.func73 (by kernel_rfl) rfl #[.string a0, .string (⟨#[47]⟩ : ByteArray)] rfl (by (try simp only [List.map_toArray, List.map_cons, List.map_nil]); first | done | rfl | (simp only [List.length_drop, List.length_take]; rfl)) ?_; (with_reducible refine (strings_CutPrefix.calls a0 (⟨#[47]⟩ : ByteArray) t120 false _ A2.out).mono ?_); rintro e w' ⟨rfl, ⟨nd, rfl⟩⟩; refine ⟨_, rfl, ?_⟩))
    go_ret3
    exact ⟨_, _, by first | rfl | (simp [errW_none, errW_some] <;> rfl) | (simp [*, errW_none, errW_some] <;> rfl), by first | exact Kd.R_nil _ _ _ _ _ | exact Kd.N_nil _ _ _ _ _ | exact Kd.V_nil _ _ _ _ _ | exact Kd.Q_nil _ _ _ _ _ | exact Kd.S_nil _ _ _ _ _, by first | exact Kd.R_nil _ _ _ _ _ | exact Kd.N_nil _ _ _ _ _ | exact Kd.V_nil _ _ _ _ _ | exact Kd.Q_nil _ _ _ _ _ | exact Kd.S_nil _ _ _ _ _, by repeat (first | (with_reducible first | exact HB.out | apply below_alloc | apply pw_below_drewN | apply below_drew1) | exact HB.out)⟩

end Go.Proofs.YtedmjlflppckmaaGreatDoor.PW

namespace Go.Proofs.YtedmjlflppckmaaGreatDoor.PW
open Go.RowKit Go.Proofs.YtedmjlflppckmaaGreatDoorW.PrintWords Go.Proofs.YtedmjlflppckmaaGreatDoorW.PrintLast Go.Proofs.YtedmjlflppckmaaGreatDoorW.PrintMore
open Go.Proofs.YtedmjlflppckmaaGreatDoor.Pre
attribute [local go_sem] max2_int min2_int max_two min_two max_three min_three max_four min_four binOp_gtr_str binOp_leq_str binOp_geq_str

/-! ### route_single: function 15 -/
def route_single.f (a0 : ByteArray) : Option (Int × ByteArray) := if a0.toList = ([97, 108, 101, 114, 116, 115] : List UInt8) then (some (1, (⟨#[80, 79, 83, 84]⟩ : ByteArray))) else (if a0.toList = ([115, 105, 108, 101, 110, 99, 101, 115] : List UInt8) then (some (2, (⟨#[80, 79, 83, 84]⟩ : ByteArray))) else (if a0.toList = ([103, 114, 111, 117, 112, 115] : List UInt8) then (some (6, (⟨#[71, 69, 84]⟩ : ByteArray))) else (if a0.toList = ([119, 97, 116, 99, 104] : List UInt8) then (some (7, (⟨#[71, 69, 84]⟩ : ByteArray))) else (if a0.toList = ([111, 117, 116, 98, 111, 120] : List UInt8) then (some (8, (⟨#[71, 69, 84]⟩ : ByteArray))) else (some (0, (⟨#[]⟩ : ByteArray)))))))
set_option maxHeartbeats 8000000 in
set_option maxRecDepth 100000 in
theorem route_single.calls (a0 : ByteArray) (r1 : Int) (r2 : ByteArray) (w : World) (h : route_single.f a0 = some (r1, r2)) :
    Calls Tryz.prog 15 #[.string a0] w fun e w' => e = .returned (.tuple #[.int .i64 r1, .string r2]) ∧ Drawn0 w w' := by
  have H : (if a0.toList = ([97, 108, 101, 114, 116, 115] : List UInt8) then (some (1, (⟨#[80, 79, 83, 84]⟩ : ByteArray))) else (if a0.toList = ([115, 105, 108, 101, 110, 99, 101, 115] : List UInt8) then (some (2, (⟨#[80, 79, 83, 84]⟩ : ByteArray))) else (if a0.toList = ([103, 114, 111, 117, 112, 115] : List UInt8) then (some (6, (⟨#[71, 69, 84]⟩ : ByteArray))) else (if a0.toList = ([119, 97, 116, 99, 104] : List UInt8) then (some (7, (⟨#[71, 69, 84]⟩ : ByteArray))) else (if a0.toList = ([111, 117, 116, 98, 111, 120] : List UInt8) then (some (8, (⟨#[71, 69, 84]⟩ : ByteArray))) else (some (0, (⟨#[]⟩ : ByteArray)))))))) = some (r1, r2) := h
  clear h
  by_cases c2 : a0.toList = ([97, 108, 101, 114, 116, 115] : List UInt8)
  · rw [if_pos c2] at H
    have c2b0 : (a0.toList == ([97, 108, 101, 114, 116, 115] : List UInt8)) = true := beq_iff_eq.mpr c2
    have c2b1 : (a0.toList != ([97, 108, 101, 114, 116, 115] : List UInt8)) = false := bne_eq_false_iff_eq.mpr c2
    clear c2
    simp only [Option.some.injEq, Prod.mk.injEq] at H
    obtain ⟨rfl, rfl⟩ := H
    go_enter Tryz.func15, Tryz.ntmps15
    go_wp2
    go_ret2
    exact ⟨by first | rfl | (simp; done) | (simp [*]; done) | (simp [isEmpty_bne]; done) | (simp; simp only [wrap64]; omega) | (simp [*]; simp only [wrap64]; omega), by repeat (first | exact Drawn0.refl _ | apply Drawn0.step)⟩
  · rw [if_neg c2] at H
    have c2b0 : (a0.toList == ([97, 108, 101, 114, 116, 115] : List UInt8)) = false := beq_eq_false_iff_ne.mpr c2
    have c2b1 : (a0.toList != ([97, 108, 101, 114, 116, 115] : List UInt8)) = true := bne_iff_ne.mpr c2
    by_cases c3 : a0.toList = ([115, 105, 108, 101, 110, 99, 101, 115] : List UInt8)
    · rw [if_pos c3] at H
      have c3b0 : (a0.toList == ([115, 105, 108, 101, 110, 99, 101, 115] : List UInt8)) = true := beq_iff_eq.mpr c3
      have c3b1 : (a0.toList != ([115, 105, 108, 101, 110, 99, 101, 115] : List UInt8)) = false := bne_eq_false_iff_eq.mpr c3
      clear c3
      simp only [Option.some.injEq, Prod.mk.injEq] at H
      obtain ⟨rfl, rfl⟩ := H
      go_enter Tryz.func15, Tryz.ntmps15
      go_wp2
      go_ret2
      exact ⟨by first | rfl | (simp; done) | (simp [*]; done) | (simp [isEmpty_bne]; done) | (simp; simp only [wrap64]; omega) | (simp [*]; simp only [wrap64]; omega), by repeat (first | exact Drawn0.refl _ | apply Drawn0.step)⟩
    · rw [if_neg c3] at H
      have c3b0 : (a0.toList == ([115, 105, 108, 101, 110, 99, 101, 115] : List UInt8)) = false := beq_eq_false_iff_ne.mpr c3
      have c3b1 : (a0.toList != ([115, 105, 108, 101, 110, 99, 101, 115] : List UInt8)) = true := bne_iff_ne.mpr c3
      by_cases c4 : a0.toList = ([103, 114, 111, 117, 112, 115] : List UInt8)
      · rw [if_pos c4] at H
        have c4b0 : (a0.toList == ([103, 114, 111, 117, 112, 115] : List UInt8)) = true := beq_iff_eq.mpr c4
        have c4b1 : (a0.toList != ([103, 114, 111, 117, 112, 115] : List UInt8)) = false := bne_eq_false_iff_eq.mpr c4
        clear c4
        simp only [Option.some.injEq, Prod.mk.injEq] at H
        obtain ⟨rfl, rfl⟩ := H
        go_enter Tryz.func15, Tryz.ntmps15
        go_wp2
        go_ret2
        exact ⟨by first | rfl | (simp; done) | (simp [*]; done) | (simp [isEmpty_bne]; done) | (simp; simp only [wrap64]; omega) | (simp [*]; simp only [wrap64]; omega), by repeat (first | exact Drawn0.refl _ | apply Drawn0.step)⟩
      · rw [if_neg c4] at H
        have c4b0 : (a0.toList == ([103, 114, 111, 117, 112, 115] : List UInt8)) = false := beq_eq_false_iff_ne.mpr c4
        have c4b1 : (a0.toList != ([103, 114, 111, 117, 112, 115] : List UInt8)) = true := bne_iff_ne.mpr c4
        by_cases c5 : a0.toList = ([119, 97, 116, 99, 104] : List UInt8)
        · rw [if_pos c5] at H
          have c5b0 : (a0.toList == ([119, 97, 116, 99, 104] : List UInt8)) = true := beq_iff_eq.mpr c5
          have c5b1 : (a0.toList != ([119, 97, 116, 99, 104] : List UInt8)) = false := bne_eq_false_iff_eq.mpr c5
          clear c5
          simp only [Option.some.injEq, Prod.mk.injEq] at H
          obtain ⟨rfl, rfl⟩ := H
          go_enter Tryz.func15, Tryz.ntmps15
          go_wp2
          go_ret2
          exact ⟨by first | rfl | (simp; done) | (simp [*]; done) | (simp [isEmpty_bne]; done) | (simp; simp only [wrap64]; omega) | (simp [*]; simp only [wrap64]; omega), by repeat (first | exact Drawn0.refl _ | apply Drawn0.step)⟩
        · rw [if_neg c5] at H
          have c5b0 : (a0.toList == ([119, 97, 116, 99, 104] : List UInt8)) = false := beq_eq_false_iff_ne.mpr c5
          have c5b1 : (a0.toList != ([119, 97, 116, 99, 104] : List UInt8)) = true := bne_iff_ne.mpr c5
          by_cases c6 : a0.toList = ([111, 117, 116, 98, 111, 120] : List UInt8)
          · rw [if_pos c6] at H
            have c6b0 : (a0.toList == ([111, 117, 116, 98, 111, 120] : List UInt8)) = true := beq_iff_eq.mpr c6
            have c6b1 : (a0.toList != ([111, 117, 116, 98, 111, 120] : List UInt8)) = false := bne_eq_false_iff_eq.mpr c6
            clear c6
            simp only [Option.some.injEq, Prod.mk.injEq] at H
            obtain ⟨rfl, rfl⟩ := H
            go_enter Tryz.func15, Tryz.ntmps15
            go_wp2
            go_ret2
            exact ⟨by first | rfl | (simp; done) | (simp [*]; done) | (simp [isEmpty_bne]; done) | (simp; simp only [wrap64]; omega) | (simp [*]; simp only [wrap64]; omega), by repeat (first | exact Drawn0.refl _ | apply Drawn0.step)⟩
          · rw [if_neg c6] at H
            have c6b0 : (a0.toList == ([111, 117, 116, 98, 111, 120] : List UInt8)) = false := beq_eq_false_iff_ne.mpr c6
            have c6b1 : (a0.toList != ([111, 117, 116, 98, 111, 120] : List UInt8)) = true := bne_iff_ne.mpr c6
            simp only [Option.some.injEq, Prod.mk.injEq] at H
            obtain ⟨rfl, rfl⟩ := H
            go_enter Tryz.func15, Tryz.ntmps15
            go_wp2
            go_ret2
            exact ⟨by first | rfl | (simp; done) | (simp [*]; done) | (simp [isEmpty_bne]; done) | (simp; simp only [wrap64]; omega) | (simp [*]; simp only [wrap64]; omega), by repeat (first | exact Drawn0.refl _ | apply Drawn0.step)⟩

end Go.Proofs.YtedmjlflppckmaaGreatDoor.PW

namespace Go.Proofs.YtedmjlflppckmaaGreatDoor.PW
open Go.RowKit Go.Proofs.YtedmjlflppckmaaGreatDoorW.PrintWords Go.Proofs.YtedmjlflppckmaaGreatDoorW.PrintLast Go.Proofs.YtedmjlflppckmaaGreatDoorW.PrintMore
open Go.Proofs.YtedmjlflppckmaaGreatDoor.Pre
attribute [local go_sem] max2_int min2_int max_two min_two max_three min_three max_four min_four binOp_gtr_str binOp_leq_str binOp_geq_str


/-! ### chars_All: function 67 -/
/-- A function value over bytes: what it answers; it turns nothing. -/
structure FnB (g : Nat) (p : Int → Bool) : Prop where
  ent : ∀ (args : Array Value) (W : World), (callFunc g args).run Tryz.prog W = .ok (.enter g args) W
  out : ∀ (c : Int) (W : World), 0 ≤ c → c ≤ 255 → Calls Tryz.prog g #[.int .u8 c] W fun e w' => e = .returned (.bool (p c)) ∧ Drawn0 W w'
def allTo (p : Int → Bool) (s : ByteArray) (k : Nat) : Bool := (s.data.toList.take k).all fun c => p (c.toNat : Int)
/-- Are all bytes of a text such? -/
def allP (p : Int → Bool) (s : ByteArray) : Bool := s.data.toList.all fun c => p (c.toNat : Int)
theorem allTo_succ (p : Int → Bool) (s : ByteArray) (k : Nat) (h : k < s.size) : allTo p s (k + 1) = (allTo p s k && p (s[k].toNat : Int)) := by
  unfold allTo
  rw [List.take_succ_eq_append_getElem (by simpa using h)]
  simp [List.all_append]
  rfl
theorem allTo_all (p : Int → Bool) (s : ByteArray) (k : Nat) (h : s.size ≤ k) : allTo p s k = allP p s := by
  unfold allTo allP
  rw [List.take_of_length_le (by simpa using h)]
theorem allP_false (p : Int → Bool) (s : ByteArray) (k : Nat) (h : k < s.size) (hp : p (s[k].toNat : Int) = false) : allP p s = false := by
  unfold allP
  rw [List.all_eq_false]
  exact ⟨s.data.toList[k]'(by simpa using h), List.getElem_mem _, by rw [Bool.not_eq_true]; exact hp⟩
theorem ne_nilFunc (g : Nat) (W : World) : (binOp .neq 182 (.func (.func g) #[] #[]) .nilFunc).run Tryz.prog W = .ok (.bool true) W := by kernel_rfl
set_option maxRecDepth 100000 in
set_option maxHeartbeats 1000000 in
theorem all_any (s : ByteArray) (g : Nat) (p : Int → Bool) (hp : FnB g p) (w : World) (hs : s.size ≤ 9223372036854775807) :
    Calls Tryz.prog 67 #[.string s, .func (.func g) #[] #[]] w fun e w' => e = .returned (.bool (allP p s)) ∧ Drawn0 w w' := by
  have hne := ne_nilFunc g
  have hent := hp.ent
  go_enter Tryz.func67, Tryz.ntmps67
  go_wp2
  go_loopw [4, 5] (fun r i wr => ∃ k : Nat, k ≤ s.size ∧ r = .bool false ∧ i = .int .i64 k ∧ Aside0 (allTo p s k = true) ∧ Aside0 (Drawn0 w wr)) (fun _ i _ => s.size - (intOf i).toNat)
  case atStart => exact ⟨0, Nat.zero_le _, rfl, rfl, ⟨by simp [allTo]⟩, ⟨Drawn0.refl _⟩⟩
  case round =>
    obtain ⟨k, hk, rfl, rfl, ha, hd⟩ := hrel
    by_cases hlt : k < s.size
    · go_wp2_with fail
      refine (hp.out _ _ (by omega) (by have := (s[k]).toNat_lt; omega)).mono ?_
      rintro e w' ⟨rfl, hd2⟩
      have hd3 : Aside0 (Drawn0 w w') := by
        obtain ⟨⟨n, rfl⟩⟩ := hd2
        exact ⟨hd.out.step n⟩
      clear hd2
      cases hpc : p (↑s[k].toNat)
      · have hf := Lib.hid (allP_false p s k hlt hpc)
        clear hpc
        go_wp2
        go_ret
        exact ⟨by rw [hf.out]; rfl, hd3.out⟩
      · have hf : Hid (allTo p s (k + 1) = true) := Lib.hid (by rw [allTo_succ p s k hlt, ha.out, hpc]; rfl)
        clear hpc ha
        go_wp2
        go_roundw
        case rel => exact ⟨k + 1, by omega, rfl, by go_num, ⟨hf.out⟩, hd3⟩
        case measure => simp [intOf]; omega
    · go_wp2
      go_ret
      exact ⟨by rw [← allTo_all p s k (by omega), ha.out]; rfl, hd.out⟩


/-! ### chars_All_chars_Digit: function 67 -/
def chars_All_chars_Digit.f (a0 : ByteArray) : Option Bool := if a0.size ≤ 9223372036854775807 then some (allP (fun c => decide (48 ≤ c ∧ c ≤ 57)) a0) else none
theorem chars_Digit_fn : FnB 68 (fun c => decide (48 ≤ c ∧ c ≤ 57)) where
  ent := enters_of Tryz.func68 (by kernel_rfl) rfl
  out c W _ _ := (chars_Digit.calls c (decide (48 ≤ c ∧ c ≤ 57)) W (by unfold chars_Digit.f; split <;> simp <;> omega))
theorem chars_All_chars_Digit.calls (a0 : ByteArray) (r : Bool) (w : World) (h : chars_All_chars_Digit.f a0 = some r) :
    Calls Tryz.prog 67 #[.string a0, .func (.func 68) #[] #[]] w fun e w' => e = .returned (.bool r) ∧ Drawn0 w w' := by
  unfold chars_All_chars_Digit.f at h
  split at h
  · rename_i hs
    obtain rfl : _ = r := Option.some.inj h
    exact all_any a0 _ _ chars_Digit_fn w hs
  · cases h


end Go.Proofs.YtedmjlflppckmaaGreatDoor.PW

namespace Go.Proofs.YtedmjlflppckmaaGreatDoor.PW
open Go.RowKit Go.Proofs.YtedmjlflppckmaaGreatDoorW.PrintWords Go.Proofs.YtedmjlflppckmaaGreatDoorW.PrintLast Go.Proofs.YtedmjlflppckmaaGreatDoorW.PrintMore
open Go.Proofs.YtedmjlflppckmaaGreatDoor.Pre
attribute [local go_sem] max2_int min2_int max_two min_two max_three min_three max_four min_four binOp_gtr_str binOp_leq_str binOp_geq_str

/-! ### num_digits: function 69 -/
def num_digits.l0 : Nat → ByteArray → Int → Int → Int → Int → Option (Int × Int)
  | 0, _, _, _, _, _ => none
  | k + 1, x0, x1, x6, x10, x11 => if x11 < x10 then (if 0 ≤ x11 then (if x11 < (x0.size : Int) then (if x6 > (IntKind.u64.wrap (Int.tdiv (IntKind.u64.wrap (x1 - (((bt x0 x11) - 48) % 256))) 10)) then (some (0, 5)) else (num_digits.l0 k x0 x1 (IntKind.u64.wrap ((IntKind.u64.wrap (x6 * 10)) + (((bt x0 x11) - 48) % 256))) x10 (wrap64 (x11 + 1)))) else (none)) else (none)) else (some (x6, 0))
def num_digits.f (k : Nat) (a0 : ByteArray) (a1 : Int) : Option (Int × Int) := num_digits.l0 k a0 a1 0 (a0.size : Int) 0
theorem num_digits.mono_l : ∀ k, (∀ y0 y1 y2 y3 y4, LeO (num_digits.l0 k y0 y1 y2 y3 y4) (num_digits.l0 (k + 1) y0 y1 y2 y3 y4))
  | 0 => fun _ _ _ _ _ r h => by simp [num_digits.l0] at h
  | k + 1 => by
    have ih0 := num_digits.mono_l k
    · intro y0 y1 y2 y3 y4
      unfold num_digits.l0
      repeat' first
      | (with_reducible exact ih0 _ _ _ _ _)
      | (with_reducible exact LeO.refl _)
      | (with_reducible exact LeO.none _)
      | (with_reducible refine LeO.ite ?_ ?_)
      | (with_reducible refine LeO.bind ?_ (fun _ => ?_))
      | exact ih0 _ _ _ _ _
      | exact LeO.none _
      | refine LeO.ite ?_ ?_
      | refine LeO.bind ?_ (fun _ => ?_)
theorem num_digits.mono : ∀ a0 a1 k, LeO (num_digits.f k a0 a1) (num_digits.f (k + 1) a0 a1) := by
  intro a0 a1 k
  have ih0 := num_digits.mono_l k
  unfold num_digits.f
  repeat' first
      | (with_reducible exact ih0 _ _ _ _ _)
      | (with_reducible exact LeO.refl _)
      | (with_reducible exact LeO.none _)
      | (with_reducible refine LeO.ite ?_ ?_)
      | (with_reducible refine LeO.bind ?_ (fun _ => ?_))
      | exact ih0 _ _ _ _ _
      | exact LeO.none _
      | refine LeO.ite ?_ ?_
      | refine LeO.bind ?_ (fun _ => ?_)
set_option maxHeartbeats 8000000 in
set_option maxRecDepth 100000 in
theorem num_digits.calls (k : Nat) (a0 : ByteArray) (a1 : Int) (r1 : Int) (r2 : Int) (w : World) (h : num_digits.f k a0 a1 = some (r1, r2)) :
    Calls Tryz.prog 69 #[.string a0, .int .u64 a1] w fun e w' => e = .returned (.tuple #[.int .u64 r1, .int .i64 r2]) ∧ Drawn0 w w' := by
  have H : (num_digits.l0 k a0 a1 0 (a0.size : Int) 0) = some (r1, r2) := h
  clear h
  have H' := Aside0.mk H
  clear H
  go_enter Tryz.func69, Tryz.ntmps69
  go_wp2
  go_loopg [6, 11] k (fun kq v6 v11 w' => ∃ (x6_1 : Int) (x11_1 : Int), v6 = .int .u64 x6_1 ∧ v11 = .int .i64 x11_1 ∧ Aside0 (num_digits.l0 kq a0 a1 x6_1 (a0.size : Int) x11_1 = some (r1, r2)) ∧ Aside0 (kq ≤ k) ∧ Drawn0 w w')
  case atStart => exact ⟨(0), (0), (by first | rfl | (simp; done) | (simp [*]; done) | (simp [isEmpty_bne]; done) | (simp; simp only [wrap64]; omega) | (simp [*]; simp only [wrap64]; omega)), (by first | rfl | (simp; done) | (simp [*]; done) | (simp [isEmpty_bne]; done) | (simp; simp only [wrap64]; omega) | (simp [*]; simp only [wrap64]; omega)), H', ⟨Nat.le_refl _⟩, by repeat (first | exact Drawn0.refl _ | apply Drawn0.step)⟩
  case round =>
    clear H'
    try clear p2
    obtain ⟨x6_1, x11_1, rfl, rfl, HA, HK1, ⟨m1, rfl⟩⟩ := hrel
    cases gk with
    | zero => exact absurd HA.out (by simp [num_digits.l0])
    | succ k1 =>
      have H := HA.out
      clear HA
      simp only [num_digits.l0] at H
      by_cases c3 : x11_1 < (a0.size : Int)
      · rw [if_pos c3] at H
        have c3b0 : decide (x11_1 < (a0.size : Int)) = true := decide_eq_true c3
        clear c3
        by_cases c4 : 0 ≤ x11_1
        · rw [if_pos c4] at H
          have c4b0 : decide (0 ≤ x11_1) = true := decide_eq_true c4
          clear c4
          by_cases c5 : x11_1 < (a0.size : Int)
          · rw [if_pos c5] at H
            have c5b0 : decide (x11_1 < (a0.size : Int)) = true := decide_eq_true c5
            clear c5
            by_cases c7 : x6_1 > (IntKind.u64.wrap (Int.tdiv (IntKind.u64.wrap (a1 - (((bt a0 x11_1) - 48) % 256))) 10))
            · rw [if_pos c7] at H
              have c7b0 : decide ((IntKind.u64.wrap (Int.tdiv (IntKind.u64.wrap (a1 - (((bt a0 x11_1) - 48) % 256))) 10)) < x6_1) = true := decide_eq_true c7
              clear c7
              simp only [Option.some.injEq, Prod.mk.injEq] at H
              obtain ⟨rfl, rfl⟩ := H
              have p6 : 0 ≤ (x11_1 : Int) := of_decide_eq_true (by first | (with_reducible assumption) | assumption)
              have q6 : x11_1 < (a0.size : Int) := of_decide_eq_true (by first | (with_reducible assumption) | assumption)
              have hx6 := bt_at a0 x11_1
              replace p6 := eq_true p6
              replace q6 := eq_true q6
              go_wp2
              go_ret2
              exact ⟨by first | rfl | (simp; done) | (simp [*]; done) | (simp [isEmpty_bne]; done) | (simp; simp only [wrap64]; omega) | (simp [*]; simp only [wrap64]; omega), by repeat (first | exact Drawn0.refl _ | apply Drawn0.step)⟩
            · rw [if_neg c7] at H
              have c7b0 : decide ((IntKind.u64.wrap (Int.tdiv (IntKind.u64.wrap (a1 - (((bt a0 x11_1) - 48) % 256))) 10)) < x6_1) = false := decide_eq_false c7
              clear c7
              have H' := Aside0.mk H
              clear H
              have p6 : 0 ≤ (x11_1 : Int) := of_decide_eq_true (by first | (with_reducible assumption) | assumption)
              have q6 : x11_1 < (a0.size : Int) := of_decide_eq_true (by first | (with_reducible assumption) | assumption)
              have hx6 := bt_at a0 x11_1
              replace p6 := eq_true p6
              replace q6 := eq_true q6
              go_wp2
              go_roundg k1
              case measure => have := HK1.out; omega
              case rel => exact ⟨(IntKind.u64.wrap ((IntKind.u64.wrap (x6_1 * 10)) + (((bt a0 x11_1) - 48) % 256))), (wrap64 (x11_1 + 1)), (by first | rfl | (simp; done) | (simp [*]; done) | (simp [isEmpty_bne]; done) | (simp; simp only [wrap64]; omega) | (simp [*]; simp only [wrap64]; omega)), (by first | rfl | (simp; done) | (simp [*]; done) | (simp [isEmpty_bne]; done) | (simp; simp only [wrap64]; omega) | (simp [*]; simp only [wrap64]; omega)), H', ⟨by have := HK1.out; omega⟩, by repeat (first | exact Drawn0.refl _ | apply Drawn0.step)⟩
          · rw [if_neg c5] at H
            exact absurd H (by simp)
        · rw [if_neg c4] at H
          exact absurd H (by simp)
      · rw [if_neg c3] at H
        have c3b0 : decide (x11_1 < (a0.size : Int)) = false := decide_eq_false c3
        clear c3
        simp only [Option.some.injEq, Prod.mk.injEq] at H
        obtain ⟨rfl, rfl⟩ := H
        go_wp2
        go_ret2
        exact ⟨by first | rfl | (simp; done) | (simp [*]; done) | (simp [isEmpty_bne]; done) | (simp; simp only [wrap64]; omega) | (simp [*]; simp only [wrap64]; omega), by repeat (first | exact Drawn0.refl _ | apply Drawn0.step)⟩

end Go.Proofs.YtedmjlflppckmaaGreatDoor.PW

namespace Go.Proofs.YtedmjlflppckmaaGreatDoor.PW
open Go.RowKit Go.Proofs.YtedmjlflppckmaaGreatDoorW.PrintWords Go.Proofs.YtedmjlflppckmaaGreatDoorW.PrintLast Go.Proofs.YtedmjlflppckmaaGreatDoorW.PrintMore
open Go.Proofs.YtedmjlflppckmaaGreatDoor.Pre
attribute [local go_sem] max2_int min2_int max_two min_two max_three min_three max_four min_four binOp_gtr_str binOp_leq_str binOp_geq_str

/-! ### num_Parse: function 38 -/
mutual
def num_Parse.j0 : Nat → ByteArray → Bool → Option (Int × Int)
  | 0, _, _ => none
  | k + 1, x0, x4 => if x4 = true then (if 1 ≤ (x0.size : Int) then (num_Parse.j1 k (x0.extract 1 x0.size) x4 (9223372036854775807 + 1)) else (none)) else (num_Parse.j1 k x0 x4 9223372036854775807)
def num_Parse.j1 : Nat → ByteArray → Bool → Int → Option (Int × Int)
  | 0, _, _, _ => none
  | k + 1, x0, x4, x5 => if x0.toList = ([] : List UInt8) then (num_Parse.j2 k x0 x4 x5 true) else ((chars_All_chars_Digit.f x0).bind fun t138 => (if t138 = true then (if (x0.size : Int) > 1 then (if 0 < (x0.size : Int) then (num_Parse.j2 k x0 x4 x5 ((bt x0 0) == 48)) else (none)) else (num_Parse.j2 k x0 x4 x5 false)) else (num_Parse.j2 k x0 x4 x5 true)))
def num_Parse.j2 : Nat → ByteArray → Bool → Int → Bool → Option (Int × Int)
  | 0, _, _, _, _ => none
  | k + 1, x0, x4, x5, x37 => if x37 = true then (some (0, 3)) else ((num_digits.f k x0 x5).bind fun bt139 => (if bt139.2 = 0 then (if x4 = true then (some (wrap64 (IntKind.u64.wrap (-bt139.1)), 0)) else (some (wrap64 (bt139.1), 0))) else (some (0, bt139.2))))
end
def num_Parse.f (k : Nat) (a0 : ByteArray) : Option (Int × Int) := if (a0.size : Int) > 0 then (if 0 < (a0.size : Int) then (num_Parse.j0 k a0 ((bt a0 0) == 45)) else (none)) else (num_Parse.j0 k a0 false)
theorem num_Parse.mono_l : ∀ k, (∀ y0 y1, LeO (num_Parse.j0 k y0 y1) (num_Parse.j0 (k + 1) y0 y1)) ∧ (∀ y0 y1 y2, LeO (num_Parse.j1 k y0 y1 y2) (num_Parse.j1 (k + 1) y0 y1 y2)) ∧ (∀ y0 y1 y2 y3, LeO (num_Parse.j2 k y0 y1 y2 y3) (num_Parse.j2 (k + 1) y0 y1 y2 y3))
  | 0 => ⟨fun _ _ r h => by simp [num_Parse.j0] at h, fun _ _ _ r h => by simp [num_Parse.j1] at h, fun _ _ _ _ r h => by simp [num_Parse.j2] at h⟩
  | k + 1 => by
    obtain ⟨ih0, ih1, ih2⟩ := num_Parse.mono_l k
    refine ⟨?_, ?_, ?_⟩
    · intro y0 y1
      unfold num_Parse.j0
      repeat' first
      | (with_reducible exact ih0 _ _)
      | (with_reducible exact ih1 _ _ _)
      | (with_reducible exact ih2 _ _ _ _)
      | (with_reducible exact num_digits.mono _ _ _)
      | (with_reducible exact LeO.refl _)
      | (with_reducible exact LeO.none _)
      | (with_reducible refine LeO.ite ?_ ?_)
      | (with_reducible refine LeO.bind ?_ (fun _ => ?_))
      | exact ih0 _ _
      | exact ih1 _ _ _
      | exact ih2 _ _ _ _
      | exact num_digits.mono _ _ _
      | exact LeO.none _
      | refine LeO.ite ?_ ?_
      | refine LeO.bind ?_ (fun _ => ?_)
    · intro y0 y1 y2
      unfold num_Parse.j1
      repeat' first
      | (with_reducible exact ih0 _ _)
      | (with_reducible exact ih1 _ _ _)
      | (with_reducible exact ih2 _ _ _ _)
      | (with_reducible exact num_digits.mono _ _ _)
      | (with_reducible exact LeO.refl _)
      | (with_reducible exact LeO.none _)
      | (with_reducible refine LeO.ite ?_ ?_)
      | (with_reducible refine LeO.bind ?_ (fun _ => ?_))
      | exact ih0 _ _
      | exact ih1 _ _ _
      | exact ih2 _ _ _ _
      | exact num_digits.mono _ _ _
      | exact LeO.none _
      | refine LeO.ite ?_ ?_
      | refine LeO.bind ?_ (fun _ => ?_)
    · intro y0 y1 y2 y3
      unfold num_Parse.j2
      repeat' first
      | (with_reducible exact ih0 _ _)
      | (with_reducible exact ih1 _ _ _)
      | (with_reducible exact ih2 _ _ _ _)
      | (with_reducible exact num_digits.mono _ _ _)
      | (with_reducible exact LeO.refl _)
      | (with_reducible exact LeO.none _)
      | (with_reducible refine LeO.ite ?_ ?_)
      | (with_reducible refine LeO.bind ?_ (fun _ => ?_))
      | exact ih0 _ _
      | exact ih1 _ _ _
      | exact ih2 _ _ _ _
      | exact num_digits.mono _ _ _
      | exact LeO.none _
      | refine LeO.ite ?_ ?_
      | refine LeO.bind ?_ (fun _ => ?_)
theorem num_Parse.mono : ∀ a0 k, LeO (num_Parse.f k a0) (num_Parse.f (k + 1) a0) := by
  intro a0 k
  obtain ⟨ih0, ih1, ih2⟩ := num_Parse.mono_l k
  unfold num_Parse.f
  repeat' first
      | (with_reducible exact ih0 _ _)
      | (with_reducible exact ih1 _ _ _)
      | (with_reducible exact ih2 _ _ _ _)
      | (with_reducible exact num_digits.mono _ _ _)
      | (with_reducible exact LeO.refl _)
      | (with_reducible exact LeO.none _)
      | (with_reducible refine LeO.ite ?_ ?_)
      | (with_reducible refine LeO.bind ?_ (fun _ => ?_))
      | exact ih0 _ _
      | exact ih1 _ _ _
      | exact ih2 _ _ _ _
      | exact num_digits.mono _ _ _
      | exact LeO.none _
      | refine LeO.ite ?_ ?_
      | refine LeO.bind ?_ (fun _ => ?_)
set_option maxHeartbeats 8000000 in
set_option maxRecDepth 100000 in
theorem num_Parse.calls (k : Nat) (a0 : ByteArray) (r1 : Int) (r2 : Int) (w : World) (h : num_Parse.f k a0 = some (r1, r2)) :
    Calls Tryz.prog 38 #[.string a0] w fun e w' => e = .returned (.tuple #[.int .i64 r1, .int .i64 r2]) ∧ Drawn0 w w' := by
  have H : (if (a0.size : Int) > 0 then (if 0 < (a0.size : Int) then (num_Parse.j0 k a0 ((bt a0 0) == 45)) else (none)) else (num_Parse.j0 k a0 false)) = some (r1, r2) := h
  clear h
  have HC2 := Aside0.mk H
  clear H
  go_enter Tryz.func38, Tryz.ntmps38
  go_upto_region 1 with (fail)
  go_cut [4] (fun v4 wc => ∃ (kq : Nat) (x4_1 : Bool), v4 = .bool x4_1 ∧ Aside0 (num_Parse.j0 kq a0 x4_1 = some (r1, r2)) ∧ Aside0 (kq ≤ k) ∧ Drawn0 w wc)
  case first =>
    have H := HC2.out
    clear HC2
    by_cases c3 : (a0.size : Int) > 0
    · rw [if_pos c3] at H
      have c3b0 : decide (0 < (a0.size : Int)) = true := decide_eq_true c3
      have c3b1 : decide (0 < a0.size) = true := decide_eq_true (by omega)
      clear c3
      (first | rw [c3b0] | (simp only [i64_w, i32_w]; rw [c3b0]) | skip)
      by_cases c4 : 0 < (a0.size : Int)
      · rw [if_pos c4] at H
        have c4b0 : decide (0 < (a0.size : Int)) = true := decide_eq_true c4
        have c4b1 : decide (0 < a0.size) = true := decide_eq_true (by omega)
        clear c4
        have H' := Aside0.mk H
        clear H
        have p5 : 0 ≤ (0 : Int) := (by omega)
        have q5 : 0 < a0.size := (by have : (0 : Int) < (a0.size : Int) := of_decide_eq_true (by first | (with_reducible assumption) | assumption); omega)
        have hx5 : ∀ h : 0 < a0.size, ((a0[0]'h).toNat : Int) = bt a0 0 := bt_at a0 0
        clear p5
        have qi5 : (0 < (a0.size : Int)) = True := eq_true (of_decide_eq_true (by first | (with_reducible assumption) | assumption))
        replace q5 := eq_true q5
        go_wp2
        go_meet
        case rel => exact ⟨_, (((bt a0 0) == 45)), (by first | rfl | (simp; done) | (simp [*]; done) | (simp [isEmpty_bne]; done) | (simp; simp only [wrap64]; omega) | (simp [*]; simp only [wrap64]; omega)), H', ⟨by first | omega | exact Nat.le_refl _⟩, by repeat (first | exact Drawn0.refl _ | apply Drawn0.step)⟩
      · rw [if_neg c4] at H
        exact absurd H (by simp)
    · rw [if_neg c3] at H
      have c3b0 : decide (0 < (a0.size : Int)) = false := decide_eq_false c3
      have c3b1 : decide (0 < a0.size) = false := decide_eq_false (by omega)
      clear c3
      (first | rw [c3b0] | (simp only [i64_w, i32_w]; rw [c3b0]) | skip)
      have H' := Aside0.mk H
      clear H
      go_wp2
      go_meet
      case rel => exact ⟨_, (false), (by first | rfl | (simp; done) | (simp [*]; done) | (simp [isEmpty_bne]; done) | (simp; simp only [wrap64]; omega) | (simp [*]; simp only [wrap64]; omega)), H', ⟨by first | omega | exact Nat.le_refl _⟩, by repeat (first | exact Drawn0.refl _ | apply Drawn0.step)⟩
  case rest =>
    clear HC2
    try clear p2
    try clear c3
    try clear c3b0
    try clear c3b1
    try clear c4
    try clear c4b0
    try clear c4b1
    try clear p5
    try clear q5
    try clear hx5
    try clear qi5
    try clear p5
    try clear q5
    obtain ⟨kq, x4_1, rfl, HA, HJ1, ⟨mc1, rfl⟩⟩ := hcut
    cases kq with
    | zero => exact absurd HA.out (by simp [num_Parse.j0])
    | succ kj1 =>
      have H := HA.out
      clear HA
      simp only [num_Parse.j0] at H
      have HC6 := Aside0.mk H
      clear H
      go_upto_if 16 with (fail)
      go_cut [0, 5] (fun v0 v5 wc => ∃ (kq : Nat) (x0_5 : ByteArray) (x5_5 : Int), v0 = .string x0_5 ∧ v5 = .int .u64 x5_5 ∧ Aside0 (num_Parse.j1 kq x0_5 x4_1 x5_5 = some (r1, r2)) ∧ Aside0 (kq ≤ kj1) ∧ Drawn0 w wc)
      case first =>
        have H := HC6.out
        clear HC6
        by_cases c7 : x4_1 = true
        · subst c7
          have H1 : (if 1 ≤ (a0.size : Int) then (num_Parse.j1 kj1 (a0.extract 1 a0.size) true (9223372036854775807 + 1)) else (none)) = some (r1, r2) := by rw [if_pos rfl] at H; exact H
          clear H
          have H := H1
          clear H1
          by_cases c8 : 1 ≤ (a0.size : Int)
          · rw [if_pos c8] at H
            have c8b0 := eq_true c8
            have c8b1 : decide (1 ≤ (a0.size : Int)) = true := decide_eq_true c8
            clear c8
            have H' := Aside0.mk H
            clear H
            go_wp2
            go_meet
            case rel => exact ⟨_, (a0.extract 1 a0.size), (9223372036854775807 + 1), (by first | rfl | (simp; done) | (simp [*]; done) | (simp [isEmpty_bne]; done) | (simp; simp only [wrap64]; omega) | (simp [*]; simp only [wrap64]; omega)), (by first | rfl | (simp; done) | (simp [*]; done) | (simp [isEmpty_bne]; done) | (simp; simp only [wrap64]; omega) | (simp [*]; simp only [wrap64]; omega)), H', ⟨by have := HJ1.out; first | omega | exact Nat.le_refl _⟩, by repeat (first | exact Drawn0.refl _ | apply Drawn0.step)⟩
          · rw [if_neg c8] at H
            exact absurd H (by simp)
        · replace c7 := Bool.eq_false_iff.mpr c7
          subst c7
          have H1 : (num_Parse.j1 kj1 a0 false 9223372036854775807) = some (r1, r2) := by rw [if_neg (show ¬ (false = true) by decide)] at H; exact H
          clear H
          have H := H1
          clear H1
          have H' := Aside0.mk H
          clear H
          go_wp2
          go_meet
          case rel => exact ⟨_, (a0), (9223372036854775807), (by first | rfl | (simp; done) | (simp [*]; done) | (simp [isEmpty_bne]; done) | (simp; simp only [wrap64]; omega) | (simp [*]; simp only [wrap64]; omega)), (by first | rfl | (simp; done) | (simp [*]; done) | (simp [isEmpty_bne]; done) | (simp; simp only [wrap64]; omega) | (simp [*]; simp only [wrap64]; omega)), H', ⟨by have := HJ1.out; first | omega | exact Nat.le_refl _⟩, by repeat (first | exact Drawn0.refl _ | apply Drawn0.step)⟩
      case rest =>
        clear HC6
        try clear c1
        try clear p2
        try clear c3
        try clear c3b0
        try clear c3b1
        try clear c4
        try clear c4b0
        try clear c4b1
        try clear p5
        try clear q5
        try clear hx5
        try clear qi5
        try clear c7
        try clear c8
        try clear c8b0
        try clear c8b1
        try clear p2
        try clear p5
        try clear q5
        obtain ⟨kq, x0_5, x5_5, rfl, rfl, HA, HJ5, ⟨mc5, rfl⟩⟩ := hcut
        cases kq with
        | zero => exact absurd HA.out (by simp [num_Parse.j1])
        | succ kj5 =>
          have H := HA.out
          clear HA
          simp only [num_Parse.j1] at H
          have HC9 := Aside0.mk H
          clear H
          go_upto_region 6 with (fail)
          go_cut [37] (fun v37 wc => ∃ (kq : Nat) (x37_8 : Bool), v37 = .bool x37_8 ∧ Aside0 (num_Parse.j2 kq x0_5 x4_1 x5_5 x37_8 = some (r1, r2)) ∧ Aside0 (kq ≤ kj5) ∧ Drawn0 w wc)
          case first =>
            have H := HC9.out
            clear HC9
            by_cases c10 : x0_5.toList = ([] : List UInt8)
            · rw [if_pos c10] at H
              have c10b0 : (x0_5.toList == ([] : List UInt8)) = true := beq_iff_eq.mpr c10
              have c10b1 : (x0_5.toList != ([] : List UInt8)) = false := bne_eq_false_iff_eq.mpr c10
              clear c10
              (first | rw [c10b0] | (simp only [i64_w, i32_w]; rw [c10b0]) | skip)
              have H' := Aside0.mk H
              clear H
              go_wp2
              go_meet
              case rel => exact ⟨_, (true), (by first | rfl | (simp; done) | (simp [*]; done) | (simp [isEmpty_bne]; done) | (simp; simp only [wrap64]; omega) | (simp [*]; simp only [wrap64]; omega)), H', ⟨by have := HJ1.out; have := HJ5.out; first | omega | exact Nat.le_refl _⟩, by repeat (first | exact Drawn0.refl _ | apply Drawn0.step)⟩
            · rw [if_neg c10] at H
              have c10b0 : (x0_5.toList == ([] : List UInt8)) = false := beq_eq_false_iff_ne.mpr c10
              have c10b1 : (x0_5.toList != ([] : List UInt8)) = true := bne_iff_ne.mpr c10
              (first | rw [c10b0] | (simp only [i64_w, i32_w]; rw [c10b0]) | skip)
              replace H := Option.bind_eq_some_iff.mp H
              obtain ⟨t138, A110, H⟩ := H
              replace H : (if t138 = true then (if (x0_5.size : Int) > 1 then (if 0 < (x0_5.size : Int) then (num_Parse.j2 kj5 x0_5 x4_1 x5_5 ((bt x0_5 0) == 48)) else (none)) else (num_Parse.j2 kj5 x0_5 x4_1 x5_5 false)) else (num_Parse.j2 kj5 x0_5 x4_1 x5_5 true)) = some (r1, r2) := H
              have A11 := Aside0.mk A110
              clear A110
              by_cases c12 : t138 = true
              · subst c12
                have H1 : (if (x0_5.size : Int) > 1 then (if 0 < (x0_5.size : Int) then (num_Parse.j2 kj5 x0_5 x4_1 x5_5 ((bt x0_5 0) == 48)) else (none)) else (num_Parse.j2 kj5 x0_5 x4_1 x5_5 false)) = some (r1, r2) := by rw [if_pos rfl] at H; exact H
                clear H
                have H := H1
                clear H1
                by_cases c13 : (x0_5.size : Int) > 1
                · rw [if_pos c13] at H
                  have c13b0 : decide (1 < (x0_5.size : Int)) = true := decide_eq_true c13
                  have c13b1 : decide (1 < x0_5.size) = true := decide_eq_true (by omega)
                  clear c13
                  by_cases c14 : 0 < (x0_5.size : Int)
                  · rw [if_pos c14] at H
                    have c14b0 : decide (0 < (x0_5.size : Int)) = true := decide_eq_true c14
                    have c14b1 : decide (0 < x0_5.size) = true := decide_eq_true (by omega)
                    clear c14
                    have H' := Aside0.mk H
                    clear H
                    go_wp2_with (first | (go_at_call 67; (with_reducible refine (chars_All_chars_Digit.calls x0_5  true _ A11.out).mono ?_); rintro e w' ⟨rfl, ⟨nd, rfl⟩⟩; have p15 : 0 ≤ (0 : Int) := (by omega); have q15 : 0 < x0_5.size := (by have : (0 : Int) < (x0_5.size : Int) := of_decide_eq_true (by first | (with_reducible assumption) | assumption); omega); have hx15 : ∀ h : 0 < x0_5.size, ((x0_5[0]'h).toNat : Int) = bt x0_5 0 := bt_at x0_5 0; clear p15; have qi15 : (0 < (x0_5.size : Int)) = True := eq_true (of_decide_eq_true (by first | (with_reducible assumption) | assumption)); replace q15 := eq_true q15))
                    go_meet
                    case rel => exact ⟨_, (((bt x0_5 0) == 48)), (by first | rfl | (simp; done) | (simp [*]; done) | (simp [isEmpty_bne]; done) | (simp; simp only [wrap64]; omega) | (simp [*]; simp only [wrap64]; omega)), H', ⟨by have := HJ1.out; have := HJ5.out; first | omega | exact Nat.le_refl _⟩, by repeat (first | exact Drawn0.refl _ | apply Drawn0.step)⟩
                  · rw [if_neg c14] at H
                    exact absurd H (by simp)
                · rw [if_neg c13] at H
                  have c13b0 : decide (1 < (x0_5.size : Int)) = false := decide_eq_false c13
                  have c13b1 : decide (1 < x0_5.size) = false := decide_eq_false (by omega)
                  clear c13
                  have H' := Aside0.mk H
                  clear H
                  go_wp2_with (first | (go_at_call 67; (with_reducible refine (chars_All_chars_Digit.calls x0_5  true _ A11.out).mono ?_); rintro e w' ⟨rfl, ⟨nd, rfl⟩⟩))
                  go_meet
                  case rel => exact ⟨_, (false), (by first | rfl | (simp; done) | (simp [*]; done) | (simp [isEmpty_bne]; done) | (simp; simp only [wrap64]; omega) | (simp [*]; simp only [wrap64]; omega)), H', ⟨by have := HJ1.out; have := HJ5.out; first | omega | exact Nat.le_refl _⟩, by repeat (first | exact Drawn0.refl _ | apply Drawn0.step)⟩
              · replace c12 := Bool.eq_false_iff.mpr c12
                subst c12
                have H1 : (num_Parse.j2 kj5 x0_5 x4_1 x5_5 true) = some (r1, r2) := by rw [if_neg (show ¬ (false = true) by decide)] at H; exact H
                clear H
                have H := H1
                clear H1
                have H' := Aside0.mk H
                clear H
                go_wp2_with (first | (go_at_call 67; (with_reducible refine (chars_All_chars_Digit.calls x0_5  false _ A11.out).mono ?_); rintro e w' ⟨rfl, ⟨nd, rfl⟩⟩))
                go_meet
                case rel => exact ⟨_, (true), (by first | rfl | (simp; done) | (simp [*]; done) | (simp [isEmpty_bne]; done) | (simp; simp only [wrap64]; omega) | (simp [*]; simp only [wrap64]; omega)), H', ⟨by have := HJ1.out; have := HJ5.out; first | omega | exact Nat.le_refl _⟩, by repeat (first | exact Drawn0.refl _ | apply Drawn0.step)⟩
          case rest =>
            clear HC9
            try clear c1
            try clear p1
            try clear q1
            try clear hx1
            try clear qi1
            try clear p2
            try clear c3
            try clear c3b0
            try clear c3b1
            try clear c4
            try clear c4b0
            try clear c4b1
            try clear c5
            try clear p5
            try clear q5
            try clear hx5
            try clear qi5
            try clear c7
            try clear c8
            try clear c8b0
            try clear c8b1
            try clear c10
            try clear c10b0
            try clear c10b1
            try clear c12
            try clear c13
            try clear c13b0
            try clear c13b1
            try clear c14
            try clear c14b0
            try clear c14b1
            try clear p15
            try clear q15
            try clear hx15
            try clear qi15
            try clear p15
            try clear p2
            try clear p5
            try clear q15
            try clear q5
            obtain ⟨kq, x37_8, rfl, HA, HJ8, ⟨mc8, rfl⟩⟩ := hcut
            cases kq with
            | zero => exact absurd HA.out (by simp [num_Parse.j2])
            | succ kj8 =>
              have H := HA.out
              clear HA
              simp only [num_Parse.j2] at H
              by_cases c16 : x37_8 = true
              · subst c16
                have H1 : (some (0, 3)) = some (r1, r2) := by rw [if_pos rfl] at H; exact H
                clear H
                have H := H1
                clear H1
                simp only [Option.some.injEq, Prod.mk.injEq] at H
                obtain ⟨rfl, rfl⟩ := H
                go_wp2
                go_ret2
                exact ⟨by first | rfl | (simp; done) | (simp [*]; done) | (simp [isEmpty_bne]; done) | (simp; simp only [wrap64]; omega) | (simp [*]; simp only [wrap64]; omega), by repeat (first | exact Drawn0.refl _ | apply Drawn0.step)⟩
              · replace c16 := Bool.eq_false_iff.mpr c16
                subst c16
                have H1 : ((num_digits.f kj8 x0_5 x5_5).bind fun bt139 => (if bt139.2 = 0 then (if x4_1 = true then (some (wrap64 (IntKind.u64.wrap (-bt139.1)), 0)) else (some (wrap64 (bt139.1), 0))) else (some (0, bt139.2)))) = some (r1, r2) := by rw [if_neg (show ¬ (false = true) by decide)] at H; exact H
                clear H
                have H := H1
                clear H1
                replace H := Option.bind_eq_some_iff.mp H
                obtain ⟨⟨t139, t140⟩, A170, H⟩ := H
                replace H : (if t140 = 0 then (if x4_1 = true then (some (wrap64 (IntKind.u64.wrap (-t139)), 0)) else (some (wrap64 (t139), 0))) else (some (0, t140))) = some (r1, r2) := H
                have A17 := Aside0.mk A170
                clear A170
                by_cases c18 : t140 = 0
                · rw [if_pos c18] at H
                  have c18b0 : (t140 == 0) = true := beq_iff_eq.mpr c18
                  have c18b1 : (t140 != 0) = false := bne_eq_false_iff_eq.mpr c18
                  clear c18
                  by_cases c19 : x4_1 = true
                  · subst c19
                    have H1 : (some (wrap64 (IntKind.u64.wrap (-t139)), 0)) = some (r1, r2) := by rw [if_pos rfl] at H; exact H
                    clear H
                    have H := H1
                    clear H1
                    simp only [Option.some.injEq, Prod.mk.injEq] at H
                    obtain ⟨rfl, rfl⟩ := H
                    go_wp2_with (first | ((with_reducible refine gate_callee (f := 69) rfl ?_); refine goesL_ (some 41) rfl rfl Tryz.func69 (by kernel_rfl) rfl #[.string x0_5, .int .u64 x5_5] rfl (by (try simp only [List.map_toArray, List.map_cons, List.map_nil]); first | done | rfl | (simp only [List.length_drop, List.length_take]; rfl)) ?_; (with_reducible refine (num_digits.calls kj8 x0_5 x5_5 t139 t140 _ A17.out).mono ?_); rintro e w' ⟨rfl, ⟨nd, rfl⟩⟩; refine ⟨_, rfl, ?_⟩))
                    go_ret2
                    exact ⟨by first | rfl | (simp; done) | (simp [*]; done) | (simp [isEmpty_bne]; done) | (simp; simp only [wrap64]; omega) | (simp [*]; simp only [wrap64]; omega), by repeat (first | exact Drawn0.refl _ | apply Drawn0.step)⟩
                  · replace c19 := Bool.eq_false_iff.mpr c19
                    subst c19
                    have H1 : (some (wrap64 (t139), 0)) = some (r1, r2) := by rw [if_neg (show ¬ (false = true) by decide)] at H; exact H
                    clear H
                    have H := H1
                    clear H1
                    simp only [Option.some.injEq, Prod.mk.injEq] at H
                    obtain ⟨rfl, rfl⟩ := H
                    go_wp2_with (first | ((with_reducible refine gate_callee (f := 69) rfl ?_); refine goesL_ (some 41) rfl rfl Tryz.func69 (by kernel_rfl) rfl #[.string x0_5, .int .u64 x5_5] rfl (by (try simp only [List.map_toArray, List.map_cons, List.map_nil]); first | done | rfl | (simp only [List.length_drop, List.length_take]; rfl)) ?_; (with_reducible refine (num_digits.calls kj8 x0_5 x5_5 t139 t140 _ A17.out).mono ?_); rintro e w' ⟨rfl, ⟨nd, rfl⟩⟩; refine ⟨_, rfl, ?_⟩))
                    go_ret2
                    exact ⟨by first | rfl | (simp; done) | (simp [*]; done) | (simp [isEmpty_bne]; done) | (simp; simp only [wrap64]; omega) | (simp [*]; simp only [wrap64]; omega), by repeat (first | exact Drawn0.refl _ | apply Drawn0.step)⟩
                · rw [if_neg c18] at H
                  have c18b0 : (t140 == 0) = false := beq_eq_false_iff_ne.mpr c18
                  have c18b1 : (t140 != 0) = true := bne_iff_ne.mpr c18
                  simp only [Option.some.injEq, Prod.mk.injEq] at H
                  obtain ⟨rfl, rfl⟩ := H
                  go_wp2_with (first | ((with_reducible refine gate_callee (f := 69) rfl ?_); refine goesL_ (some 41) rfl rfl Tryz.func69 (by kernel_rfl) rfl #[.string x0_5, .int .u64 x5_5] rfl (by (try simp only [List.map_toArray, List.map_cons, List.map_nil]); first | done | rfl | (simp only [List.length_drop, List.length_take]; rfl)) ?_; (with_reducible refine (num_digits.calls kj8 x0_5 x5_5 t139 t140 _ A17.out).mono ?_); rintro e w' ⟨rfl, ⟨nd, rfl⟩⟩; refine ⟨_, rfl, ?_⟩))
                  go_ret2
                  exact ⟨by first | rfl | (simp; done) | (simp [*]; done) | (simp [isEmpty_bne]; done) | (simp; simp only [wrap64]; omega) | (simp [*]; simp only [wrap64]; omega), by repeat (first | exact Drawn0.refl _ | apply Drawn0.step)⟩

end Go.Proofs.YtedmjlflppckmaaGreatDoor.PW

namespace Go.Proofs.YtedmjlflppckmaaGreatDoor.PW
open Go.RowKit Go.Proofs.YtedmjlflppckmaaGreatDoorW.PrintWords Go.Proofs.YtedmjlflppckmaaGreatDoorW.PrintLast Go.Proofs.YtedmjlflppckmaaGreatDoorW.PrintMore
open Go.Proofs.YtedmjlflppckmaaGreatDoor.Pre
attribute [local go_sem] max2_int min2_int max_two min_two max_three min_three max_four min_four binOp_gtr_str binOp_leq_str binOp_geq_str

/-! ### num_based: function 70 -/
def num_based.l0 : Nat → Int → Int → ByteArray → Bool → Option (ByteArray)
  | 0, _, _, _, _ => none
  | k + 1, x0, x1, x5, x6 => if x6 = true then (if x1 = 0 then (none) else (if 0 ≤ (Int.tmod x0 x1) then (if (Int.tmod x0 x1) ≤ (IntKind.u64.wrap ((Int.tmod x0 x1) + 1)) then (if (IntKind.u64.wrap ((Int.tmod x0 x1) + 1)) ≤ 16 then (if ((⟨#[48, 49, 50, 51, 52, 53, 54, 55, 56, 57, 97, 98, 99, 100, 101, 102]⟩ : ByteArray).extract ((Int.tmod x0 x1) : Int).toNat ((IntKind.u64.wrap ((Int.tmod x0 x1) + 1)) : Int).toNat).size + x5.size ≤ 9223372036854775807 then (num_based.l0 k (IntKind.u64.wrap (Int.tdiv x0 x1)) x1 (((⟨#[48, 49, 50, 51, 52, 53, 54, 55, 56, 57, 97, 98, 99, 100, 101, 102]⟩ : ByteArray).extract ((Int.tmod x0 x1) : Int).toNat ((IntKind.u64.wrap ((Int.tmod x0 x1) + 1)) : Int).toNat) ++ x5) (decide ((IntKind.u64.wrap (Int.tdiv x0 x1)) > 0))) else (none)) else (none)) else (none)) else (none))) else (some x5)
def num_based.f (k : Nat) (a0 : Int) (a1 : Int) : Option (ByteArray) := num_based.l0 k a0 a1 (⟨#[]⟩ : ByteArray) true
theorem num_based.mono_l : ∀ k, (∀ y0 y1 y2 y3, LeO (num_based.l0 k y0 y1 y2 y3) (num_based.l0 (k + 1) y0 y1 y2 y3))
  | 0 => fun _ _ _ _ r h => by simp [num_based.l0] at h
  | k + 1 => by
    have ih0 := num_based.mono_l k
    · intro y0 y1 y2 y3
      unfold num_based.l0
      repeat' first
      | (with_reducible exact ih0 _ _ _ _)
      | (with_reducible exact LeO.refl _)
      | (with_reducible exact LeO.none _)
      | (with_reducible refine LeO.ite ?_ ?_)
      | (with_reducible refine LeO.bind ?_ (fun _ => ?_))
      | exact ih0 _ _ _ _
      | exact LeO.none _
      | refine LeO.ite ?_ ?_
      | refine LeO.bind ?_ (fun _ => ?_)
theorem num_based.mono : ∀ a0 a1 k, LeO (num_based.f k a0 a1) (num_based.f (k + 1) a0 a1) := by
  intro a0 a1 k
  have ih0 := num_based.mono_l k
  unfold num_based.f
  repeat' first
      | (with_reducible exact ih0 _ _ _ _)
      | (with_reducible exact LeO.refl _)
      | (with_reducible exact LeO.none _)
      | (with_reducible refine LeO.ite ?_ ?_)
      | (with_reducible refine LeO.bind ?_ (fun _ => ?_))
      | exact ih0 _ _ _ _
      | exact LeO.none _
      | refine LeO.ite ?_ ?_
      | refine LeO.bind ?_ (fun _ => ?_)
set_option maxHeartbeats 8000000 in
set_option maxRecDepth 100000 in
theorem num_based.calls (k : Nat) (a0 : Int) (a1 : Int) (r : ByteArray) (w : World) (h : num_based.f k a0 a1 = some r) :
    Calls Tryz.prog 70 #[.int .u64 a0, .int .u64 a1] w fun e w' => e = .returned (.string r) ∧ Drawn0 w w' := by
  have H : (num_based.l0 k a0 a1 (⟨#[]⟩ : ByteArray) true) = some r := h
  clear h
  have H' := Aside0.mk H
  clear H
  go_enter Tryz.func70, Tryz.ntmps70
  go_wp2
  repeat (go_quiet (fail); try go_wp2)
  go_loopg [0, 5, 6] k (fun kq v0 v5 v6 w' => ∃ (x0_1 : Int) (x5_1 : ByteArray) (x6_1 : Bool), v0 = .int .u64 x0_1 ∧ v5 = .string x5_1 ∧ v6 = .bool x6_1 ∧ Aside0 (num_based.l0 kq x0_1 a1 x5_1 x6_1 = some r) ∧ Aside0 (kq ≤ k) ∧ Drawn0 w w')
  case atStart => exact ⟨(a0), ((⟨#[]⟩ : ByteArray)), (true), (by first | rfl | (simp; done) | (simp [*]; done) | (simp [isEmpty_bne]; done) | (simp; simp only [wrap64]; omega) | (simp [*]; simp only [wrap64]; omega)), (by first | rfl | (simp; done) | (simp [*]; done) | (simp [isEmpty_bne]; done) | (simp; simp only [wrap64]; omega) | (simp [*]; simp only [wrap64]; omega)), (by first | rfl | (simp; done) | (simp [*]; done) | (simp [isEmpty_bne]; done) | (simp; simp only [wrap64]; omega) | (simp [*]; simp only [wrap64]; omega)), H', ⟨Nat.le_refl _⟩, by repeat (first | exact Drawn0.refl _ | apply Drawn0.step)⟩
  case round =>
    clear H'
    try clear p2
    obtain ⟨x0_1, x5_1, x6_1, rfl, rfl, rfl, HA, HK1, ⟨m1, rfl⟩⟩ := hrel
    cases gk with
    | zero => exact absurd HA.out (by simp [num_based.l0])
    | succ k1 =>
      have H := HA.out
      clear HA
      simp only [num_based.l0] at H
      by_cases c3 : x6_1 = true
      · subst c3
        have H1 : (if a1 = 0 then (none) else (if 0 ≤ (Int.tmod x0_1 a1) then (if (Int.tmod x0_1 a1) ≤ (IntKind.u64.wrap ((Int.tmod x0_1 a1) + 1)) then (if (IntKind.u64.wrap ((Int.tmod x0_1 a1) + 1)) ≤ 16 then (if ((⟨#[48, 49, 50, 51, 52, 53, 54, 55, 56, 57, 97, 98, 99, 100, 101, 102]⟩ : ByteArray).extract ((Int.tmod x0_1 a1) : Int).toNat ((IntKind.u64.wrap ((Int.tmod x0_1 a1) + 1)) : Int).toNat).size + x5_1.size ≤ 9223372036854775807 then (num_based.l0 k1 (IntKind.u64.wrap (Int.tdiv x0_1 a1)) a1 (((⟨#[48, 49, 50, 51, 52, 53, 54, 55, 56, 57, 97, 98, 99, 100, 101, 102]⟩ : ByteArray).extract ((Int.tmod x0_1 a1) : Int).toNat ((IntKind.u64.wrap ((Int.tmod x0_1 a1) + 1)) : Int).toNat) ++ x5_1) (decide ((IntKind.u64.wrap (Int.tdiv x0_1 a1)) > 0))) else (none)) else (none)) else (none)) else (none))) = some r := by rw [if_pos rfl] at H; exact H
        clear H
        have H := H1
        clear H1
        by_cases c4 : a1 = 0
        · rw [if_pos c4] at H
          exact absurd H (by simp)
        · rw [if_neg c4] at H
          have c4b0 : (a1 == 0) = false := beq_eq_false_iff_ne.mpr c4
          have c4b1 : (a1 != 0) = true := bne_iff_ne.mpr c4
          obtain ⟨ji5, hji5⟩ : ∃ j_ : Int, (Int.tmod x0_1 a1) = j_ := ⟨_, rfl⟩
          replace H : (if 0 ≤ (ji5) then (if (ji5) ≤ (IntKind.u64.wrap ((ji5) + 1)) then (if (IntKind.u64.wrap ((ji5) + 1)) ≤ 16 then (if ((⟨#[48, 49, 50, 51, 52, 53, 54, 55, 56, 57, 97, 98, 99, 100, 101, 102]⟩ : ByteArray).extract ((ji5) : Int).toNat ((IntKind.u64.wrap ((ji5) + 1)) : Int).toNat).size + x5_1.size ≤ 9223372036854775807 then (num_based.l0 k1 (IntKind.u64.wrap (Int.tdiv x0_1 a1)) a1 (((⟨#[48, 49, 50, 51, 52, 53, 54, 55, 56, 57, 97, 98, 99, 100, 101, 102]⟩ : ByteArray).extract ((ji5) : Int).toNat ((IntKind.u64.wrap ((ji5) + 1)) : Int).toNat) ++ x5_1) (decide ((IntKind.u64.wrap (Int.tdiv x0_1 a1)) > 0))) else (none)) else (none)) else (none)) else (none)) = some r := by first | (rw [hji5] at H; exact H) | (simp only [hji5] at H ⊢; exact H)
          by_cases c6 : 0 ≤ (ji5)
          · rw [if_pos c6] at H
            have c6b0 := eq_true c6
            have c6b1 : decide (0 ≤ (ji5)) = true := decide_eq_true c6
            clear c6
            by_cases c7 : (ji5) ≤ (IntKind.u64.wrap ((ji5) + 1))
            · rw [if_pos c7] at H
              have c7b0 := eq_true c7
              have c7b1 : decide ((ji5) ≤ (IntKind.u64.wrap ((ji5) + 1))) = true := decide_eq_true c7
              by_cases c8 : (IntKind.u64.wrap ((ji5) + 1)) ≤ 16
              · rw [if_pos c8] at H
                have c8b0 := eq_true c8
                have c8b1 : decide ((IntKind.u64.wrap ((ji5) + 1)) ≤ 16) = true := decide_eq_true c8
                by_cases c9 : ((⟨#[48, 49, 50, 51, 52, 53, 54, 55, 56, 57, 97, 98, 99, 100, 101, 102]⟩ : ByteArray).extract ((ji5) : Int).toNat ((IntKind.u64.wrap ((ji5) + 1)) : Int).toNat).size + x5_1.size ≤ 9223372036854775807
                · rw [if_pos c9] at H
                  have c9b0 := eq_true c9
                  have c9b1 : decide (((⟨#[48, 49, 50, 51, 52, 53, 54, 55, 56, 57, 97, 98, 99, 100, 101, 102]⟩ : ByteArray).extract ((ji5) : Int).toNat ((IntKind.u64.wrap ((ji5) + 1)) : Int).toNat).size + x5_1.size ≤ 9223372036854775807) = true := decide_eq_true c9
                  try have c9b2 : (9223372036854775807 < ((⟨#[48, 49, 50, 51, 52, 53, 54, 55, 56, 57, 97, 98, 99, 100, 101, 102]⟩ : ByteArray).extract ((ji5) : Int).toNat ((IntKind.u64.wrap ((ji5) + 1)) : Int).toNat).size + x5_1.size) = False := eq_false (Nat.not_lt.2 c9)
                  have H' := Aside0.mk H
                  clear H
                  go_wp2
                  repeat (go_quiet (fail); try go_wp2)
                  go_roundg k1
                  case measure => have := HK1.out; omega
                  case rel => exact ⟨(IntKind.u64.wrap (Int.tdiv x0_1 a1)), (((⟨#[48, 49, 50, 51, 52, 53, 54, 55, 56, 57, 97, 98, 99, 100, 101, 102]⟩ : ByteArray).extract ((ji5) : Int).toNat ((IntKind.u64.wrap ((ji5) + 1)) : Int).toNat) ++ x5_1), (decide ((IntKind.u64.wrap (Int.tdiv x0_1 a1)) > 0)), (by first | rfl | (simp; done) | (simp [*]; done) | (simp [isEmpty_bne]; done) | (simp; simp only [wrap64]; omega) | (simp [*]; simp only [wrap64]; omega)), (by first | rfl | (simp; done) | (simp only [← hji5] <;> (first | rfl | simp)) | (simp [*]; done)), (by first | rfl | (simp; done) | (simp [*]; done) | (simp [isEmpty_bne]; done) | (simp; simp only [wrap64]; omega) | (simp [*]; simp only [wrap64]; omega)), H', ⟨by have := HK1.out; omega⟩, by repeat (first | exact Drawn0.refl _ | apply Drawn0.step)⟩
                · rw [if_neg c9] at H
                  exact absurd H (by simp)
              · rw [if_neg c8] at H
                exact absurd H (by simp)
            · rw [if_neg c7] at H
              exact absurd H (by simp)
          · rw [if_neg c6] at H
            exact absurd H (by simp)
      · replace c3 := Bool.eq_false_iff.mpr c3
        subst c3
        have H1 : (some x5_1) = some r := by rw [if_neg (show ¬ (false = true) by decide)] at H; exact H
        clear H
        have H := H1
        clear H1
        obtain rfl := Option.some.inj H
        go_wp2
        repeat (go_quiet (fail); try go_wp2)
        go_ret
        exact ⟨by first | rfl | (simp; done) | (simp [*]; done) | (simp [isEmpty_bne]; done) | (simp; simp only [wrap64]; omega) | (simp [*]; simp only [wrap64]; omega), by repeat (first | exact Drawn0.refl _ | apply Drawn0.step)⟩

end Go.Proofs.YtedmjlflppckmaaGreatDoor.PW

namespace Go.Proofs.YtedmjlflppckmaaGreatDoor.PW
open Go.RowKit Go.Proofs.YtedmjlflppckmaaGreatDoorW.PrintWords Go.Proofs.YtedmjlflppckmaaGreatDoorW.PrintLast Go.Proofs.YtedmjlflppckmaaGreatDoorW.PrintMore
open Go.Proofs.YtedmjlflppckmaaGreatDoor.Pre
attribute [local go_sem] max2_int min2_int max_two min_two max_three min_three max_four min_four binOp_gtr_str binOp_leq_str binOp_geq_str

/-! ### num_Print: function 39 -/
def num_Print.f (k : Nat) (a0 : Int) : Option (ByteArray) := if a0 < 0 then ((num_based.f k (IntKind.u64.wrap (-(IntKind.u64.wrap (a0)))) 10).bind fun t141 => (if 1 + t141.size ≤ 9223372036854775807 then (some ((⟨#[45]⟩ : ByteArray) ++ t141)) else (none))) else ((num_based.f k (IntKind.u64.wrap (a0)) 10).bind fun t142 => (some t142))
theorem num_Print.mono : ∀ a0 k, LeO (num_Print.f k a0) (num_Print.f (k + 1) a0) := by
  intro a0 k
  unfold num_Print.f
  repeat' first
      | (with_reducible exact num_based.mono _ _ _)
      | (with_reducible exact LeO.refl _)
      | (with_reducible exact LeO.none _)
      | (with_reducible refine LeO.ite ?_ ?_)
      | (with_reducible refine LeO.bind ?_ (fun _ => ?_))
      | exact num_based.mono _ _ _
      | exact LeO.none _
      | refine LeO.ite ?_ ?_
      | refine LeO.bind ?_ (fun _ => ?_)
set_option maxHeartbeats 8000000 in
set_option maxRecDepth 100000 in
theorem num_Print.calls (k : Nat) (a0 : Int) (r : ByteArray) (w : World) (h : num_Print.f k a0 = some r) :
    Calls Tryz.prog 39 #[.int .i64 a0] w fun e w' => e = .returned (.string r) ∧ Drawn0 w w' := by
  have H : (if a0 < 0 then ((num_based.f k (IntKind.u64.wrap (-(IntKind.u64.wrap (a0)))) 10).bind fun t141 => (if 1 + t141.size ≤ 9223372036854775807 then (some ((⟨#[45]⟩ : ByteArray) ++ t141)) else (none))) else ((num_based.f k (IntKind.u64.wrap (a0)) 10).bind fun t142 => (some t142))) = some r := h
  clear h
  by_cases c2 : a0 < 0
  · rw [if_pos c2] at H
    have c2b0 : decide (a0 < 0) = true := decide_eq_true c2
    clear c2
    replace H := Option.bind_eq_some_iff.mp H
    obtain ⟨t141, A30, H⟩ := H
    replace H : (if 1 + t141.size ≤ 9223372036854775807 then (some ((⟨#[45]⟩ : ByteArray) ++ t141)) else (none)) = some r := H
    have A3 := Aside0.mk A30
    clear A30
    by_cases c4 : 1 + t141.size ≤ 9223372036854775807
    · rw [if_pos c4] at H
      have c4b0 := eq_true c4
      have c4b1 : decide (1 + t141.size ≤ 9223372036854775807) = true := decide_eq_true c4
      try have c4b2 : (9223372036854775807 < 1 + t141.size) = False := eq_false (Nat.not_lt.2 c4)
      obtain rfl := Option.some.inj H
      go_enter Tryz.func39, Tryz.ntmps39
      go_wp2_with (first | ((with_reducible refine gate_callee (f := 70) rfl ?_); refine goesL_ (some 8) rfl rfl Tryz.func70 (by kernel_rfl) rfl #[.int .u64 (IntKind.u64.wrap (-(IntKind.u64.wrap (a0)))), .int .u64 10] rfl (by (try simp only [List.map_toArray, List.map_cons, List.map_nil]); first | done | rfl | (simp only [List.length_drop, List.length_take]; rfl)) ?_; (with_reducible refine (num_based.calls k (IntKind.u64.wrap (-(IntKind.u64.wrap (a0)))) 10 t141 _ A3.out).mono ?_); rintro e w' ⟨rfl, ⟨nd, rfl⟩⟩; refine ⟨_, rfl, ?_⟩))
      go_ret
      exact ⟨by first | rfl | (simp; done) | (simp [*]; done) | (simp [isEmpty_bne]; done) | (simp; simp only [wrap64]; omega) | (simp [*]; simp only [wrap64]; omega), by repeat (first | exact Drawn0.refl _ | apply Drawn0.step)⟩
    · rw [if_neg c4] at H
      exact absurd H (by simp)
  · rw [if_neg c2] at H
    have c2b0 : decide (a0 < 0) = false := decide_eq_false c2
    clear c2
    replace H := Option.bind_eq_some_iff.mp H
    obtain ⟨t142, A50, H⟩ := H
    replace H : (some t142) = some r := H
    have A5 := Aside0.mk A50
    clear A50
    obtain rfl := Option.some.inj H
    go_enter Tryz.func39, Tryz.ntmps39
    go_wp2_with (first | ((with_reducible refine gate_callee (f := 70) rfl ?_); refine goesL_ (some 12) rfl rfl Tryz.func70 (by kernel_rfl) rfl #[.int .u64 (IntKind.u64.wrap (a0)), .int .u64 10] rfl (by (try simp only [List.map_toArray, List.map_cons, List.map_nil]); first | done | rfl | (simp only [List.length_drop, List.length_take]; rfl)) ?_; (with_reducible refine (num_based.calls k (IntKind.u64.wrap (a0)) 10 t142 _ A5.out).mono ?_); rintro e w' ⟨rfl, ⟨nd, rfl⟩⟩; refine ⟨_, rfl, ?_⟩))
    go_ret
    exact ⟨by first | rfl | (simp; done) | (simp [*]; done) | (simp [isEmpty_bne]; done) | (simp; simp only [wrap64]; omega) | (simp [*]; simp only [wrap64]; omega), by repeat (first | exact Drawn0.refl _ | apply Drawn0.step)⟩

end Go.Proofs.YtedmjlflppckmaaGreatDoor.PW

namespace Go.Proofs.YtedmjlflppckmaaGreatDoor.PW
open Go.RowKit Go.Proofs.YtedmjlflppckmaaGreatDoorW.PrintWords Go.Proofs.YtedmjlflppckmaaGreatDoorW.PrintLast Go.Proofs.YtedmjlflppckmaaGreatDoorW.PrintMore
open Go.Proofs.YtedmjlflppckmaaGreatDoor.Pre
attribute [local go_sem] max2_int min2_int max_two min_two max_three min_three max_four min_four binOp_gtr_str binOp_leq_str binOp_geq_str

/-! ### route_ident: function 16 -/
def route_ident.f (k : Nat) (a0 : ByteArray) : Option (Int × Bool) := (num_Parse.f k a0).bind fun bt143 => (if bt143.2 = 0 then (if bt143.1 > 0 then ((num_Print.f k bt143.1).bind fun t145 => (some (bt143.1, (t145.toList == a0.toList)))) else (some (bt143.1, false))) else (some (bt143.1, false)))
theorem route_ident.mono : ∀ a0 k, LeO (route_ident.f k a0) (route_ident.f (k + 1) a0) := by
  intro a0 k
  unfold route_ident.f
  repeat' first
      | (with_reducible exact num_Parse.mono _ _)
      | (with_reducible exact num_Print.mono _ _)
      | (with_reducible exact LeO.refl _)
      | (with_reducible exact LeO.none _)
      | (with_reducible refine LeO.ite ?_ ?_)
      | (with_reducible refine LeO.bind ?_ (fun _ => ?_))
      | exact num_Parse.mono _ _
      | exact num_Print.mono _ _
      | exact LeO.none _
      | refine LeO.ite ?_ ?_
      | refine LeO.bind ?_ (fun _ => ?_)
set_option maxHeartbeats 8000000 in
set_option maxRecDepth 100000 in
theorem route_ident.calls (k : Nat) (a0 : ByteArray) (r1 : Int) (r2 : Bool) (w : World) (h : route_ident.f k a0 = some (r1, r2)) :
    Calls Tryz.prog 16 #[.string a0] w fun e w' => e = .returned (.tuple #[.int .i64 r1, .bool r2]) ∧ Drawn0 w w' := by
  have H : ((num_Parse.f k a0).bind fun bt143 => (if bt143.2 = 0 then (if bt143.1 > 0 then ((num_Print.f k bt143.1).bind fun t145 => (some (bt143.1, (t145.toList == a0.toList)))) else (some (bt143.1, false))) else (some (bt143.1, false)))) = some (r1, r2) := h
  clear h
  replace H := Option.bind_eq_some_iff.mp H
  obtain ⟨⟨t143, t144⟩, A20, H⟩ := H
  replace H : (if t144 = 0 then (if t143 > 0 then ((num_Print.f k t143).bind fun t145 => (some (t143, (t145.toList == a0.toList)))) else (some (t143, false))) else (some (t143, false))) = some (r1, r2) := H
  have A2 := Aside0.mk A20
  clear A20
  by_cases c3 : t144 = 0
  · rw [if_pos c3] at H
    have c3b0 : (t144 == 0) = true := beq_iff_eq.mpr c3
    have c3b1 : (t144 != 0) = false := bne_eq_false_iff_eq.mpr c3
    clear c3
    by_cases c4 : t143 > 0
    · rw [if_pos c4] at H
      have c4b0 : decide (0 < t143) = true := decide_eq_true c4
      clear c4
      replace H := Option.bind_eq_some_iff.mp H
      obtain ⟨t145, A50, H⟩ := H
      replace H : (some (t143, (t145.toList == a0.toList))) = some (r1, r2) := H
      have A5 := Aside0.mk A50
      clear A50
      simp only [Option.some.injEq, Prod.mk.injEq] at H
      obtain ⟨rfl, rfl⟩ := H
      go_enter Tryz.func16, Tryz.ntmps16
      go_wp2_with (first | ((with_reducible refine gate_callee (f := 38) rfl ?_); refine goesL_ (some 8) rfl rfl Tryz.func38 (by kernel_rfl) rfl #[.string a0] rfl (by (try simp only [List.map_toArray, List.map_cons, List.map_nil]); first | done | rfl | (simp only [List.length_drop, List.length_take]; rfl)) ?_; (with_reducible refine (num_Parse.calls k a0 t143 t144 _ A2.out).mono ?_); rintro e w' ⟨rfl, ⟨nd, rfl⟩⟩; refine ⟨_, rfl, ?_⟩) | (go_at_call 39; (with_reducible refine (num_Print.calls k t143 t145 _ A5.out).mono ?_); rintro e w' ⟨rfl, ⟨nd, rfl⟩⟩))
      go_ret2
      exact ⟨by first | rfl | (simp; done) | (simp [*]; done) | (simp [isEmpty_bne]; done) | (simp; simp only [wrap64]; omega) | (simp [*]; simp only [wrap64]; omega), by repeat (first | exact Drawn0.refl _ | apply Drawn0.step)⟩
    · rw [if_neg c4] at H
      have c4b0 : decide (0 < t143) = false := decide_eq_false c4
      clear c4
      simp only [Option.some.injEq, Prod.mk.injEq] at H
      obtain ⟨rfl, rfl⟩ := H
      go_enter Tryz.func16, Tryz.ntmps16
      go_wp2_with (first | ((with_reducible refine gate_callee (f := 38) rfl ?_); refine goesL_ (some 8) rfl rfl Tryz.func38 (by kernel_rfl) rfl #[.string a0] rfl (by (try simp only [List.map_toArray, List.map_cons, List.map_nil]); first | done | rfl | (simp only [List.length_drop, List.length_take]; rfl)) ?_; (with_reducible refine (num_Parse.calls k a0 t143 t144 _ A2.out).mono ?_); rintro e w' ⟨rfl, ⟨nd, rfl⟩⟩; refine ⟨_, rfl, ?_⟩))
      go_ret2
      exact ⟨by first | rfl | (simp; done) | (simp [*]; done) | (simp [isEmpty_bne]; done) | (simp; simp only [wrap64]; omega) | (simp [*]; simp only [wrap64]; omega), by repeat (first | exact Drawn0.refl _ | apply Drawn0.step)⟩
  · rw [if_neg c3] at H
    have c3b0 : (t144 == 0) = false := beq_eq_false_iff_ne.mpr c3
    have c3b1 : (t144 != 0) = true := bne_iff_ne.mpr c3
    simp only [Option.some.injEq, Prod.mk.injEq] at H
    obtain ⟨rfl, rfl⟩ := H
    go_enter Tryz.func16, Tryz.ntmps16
    go_wp2_with (first | ((with_reducible refine gate_callee (f := 38) rfl ?_); refine goesL_ (some 8) rfl rfl Tryz.func38 (by kernel_rfl) rfl #[.string a0] rfl (by (try simp only [List.map_toArray, List.map_cons, List.map_nil]); first | done | rfl | (simp only [List.length_drop, List.length_take]; rfl)) ?_; (with_reducible refine (num_Parse.calls k a0 t143 t144 _ A2.out).mono ?_); rintro e w' ⟨rfl, ⟨nd, rfl⟩⟩; refine ⟨_, rfl, ?_⟩))
    go_ret2
    exact ⟨by first | rfl | (simp; done) | (simp [*]; done) | (simp [isEmpty_bne]; done) | (simp; simp only [wrap64]; omega) | (simp [*]; simp only [wrap64]; omega), by repeat (first | exact Drawn0.refl _ | apply Drawn0.step)⟩

end Go.Proofs.YtedmjlflppckmaaGreatDoor.PW

namespace Go.Proofs.YtedmjlflppckmaaGreatDoor.PW
open Go.RowKit Go.Proofs.YtedmjlflppckmaaGreatDoorW.PrintWords Go.Proofs.YtedmjlflppckmaaGreatDoorW.PrintLast Go.Proofs.YtedmjlflppckmaaGreatDoorW.PrintMore
open Go.Proofs.YtedmjlflppckmaaGreatDoor.Pre
attribute [local go_sem] max2_int min2_int max_two min_two max_three min_three max_four min_four binOp_gtr_str binOp_leq_str binOp_geq_str

/-! ### route_ofOne: function 17 -/
def route_ofOne.f (a0 : ByteArray) : Option (Int) := if a0.toList = ([71, 69, 84] : List UInt8) then (some 3) else (if a0.toList = ([80, 85, 84] : List UInt8) then (some 4) else (if a0.toList = ([68, 69, 76, 69, 84, 69] : List UInt8) then (some 5) else (some 0)))
set_option maxHeartbeats 8000000 in
set_option maxRecDepth 100000 in
theorem route_ofOne.calls (a0 : ByteArray) (r : Int) (w : World) (h : route_ofOne.f a0 = some r) :
    Calls Tryz.prog 17 #[.string a0] w fun e w' => e = .returned (.int .i64 r) ∧ Drawn0 w w' := by
  have H : (if a0.toList = ([71, 69, 84] : List UInt8) then (some 3) else (if a0.toList = ([80, 85, 84] : List UInt8) then (some 4) else (if a0.toList = ([68, 69, 76, 69, 84, 69] : List UInt8) then (some 5) else (some 0)))) = some r := h
  clear h
  by_cases c2 : a0.toList = ([71, 69, 84] : List UInt8)
  · rw [if_pos c2] at H
    have c2b0 : (a0.toList == ([71, 69, 84] : List UInt8)) = true := beq_iff_eq.mpr c2
    have c2b1 : (a0.toList != ([71, 69, 84] : List UInt8)) = false := bne_eq_false_iff_eq.mpr c2
    clear c2
    obtain rfl := Option.some.inj H
    go_enter Tryz.func17, Tryz.ntmps17
    go_wp2
    go_ret
    exact ⟨by first | rfl | (simp; done) | (simp [*]; done) | (simp [isEmpty_bne]; done) | (simp; simp only [wrap64]; omega) | (simp [*]; simp only [wrap64]; omega), by repeat (first | exact Drawn0.refl _ | apply Drawn0.step)⟩
  · rw [if_neg c2] at H
    have c2b0 : (a0.toList == ([71, 69, 84] : List UInt8)) = false := beq_eq_false_iff_ne.mpr c2
    have c2b1 : (a0.toList != ([71, 69, 84] : List UInt8)) = true := bne_iff_ne.mpr c2
    by_cases c3 : a0.toList = ([80, 85, 84] : List UInt8)
    · rw [if_pos c3] at H
      have c3b0 : (a0.toList == ([80, 85, 84] : List UInt8)) = true := beq_iff_eq.mpr c3
      have c3b1 : (a0.toList != ([80, 85, 84] : List UInt8)) = false := bne_eq_false_iff_eq.mpr c3
      clear c3
      obtain rfl := Option.some.inj H
      go_enter Tryz.func17, Tryz.ntmps17
      go_wp2
      go_ret
      exact ⟨by first | rfl | (simp; done) | (simp [*]; done) | (simp [isEmpty_bne]; done) | (simp; simp only [wrap64]; omega) | (simp [*]; simp only [wrap64]; omega), by repeat (first | exact Drawn0.refl _ | apply Drawn0.step)⟩
    · rw [if_neg c3] at H
      have c3b0 : (a0.toList == ([80, 85, 84] : List UInt8)) = false := beq_eq_false_iff_ne.mpr c3
      have c3b1 : (a0.toList != ([80, 85, 84] : List UInt8)) = true := bne_iff_ne.mpr c3
      by_cases c4 : a0.toList = ([68, 69, 76, 69, 84, 69] : List UInt8)
      · rw [if_pos c4] at H
        have c4b0 : (a0.toList == ([68, 69, 76, 69, 84, 69] : List UInt8)) = true := beq_iff_eq.mpr c4
        have c4b1 : (a0.toList != ([68, 69, 76, 69, 84, 69] : List UInt8)) = false := bne_eq_false_iff_eq.mpr c4
        clear c4
        obtain rfl := Option.some.inj H
        go_enter Tryz.func17, Tryz.ntmps17
        go_wp2
        go_ret
        exact ⟨by first | rfl | (simp; done) | (simp [*]; done) | (simp [isEmpty_bne]; done) | (simp; simp only [wrap64]; omega) | (simp [*]; simp only [wrap64]; omega), by repeat (first | exact Drawn0.refl _ | apply Drawn0.step)⟩
      · rw [if_neg c4] at H
        have c4b0 : (a0.toList == ([68, 69, 76, 69, 84, 69] : List UInt8)) = false := beq_eq_false_iff_ne.mpr c4
        have c4b1 : (a0.toList != ([68, 69, 76, 69, 84, 69] : List UInt8)) = true := bne_iff_ne.mpr c4
        obtain rfl := Option.some.inj H
        go_enter Tryz.func17, Tryz.ntmps17
        go_wp2
        go_ret
        exact ⟨by first | rfl | (simp; done) | (simp [*]; done) | (simp [isEmpty_bne]; done) | (simp; simp only [wrap64]; omega) | (simp [*]; simp only [wrap64]; omega), by repeat (first | exact Drawn0.refl _ | apply Drawn0.step)⟩

end Go.Proofs.YtedmjlflppckmaaGreatDoor.PW

namespace Go.Proofs.YtedmjlflppckmaaGreatDoor.PW
open Go.RowKit Go.Proofs.YtedmjlflppckmaaGreatDoorW.PrintWords Go.Proofs.YtedmjlflppckmaaGreatDoorW.PrintLast Go.Proofs.YtedmjlflppckmaaGreatDoorW.PrintMore
open Go.Proofs.YtedmjlflppckmaaGreatDoor.Pre
attribute [local go_sem] max2_int min2_int max_two min_two max_three min_three max_four min_four binOp_gtr_str binOp_leq_str binOp_geq_str

/-! ### route_Kind: function 6 -/
def route_Kind.j0 : Nat → Int → Int → Bool → Option (Int × Int × Int)
  | 0, _, _, _ => none
  | k + 1, x9, x11, x42 => if x42 = true then (some (0, 0, 404)) else (if x11 = 0 then (some (0, 0, 405)) else (some (x11, x9, 0)))
def route_Kind.f (k : Nat) (a0 : ByteArray) (l1 : List ByteArray) : Option (Int × Int × Int) := if (l1.length : Int) = 1 then (if 0 < (l1.length : Int) then ((route_single.f (rdOf ByteArray.empty l1 0)).bind fun bt147 => (if bt147.1 = 0 then (some (0, 0, 404)) else (if bt147.2.toList = a0.toList then (some (bt147.1, 0, 0)) else (some (0, 0, 405))))) else (none)) else (if (l1.length : Int) = 2 then (if 1 < (l1.length : Int) then ((route_ident.f k (rdOf ByteArray.empty l1 1)).bind fun bt150 => ((route_ofOne.f a0).bind fun t152 => (if 0 < (l1.length : Int) then (if (rdOf ByteArray.empty l1 0).toList = ([115, 105, 108, 101, 110, 99, 101, 115] : List UInt8) then (route_Kind.j0 k bt150.1 t152 (!bt150.2)) else (route_Kind.j0 k bt150.1 t152 true)) else (none)))) else (none)) else (some (0, 0, 404)))
theorem route_Kind.mono_l : ∀ k, (∀ y0 y1 y2, LeO (route_Kind.j0 k y0 y1 y2) (route_Kind.j0 (k + 1) y0 y1 y2))
  | 0 => fun _ _ _ r h => by simp [route_Kind.j0] at h
  | k + 1 => by
    have ih0 := route_Kind.mono_l k
    · intro y0 y1 y2
      unfold route_Kind.j0
      repeat' first
      | (with_reducible exact ih0 _ _ _)
      | (with_reducible exact route_ident.mono _ _)
      | (with_reducible exact LeO.refl _)
      | (with_reducible exact LeO.none _)
      | (with_reducible refine LeO.ite ?_ ?_)
      | (with_reducible refine LeO.bind ?_ (fun _ => ?_))
      | exact ih0 _ _ _
      | exact route_ident.mono _ _
      | exact LeO.none _
      | refine LeO.ite ?_ ?_
      | refine LeO.bind ?_ (fun _ => ?_)
theorem route_Kind.mono : ∀ a0 a1 k, LeO (route_Kind.f k a0 a1) (route_Kind.f (k + 1) a0 a1) := by
  intro a0 a1 k
  have ih0 := route_Kind.mono_l k
  unfold route_Kind.f
  repeat' first
      | (with_reducible exact ih0 _ _ _)
      | (with_reducible exact route_ident.mono _ _)
      | (with_reducible exact LeO.refl _)
      | (with_reducible exact LeO.none _)
      | (with_reducible refine LeO.ite ?_ ?_)
      | (with_reducible refine LeO.bind ?_ (fun _ => ?_))
      | exact ih0 _ _ _
      | exact route_ident.mono _ _
      | exact LeO.none _
      | refine LeO.ite ?_ ?_
      | refine LeO.bind ?_ (fun _ => ?_)
set_option maxHeartbeats 8000000 in
set_option maxRecDepth 100000 in
theorem route_Kind.calls (k : Nat) (a0 : ByteArray) (A1 : Option Addr) (c1 : Nat) (l1 : List ByteArray) (r1 : Int) (r2 : Int) (r3 : Int) (w : World) (hr1 : Kd.C Kd.string w A1 l1.length l1) (hc1 : l1.length ≤ c1) (h : route_Kind.f k a0 l1 = some (r1, r2, r3)) :
    Calls Tryz.prog 6 #[.string a0, .slice A1 l1.length c1] w fun e w' => e = .returned (.tuple #[.int .i64 r1, .int .i64 r2, .int .i64 r3]) ∧ Drawn0 w w' := by
  have HR1 := Aside0.mk hr1
  have HC1 := Aside0.mk hc1
  clear hr1 hc1
  have H : (if (l1.length : Int) = 1 then (if 0 < (l1.length : Int) then ((route_single.f (rdOf ByteArray.empty l1 0)).bind fun bt147 => (if bt147.1 = 0 then (some (0, 0, 404)) else (if bt147.2.toList = a0.toList then (some (bt147.1, 0, 0)) else (some (0, 0, 405))))) else (none)) else (if (l1.length : Int) = 2 then (if 1 < (l1.length : Int) then ((route_ident.f k (rdOf ByteArray.empty l1 1)).bind fun bt150 => ((route_ofOne.f a0).bind fun t152 => (if 0 < (l1.length : Int) then (if (rdOf ByteArray.empty l1 0).toList = ([115, 105, 108, 101, 110, 99, 101, 115] : List UInt8) then (route_Kind.j0 k bt150.1 t152 (!bt150.2)) else (route_Kind.j0 k bt150.1 t152 true)) else (none)))) else (none)) else (some (0, 0, 404)))) = some (r1, r2, r3) := h
  clear h
  by_cases c3 : (l1.length : Int) = 1
  · rw [if_pos c3] at H
    have c3b0 : ((l1.length : Int) == 1) = true := beq_iff_eq.mpr c3
    have c3b1 : ((l1.length : Int) != 1) = false := bne_eq_false_iff_eq.mpr c3
    clear c3
    by_cases c4 : 0 < (l1.length : Int)
    · rw [if_pos c4] at H
      have c4b0 : decide (0 < (l1.length : Int)) = true := decide_eq_true c4
      have c4b1 : decide (0 < l1.length) = true := decide_eq_true (by omega)
      clear c4
      replace H := Option.bind_eq_some_iff.mp H
      obtain ⟨⟨t147, t148⟩, A50, H⟩ := H
      replace H : (if t147 = 0 then (some (0, 0, 404)) else (if t148.toList = a0.toList then (some (t147, 0, 0)) else (some (0, 0, 405)))) = some (r1, r2, r3) := H
      have A5 := Aside0.mk A50
      clear A50
      by_cases c6 : t147 = 0
      · rw [if_pos c6] at H
        have c6b0 : (t147 == 0) = true := beq_iff_eq.mpr c6
        have c6b1 : (t147 != 0) = false := bne_eq_false_iff_eq.mpr c6
        clear c6
        simp only [Option.some.injEq, Prod.mk.injEq] at H
        obtain ⟨rfl, rfl, rfl⟩ := H
        have p146 : 0 ≤ (0 : Int) := (by omega)
        have q146 : 0 < (l1.length : Int) := of_decide_eq_true (by first | (with_reducible assumption) | assumption)
        obtain ⟨ad146, e146, hx146_0⟩ := Kd.at_string HR1.out 0 p146 q146
        cases e146
        have qi146 : (0 < l1.length) = True := eq_true (by omega)
        (try rw [show ((0 : Int)).toNat = 0 from rfl] at hx146_0)
        (try rw [Addr.add_zero'] at hx146_0)
        replace p146 := eq_true p146
        replace q146 := eq_true q146
        go_enter Tryz.func6, Tryz.ntmps6
        go_wp2_with (first | ((with_reducible refine gate_callee (f := 15) rfl ?_); refine goesL_ (some 20) rfl rfl Tryz.func15 (by kernel_rfl) rfl #[.string (rdOf ByteArray.empty l1 0)] rfl (by (try simp only [List.map_toArray, List.map_cons, List.map_nil]); first | done | rfl | (simp only [List.length_drop, List.length_take]; rfl)) ?_; (with_reducible refine (route_single.calls (rdOf ByteArray.empty l1 0) t147 t148 _ A5.out).mono ?_); rintro e w' ⟨rfl, ⟨nd, rfl⟩⟩; refine ⟨_, rfl, ?_⟩))
        go_ret3
        exact ⟨by first | rfl | (simp; done) | (simp [*]; done) | (simp [isEmpty_bne]; done) | (simp; simp only [wrap64]; omega) | (simp [*]; simp only [wrap64]; omega), by repeat (first | exact Drawn0.refl _ | apply Drawn0.step)⟩
      · rw [if_neg c6] at H
        have c6b0 : (t147 == 0) = false := beq_eq_false_iff_ne.mpr c6
        have c6b1 : (t147 != 0) = true := bne_iff_ne.mpr c6
        by_cases c7 : t148.toList = a0.toList
        · rw [if_pos c7] at H
          have c7b0 : (t148.toList == a0.toList) = true := beq_iff_eq.mpr c7
          have c7b1 : (t148.toList != a0.toList) = false := bne_eq_false_iff_eq.mpr c7
          clear c7
          simp only [Option.some.injEq, Prod.mk.injEq] at H
          obtain ⟨rfl, rfl, rfl⟩ := H
          have p146 : 0 ≤ (0 : Int) := (by omega)
          have q146 : 0 < (l1.length : Int) := of_decide_eq_true (by first | (with_reducible assumption) | assumption)
          obtain ⟨ad146, e146, hx146_0⟩ := Kd.at_string HR1.out 0 p146 q146
          cases e146
          have qi146 : (0 < l1.length) = True := eq_true (by omega)
          (try rw [show ((0 : Int)).toNat = 0 from rfl] at hx146_0)
          (try rw [Addr.add_zero'] at hx146_0)
          replace p146 := eq_true p146
          replace q146 := eq_true q146
          go_enter Tryz.func6, Tryz.ntmps6
          go_wp2_with (first | ((with_reducible refine gate_callee (f := 15) rfl ?_); refine goesL_ (some 20) rfl rfl Tryz.func15 (by kernel_rfl) rfl #[.string (rdOf ByteArray.empty l1 0)] rfl (by (try simp only [List.map_toArray, List.map_cons, List.map_nil]); first | done | rfl | (simp only [List.length_drop, List.length_take]; rfl)) ?_; (with_reducible refine (route_single.calls (rdOf ByteArray.empty l1 0) t147 t148 _ A5.out).mono ?_); rintro e w' ⟨rfl, ⟨nd, rfl⟩⟩; refine ⟨_, rfl, ?_⟩))
          go_ret3
          exact ⟨by first | rfl | (simp; done) | (simp [*]; done) | (simp [isEmpty_bne]; done) | (simp; simp only [wrap64]; omega) | (simp [*]; simp only [wrap64]; omega), by repeat (first | exact Drawn0.refl _ | apply Drawn0.step)⟩
        · rw [if_neg c7] at H
          have c7b0 : (t148.toList == a0.toList) = false := beq_eq_false_iff_ne.mpr c7
          have c7b1 : (t148.toList != a0.toList) = true := bne_iff_ne.mpr c7
          simp only [Option.some.injEq, Prod.mk.injEq] at H
          obtain ⟨rfl, rfl, rfl⟩ := H
          have p146 : 0 ≤ (0 : Int) := (by omega)
          have q146 : 0 < (l1.length : Int) := of_decide_eq_true (by first | (with_reducible assumption) | assumption)
          obtain ⟨ad146, e146, hx146_0⟩ := Kd.at_string HR1.out 0 p146 q146
          cases e146
          have qi146 : (0 < l1.length) = True := eq_true (by omega)
          (try rw [show ((0 : Int)).toNat = 0 from rfl] at hx146_0)
          (try rw [Addr.add_zero'] at hx146_0)
          replace p146 := eq_true p146
          replace q146 := eq_true q146
          go_enter Tryz.func6, Tryz.ntmps6
          go_wp2_with (first | ((with_reducible refine gate_callee (f := 15) rfl ?_); refine goesL_ (some 20) rfl rfl Tryz.func15 (by kernel_rfl) rfl #[.string (rdOf ByteArray.empty l1 0)] rfl (by (try simp only [List.map_toArray, List.map_cons, List.map_nil]); first | done | rfl | (simp only [List.length_drop, List.length_take]; rfl)) ?_; (with_reducible refine (route_single.calls (rdOf ByteArray.empty l1 0) t147 t148 _ A5.out).mono ?_); rintro e w' ⟨rfl, ⟨nd, rfl⟩⟩; refine ⟨_, rfl, ?_⟩))
          go_ret3
          exact ⟨by first | rfl | (simp; done) | (simp [*]; done) | (simp [isEmpty_bne]; done) | (simp; simp only [wrap64]; omega) | (simp [*]; simp only [wrap64]; omega), by repeat (first | exact Drawn0.refl _ | apply Drawn0.step)⟩
    · rw [if_neg c4] at H
      exact absurd H (by simp)
  · rw [if_neg c3] at H
    have c3b0 : ((l1.length : Int) == 1) = false := beq_eq_false_iff_ne.mpr c3
    have c3b1 : ((l1.length : Int) != 1) = true := bne_iff_ne.mpr c3
    by_cases c8 : (l1.length : Int) = 2
    · rw [if_pos c8] at H
      have c8b0 : ((l1.length : Int) == 2) = true := beq_iff_eq.mpr c8
      have c8b1 : ((l1.length : Int) != 2) = false := bne_eq_false_iff_eq.mpr c8
      clear c8
      by_cases c9 : 1 < (l1.length : Int)
      · rw [if_pos c9] at H
        have c9b0 : decide (1 < (l1.length : Int)) = true := decide_eq_true c9
        have c9b1 : decide (1 < l1.length) = true := decide_eq_true (by omega)
        clear c9
        replace H := Option.bind_eq_some_iff.mp H
        obtain ⟨⟨t150, t151⟩, A100, H⟩ := H
        replace H : ((route_ofOne.f a0).bind fun t152 => (if 0 < (l1.length : Int) then (if (rdOf ByteArray.empty l1 0).toList = ([115, 105, 108, 101, 110, 99, 101, 115] : List UInt8) then (route_Kind.j0 k t150 t152 (!t151)) else (route_Kind.j0 k t150 t152 true)) else (none))) = some (r1, r2, r3) := H
        have A10 := Aside0.mk A100
        clear A100
        replace H := Option.bind_eq_some_iff.mp H
        obtain ⟨t152, A110, H⟩ := H
        replace H : (if 0 < (l1.length : Int) then (if (rdOf ByteArray.empty l1 0).toList = ([115, 105, 108, 101, 110, 99, 101, 115] : List UInt8) then (route_Kind.j0 k t150 t152 (!t151)) else (route_Kind.j0 k t150 t152 true)) else (none)) = some (r1, r2, r3) := H
        have A11 := Aside0.mk A110
        clear A110
        have HC12 := Aside0.mk H
        clear H
        have p149 : 0 ≤ (1 : Int) := (by omega)
        have q149 : 1 < (l1.length : Int) := of_decide_eq_true (by first | (with_reducible assumption) | assumption)
        obtain ⟨ad149, e149, hx149_0⟩ := Kd.at_string HR1.out 1 p149 q149
        cases e149
        (try simp only [show (1 : Int).toNat = 1 from rfl, Nat.reduceMul, Nat.reduceEqDiff, Go.Addr.add, ↓reduceIte] at hx149_0)
        have qi149 : (1 < l1.length) = True := eq_true (by omega)
        (try rw [show ((1 : Int)).toNat = 1 from rfl] at hx149_0)
        replace p149 := eq_true p149
        replace q149 := eq_true q149
        go_enter Tryz.func6, Tryz.ntmps6
        go_upto_region 12 with (first | ((with_reducible refine gate_callee (f := 16) rfl ?_); refine goesL_ (some 37) rfl rfl Tryz.func16 (by kernel_rfl) rfl #[.string (rdOf ByteArray.empty l1 1)] rfl (by (try simp only [List.map_toArray, List.map_cons, List.map_nil]); first | done | rfl | (simp only [List.length_drop, List.length_take]; rfl)) ?_; (with_reducible refine (route_ident.calls k (rdOf ByteArray.empty l1 1) t150 t151 _ A10.out).mono ?_); rintro e w' ⟨rfl, ⟨nd, rfl⟩⟩; refine ⟨_, rfl, ?_⟩) | ((with_reducible refine gate_callee (f := 17) rfl ?_); refine goesL_ (some 41) rfl rfl Tryz.func17 (by kernel_rfl) rfl #[.string a0] rfl (by (try simp only [List.map_toArray, List.map_cons, List.map_nil]); first | done | rfl | (simp only [List.length_drop, List.length_take]; rfl)) ?_; (with_reducible refine (route_ofOne.calls a0 t152 _ A11.out).mono ?_); rintro e w' ⟨rfl, ⟨nd, rfl⟩⟩; refine ⟨_, rfl, ?_⟩))
        (try simp only [Act.put, List.setIfInBounds_toArray, List.set_cons_zero, List.set_cons_succ])
        go_cut [42] (fun v42 wc => ∃ (kq : Nat) (x42_11 : Bool), v42 = .bool x42_11 ∧ Aside0 (route_Kind.j0 kq t150 t152 x42_11 = some (r1, r2, r3)) ∧ Aside0 (kq ≤ k) ∧ Drawn0 w wc)
        case first =>
          have H := HC12.out
          clear HC12
          by_cases c13 : 0 < (l1.length : Int)
          · rw [if_pos c13] at H
            have c13b0 : decide (0 < (l1.length : Int)) = true := decide_eq_true c13
            have c13b1 : decide (0 < l1.length) = true := decide_eq_true (by omega)
            clear c13
            (first | rw [c13b0] | (simp only [i64_w, i32_w]; rw [c13b0]) | skip)
            by_cases c14 : (rdOf ByteArray.empty l1 0).toList = ([115, 105, 108, 101, 110, 99, 101, 115] : List UInt8)
            · rw [if_pos c14] at H
              have c14b0 : ((rdOf ByteArray.empty l1 0).toList == ([115, 105, 108, 101, 110, 99, 101, 115] : List UInt8)) = true := beq_iff_eq.mpr c14
              have c14b1 : ((rdOf ByteArray.empty l1 0).toList != ([115, 105, 108, 101, 110, 99, 101, 115] : List UInt8)) = false := bne_eq_false_iff_eq.mpr c14
              clear c14
              have H' := Aside0.mk H
              clear H
              have p153 : 0 ≤ (0 : Int) := (by omega)
              have q153 : 0 < (l1.length : Int) := of_decide_eq_true (by first | (with_reducible assumption) | assumption)
              obtain ⟨ad153, e153, hx153_0⟩ := Kd.at_string HR1.out 0 p153 q153
              obtain rfl : ad149 = ad153 := (by injection e153)
              have qi153 : (0 < l1.length) = True := eq_true (by omega)
              (try rw [show ((0 : Int)).toNat = 0 from rfl] at hx153_0)
              (try rw [Addr.add_zero'] at hx153_0)
              replace p153 := eq_true p153
              replace q153 := eq_true q153
              go_wp2
              go_meet
              case rel => exact ⟨_, (!t151), (by first | rfl | (simp; done) | (simp [*]; done) | (simp [isEmpty_bne]; done) | (simp; simp only [wrap64]; omega) | (simp [*]; simp only [wrap64]; omega)), H', ⟨by first | omega | exact Nat.le_refl _⟩, by repeat (first | exact Drawn0.refl _ | apply Drawn0.step)⟩
            · rw [if_neg c14] at H
              have c14b0 : ((rdOf ByteArray.empty l1 0).toList == ([115, 105, 108, 101, 110, 99, 101, 115] : List UInt8)) = false := beq_eq_false_iff_ne.mpr c14
              have c14b1 : ((rdOf ByteArray.empty l1 0).toList != ([115, 105, 108, 101, 110, 99, 101, 115] : List UInt8)) = true := bne_iff_ne.mpr c14
              have H' := Aside0.mk H
              clear H
              have p153 : 0 ≤ (0 : Int) := (by omega)
              have q153 : 0 < (l1.length : Int) := of_decide_eq_true (by first | (with_reducible assumption) | assumption)
              obtain ⟨ad153, e153, hx153_0⟩ := Kd.at_string HR1.out 0 p153 q153
              obtain rfl : ad149 = ad153 := (by injection e153)
              have qi153 : (0 < l1.length) = True := eq_true (by omega)
              (try rw [show ((0 : Int)).toNat = 0 from rfl] at hx153_0)
              (try rw [Addr.add_zero'] at hx153_0)
              replace p153 := eq_true p153
              replace q153 := eq_true q153
              go_wp2
              go_meet
              case rel => exact ⟨_, (true), (by first | rfl | (simp; done) | (simp [*]; done) | (simp [isEmpty_bne]; done) | (simp; simp only [wrap64]; omega) | (simp [*]; simp only [wrap64]; omega)), H', ⟨by first | omega | exact Nat.le_refl _⟩, by repeat (first | exact Drawn0.refl _ | apply Drawn0.step)⟩
          · rw [if_neg c13] at H
            exact absurd H (by simp)
        case rest =>
          clear HC12
          try clear c1
          try clear p1
          try clear q1
          try clear hx1
          try clear qi1
          try clear p2
          try clear c3
          try clear c3b0
          try clear c3b1
          try clear c4
          try clear c4b0
          try clear c4b1
          try clear c6
          try clear c6b0
          try clear c6b1
          try clear c7
          try clear c7b0
          try clear c7b1
          try clear c8
          try clear c8b0
          try clear c8b1
          try clear c9
          try clear c9b0
          try clear c9b1
          try clear c13
          try clear c13b0
          try clear c13b1
          try clear c14
          try clear c14b0
          try clear c14b1
          try clear p14
          try clear q14
          try clear hx14
          try clear qi14
          try clear hx146_0
          try clear hx149_0
          try clear hx153_0
          try clear p146
          try clear p149
          try clear p153
          try clear q146
          try clear q149
          try clear q153
          obtain ⟨kq, x42_11, rfl, HA, HJ11, ⟨mc11, rfl⟩⟩ := hcut
          cases kq with
          | zero => exact absurd HA.out (by simp [route_Kind.j0])
          | succ kj11 =>
            have H := HA.out
            clear HA
            simp only [route_Kind.j0] at H
            by_cases c15 : x42_11 = true
            · subst c15
              have H1 : (some (0, 0, 404)) = some (r1, r2, r3) := by rw [if_pos rfl] at H; exact H
              clear H
              have H := H1
              clear H1
              simp only [Option.some.injEq, Prod.mk.injEq] at H
              obtain ⟨rfl, rfl, rfl⟩ := H
              go_wp2
              go_ret3
              exact ⟨by first | rfl | (simp; done) | (simp [*]; done) | (simp [isEmpty_bne]; done) | (simp; simp only [wrap64]; omega) | (simp [*]; simp only [wrap64]; omega), by repeat (first | exact Drawn0.refl _ | apply Drawn0.step)⟩
            · replace c15 := Bool.eq_false_iff.mpr c15
              subst c15
              have H1 : (if t152 = 0 then (some (0, 0, 405)) else (some (t152, t150, 0))) = some (r1, r2, r3) := by rw [if_neg (show ¬ (false = true) by decide)] at H; exact H
              clear H
              have H := H1
              clear H1
              by_cases c16 : t152 = 0
              · rw [if_pos c16] at H
                have c16b0 : (t152 == 0) = true := beq_iff_eq.mpr c16
                have c16b1 : (t152 != 0) = false := bne_eq_false_iff_eq.mpr c16
                clear c16
                simp only [Option.some.injEq, Prod.mk.injEq] at H
                obtain ⟨rfl, rfl, rfl⟩ := H
                go_wp2
                go_ret3
                exact ⟨by first | rfl | (simp; done) | (simp [*]; done) | (simp [isEmpty_bne]; done) | (simp; simp only [wrap64]; omega) | (simp [*]; simp only [wrap64]; omega), by repeat (first | exact Drawn0.refl _ | apply Drawn0.step)⟩
              · rw [if_neg c16] at H
                have c16b0 : (t152 == 0) = false := beq_eq_false_iff_ne.mpr c16
                have c16b1 : (t152 != 0) = true := bne_iff_ne.mpr c16
                simp only [Option.some.injEq, Prod.mk.injEq] at H
                obtain ⟨rfl, rfl, rfl⟩ := H
                go_wp2
                go_ret3
                exact ⟨by first | rfl | (simp; done) | (simp [*]; done) | (simp [isEmpty_bne]; done) | (simp; simp only [wrap64]; omega) | (simp [*]; simp only [wrap64]; omega), by repeat (first | exact Drawn0.refl _ | apply Drawn0.step)⟩
      · rw [if_neg c9] at H
        exact absurd H (by simp)
    · rw [if_neg c8] at H
      have c8b0 : ((l1.length : Int) == 2) = false := beq_eq_false_iff_ne.mpr c8
      have c8b1 : ((l1.length : Int) != 2) = true := bne_iff_ne.mpr c8
      simp only [Option.some.injEq, Prod.mk.injEq] at H
      obtain ⟨rfl, rfl, rfl⟩ := H
      go_enter Tryz.func6, Tryz.ntmps6
      go_wp2
      go_ret3
      exact ⟨by first | rfl | (simp; done) | (simp [*]; done) | (simp [isEmpty_bne]; done) | (simp; simp only [wrap64]; omega) | (simp [*]; simp only [wrap64]; omega), by repeat (first | exact Drawn0.refl _ | apply Drawn0.step)⟩

end Go.Proofs.YtedmjlflppckmaaGreatDoor.PW
