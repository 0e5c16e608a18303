import Derived.Test.YtedmjlflppckmaaGreatDoorPw
import Derived.RegionTactic
import Derived.BigRegion
set_option linter.unusedVariables false
set_option linter.unusedSimpArgs false
namespace Go.Proofs.YtedmjlflppckmaaGreatDoor.PW
open Go.RowKit Go.Proofs.YtedmjlflppckmaaGreatDoorW.PrintWords Go.Proofs.YtedmjlflppckmaaGreatDoorW.PrintLast Go.Proofs.YtedmjlflppckmaaGreatDoorW.PrintMore Go.Proofs.YtedmjlflppckmaaGreatDoor.Pre

theorem split_aw : pct_Split.f 30 ⟨#[47, 115, 105, 108, 101, 110, 99, 101, 115, 47, 51]⟩ = some ([⟨#[115, 105, 108, 101, 110, 99, 101, 115]⟩, ⟨#[51]⟩], [], 0) := by kernel_rfl
theorem kind_put : route_Kind.f 30 ⟨#[80, 85, 84]⟩ [⟨#[115, 105, 108, 101, 110, 99, 101, 115]⟩, ⟨#[51]⟩] = some (4, 3, 0) := by kernel_rfl
theorem kind_get : route_Kind.f 30 ⟨#[71, 69, 84]⟩ [⟨#[115, 105, 108, 101, 110, 99, 101, 115]⟩, ⟨#[51]⟩] = some (3, 3, 0) := by kernel_rfl

set_option maxHeartbeats 4000000 in
set_option maxRecDepth 100000 in
theorem parse_nil (A : Option Addr) (c : Nat) (w : World) : Calls Tryz.prog 154 #[.slice A 0 c, .slice none 0 0] w fun e w' => e = .returned (.tuple #[.agg #[.pointer none, .slice none 0 0, .int .i64 100, .int .i64 0, .int .i64 0, .int .i64 0, .int .i64 0], .nilIface]) ∧ Below w.heap.size w w' := by
  go_enter Tryz.func154, Tryz.ntmps154
  go_wp2
  refine wp_loop_rounds 1 ?_
  rw [rounds_succ]
  go_wp2
  refine bodyPost_ret (v := .tuple #[.agg #[.pointer none, .slice none 0 0, .int .i64 100, .int .i64 0, .int .i64 0, .int .i64 0, .int .i64 0], .nilIface]) (by simp [results, Tryz.results154, go_sem]) rfl ⟨rfl, ?_⟩
  repeat (first | exact Below.refl _ _ | refine Below.setCell ?_ (by simp) _ | refine Below.alloc ?_ (by simp) _)
set_option maxHeartbeats 4000000 in
set_option maxRecDepth 100000 in
theorem pparse_nil (A : Option Addr) (c : Nat) (w : World) : Calls Tryz.prog 117 #[.slice A 0 c, .slice none 0 0] w fun e w' => e = .returned (.tuple #[.agg #[.pointer none, .slice none 0 0, .int .i64 100, .int .i64 0, .int .i64 0, .int .i64 0, .int .i64 0], .int .i64 0]) ∧ Below w.heap.size w w' := by
  go_enter Tryz.func117, Tryz.ntmps117
  go_wp2_with fail
  refine (parse_nil _ _ _).mono ?_
  rintro e w1 ⟨rfl, hb⟩
  have hz : w.heap.size < w1.heap.size := by have := hb.size; simp at this; omega
  have hb0 : Below w.heap.size w w1 := ((Below.refl _ _).alloc (Nat.le_refl _) _).trans (hb.mono (by simp))
  have hblk : w1.heap[w.heap.size]? = some (.cells #[.pointer none, .slice none 0 0, .int .i64 0, .int .i64 0, .int .i64 0, .int .i64 0, .int .i64 0] 258 (0, 0)) := (hb.block _ (by simp)).trans (blk_new _ _)
  have c0 := Lib.cell_of_heap hblk 0
  have f0 := Lib.frozen_of_heap hblk 0
  have c1 := Lib.cell_of_heap hblk 1
  have f1 := Lib.frozen_of_heap hblk 1
  have c2 := Lib.cell_of_heap hblk 2
  have f2 := Lib.frozen_of_heap hblk 2
  have c3 := Lib.cell_of_heap hblk 3
  have f3 := Lib.frozen_of_heap hblk 3
  have c4 := Lib.cell_of_heap hblk 4
  have f4 := Lib.frozen_of_heap hblk 4
  have c5 := Lib.cell_of_heap hblk 5
  have f5 := Lib.frozen_of_heap hblk 5
  have c6 := Lib.cell_of_heap hblk 6
  have f6 := Lib.frozen_of_heap hblk 6
  simp only [List.getElem?_toArray, List.getElem?_cons_zero, List.getElem?_cons_succ] at c0 c1 c2 c3 c4 c5 c6
  have HBLK := Lib.hid hblk
  clear hb hblk
  go_wp2_with (go_at_call 23; refine (as_nil _ _).mono ?_; rintro e w' ⟨rfl, rfl⟩)
  refine bodyPost_ret (v := .tuple #[.agg #[.pointer none, .slice none 0 0, .int .i64 100, .int .i64 0, .int .i64 0, .int .i64 0, .int .i64 0], .int .i64 0]) ?hr rfl ⟨rfl, ?_⟩
  case hr =>
    refine results_list (rs := [.cell 4 258, .tmp 5]) Tryz.results117 (by simp) ?_
    refine .cell w.heap.size 258 _ (0, 0) _ rfl ?hk Tryz.underlying258 rfl ?_ ?_
    · exact blk_alloc (blk_alloc (blk_set (blk_set (blk_set (blk_set (blk_set (blk_set (blk_set HBLK.out 0 _) 1 _) 2 _) 3 _) 4 _) 5 _) 6 _) _) _
    · kernel_rfl
    · exact .tmp .nil
  refine Below.alloc ?_ (by simp; omega) _
  refine Below.alloc ?_ (by simp; omega) _
  repeat (first | (with_reducible exact hb0) | (with_reducible refine Below.setCell ?_ (by simp) _))
end Go.Proofs.YtedmjlflppckmaaGreatDoor.PW
