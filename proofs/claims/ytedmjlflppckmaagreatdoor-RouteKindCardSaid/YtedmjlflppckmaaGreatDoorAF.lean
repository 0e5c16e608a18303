import Derived.Test.YtedmjlflppckmaaGreatDoorAQs
import Derived.Test.YtedmjlflppckmaaGreatDoorAH
set_option linter.unusedVariables false
set_option linter.unusedSimpArgs false
namespace Go.Proofs.YtedmjlflppckmaaGreatDoor.PW
open Go.RowKit Go.Proofs.YtedmjlflppckmaaGreatDoorW.PrintWords Go.Proofs.YtedmjlflppckmaaGreatDoorW.PrintLast Go.Proofs.YtedmjlflppckmaaGreatDoorW.PrintMore Go.Proofs.YtedmjlflppckmaaGreatDoor.Pre
set_option maxHeartbeats 4000000 in
set_option maxRecDepth 100000 in
theorem fill_428 (b : Nat) (a1 a2 a3 a4 a5 a6 a7 a8 a9 a10 a11 a12 a13 a14 a15 a16 a17 a18 a19 : Value) (m t body : ByteArray) (now stay : Int) (A : Option Addr) (c : Nat) (w : World)
    (hb : w.heap[b]? = some (.cells #[.int .i64 4, a1, a2, a3, a4, a5, a6, a7, a8, a9, a10, a11, a12, a13, a14, a15, a16, a17, a18, a19] 51 (0, 0))) :
    Calls Tryz.prog 43 #[.pointer (some ⟨b, 0, none⟩), .agg #[.string m, .string t, .int .i64 0, .slice none 0 0, .string body], .slice A 0 c, .int .i64 now, .int .i64 stay] w fun e w' =>
      ∃ g, e = .returned (.iface 126 (.pointer (some ⟨g, 0, none⟩))) ∧ w.heap.size ≤ g ∧ w'.heap[g]? = some (.cells #[.string ⟨#[73, 102, 45, 77, 97, 116, 99, 104]⟩, .iface 84 (.int .i64 428)] 128 (0, 0)) ∧
      w'.heap[b]? = some (.cells #[.int .i64 4, a1, a2, a3, a4, a5, a6, a7, a8, a9, a10, a11, .pointer none, .slice none 0 0, .int .i64 100, .int .i64 0, .int .i64 0, .int .i64 0, a18, .int .i64 0] 51 (0, 0)) ∧ KeepBut w w' b none ∧ Below b w w' := by
  have hlt := blk_lt hb
  have hb1 := Lib.hid (blk_alloc hb (.cells #[.string m, .string t, .int .i64 0, .slice none 0 0, .string body] 36))
  clear hb
  go_enter Tryz.func43, Tryz.ntmps43
  go_wp2_with fail
  refine (query_nil b a1 a2 a3 a4 a5 a6 a7 a8 a9 a10 a11 a12 a13 a14 a15 a16 a17 a18 a19 A c _ hb1.out).mono ?_
  rintro e w1 ⟨rfl, hb2, hk, hL⟩
  have hbx : w1.heap[w.heap.size]? = some (.cells #[.string m, .string t, .int .i64 0, .slice none 0 0, .string body] 36 (0, 0)) := (hk.2 w.heap.size (by simp) (by omega) (by simp)).trans (blk_new _ _)
  have k0 := blk_cell hb2 0
  have x0 := blk_cell hbx 0
  have x1 := blk_cell hbx 1
  have x2 := blk_cell hbx 2
  have x3 := blk_cell hbx 3
  have x4 := blk_cell hbx 4
  simp only [List.getElem?_toArray, List.getElem?_cons_zero, List.getElem?_cons_succ] at k0 x0 x1 x2 x3 x4
  have HB2 := Lib.hid hb2
  have HX := Lib.hid hbx
  have HK : Hid (KeepBut w w1 b none) := Lib.hid ⟨by have := hk.1; simp at this; omega, fun i hi hne hr => (hk.2 i (by simp; omega) hne hr).trans (Below.heap_alloc _ _ _ hi)⟩
  have HL : Hid (Below b w w1) := Lib.hid (((Below.refl b w).alloc (by omega) _).trans hL)
  clear hb2 hbx hk hL
  go_wp2_with fail
  refine (have_nil b m t _).mono ?_
  rintro e w2 ⟨g, rfl, hg, hgc, hb3⟩
  have hz := HK.out.1
  have F1 := Lib.hid (blk_below HB2.out hb3)
  have F2 : Hid (KeepBut w w2 b none) := Lib.hid ⟨by have := hb3.size; omega, fun i hi hne hr => (hb3.block i (by omega)).trans (HK.out.2 i hi hne hr)⟩
  have F3 := Lib.hid hgc
  have F4 : Hid (Below b w w2) := Lib.hid (HL.out.trans (hb3.mono (by have := HL.out.size; omega)))
  have hg2 : w.heap.size ≤ g := by omega
  clear hb3 hgc HK HB2 HX HL k0 x0 x1 x2 x3 x4 hb1
  go_wp2
  go_ret
  exact ⟨g, rfl, hg2, F3.out, F1.out, F2.out, F4.out⟩
end Go.Proofs.YtedmjlflppckmaaGreatDoor.PW
