import Derived.Test.YtedmjlflppckmaaGreatDoorAR
set_option linter.unusedVariables false
set_option linter.unusedSimpArgs false
namespace Go.Proofs.YtedmjlflppckmaaGreatDoor.PW
open Go.RowKit Go.Proofs.YtedmjlflppckmaaGreatDoorW.PrintWords Go.Proofs.YtedmjlflppckmaaGreatDoorW.PrintLast Go.Proofs.YtedmjlflppckmaaGreatDoorW.PrintMore Go.Proofs.YtedmjlflppckmaaGreatDoor.Pre
theorem two_string {w : World} {g : Nat} {x y : ByteArray} (hx : w.cell? ⟨g, 0, none⟩ = some (.string x)) (hy : w.cell? ⟨g, 1, none⟩ = some (.string y)) : Kd.string.C w (some ⟨g, 0, none⟩) 2 [x, y] :=
  ⟨rfl, by decide, fun _ => ⟨_, rfl, fun j p hp => by
    match j, hp with
    | 0, hp => obtain rfl : x = p := by simpa using hp
               exact ⟨[.string x], rfl, rfl, fun i u hu => by
                 match i, hu with
                 | 0, hu => obtain rfl : Value.string x = u := by simpa using hu
                            simpa [Addr.add, Kd.string, Kd.scalar] using hx⟩
    | 1, hp => obtain rfl : y = p := by simpa using hp
               exact ⟨[.string y], rfl, rfl, fun i u hu => by
                 match i, hu with
                 | 0, hu => obtain rfl : Value.string y = u := by simpa using hu
                            simpa [Addr.add, Kd.string, Kd.scalar] using hy⟩⟩⟩
set_option maxHeartbeats 4000000 in
set_option maxRecDepth 100000 in
theorem awake_calls (w : World) (hG : GOK w) :
    Calls Tryz.prog 8 #[] w fun e w' => e = .returned (.bool true) ∧ Below w.heap.size w w' := by
  go_enter Tryz.func8, Tryz.ntmps8
  go_wp2_with fail
  refine (Of_428 _ (by repeat (first | exact hG | refine GOK.alloc ?_ _))).mono ?_
  rintro e w1 ⟨rfl, hb⟩
  have hz : w.heap.size + 1 ≤ w1.heap.size := by have := hb.size; simpa using this
  have hB : Below w.heap.size w w1 := ((Below.refl w.heap.size w).alloc (Nat.le_refl _) _).trans (hb.mono (by simp))
  have HB := Lib.hid hB
  have HN := Lib.hid (blk_new w1 (.cells #[.int .i64 0, .slice none 0 0, .int .i64 0, .string ⟨#[]⟩, .int .i64 0, .int .i64 0, .string ⟨#[]⟩, .string ⟨#[]⟩, .string ⟨#[]⟩, .int .i64 0, .bool false, .slice none 0 0, .pointer none, .slice none 0 0, .int .i64 0, .int .i64 0, .int .i64 0, .int .i64 0, .int .i64 0, .int .i64 0] 51))
  clear hB hb
  go_wp2_with (refine wpList_store_row (by rfl) 51 _ _ (by rfl) w1.heap.size _ (by rfl) (by rfl) 51 _ HN.out (by kernel_rfl) (by rfl) (by kernel_rfl) ?_)
  have hsz : ((w1.alloc (.cells #[.int .i64 0, .slice none 0 0, .int .i64 0, .string ⟨#[]⟩, .int .i64 0, .int .i64 0, .string ⟨#[]⟩, .string ⟨#[]⟩, .string ⟨#[]⟩, .int .i64 0, .bool false, .slice none 0 0, .pointer none, .slice none 0 0, .int .i64 0, .int .i64 0, .int .i64 0, .int .i64 0, .int .i64 0, .int .i64 0] 51)).setRow w1.heap.size #[.int .i64 0, .slice none 0 0, .int .i64 0, .string ⟨#[]⟩, .int .i64 0, .int .i64 0, .string ⟨#[]⟩, .string ⟨#[]⟩, .string ⟨#[]⟩, .int .i64 0, .bool false, .slice none 0 0, .pointer none, .slice none 0 0, .int .i64 0, .int .i64 0, .int .i64 0, .int .i64 0, .int .i64 0, .int .i64 0]).heap.size = w1.heap.size + 1 := by simp [World.setRow]
  have hR3 : Below w1.heap.size w1 ((w1.alloc (.cells #[.int .i64 0, .slice none 0 0, .int .i64 0, .string ⟨#[]⟩, .int .i64 0, .int .i64 0, .string ⟨#[]⟩, .string ⟨#[]⟩, .string ⟨#[]⟩, .int .i64 0, .bool false, .slice none 0 0, .pointer none, .slice none 0 0, .int .i64 0, .int .i64 0, .int .i64 0, .int .i64 0, .int .i64 0, .int .i64 0] 51)).setRow w1.heap.size #[.int .i64 0, .slice none 0 0, .int .i64 0, .string ⟨#[]⟩, .int .i64 0, .int .i64 0, .string ⟨#[]⟩, .string ⟨#[]⟩, .string ⟨#[]⟩, .int .i64 0, .bool false, .slice none 0 0, .pointer none, .slice none 0 0, .int .i64 0, .int .i64 0, .int .i64 0, .int .i64 0, .int .i64 0, .int .i64 0]) :=
    ((Below.refl w1.heap.size w1).alloc (Nat.le_refl _) _).trans ⟨rfl, rfl, rfl, by simp [World.setRow], fun k hk => setRow_other _ _ _ _ (by omega)⟩
  have hR2 := hR3.alloc (by omega) (.cells #[.string ⟨#[115, 105, 108, 101, 110, 99, 101, 115]⟩, .string ⟨#[51]⟩] 9)
  have hN2 := blk_new ((w1.alloc (.cells #[.int .i64 0, .slice none 0 0, .int .i64 0, .string ⟨#[]⟩, .int .i64 0, .int .i64 0, .string ⟨#[]⟩, .string ⟨#[]⟩, .string ⟨#[]⟩, .int .i64 0, .bool false, .slice none 0 0, .pointer none, .slice none 0 0, .int .i64 0, .int .i64 0, .int .i64 0, .int .i64 0, .int .i64 0, .int .i64 0] 51)).setRow w1.heap.size #[.int .i64 0, .slice none 0 0, .int .i64 0, .string ⟨#[]⟩, .int .i64 0, .int .i64 0, .string ⟨#[]⟩, .string ⟨#[]⟩, .string ⟨#[]⟩, .int .i64 0, .bool false, .slice none 0 0, .pointer none, .slice none 0 0, .int .i64 0, .int .i64 0, .int .i64 0, .int .i64 0, .int .i64 0, .int .i64 0]) (.cells #[.string ⟨#[115, 105, 108, 101, 110, 99, 101, 115]⟩, .string ⟨#[51]⟩] 9)
  rw [hsz] at hN2
  clear hR3 HN
  generalize ((w1.alloc (.cells #[.int .i64 0, .slice none 0 0, .int .i64 0, .string ⟨#[]⟩, .int .i64 0, .int .i64 0, .string ⟨#[]⟩, .string ⟨#[]⟩, .string ⟨#[]⟩, .int .i64 0, .bool false, .slice none 0 0, .pointer none, .slice none 0 0, .int .i64 0, .int .i64 0, .int .i64 0, .int .i64 0, .int .i64 0, .int .i64 0] 51)).setRow w1.heap.size #[.int .i64 0, .slice none 0 0, .int .i64 0, .string ⟨#[]⟩, .int .i64 0, .int .i64 0, .string ⟨#[]⟩, .string ⟨#[]⟩, .string ⟨#[]⟩, .int .i64 0, .bool false, .slice none 0 0, .pointer none, .slice none 0 0, .int .i64 0, .int .i64 0, .int .i64 0, .int .i64 0, .int .i64 0, .int .i64 0]).alloc (.cells #[.string ⟨#[115, 105, 108, 101, 110, 99, 101, 115]⟩, .string ⟨#[51]⟩] 9) = W2 at hR2 hN2 ⊢
  have HB2 := Lib.hid (HB.out.trans (hR2.mono (by omega)))
  have hC : Kd.string.C W2 (some ⟨w1.heap.size + 1, 0, none⟩) 2 [⟨#[115, 105, 108, 101, 110, 99, 101, 115]⟩, ⟨#[51]⟩] := two_string (blk_cell hN2 0) (blk_cell hN2 1)
  clear HB hR2 hN2 hsz
  refine (route_Kind.calls 30 ⟨#[71, 69, 84]⟩ (some ⟨w1.heap.size + 1, 0, none⟩) 2 [⟨#[115, 105, 108, 101, 110, 99, 101, 115]⟩, ⟨#[51]⟩] 3 3 0 _ hC (by simp) kind_get).mono ?_
  rintro e w2 ⟨rfl, ⟨⟨nd, rfl⟩⟩⟩
  go_wp2
  go_ret
  exact ⟨rfl, HB2.out.os, HB2.out.tape, HB2.out.output, HB2.out.size, HB2.out.block⟩
end Go.Proofs.YtedmjlflppckmaaGreatDoor.PW
