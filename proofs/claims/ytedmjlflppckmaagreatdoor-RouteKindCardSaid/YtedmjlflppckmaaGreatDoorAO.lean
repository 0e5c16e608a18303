import Derived.Test.YtedmjlflppckmaaGreatDoorAF
set_option linter.unusedVariables false
set_option linter.unusedSimpArgs false
namespace Go.Proofs.YtedmjlflppckmaaGreatDoor.PW
open Go.RowKit Go.Proofs.YtedmjlflppckmaaGreatDoorW.PrintWords Go.Proofs.YtedmjlflppckmaaGreatDoorW.PrintLast Go.Proofs.YtedmjlflppckmaaGreatDoorW.PrintMore Go.Proofs.YtedmjlflppckmaaGreatDoor.Pre
structure Stash (p : Prop) : Prop where
  p : p
theorem stash2 {P : Program} {ops : Array Oper} {rest : List Oper} {o : Oper} {a : Act} {w : World} {Q : Exit → Act → World → Prop} (h : Stash (wpList P ops Q (o :: rest) a w)) : wpList P ops Q (o :: rest) a w := h.p
set_option maxHeartbeats 4000000 in
set_option maxRecDepth 100000 in
theorem of_428 (w : World) (hG : GOK w) :
    Calls Tryz.prog 22 #[.agg #[.string ⟨#[80, 85, 84]⟩, .string ⟨#[47, 115, 105, 108, 101, 110, 99, 101, 115, 47, 51]⟩, .int .i64 0, .slice none 0 0, .string ⟨#[123, 125]⟩], .int .i64 0, .int .i64 1] w fun e w' =>
      ∃ cs g, e = .returned (.tuple #[.agg cs, .iface 126 (.pointer (some ⟨g, 0, none⟩))]) ∧ w'.heap[g]? = some (.cells #[.string ⟨#[73, 102, 45, 77, 97, 116, 99, 104]⟩, .iface 84 (.int .i64 428)] 128 (0, 0)) ∧ cs = #[.int .i64 4, .slice none 0 0, .int .i64 0, .string ⟨#[]⟩, .int .i64 0, .int .i64 0, .string ⟨#[]⟩, .string ⟨#[]⟩, .string ⟨#[]⟩, .int .i64 3, .bool false, .slice none 0 0, .pointer none, .slice none 0 0, .int .i64 100, .int .i64 0, .int .i64 0, .int .i64 0, .int .i64 0, .int .i64 0] ∧ Below w.heap.size w w' := by
  go_enter Tryz.func22, Tryz.ntmps22
  go_wp2_with fail
  refine (pct_Split.calls 30 _ _ _ _ _ split_aw (by repeat (first | exact hG | refine GOK.alloc ?_ _))).mono ?_
  rintro e w1 ⟨v0, v1, rfl, hr0, hr1, hb⟩
  obtain ⟨A0, c0, rfl, hc0, hC0⟩ := Kd.R_reads hr0
  obtain ⟨A1, c1, rfl, _, _⟩ := Kd.R_reads hr1
  have hbx : w1.heap[w.heap.size]? = some (.cells #[.string ⟨#[80, 85, 84]⟩, .string ⟨#[47, 115, 105, 108, 101, 110, 99, 101, 115, 47, 51]⟩, .int .i64 0, .slice none 0 0, .string ⟨#[123, 125]⟩] 36 (0, 0)) := blk_below (blk_alloc (blk_alloc (blk_new _ _) _) _) hb
  have hrt : w1.heap[w.heap.size + 1]? = some (.cells #[.int .i64 0, .slice none 0 0, .int .i64 0, .string ⟨#[]⟩, .int .i64 0, .int .i64 0, .string ⟨#[]⟩, .string ⟨#[]⟩, .string ⟨#[]⟩, .int .i64 0, .bool false, .slice none 0 0, .pointer none, .slice none 0 0, .int .i64 0, .int .i64 0, .int .i64 0, .int .i64 0, .int .i64 0, .int .i64 0] 51 (0, 0)) := by
    have h1 := blk_alloc (blk_new (w.alloc (.cells #[.string ⟨#[80, 85, 84]⟩, .string ⟨#[47, 115, 105, 108, 101, 110, 99, 101, 115, 47, 51]⟩, .int .i64 0, .slice none 0 0, .string ⟨#[123, 125]⟩] 36)) (.cells #[.int .i64 0, .slice none 0 0, .int .i64 0, .string ⟨#[]⟩, .int .i64 0, .int .i64 0, .string ⟨#[]⟩, .string ⟨#[]⟩, .string ⟨#[]⟩, .int .i64 0, .bool false, .slice none 0 0, .pointer none, .slice none 0 0, .int .i64 0, .int .i64 0, .int .i64 0, .int .i64 0, .int .i64 0, .int .i64 0] 51)) (.cells #[.int .i64 0, .slice none 0 0, .int .i64 0, .string ⟨#[]⟩, .int .i64 0, .int .i64 0, .string ⟨#[]⟩, .string ⟨#[]⟩, .string ⟨#[]⟩, .int .i64 0, .bool false, .slice none 0 0, .pointer none, .slice none 0 0, .int .i64 0, .int .i64 0, .int .i64 0, .int .i64 0, .int .i64 0, .int .i64 0] 51)
    exact blk_below (by simpa using h1) hb
  have ha : w1.heap[w.heap.size + 1 + 1]? = some (.cells #[.int .i64 0, .slice none 0 0, .int .i64 0, .string ⟨#[]⟩, .int .i64 0, .int .i64 0, .string ⟨#[]⟩, .string ⟨#[]⟩, .string ⟨#[]⟩, .int .i64 0, .bool false, .slice none 0 0, .pointer none, .slice none 0 0, .int .i64 0, .int .i64 0, .int .i64 0, .int .i64 0, .int .i64 0, .int .i64 0] 51 (0, 0)) := by
    have h1 := blk_new ((w.alloc (.cells #[.string ⟨#[80, 85, 84]⟩, .string ⟨#[47, 115, 105, 108, 101, 110, 99, 101, 115, 47, 51]⟩, .int .i64 0, .slice none 0 0, .string ⟨#[123, 125]⟩] 36)).alloc (.cells #[.int .i64 0, .slice none 0 0, .int .i64 0, .string ⟨#[]⟩, .int .i64 0, .int .i64 0, .string ⟨#[]⟩, .string ⟨#[]⟩, .string ⟨#[]⟩, .int .i64 0, .bool false, .slice none 0 0, .pointer none, .slice none 0 0, .int .i64 0, .int .i64 0, .int .i64 0, .int .i64 0, .int .i64 0, .int .i64 0] 51)) (.cells #[.int .i64 0, .slice none 0 0, .int .i64 0, .string ⟨#[]⟩, .int .i64 0, .int .i64 0, .string ⟨#[]⟩, .string ⟨#[]⟩, .string ⟨#[]⟩, .int .i64 0, .bool false, .slice none 0 0, .pointer none, .slice none 0 0, .int .i64 0, .int .i64 0, .int .i64 0, .int .i64 0, .int .i64 0, .int .i64 0] 51)
    exact blk_below (by simpa using h1) hb
  have hB : Below w.heap.size w w1 := ((((Below.refl w.heap.size w).alloc (Nat.le_refl _) _).alloc (by simp) _).alloc (by simp; omega) _).trans (hb.mono (by simp; omega))
  have HX := Lib.hid hbx
  have HR := Lib.hid hrt
  have HA := Lib.hid ha
  have HB := Lib.hid hB
  have hz : w.heap.size + 1 + 1 + 1 ≤ w1.heap.size := by have := hb.size; simpa using this
  have x0 := blk_cell hbx 0
  have x1 := blk_cell hbx 1
  have x2 := blk_cell hbx 2
  have x3 := blk_cell hbx 3
  have x4 := blk_cell hbx 4
  have a0 := blk_cell ha 0
  have a9 := blk_cell ha 9
  have f0 := blk_frozen ha 0
  have f9 := blk_frozen ha 9
  simp only [List.getElem?_toArray, List.getElem?_cons_zero, List.getElem?_cons_succ] at x0 x1 x2 x3 x4 a0 a9
  clear hbx hrt ha hB hb hr0 hr1
  go_wp2_with fail
  refine (route_Kind.calls 30 _ A0 c0 _ 4 3 0 _ hC0 hc0 kind_put).mono ?_
  rintro e w2 ⟨rfl, ⟨⟨nd, rfl⟩⟩⟩
  go_wp2_with fail
  refine (fill_428 _ (.slice none 0 0) (.int .i64 0) (.string ⟨#[]⟩) (.int .i64 0) (.int .i64 0) (.string ⟨#[]⟩) (.string ⟨#[]⟩) (.string ⟨#[]⟩) (.int .i64 3) (.bool false) (.slice none 0 0) (.pointer none) (.slice none 0 0) (.int .i64 0) (.int .i64 0) (.int .i64 0) (.int .i64 0) (.int .i64 0) (.int .i64 0) _ _ _ _ _ A1 c1 _ (blk_put (blk_put (blk_drewN HA.out nd) 0 (.int .i64 4) rfl) 9 (.int .i64 3) rfl)).mono ?_
  rintro e w3 ⟨g, rfl, hg, hgc, hb3, hk, hL⟩
  have hz3 := hk.1
  simp at hz3 hg
  have hrt3 : w3.heap[w.heap.size + 1]? = some (.cells #[.int .i64 0, .slice none 0 0, .int .i64 0, .string ⟨#[]⟩, .int .i64 0, .int .i64 0, .string ⟨#[]⟩, .string ⟨#[]⟩, .string ⟨#[]⟩, .int .i64 0, .bool false, .slice none 0 0, .pointer none, .slice none 0 0, .int .i64 0, .int .i64 0, .int .i64 0, .int .i64 0, .int .i64 0, .int .i64 0] 51 (0, 0)) := (hk.2 (w.heap.size + 1) (by simp; omega) (by omega) (by simp)).trans (blk_far (blk_far (blk_drewN HR.out nd) (by simp) _) (by simp) _)
  have hB3 : Below w.heap.size w w3 := by
    refine Below.trans ?_ (hL.mono (by omega))
    have h1 : Below w.heap.size w (w1.drewN nd) := ⟨HB.out.os, HB.out.tape, HB.out.output, HB.out.size, HB.out.block⟩
    exact (h1.setCell (by simp; omega) _).setCell (by simp; omega) _
  have F1 := Lib.hid hgc
  have F2 := Lib.hid hrt3
  have F3 := Lib.hid hB3
  have F4 := Lib.hid hb3
  have c1 := HX
  clear hgc hb3 hk hL hrt3 hB3 x0 x1 x2 x3 x4 a0 a9 f0 f9 HX HR HA HB c1
  have hcl := setRow_heap w3 (w.heap.size + 1) _ #[.int .i64 4, .slice none 0 0, .int .i64 0, .string ⟨#[]⟩, .int .i64 0, .int .i64 0, .string ⟨#[]⟩, .string ⟨#[]⟩, .string ⟨#[]⟩, .int .i64 3, .bool false, .slice none 0 0, .pointer none, .slice none 0 0, .int .i64 100, .int .i64 0, .int .i64 0, .int .i64 0, .int .i64 0, .int .i64 0] 51 (0, 0) F2.out
  have hcg := (setRow_other w3 (w.heap.size + 1) g #[.int .i64 4, .slice none 0 0, .int .i64 0, .string ⟨#[]⟩, .int .i64 0, .int .i64 0, .string ⟨#[]⟩, .string ⟨#[]⟩, .string ⟨#[]⟩, .int .i64 3, .bool false, .slice none 0 0, .pointer none, .slice none 0 0, .int .i64 100, .int .i64 0, .int .i64 0, .int .i64 0, .int .i64 0, .int .i64 0] (by omega)).trans F1.out
  have hcb : Below w.heap.size w (w3.setRow (w.heap.size + 1) #[.int .i64 4, .slice none 0 0, .int .i64 0, .string ⟨#[]⟩, .int .i64 0, .int .i64 0, .string ⟨#[]⟩, .string ⟨#[]⟩, .string ⟨#[]⟩, .int .i64 3, .bool false, .slice none 0 0, .pointer none, .slice none 0 0, .int .i64 100, .int .i64 0, .int .i64 0, .int .i64 0, .int .i64 0, .int .i64 0]) :=
    F3.out.trans ⟨rfl, rfl, rfl, by simp [World.setRow], fun k hk => setRow_other _ _ _ _ (by omega)⟩
  have HCL := Lib.hid hcl
  have HCG := Lib.hid hcg
  have HCB := Lib.hid hcb
  clear hcl hcg hcb
  go_wp2_with (first | (refine wpList_load_row (by rfl) 51 _ (by rfl) _ (by rfl) 51 _ (0,0) _ F4.out Tryz.underlying51 (by rfl) (by kernel_rfl) ?_) | (refine wpList_store_row (by rfl) 51 _ _ (by rfl) (w.heap.size + 1) _ (by rfl) (by rfl) 51 _ F2.out (by kernel_rfl) (by rfl) (by kernel_rfl) ?_))
  exact bodyPost_ret (results_list (rs := [.cell 6 51, .tmp 7]) Tryz.results22 (by simp) (.cell (w.heap.size + 1) 51 _ (0,0) _ rfl HCL.out Tryz.underlying51 rfl (by kernel_rfl) (.tmp .nil))) rfl ⟨_, g, rfl, HCG.out, rfl, HCB.out⟩
end Go.Proofs.YtedmjlflppckmaaGreatDoor.PW
