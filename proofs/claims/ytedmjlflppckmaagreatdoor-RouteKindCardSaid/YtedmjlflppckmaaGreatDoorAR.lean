import Derived.Test.YtedmjlflppckmaaGreatDoorAO
import Derived.Test.YtedmjlflppckmaaGreatDoorAs
set_option linter.unusedVariables false
set_option linter.unusedSimpArgs false
namespace Go.Proofs.YtedmjlflppckmaaGreatDoor.PW
open Go.RowKit Go.Proofs.YtedmjlflppckmaaGreatDoorW.PrintWords Go.Proofs.YtedmjlflppckmaaGreatDoorW.PrintLast Go.Proofs.YtedmjlflppckmaaGreatDoorW.PrintMore Go.Proofs.YtedmjlflppckmaaGreatDoor.Pre
theorem store_row_run {P : Program} {o : Oper} {a : Act} {w : World} (ty : TypeId) (x y : Operand) (ho : o.op = .store ty x y)
    (g : Nat) (cells : Array Value) (hx : a.eval x = .pointer (some ⟨g, 0, none⟩)) (hy : a.eval y = .agg cells)
    (t : TypeId) (old : Array Value) (hg : w.heap[g]? = some (.cells old t (0, 0))) (hi : (P.info? ty).map (·.size) = some cells.size)
    (hold : old.size = cells.size) (h1 : cells.all (·.oneCell') = true) : (execOp a.eval o).run P w = .ok .skip (w.setRow g cells) := by
  unfold execOp
  simp only [ho, hx, hy, Instr.storeAt, Instr.sureAddr, Sem.run_bind, Sem.run_pure, Result.andThen_ok, run_storeVar_row w g t ty old cells hg hi hold h1]
set_option maxHeartbeats 4000000 in
set_option maxRecDepth 100000 in
theorem Of_428 (w : World) (hG : GOK w) :
    Calls Tryz.prog 10 #[.agg #[.string ⟨#[80, 85, 84]⟩, .string ⟨#[47, 115, 105, 108, 101, 110, 99, 101, 115, 47, 51]⟩, .int .i64 0, .slice none 0 0, .string ⟨#[123, 125]⟩], .int .i64 0, .int .i64 1] w fun e w' =>
      e = .returned (.tuple #[.agg #[.int .i64 0, .slice none 0 0, .int .i64 0, .string ⟨#[]⟩, .int .i64 0, .int .i64 0, .string ⟨#[]⟩, .string ⟨#[]⟩, .string ⟨#[]⟩, .int .i64 0, .bool false, .slice none 0 0, .pointer none, .slice none 0 0, .int .i64 0, .int .i64 0, .int .i64 0, .int .i64 0, .int .i64 0, .int .i64 0], .int .i64 428]) ∧ Below w.heap.size w w' := by
  go_enter Tryz.func10, Tryz.ntmps10
  go_wp2_with fail
  refine (of_428 _ (by repeat (first | exact hG | refine GOK.alloc ?_ _))).mono ?_
  rintro e w1 ⟨cs, g, rfl, hg, rfl, hb⟩
  have hz : w.heap.size + 1 + 1 ≤ w1.heap.size := by have := hb.size; simpa using this
  have hB : Below w.heap.size w w1 := (((Below.refl w.heap.size w).alloc (Nat.le_refl _) _).alloc (by simp) _).trans (hb.mono (by simp; omega))
  have hrt : w1.heap[w.heap.size + 1]? = some (.cells #[.int .i64 0, .slice none 0 0, .int .i64 0, .string ⟨#[]⟩, .int .i64 0, .int .i64 0, .string ⟨#[]⟩, .string ⟨#[]⟩, .string ⟨#[]⟩, .int .i64 0, .bool false, .slice none 0 0, .pointer none, .slice none 0 0, .int .i64 0, .int .i64 0, .int .i64 0, .int .i64 0, .int .i64 0, .int .i64 0] 51 (0, 0)) := by
    have h1 := blk_new (w.alloc (.cells #[.string ⟨#[80, 85, 84]⟩, .string ⟨#[47, 115, 105, 108, 101, 110, 99, 101, 115, 47, 51]⟩, .int .i64 0, .slice none 0 0, .string ⟨#[123, 125]⟩] 36)) (.cells #[.int .i64 0, .slice none 0 0, .int .i64 0, .string ⟨#[]⟩, .int .i64 0, .int .i64 0, .string ⟨#[]⟩, .string ⟨#[]⟩, .string ⟨#[]⟩, .int .i64 0, .bool false, .slice none 0 0, .pointer none, .slice none 0 0, .int .i64 0, .int .i64 0, .int .i64 0, .int .i64 0, .int .i64 0, .int .i64 0] 51)
    exact blk_below (by simpa using h1) hb
  have HG := Lib.hid hg
  have HB := Lib.hid hB
  have HR := Lib.hid hrt
  have HN := Lib.hid (blk_new w1 (.cells #[.int .i64 0, .slice none 0 0, .int .i64 0, .string ⟨#[]⟩, .int .i64 0, .int .i64 0, .string ⟨#[]⟩, .string ⟨#[]⟩, .string ⟨#[]⟩, .int .i64 0, .bool false, .slice none 0 0, .pointer none, .slice none 0 0, .int .i64 0, .int .i64 0, .int .i64 0, .int .i64 0, .int .i64 0, .int .i64 0] 51))
  clear hg hB hrt hb
  go_wp2_with (refine wpList_store_row (by rfl) 51 _ _ (by rfl) w1.heap.size _ (by rfl) (by rfl) 51 _ HN.out (by kernel_rfl) (by rfl) (by kernel_rfl) ?_)
  have hgl := blk_lt HG.out
  have hsz : ((w1.alloc (.cells #[.int .i64 0, .slice none 0 0, .int .i64 0, .string ⟨#[]⟩, .int .i64 0, .int .i64 0, .string ⟨#[]⟩, .string ⟨#[]⟩, .string ⟨#[]⟩, .int .i64 0, .bool false, .slice none 0 0, .pointer none, .slice none 0 0, .int .i64 0, .int .i64 0, .int .i64 0, .int .i64 0, .int .i64 0, .int .i64 0] 51)).setRow w1.heap.size #[.int .i64 4, .slice none 0 0, .int .i64 0, .string ⟨#[]⟩, .int .i64 0, .int .i64 0, .string ⟨#[]⟩, .string ⟨#[]⟩, .string ⟨#[]⟩, .int .i64 3, .bool false, .slice none 0 0, .pointer none, .slice none 0 0, .int .i64 100, .int .i64 0, .int .i64 0, .int .i64 0, .int .i64 0, .int .i64 0]).heap.size = w1.heap.size + 1 := by simp [World.setRow]
  have hR3 : Below w1.heap.size w1 ((w1.alloc (.cells #[.int .i64 0, .slice none 0 0, .int .i64 0, .string ⟨#[]⟩, .int .i64 0, .int .i64 0, .string ⟨#[]⟩, .string ⟨#[]⟩, .string ⟨#[]⟩, .int .i64 0, .bool false, .slice none 0 0, .pointer none, .slice none 0 0, .int .i64 0, .int .i64 0, .int .i64 0, .int .i64 0, .int .i64 0, .int .i64 0] 51)).setRow w1.heap.size #[.int .i64 4, .slice none 0 0, .int .i64 0, .string ⟨#[]⟩, .int .i64 0, .int .i64 0, .string ⟨#[]⟩, .string ⟨#[]⟩, .string ⟨#[]⟩, .int .i64 3, .bool false, .slice none 0 0, .pointer none, .slice none 0 0, .int .i64 100, .int .i64 0, .int .i64 0, .int .i64 0, .int .i64 0, .int .i64 0]) :=
    ((Below.refl w1.heap.size w1).alloc (Nat.le_refl _) _).trans ⟨rfl, rfl, rfl, by simp [World.setRow], fun k hk => setRow_other _ _ _ _ (by omega)⟩
  have hR2 := hR3.alloc (by omega) (.cells #[.int .i64 0] 84)
  have hN2 := blk_new ((w1.alloc (.cells #[.int .i64 0, .slice none 0 0, .int .i64 0, .string ⟨#[]⟩, .int .i64 0, .int .i64 0, .string ⟨#[]⟩, .string ⟨#[]⟩, .string ⟨#[]⟩, .int .i64 0, .bool false, .slice none 0 0, .pointer none, .slice none 0 0, .int .i64 0, .int .i64 0, .int .i64 0, .int .i64 0, .int .i64 0, .int .i64 0] 51)).setRow w1.heap.size #[.int .i64 4, .slice none 0 0, .int .i64 0, .string ⟨#[]⟩, .int .i64 0, .int .i64 0, .string ⟨#[]⟩, .string ⟨#[]⟩, .string ⟨#[]⟩, .int .i64 3, .bool false, .slice none 0 0, .pointer none, .slice none 0 0, .int .i64 100, .int .i64 0, .int .i64 0, .int .i64 0, .int .i64 0, .int .i64 0]) (.cells #[.int .i64 0] 84)
  rw [hsz] at hN2
  clear hR3 HN
  generalize ((w1.alloc (.cells #[.int .i64 0, .slice none 0 0, .int .i64 0, .string ⟨#[]⟩, .int .i64 0, .int .i64 0, .string ⟨#[]⟩, .string ⟨#[]⟩, .string ⟨#[]⟩, .int .i64 0, .bool false, .slice none 0 0, .pointer none, .slice none 0 0, .int .i64 0, .int .i64 0, .int .i64 0, .int .i64 0, .int .i64 0, .int .i64 0] 51)).setRow w1.heap.size #[.int .i64 4, .slice none 0 0, .int .i64 0, .string ⟨#[]⟩, .int .i64 0, .int .i64 0, .string ⟨#[]⟩, .string ⟨#[]⟩, .string ⟨#[]⟩, .int .i64 3, .bool false, .slice none 0 0, .pointer none, .slice none 0 0, .int .i64 100, .int .i64 0, .int .i64 0, .int .i64 0, .int .i64 0, .int .i64 0]).alloc (.cells #[.int .i64 0] 84) = W2 at hR2 hN2 ⊢
  have HG2 := Lib.hid (blk_below HG.out hR2)
  have HR2 := Lib.hid (blk_below HR.out hR2)
  have HB2 := Lib.hid (HB.out.trans (hR2.mono (by omega)))
  have hz2 : w1.heap.size + 2 ≤ W2.heap.size := by have := blk_lt hN2; omega
  have HN2 := Lib.hid hN2
  clear HG HR HB hR2 hN2 hsz
  refine (as_refused g ⟨w1.heap.size + 1, 0, none⟩ 428 (.int .i64 0) W2 (hG.below HB2.out) (blk_cell HG2.out 1) (blk_cell HN2.out 0) (blk_frozen HN2.out 0)).mono ?_
  rintro e w3 ⟨rfl, rfl⟩
  have hz3 : w1.heap.size + 2 ≤ (W2.alloc (.cells #[.pointer (some ⟨w1.heap.size + 1, 0, none⟩)] 86)).heap.size := by simp; omega
  have hN4 := blk_put (blk_alloc (blk_alloc (blk_alloc (blk_alloc HN2.out (.cells #[.pointer (some ⟨w1.heap.size + 1, 0, none⟩)] 86)) (.cells #[.pointer (some ⟨4, 86, none⟩), .pointer (some ⟨W2.heap.size, 0, none⟩), .int .u64 150] 133)) (.cells #[.pointer (some ⟨4, 86, none⟩), .pointer (some ⟨W2.heap.size, 0, none⟩), .int .u64 150] 133)) (.cells #[.int .i64 428] 84)) 0 (.int .i64 428) rfl
  have hR4 := blk_far (blk_alloc (blk_alloc (blk_alloc (blk_alloc HR2.out (.cells #[.pointer (some ⟨w1.heap.size + 1, 0, none⟩)] 86)) (.cells #[.pointer (some ⟨4, 86, none⟩), .pointer (some ⟨W2.heap.size, 0, none⟩), .int .u64 150] 133)) (.cells #[.pointer (some ⟨4, 86, none⟩), .pointer (some ⟨W2.heap.size, 0, none⟩), .int .u64 150] 133)) (.cells #[.int .i64 428] 84)) (p := ⟨w1.heap.size + 1, 0, none⟩) (show w.heap.size + 1 ≠ w1.heap.size + 1 by omega) (.int .i64 428)
  have hB4 : Below w.heap.size w _ := ((((HB2.out.alloc (by omega) (.cells #[.pointer (some ⟨w1.heap.size + 1, 0, none⟩)] 86)).alloc (by simp; omega) (.cells #[.pointer (some ⟨4, 86, none⟩), .pointer (some ⟨W2.heap.size, 0, none⟩), .int .u64 150] 133)).alloc (by simp; omega) (.cells #[.pointer (some ⟨4, 86, none⟩), .pointer (some ⟨W2.heap.size, 0, none⟩), .int .u64 150] 133)).alloc (by simp; omega) (.cells #[.int .i64 428] 84)).setCell (p := ⟨w1.heap.size + 1, 0, none⟩) (show w.heap.size ≤ w1.heap.size + 1 by omega) (.int .i64 428)
  generalize (World.setCell _ _ _) = W4 at hN4 hR4 hB4 ⊢
  have HN4 := Lib.hid hN4
  have HR4 := Lib.hid hR4
  have HB4 := Lib.hid hB4
  clear hN4 hR4 hB4
  go_wp2_with fail
  refine start_ (n := 4) (S := fun w' => w'.heap[w1.heap.size + 1]? = some (.cells #[.int .i64 428] 84 (0, 0)) ∧ w'.heap[w.heap.size + 1]? = some (.cells #[.int .i64 0, .slice none 0 0, .int .i64 0, .string ⟨#[]⟩, .int .i64 0, .int .i64 0, .string ⟨#[]⟩, .string ⟨#[]⟩, .string ⟨#[]⟩, .int .i64 0, .bool false, .slice none 0 0, .pointer none, .slice none 0 0, .int .i64 0, .int .i64 0, .int .i64 0, .int .i64 0, .int .i64 0, .int .i64 0] 51 (0, 0)) ∧ Below w.heap.size w w') (ds := []) #[false, false, false, false] (by kernel_rfl) rfl rfl ?hS0 (fun hHeld => ?_)
  case hS0 => exact ⟨HN4.out, HR4.out, HB4.out.drew⟩
  try dsimp only at hHeld
  generalize W4.drew = W5 at hHeld ⊢
  refine pure_ (i := 0) (N := some 26) (v := ?_) (a' := ?_) #[true, false, false, false] rfl rfl (by kernel_rfl) (fun _ _ _ h => h) (Or.inl ⟨by rfl, ?_⟩) ?_ ?_
  rotate_left
  · intro w'
    go_simp
    with_reducible rfl
  rotate_left
  · simp only [Act.put, List.setIfInBounds_toArray, List.set_cons_zero, List.set_cons_succ, i64_w, i32_w]
    rfl
  refine take_ (i := 1) (N := some 27) (v := ?_) (a' := ?_) #[true, true, false, false] rfl rfl (by kernel_rfl) (fun _ _ _ h => h) (Or.inl ⟨by rfl, ?_⟩) hHeld ?_ ?_
  rotate_left
  · intro w' s
    have s0 := blk_cell s.1 0
    simp only [List.getElem?_toArray, List.getElem?_cons_zero, List.getElem?_cons_succ, List.getElem?_nil] at s0
    clear s
    go_simp
    with_reducible rfl
  rotate_left
  · simp only [Act.put, List.setIfInBounds_toArray, List.set_cons_zero, List.set_cons_succ, i64_w, i32_w]
    rfl
  refine one_ (i := 2) (N := none) #[true, true, true, false] rfl rfl (by kernel_rfl) (by decide) (fun K hK => ?_)
  refine skip_ (w1 := W5.setRow (w.heap.size + 1) #[.int .i64 0, .slice none 0 0, .int .i64 0, .string ⟨#[]⟩, .int .i64 0, .int .i64 0, .string ⟨#[]⟩, .string ⟨#[]⟩, .string ⟨#[]⟩, .int .i64 0, .bool false, .slice none 0 0, .pointer none, .slice none 0 0, .int .i64 0, .int .i64 0, .int .i64 0, .int .i64 0, .int .i64 0, .int .i64 0]) (by rfl) rfl (store_row_run 51 (.tmp 6) (.tmp 26) rfl _ _ rfl rfl 51 _ hHeld.2.1 (by kernel_rfl) rfl (by kernel_rfl)) ?_
  refine hK.out _ _ ⟨(setRow_other _ _ _ _ (by omega)).trans hHeld.1, setRow_heap _ _ _ _ _ _ hHeld.2.1, hHeld.2.2.trans ⟨rfl, rfl, rfl, by simp [World.setRow], fun k hk => setRow_other _ _ _ _ (by omega)⟩⟩ (fun hHeld2 => ?_)
  clear hK K hHeld
  have hHeld := hHeld2
  clear hHeld2
  generalize W5.setRow (w.heap.size + 1) #[.int .i64 0, .slice none 0 0, .int .i64 0, .string ⟨#[]⟩, .int .i64 0, .int .i64 0, .string ⟨#[]⟩, .string ⟨#[]⟩, .string ⟨#[]⟩, .int .i64 0, .bool false, .slice none 0 0, .pointer none, .slice none 0 0, .int .i64 0, .int .i64 0, .int .i64 0, .int .i64 0, .int .i64 0, .int .i64 0] = W6 at hHeld ⊢
  refine pure_ (i := 3) (N := some 7) (v := ?_) (a' := ?_) #[true, true, true, true] rfl rfl (by kernel_rfl) (fun _ _ _ h => h) (Or.inl ⟨by rfl, ?_⟩) ?_ ?_
  rotate_left
  · intro w'
    go_simp
    with_reducible rfl
  rotate_left
  · simp only [Act.put, List.setIfInBounds_toArray, List.set_cons_zero, List.set_cons_succ, i64_w, i32_w]
    rfl
  refine done_ (by kernel_rfl) ?_
  have HH := Lib.hid hHeld
  clear hHeld HN4 HR4 HB4
  go_wp2
  trace_state
  exact bodyPost_ret (results_list (rs := [.cell 6 51, .tmp 7]) Tryz.results10 (by simp) (.cell (w.heap.size + 1) 51 _ (0,0) _ rfl HH.out.2.1 Tryz.underlying51 rfl (by kernel_rfl) (.tmp .nil))) rfl ⟨rfl, HH.out.2.2⟩
end Go.Proofs.YtedmjlflppckmaaGreatDoor.PW
