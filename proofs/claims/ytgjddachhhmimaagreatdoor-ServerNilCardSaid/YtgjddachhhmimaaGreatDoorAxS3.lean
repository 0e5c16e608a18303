import Derived.Test.YtgjddachhhmimaaGreatDoorAxS2
set_option linter.unusedVariables false
set_option linter.unusedSimpArgs false
set_option linter.unnecessarySimpa false
set_option linter.all false
namespace Go.Proofs.YtgjddachhhmimaaGreatDoor.Ax
open Go.RowKit

section
variable {P : Program} {N : Nat} {W0 : World} {base : Nat} {ρ : Rho} {h : AH} {W : World}

/-- A block that is nobody's. -/
theorem Rel.alloc (R : Rel P N W0 base ρ h W) (o : Obj) : Rel P N W0 base ρ h (W.alloc o) := by
  have hbase : base ≤ W.heap.size := Nat.le_trans R.bs R.below.size
  refine ⟨R.len, fun b r e => ?_, fun b a => ?_, R.inj, R.below.alloc hbase _, R.hN, R.bs⟩
  · obtain ⟨h1, h2, h3, h4⟩ := R.low b r e
    exact ⟨h1, h2, by simp; omega, h4⟩
  · obtain ⟨r, u, h1, h2, h3⟩ := R.row b a
    exact ⟨r, u, h1, by rw [Below.heap_alloc _ _ _ (R.low b r h1).2.2.1]; exact h2, h3⟩

theorem primAs_sound {f : FuncId} {tE tP tS : TypeId}
    (hA : ∀ (b : Nat) (t : Addr) (c : Int) (old : Value) (w : World), Below base W0 w → w.cell? ⟨b, 1, none⟩ = some (.iface tS (.int .i64 c)) → w.cell? t = some old → w.frozen? t = false →
      Calls P f #[.iface tE (.pointer (some ⟨b, 0, none⟩)), .iface tP (.pointer (some t))] w fun e w' => e = .returned (.bool true) ∧ ∃ o1 o2 o3 o4, w' = ((((w.alloc o1).alloc o2).alloc o3).alloc o4).setCell t (.int .i64 c))
    {args : List Value} {r : Value} {h' : AH} (e : primAs N tE tP tS args h = some (r, h')) : CallSound P N W0 base f args h r h' := by
  intro ρ W args' R V
  unfold primAs at e
  split at e
  · rename_i te g tp q
    obtain ⟨x, y, rfl, hx, hy⟩ := V.two
    split at e
    · rename_i hc
      obtain ⟨rfl, rfl, c3, c4, c5, c6, c7, c8⟩ := hc
      split at e
      · rename_i x0 s n tg fg eg xq tq hg hq
        split at e
        · rename_i hs
          cases e
          subst hs
          obtain ⟨x', rfl, hx'⟩ := hx.iface_inv
          obtain ⟨y', rfl, hy'⟩ := hy.iface_inv
          obtain ⟨rg, g1, g2, rfl⟩ := hx'.ptr_inv c7
          obtain ⟨rq, q1, q2, rfl⟩ := hy'.ptr_inv c8
          obtain ⟨cg, fzg, k1, k2, k3, k4, k5, k6, k7⟩ := row_cells R hg g1
          obtain ⟨cq, fzq, m1, m2, m3, m4, m5, m6, m7⟩ := row_cells R hq q1
          rw [c3, c5]
          have hcell : W.cell? ⟨rg.c, 1, none⟩ = some (.iface s (.int .i64 n)) := by
            obtain ⟨u, v, h1, h2, h3⟩ := k2.two
            obtain ⟨v', rfl, h4⟩ := h3.iface_inv
            rw [h4.int_inv] at h1
            have h5 : (cg.take 2)[1]? = some (.iface s (.int .i64 n)) := by
              have : cg.take 2 = _ := h1
              rw [this]; rfl
            rw [List.getElem?_take, if_pos (by omega)] at h5
            rw [Lib.cell_of_heap k1]
            simpa using h5
          have hlen : cq.length = 1 := (m5 rfl).symm
          obtain ⟨u, rfl⟩ : ∃ u, cq = [u] := by
            match cq, hlen with
            | [u], _ => exact ⟨u, rfl⟩
          have hold : W.cell? ⟨rq.c, 0, none⟩ = some u := by rw [Lib.cell_of_heap m1]; rfl
          have hff : W.frozen? ⟨rq.c, 0, none⟩ = false := by
            unfold FR at m6
            simp only [show ¬ (0 = 1) by omega, if_false] at m6
            unfold World.frozen?
            simp only [m1]
            rcases m6 with m6 | m6
            · simp; omega
            · simp; omega
          refine (hA rg.c ⟨rq.c, 0, none⟩ n u W R.below hcell hold hff).mono fun en W' hh => ?_
          obtain ⟨rfl, o1, o2, o3, o4, rfl⟩ := hh
          have R4 := (((R.alloc o1).alloc o2).alloc o3).alloc o4
          obtain ⟨cq', fzq', n1, n2, n3, n4, n5, n6, n7⟩ := row_cells R4 hq q1
          rw [setCell_put n1]
          refine ⟨ρ, _, Ext.refl _ _ _, Nat.le_refl _, rfl, .rig rfl, R4.set (by rw [hq]; rfl) q1 ?_⟩
          have hlen' : cq'.length = 1 := (n5 rfl).symm
          obtain ⟨u', rfl⟩ : ∃ u, cq' = [u] := by
            match cq', hlen' with
            | [u], _ => exact ⟨u, rfl⟩
          refine ⟨_, fzq', rfl, ?_, by simp, by simpa using n4, fun _ => by simp, by simpa using n6, n7⟩
          simp only [List.set_cons_zero, List.length_cons, List.length_nil, List.take_succ_cons, List.take_zero]
          exact .cons (.rig rfl) .nil
        · cases e
      · cases e
    · cases e
  · cases e

/-- The small machine's memory when a call begins: no row but those of the package's variables, and these are not ours. -/
def start (N : Nat) : AH := ⟨N, List.replicate N .dead⟩
theorem start_dead (N b : Nat) : (start N).get b = .dead := by
  by_cases hb : b < N
  · rw [AH.get_lt (h := start N) hb]
    show (List.replicate N AObj.dead).getD (N - 1 - b) .dead = .dead
    rw [List.getD_eq_getElem?_getD, List.getElem?_replicate]
    split <;> rfl
  · exact AH.get_ge (h := start N) hb
theorem Rel.start (P : Program) (N : Nat) (W : World) : Rel P N W W.heap.size (fun _ => none) (start N) W :=
  ⟨by simp [Ax.start], fun b r e => (by cases e), fun b a => (by rw [start_dead] at a; cases a), fun b1 b2 r1 r2 a => (by rw [start_dead] at a; cases a), Below.refl _ _, Nat.le_refl _, Nat.le_refl _⟩

def isTrue : Option (Value × AH) → Bool
  | some (.bool true, _) => true
  | _ => false

/-- A call without arguments that the small machine finds true is true. -/
theorem calls_true {f : FuncId} {W : World} {call : FuncId → List Value → AH → Option (Value × AH)} (hc : CallOK P N W W.heap.size call) (e : isTrue (call f [] (start N)) = true) :
    Calls P f #[] W fun e W' => e = .returned (.bool true) ∧ Below W.heap.size W W' := by
  unfold isTrue at e
  split at e
  · rename_i h1 hcall
    refine (hc f [] (start N) _ h1 hcall _ W [] (Rel.start P N W) .nil).mono fun en W' hh => ?_
    obtain ⟨σ, v, k1, k2, rfl, k3, k4⟩ := hh
    rw [k3.bool_inv]
    exact ⟨rfl, k4.below⟩
  · cases e
end
end Go.Proofs.YtgjddachhhmimaaGreatDoor.Ax
