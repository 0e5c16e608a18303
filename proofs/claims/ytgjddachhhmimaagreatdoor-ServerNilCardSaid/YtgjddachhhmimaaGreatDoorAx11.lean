import Derived.Test.YtgjddachhhmimaaGreatDoorAx10
import Derived.Lib.AppendStr
set_option linter.unusedVariables false
set_option linter.unusedSimpArgs false
set_option linter.unnecessarySimpa false
set_option linter.all false
namespace Go.Proofs.YtgjddachhhmimaaGreatDoor.Ax
open Go.RowKit

section
variable {P : Program} {N : Nat} {W0 : World} {base : Nat} {ρ : Rho} {h : AH} {W : World}

/-- What is appended, in the model. -/
theorem srcCells_sound (R : Rel P N W0 base ρ h W) {size n : Nat} {x x' : Value} {cs : List Value} (e : srcCells h size x = some (n, cs)) (hx : VR N ρ x x') :
    ∃ cs', VRL N ρ cs cs' ∧ (∀ W', (Builtin.lenOf x').run P W' = .ok n W') ∧ (∀ W', W'.heap = W.heap → (Builtin.firstCells size n x').run P W' = .ok ⟨cs'⟩ W') ∧
      (∀ k ≤ n, ∀ W', W'.heap = W.heap → (Builtin.firstCells size k x').run P W' = .ok ⟨cs'.take (k * size)⟩ W') ∧ cs.length = n * size := by
  unfold srcCells at e
  split at e
  · rename_i a m c
    split at e
    · rename_i hc
      simp only [Option.bind_eq_some_iff] at e
      obtain ⟨cs0, h1, h2⟩ := e
      cases h2
      obtain ⟨r, c', g1, g2, g3, g4, _⟩ := slice_place R hx hc
      obtain ⟨hlen, q, cs', h5, h6, h7, _⟩ := rowCells_sound R h1 g4
      cases h5
      subst g3
      have key : ∀ k ≤ n, ∀ W', W'.heap = W.heap → (Builtin.firstCells size k (.slice (some ⟨r.c, a.off, none⟩) n c')).run P W' = .ok ⟨cs'.take (k * size)⟩ W' := by
        intro k hk W' hW
        have hl : (cs'.take (k * size)).length = k * size := by
          rw [List.length_take, ← h6.length, hlen]
          exact Nat.min_eq_left (Nat.mul_le_mul_right _ hk)
        refine run_firstCells_some (P := P) W' size k ⟨r.c, a.off, none⟩ n c' _ hl fun j v hj => ?_
        have hj' : cs'[j]? = some v := by
          have := (List.getElem?_eq_some_iff.1 hj).1
          rw [List.getElem?_take_of_lt (by rw [hl] at this; exact this)] at hj
          exact hj
        have := h7 j v hj'
        unfold World.cell? at this ⊢
        rw [hW]; exact this
      refine ⟨cs', h6, fun W' => rfl, fun W' hW => ?_, key, hlen⟩
      have h8 := key n (Nat.le_refl _) W' hW
      rw [List.take_of_length_le (by rw [← h6.length, hlen]; exact Nat.le_refl _)] at h8
      exact h8
    · split at e
      · rename_i hc hn
        cases e
        subst hn
        obtain ⟨q, c', rfl⟩ := hx.slice_shape
        refine ⟨[], .nil, fun W' => rfl, fun W' _ => ?_, fun k hk W' _ => ?_, by simp⟩
        · simp [Builtin.firstCells, loadCells, loadCellsFrom]
        · have : k = 0 := by omega
          subst this
          simp [Builtin.firstCells, loadCells, loadCellsFrom]
      · cases e
  · split at e
    · rename_i hn
      cases e
      subst hn
      have := hx.nilSlice_inv
      subst this
      exact ⟨[], .nil, fun W' => rfl, fun W' _ => rfl, fun k hk W' _ => by simp; rfl, by simp⟩
    · cases e
  · rename_i s
    split at e
    · rename_i hs
      subst hs
      cases e
      have := hx.string_inv
      subst this
      have hr : ∀ l : List UInt8, rigids N (l.map fun b => Value.int .u8 (b.toNat : Int)) = true := by
        intro l
        induction l with
        | nil => rfl
        | cons b r ih => simp [rigids, rigid, ih]
      refine ⟨_, VRL.rig (hr _), fun W' => rfl, fun W' _ => ?_, fun k hk W' _ => ?_, by simp⟩
      · have h1 := Lib.run_firstCells_string (P := P) W' 1 s
        have h2 : (Lib.strCells s).toArray = ⟨s.data.toList.map fun b => Value.int .u8 (b.toNat : Int)⟩ := by
          apply Array.ext'
          simp [Lib.strCells]
          try rfl
        rw [h2] at h1; exact h1
      · simp only [Builtin.firstCells, Sem.run_pure, Nat.mul_one]
        congr 1
        apply Array.ext'
        simp [ByteArray.data_extract]
        try rfl
    · cases e
  · cases e

/-- append within the capacity. -/
theorem append_fits {argTypes : Array TypeId} {ty sT xT e : TypeId} {xd : TypeDesc} {i : TypeInfo} (h0 : argTypes[0]? = some sT) (h1 : argTypes[1]? = some xT) (hs : P.underlying sT = some (.slice e)) (hxd : P.underlying xT = some xd) (hni : ∀ k, xd ≠ .int k) (hi : P.info? e = some i)
    {A : Option Addr} {len cap n : Nat} {x' : Value} {cs' : List Value} (hlen : (Builtin.lenOf x').run P W = .ok n W) (hcs : (Builtin.firstCells i.size n x').run P W = .ok ⟨cs'⟩ W) (hfit : len + n ≤ cap) {W' : World}
    (hst : match A with | none => W' = W | some q => (storeCells (q.add (len * i.size)) cs').run P W = .ok () W') :
    (Builtin.append_ argTypes ty #[.slice A len cap, x']).run P W = .ok (.slice A (len + n) cap) W' := by
  have hm : (match xd with | .int _ => true | _ => false) = false := by
    cases xd <;> first | rfl | exact absurd rfl (hni _)
  unfold Builtin.append_
  simp only [h0, h1, List.getElem?_toArray, List.getElem?_cons_zero, List.getElem?_cons_succ, Sem.run_bind, run_under hs, run_under hxd, Result.andThen_ok, run_size hi, Sem.run_pure]
  cases xd with
  | int k => exact absurd rfl (hni k)
  | _ =>
    simp only [Bool.false_eq_true, if_false, Sem.run_bind, hlen, Result.andThen_ok, hfit, if_true, Bool.not_false, hcs]
    cases A with
    | none => simp only [] at hst; subst hst; rfl
    | some q => simp only [] at hst; simp only [Sem.run_bind, hst, Result.andThen_ok]; rfl

/-- append beyond the capacity. -/
theorem append_grow {argTypes : Array TypeId} {ty sT xT e : TypeId} {xd : TypeDesc} {i : TypeInfo} {z : Value} (h0 : argTypes[0]? = some sT) (h1 : argTypes[1]? = some xT) (hs : P.underlying sT = some (.slice e)) (hxd : P.underlying xT = some xd) (hni : ∀ k, xd ≠ .int k) (hi : P.info? e = some i)
    (hz : zeroOf P N e = some z) (hzs : z.cells.size = i.size) (hb1 : 1 ≤ i.bytes)
    {A : Option Addr} {len cap n : Nat} {x' : Value} {cs' old' : List Value} (hlen : (Builtin.lenOf x').run P W = .ok n W) (hcs : ∀ W', W'.heap = W.heap → (Builtin.firstCells i.size n x').run P W' = .ok ⟨cs'⟩ W') (hold : ∀ W', W'.heap = W.heap → (Builtin.firstCells i.size len (.slice A len cap)).run P W' = .ok ⟨old'⟩ W')
    (hno : cap < len + n) (hfit : (len + n) * i.bytes ≤ 2 ^ 44) :
    ∃ (nc : Nat) (rest : List Value), len + n ≤ nc ∧ rest.length = (nc - (len + n)) * i.size ∧
      (Builtin.append_ argTypes ty #[.slice A len cap, x']).run P W = .ok (.slice (some ⟨W.heap.size, 0, none⟩) (len + n) nc) (W.drew.alloc (.cells ⟨old' ++ cs' ++ rest⟩ e)) := by
  have h44 : len + n ≤ 2 ^ 44 := Nat.le_trans (Nat.le_mul_of_pos_right _ hb1) hfit
  refine ⟨grownCap W (len + n) cap e, (Builtin.zeroCells z.cells (grownCap W (len + n) cap e - (len + n))).toList, ?_, ?_, ?_⟩
  · unfold grownCap; exact Nat.le_add_right (len + n) _
  · simp [Builtin.zeroCells, hzs]
  · have e1 : ¬ (((len + n : Nat) : Int) > IntKind.i64.max ∧ (False ∨ i.bytes = 0)) := by
      rintro ⟨_, hh | hh⟩
      · exact hh
      · omega
    have e2 : ¬ (Builtin.nextslicecap (len + n) cap * i.bytes > 2 ^ 48) := by
      have := growslice_fits (need := len + n) (old := cap) (bytes := i.bytes) hno (by omega)
      omega
    have e3 : (Question.appendCap (len + n) cap e).forced = false := rfl
    unfold Builtin.append_
    simp only [h0, h1, List.getElem?_toArray, List.getElem?_cons_zero, List.getElem?_cons_succ, Sem.run_bind, run_under hs, run_under hxd, Result.andThen_ok, run_size hi, Sem.run_pure]
    cases xd with
    | int k => exact absurd rfl (hni k)
    | _ =>
      simp only [Bool.false_eq_true, if_false, Sem.run_bind, hlen, Result.andThen_ok, show ¬ (len + n ≤ cap) by omega, run_info hi, false_or, Bool.not_false, if_true]
      have e1' : ¬ (((len + n : Nat) : Int) > IntKind.i64.max ∧ i.bytes = 0) := fun hh => by omega
      rw [if_neg e1']
      simp only [Sem.run_bind, run_info hi, Result.andThen_ok]
      rw [if_neg e2]
      simp only [Sem.run_bind, run_choose, e3, Bool.false_eq_true, if_false, Result.andThen_ok, run_info hi, run_askRoom]
      rw [hold { W with drawn := W.drawn + 1 } rfl]
      simp only [Result.andThen_ok]
      rw [hcs { W with drawn := W.drawn + 1 } rfl]
      simp only [Result.andThen_ok, run_zero hz, newRow, Sem.run_bind, run_newObj, Sem.run_pure]
      show Result.ok _ _ = Result.ok _ _
      congr 1
      unfold World.alloc World.drew
      congr 1
      congr 1
      congr 1
      apply Array.ext'
      simp [grownCap]
end
end Go.Proofs.YtgjddachhhmimaaGreatDoor.Ax
