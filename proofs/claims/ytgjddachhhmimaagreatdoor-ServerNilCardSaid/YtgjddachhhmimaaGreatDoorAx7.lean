import Derived.Test.YtgjddachhhmimaaGreatDoorAx6
set_option linter.unusedVariables false
set_option linter.unusedSimpArgs false
set_option linter.unnecessarySimpa false
set_option linter.all false
namespace Go.Proofs.YtgjddachhhmimaaGreatDoor.Ax
open Go.RowKit

section
variable {P : Program} {N : Nat} {ρ : Rho}

theorem add_at (b off n : Nat) : (Addr.mk b off none).add n = ⟨b, off + n, none⟩ := by
  unfold Addr.add
  split
  · subst_vars; rfl
  · rfl

theorem rigidA_add {a : Addr} {n : Nat} (h : rigidA N (some a) = true) : rigidA N (some (a.add n)) = true := by
  have := rigidA_some h
  unfold Addr.add
  split
  · exact h
  · simp [rigidA, this.1]

/-- A pointer's place, moved. -/
theorem VR.ptr_add {p : Addr} {x : Value} (h : VR N ρ (.pointer (some p)) x) (n : Nat) : ∃ q, x = .pointer (some q) ∧ VR N ρ (.pointer (some (p.add n))) (.pointer (some (q.add n))) := by
  cases h with
  | rig h => exact ⟨p, rfl, .rig (by simpa [rigid] using rigidA_add (by simpa [rigid] using h))⟩
  | ptr e => exact ⟨_, rfl, by rw [add_at, add_at]; exact .ptr e⟩

theorem run_under {t : TypeId} {d : TypeDesc} (h : P.underlying t = some d) (W : World) : (underlying t).run P W = .ok d W := pv_run (by rw [pv_underlying, h]) W
theorem run_size {t : TypeId} {i : TypeInfo} (h : P.info? t = some i) (W : World) : (sizeOf t).run P W = .ok i.size W := pv_run (by rw [pv_sizeOf, h]; rfl) W
theorem run_info {t : TypeId} {i : TypeInfo} (h : P.info? t = some i) (W : World) : (typeInfo t).run P W = .ok i W := pv_run (by rw [pv_typeInfo, h]) W
theorem run_zero {t : TypeId} {z : Value} (h : zeroOf P N t = some z) (W : World) : (zeroValue t).run P W = .ok z W := pv_run (by rw [pv_zeroValue, (zeroOf_spec h).1]) W

theorem fieldAt_sound {s : TypeId} {fields : Array Field} (hs : P.underlying s = some (.struct fields)) {f : Nat} {fd : Field} (hf : fields[f]? = some fd) {i : TypeInfo} (hi : P.info? fd.type = some i) (h0 : i.size ≠ 0) (q : Addr) (W : World) :
    (Instr.fieldAt s (.pointer (some q)) f).run P W = .ok (.pointer (some (q.add fd.offset))) W := by
  unfold Instr.fieldAt fieldPlace
  simp only [Sem.run_bind, run_under hs, Result.andThen_ok, hf, Instr.sureAddr, Sem.run_pure, run_size hi, h0, if_false]

theorem asIntOf_int (k : IntKind) (n : Int) (W : World) : (asIntOf (.int k n)).run P W = .ok (k, n) W := rfl

theorem indexAt_slice {ty e : TypeId} (ht : P.underlying ty = some (.slice e)) {ti : TypeInfo} (hi : P.info? e = some ti) {k : IntKind} {i : Int} {len c : Nat} (h0 : 0 ≤ i) (h1 : i < (len : Int)) (q : Addr) (W : World) :
    (Instr.indexAt ty (.slice (some q) len c) (.int k i)).run P W = .ok (.pointer (some (q.add (i.toNat * ti.size)))) W := by
  unfold Instr.indexAt
  simp only [Sem.run_bind, asIntOf_int, Result.andThen_ok, run_under ht, Sem.run_pure, h0, h1, and_self, if_true, run_size hi]

theorem indexAt_array {ty e : TypeId} {len : Nat} (ht : P.underlying ty = some (.array len e)) {ti : TypeInfo} (hi : P.info? e = some ti) {k : IntKind} {i : Int} (h0 : 0 ≤ i) (h1 : i < (len : Int)) (q : Addr) (W : World) :
    (Instr.indexAt ty (.pointer (some q)) (.int k i)).run P W = .ok (.pointer (some (q.add (i.toNat * ti.size)))) W := by
  unfold Instr.indexAt
  simp only [Sem.run_bind, asIntOf_int, Result.andThen_ok, run_under ht, Sem.run_pure, Instr.sureAddr, h0, h1, and_self, if_true, run_size hi]

/-- A bound of a slice, in the model. -/
theorem bound_sound {t : List Value} {a : Act} (h : TR N ρ t a) {x : Operand} {d m k : Nat} (e : bound (some (aev N t x)) d m = some k) {m' : Nat} (hm : m ≤ m') (code : BoundsCode) (W : World) :
    k ≤ m ∧ (Instr.sliceBound (a.eval x) m' code).run P W = .ok k W := by
  unfold bound at e
  cases hx : aev N t x with
  | none => simp [hx] at e
  | some v =>
    rw [hx] at e
    cases v <;> simp at e
    rename_i kd n
    obtain ⟨⟨h0, h1⟩, rfl⟩ := e
    have := (aev_sound h hx).int_inv
    rw [this]
    refine ⟨by omega, ?_⟩
    unfold Instr.sliceBound
    simp only [Sem.run_bind, asIntOf_int, Result.andThen_ok]
    rw [if_pos ⟨h0, by omega⟩]
    rfl

/-- The bounds of a slice expression, in the model: cap' is the true capacity, m' where the result's ends. -/
theorem bounds_sound {t : List Value} {a : Act} (h : TR N ρ t a) {len cap' lim0 lim m m' e l : Nat} {lo hi mx : Option Operand}
    (hm : (mx = none ∧ m' = cap') ∨ (bound (optVal N t mx) 0 lim0 = some m ∧ mx ≠ none ∧ m' = m ∧ lim0 ≤ cap'))
    (hlim : lim ≤ m') (hmx : ((optVal N t mx).isSome && (optVal N t hi).isNone) = false)
    (he : bound (optVal N t hi) len lim = some e) (hl : bound (optVal N t lo) 0 e = some l) (W : World) :
    l ≤ e ∧ (Instr.sliceBounds true len cap' (lo.map a.eval) (hi.map a.eval) (mx.map a.eval)).run P W = .ok (l, e, m') W := by
  have hl' : (lo = none ∧ l = 0) ∨ (∃ y, lo = some y ∧ l ≤ e ∧ ∀ code, (Instr.sliceBound (a.eval y) e code).run P W = .ok l W) := by
    cases lo with
    | none => simp [optVal, bound] at hl; exact .inl ⟨rfl, hl.symm⟩
    | some y => exact .inr ⟨y, rfl, (bound_sound (P := P) h (by simpa [optVal] using hl) (Nat.le_refl _) .index W).1, fun code => (bound_sound h (by simpa [optVal] using hl) (Nat.le_refl _) code W).2⟩
  have he' : (hi = none ∧ e = len) ∨ (∃ y, hi = some y ∧ ∀ code, (Instr.sliceBound (a.eval y) m' code).run P W = .ok e W) := by
    cases hi with
    | none => simp [optVal, bound] at he; exact .inl ⟨rfl, he.symm⟩
    | some y => exact .inr ⟨y, rfl, fun code => (bound_sound h (by simpa [optVal] using he) hlim code W).2⟩
  rcases hm with ⟨rfl, rfl⟩ | ⟨hm1, hm2, rfl, hm3⟩
  · rcases he' with ⟨rfl, rfl⟩ | ⟨y, rfl, hy⟩ <;> rcases hl' with ⟨rfl, rfl⟩ | ⟨z, rfl, hz0, hz⟩ <;>
      simp_all [Instr.sliceBounds]
  · cases mx with
    | none => exact absurd rfl hm2
    | some w =>
      have hw := fun code => (bound_sound (P := P) h (by simpa [optVal] using hm1) hm3 code W).2
      rcases he' with ⟨rfl, rfl⟩ | ⟨y, rfl, hy⟩
      · simp [optVal] at hmx
      · rcases hl' with ⟨rfl, rfl⟩ | ⟨z, rfl, hz0, hz⟩ <;> simp_all [Instr.sliceBounds]

theorem aSlice_sound {t : List Value} {a : Act} (h : TR N ρ t a) {size len cap : Nat} {A : Option Addr} {x : Value} (hx : VR N ρ (.slice A len cap) x) {lo hi mx : Option Operand} {v : Value}
    (e : aSlice size A len cap (optVal N t lo) (optVal N t hi) (optVal N t mx) = some v)
    {ty el : TypeId} (ht : P.underlying ty = some (.slice el)) {ti : TypeInfo} (hti : P.info? el = some ti) (hsz : ti.size = size) :
    ∃ v', VR N ρ v v' ∧ ∀ W, (Instr.sliceAt ty x (lo.map a.eval) (hi.map a.eval) (mx.map a.eval)).run P W = .ok v' W := by
  subst hsz
  have hgo : ∀ (A' : Option Addr) (cap' m e l : Nat) (W : World), (Instr.sliceBounds true len cap' (lo.map a.eval) (hi.map a.eval) (mx.map a.eval)).run P W = .ok (l, e, m) W →
      (Instr.sliceAt ty (.slice A' len cap') (lo.map a.eval) (hi.map a.eval) (mx.map a.eval)).run P W = .ok (.slice (if m = l then A' else A'.map (·.add (l * ti.size))) (e - l) (m - l)) W := by
    intro A' cap' m e l W hb
    unfold Instr.sliceAt Instr.slice
    simp only [Sem.run_bind, run_under ht, Result.andThen_ok, hb, run_size hti, Sem.run_pure]
  unfold aSlice at e
  simp only [] at e
  split at e
  · cases e
  rename_i hcE
  have hcE1 : cap ≠ capX := fun hh => hcE (.inl hh)
  have hcE2 : A = none → cap < capX := fun hh => by
    subst hh
    exact Nat.lt_of_not_le fun h9 => hcE (.inr ⟨rfl, h9⟩)
  clear hcE
  split at e
  · cases e
  · rename_i m hm
    split at e
    · cases e
    · rename_i hmx
      have hmx' : ((optVal N t mx).isSome && (optVal N t hi).isNone) = false := Bool.eq_false_iff.2 hmx
      split at e
      · cases e
      · rename_i e1 he
        split at e
        · cases e
        · rename_i l hl
          split at e
          · -- the end of what may be used is known
            rename_i hmc
            rw [if_pos hmc] at he
            cases e
            -- what x is
            obtain ⟨A', cap', rfl, hcap, hA⟩ : ∃ A' cap', x = .slice A' len cap' ∧ ((mx = none ∧ m = cap') ∨ (bound (optVal N t mx) 0 (if cap < capX then cap else len) = some m ∧ mx ≠ none ∧ m = m ∧ (if cap < capX then cap else len) ≤ cap')) ∧
                ∀ (n l c : Nat), c < capX → VR N ρ (.slice (A.map (·.add n)) l c) (.slice (A'.map (·.add n)) l c) ∧ VR N ρ (.slice A l c) (.slice A' l c) := by
              have hmm : ∀ cap', (cap < capX → cap' = cap) → ((if cap < capX then cap else len) ≤ cap') → ((mx = none ∧ m = cap') ∨ (bound (optVal N t mx) 0 (if cap < capX then cap else len) = some m ∧ mx ≠ none ∧ m = m ∧ (if cap < capX then cap else len) ≤ cap')) := by
                intro cap' h1 h2
                cases mx with
                | none =>
                  have : cap = m := by simpa [optVal] using hm
                  exact .inl ⟨rfl, by rw [h1 (by omega), this]⟩
                | some w => exact .inr ⟨by simpa [optVal] using hm, by simp, rfl, h2⟩
              cases hx with
              | rig hr =>
                cases A with
                | none =>
                  have hc := hcE2 rfl
                  exact ⟨_, _, rfl, hmm _ (fun _ => rfl) (by rw [if_pos hc]; exact Nat.le_refl _), fun n l c _ => ⟨.rig rfl, .rig rfl⟩⟩
                | some p => simp [rigid] at hr
              | slice e1 e2 => exact ⟨_, _, rfl, hmm _ (fun _ => rfl) (by rw [if_pos e2]; exact Nat.le_refl _), fun n l c hc => ⟨by simp only [Option.map_some, add_at]; exact .slice e1 hc, .slice e1 hc⟩⟩
              | sliceX e1 e2 e3 e4 => exact ⟨_, _, rfl, hmm _ (fun hc => by omega) (by rw [if_neg (by omega)]; exact e2), fun n l c hc => ⟨by simp only [Option.map_some, add_at]; exact .slice e1 hc, .slice e1 hc⟩⟩
              | sliceE => exact absurd rfl hcE1
            obtain ⟨hle, hrun⟩ : l ≤ e1 ∧ ∀ W, (Instr.sliceBounds true len cap' (lo.map a.eval) (hi.map a.eval) (mx.map a.eval)).run P W = .ok (l, e1, m) W :=
              ⟨(bounds_sound (P := P) h hcap (Nat.le_refl _) hmx' he hl default).1, fun W => (bounds_sound h hcap (Nat.le_refl _) hmx' he hl W).2⟩
            refine ⟨_, ?_, fun W => hgo _ _ _ _ _ W (hrun W)⟩
            by_cases hml : m = l
            · rw [if_pos hml, if_pos hml]; exact (hA 0 _ _ (by omega)).2
            · rw [if_neg hml, if_neg hml]; exact (hA _ _ _ (by omega)).1
          · rename_i hmc
            rw [if_neg hmc] at he
            split at e
            · rename_i hc
              obtain ⟨hc1, hc2, hc3⟩ := hc
              have hmx0 : mx = none := by cases mx with | none => rfl | some w => simp [optVal] at hc3
              cases hx with
              | rig hr => cases A with
                | none => simp at hc2
                | some p => simp [rigid] at hr
              | slice e1 e2 => omega
              | sliceE => exact absurd rfl hcE1
              | sliceX e1' e2' e3' e4' =>
                rename_i b off c r
                have hsz : r.sz = ti.size := by omega
                have hb := fun W => bounds_sound (P := P) h (len := len) (cap' := c) (lim0 := len) (lim := len) (m := c) (.inl ⟨hmx0, rfl⟩) e2' hmx' he hl W
                have hle := (hb default).1
                have he1 : e1 ≤ len := by
                  revert he
                  unfold bound
                  cases optVal N t hi with
                  | none => simp; intro hh; omega
                  | some w => cases w with
                    | none => simp
                    | some w => cases w <;> simp; intro h1 h2 h3; omega
                split at e
                · rename_i hlt
                  cases e
                  refine ⟨_, ?_, fun W => hgo _ _ _ _ _ W (hb W).2⟩
                  have hEq : (if c = l then some (Addr.mk r.c off none) else (some (Addr.mk r.c off none)).map (·.add (l * ti.size))) = some ⟨r.c, off + l * ti.size, none⟩ := by
                    split
                    · have : l = 0 := by omega
                      subst this; simp
                    · simp [add_at]
                  rw [hEq, Option.map_some, add_at, hc1, ← hsz]
                  refine .sliceX e1' (by omega) ?_ e4'
                  have : l ≤ c := by omega
                  have h2 : off + l * r.sz + (c - l) * r.sz = off + c * r.sz := by
                    rw [Nat.add_assoc, ← Nat.add_mul]; congr 2; omega
                  omega
                · rename_i hlt
                  cases e
                  refine ⟨_, ?_, fun W => hgo _ _ _ _ _ W (hb W).2⟩
                  have hl0 : e1 - l = 0 := by omega
                  have hEq : ∃ q, (if c = l then some (Addr.mk r.c off none) else (some (Addr.mk r.c off none)).map (·.add (l * ti.size))) = some q := by
                    split <;> exact ⟨_, rfl⟩
                  obtain ⟨q, hq⟩ := hEq
                  rw [hq, hl0]
                  exact .sliceE
            · cases e
end
end Go.Proofs.YtgjddachhhmimaaGreatDoor.Ax
