import Derived.Test.YtgjddachhhmimaaGreatDoorAx3
set_option linter.unusedVariables false
set_option linter.unusedSimpArgs false
set_option linter.unnecessarySimpa false
set_option linter.all false
namespace Go.Proofs.YtgjddachhhmimaaGreatDoor.Ax
open Go.RowKit

/-- What is frozen of a row. -/
def FR (fz fz' : Nat × Nat) (K : Nat) : Prop :=
  if fz.1 = 1 then fz'.1 = fz'.2 ∨ K ≤ fz'.1 else fz'.1 = fz'.2 ∨ (fz'.1 = 0 ∧ fz'.2 ≤ fz.2)

inductive MER (N : Nat) (ρ : Rho) : List MapEntry → List MapEntry → Prop
  | nil : MER N ρ [] []
  | cons {k v v' : Value} {b : Nat} {l l' : List MapEntry} : rigid N k = true → VR N ρ v v' → MER N ρ l l' → MER N ρ (⟨k, v, b⟩ :: l) (⟨k, v', b⟩ :: l')

/-- A row and its object in the model. -/
def OR (P : Program) (N : Nat) (ρ : Rho) (r : RB) : AObj → Obj → Prop
  | .cells c t fz ex, o => ∃ (c' : List Value) (fz' : Nat × Nat), o = .cells ⟨c'⟩ t fz' ∧ VRL N ρ c (c'.take c.length) ∧ c.length ≤ c'.length ∧ c'.length = r.K ∧ (ex = true → c.length = c'.length) ∧ FR fz fz' c'.length ∧
      (ex = false → (P.info? t).map (·.size) = some r.sz)
  | .map es ck, o => ∃ es' : List MapEntry, o = .map ⟨es'⟩ ck ∧ MER N ρ es es'
  | .mapIter none since seen st, o => o = .mapIter none since ⟨seen⟩ st
  | .mapIter (some b) since seen st, o => ∃ q : RB, ρ b = some q ∧ o = .mapIter (some q.c) since ⟨seen⟩ st
  | .strIter s pos, o => o = .stringIter s pos
  | .dead, _ => True

structure Rel (P : Program) (N : Nat) (W0 : World) (base : Nat) (ρ : Rho) (h : AH) (W : World) : Prop where
  len : h.l.length = h.n
  low : ∀ b r, ρ b = some r → N ≤ b ∧ b < h.n ∧ r.c < W.heap.size ∧ base ≤ r.c
  row : ∀ b, (h.get b).alive = true → ∃ r o, ρ b = some r ∧ W.heap[r.c]? = some o ∧ OR P N ρ r (h.get b) o
  inj : ∀ b1 b2 r1 r2, (h.get b1).alive = true → (h.get b2).alive = true → ρ b1 = some r1 → ρ b2 = some r2 → r1.c = r2.c → b1 = b2
  below : Below base W0 W
  hN : N ≤ h.n
  bs : base ≤ W0.heap.size

section
variable {P : Program} {N : Nat} {W0 : World} {base : Nat} {ρ σ : Rho} {h : AH} {W : World}

theorem MER.mono (e : ρ.le σ) : ∀ {l l' : List MapEntry}, MER N ρ l l' → MER N σ l l'
  | _, _, .nil => .nil
  | _, _, .cons k v r => .cons k (v.mono e) (MER.mono e r)

theorem OR.mono (e : ρ.le σ) {r : RB} {o : AObj} {o' : Obj} (k : OR P N ρ r o o') : OR P N σ r o o' := by
  cases o with
  | cells c t fz ex => obtain ⟨c', fz', h1, h2, h3⟩ := k; exact ⟨c', fz', h1, h2.mono e, h3⟩
  | map es ck => obtain ⟨es', h1, h2⟩ := k; exact ⟨es', h1, h2.mono e⟩
  | mapIter m since seen st => cases m with
    | none => exact k
    | some b => obtain ⟨q, h1, h2⟩ := k; exact ⟨q, e _ _ h1, h2⟩
  | strIter s pos => exact k
  | dead => trivial

theorem Rel.lowN (R : Rel P N W0 base ρ h W) : ∀ b r, ρ b = some r → N ≤ b := fun b r e => (R.low b r e).1

/-- A draw changes no row. -/
theorem Rel.drew (R : Rel P N W0 base ρ h W) (W' : World) (hh : W'.heap = W.heap) (ho : W'.os = W.os) (ht : W'.tape = W.tape) (hu : W'.output = W.output) : Rel P N W0 base ρ h W' :=
  ⟨R.len, fun b r e => by rw [hh]; exact R.low b r e, fun b a => by rw [hh]; exact R.row b a, R.inj,
   R.below.trans ⟨ho, ht, hu, by rw [hh]; exact Nat.le_refl _, fun k _ => by rw [hh]⟩, R.hN, R.bs⟩

theorem AH.get_lt {h : AH} {b : Nat} (hb : b < h.n) : h.get b = h.l.getD (h.n - 1 - b) .dead := (if_pos hb).trans (by rw [nthR_eq, List.getD_eq_getElem?_getD])
theorem AH.set_eq (h : AH) (b : Nat) (o : AObj) : h.set b o = ⟨h.n, h.l.set (h.n - 1 - b) o⟩ := by unfold AH.set; rw [setR_eq]
theorem AH.get_ge {h : AH} {b : Nat} (hb : ¬ b < h.n) : h.get b = .dead := if_neg hb
theorem AH.get_set_same (hl : h.l.length = h.n) {b : Nat} (hb : b < h.n) (o : AObj) : (h.set b o).get b = o := by
  have h1 : h.n - 1 - b < h.l.length := by omega
  rw [AH.get_lt (h := h.set b o) hb]
  rw [AH.set_eq]
  show (h.l.set (h.n - 1 - b) o).getD (h.n - 1 - b) .dead = o
  simp [List.getD_eq_getElem?_getD, h1]
theorem AH.get_set_other {b c : Nat} (hl : h.l.length = h.n) (hc : c ≠ b) (hb : b < h.n) (o : AObj) : (h.set b o).get c = h.get c := by
  by_cases hlt : c < h.n
  · have : h.n - 1 - b ≠ h.n - 1 - c := by omega
    rw [AH.get_lt (h := h.set b o) hlt, AH.get_lt hlt]
    rw [AH.set_eq]
    show (h.l.set (h.n - 1 - b) o).getD (h.n - 1 - c) .dead = _
    simp [List.getD_eq_getElem?_getD, List.getElem?_set_ne this]
  · rw [AH.get_ge (h := h.set b o) hlt, AH.get_ge hlt]
theorem AH.get_push_new (hl : h.l.length = h.n) (o : AObj) : (h.push o).get h.n = o := by
  rw [AH.get_lt (h := h.push o) (Nat.lt_succ_self _)]
  show (o :: h.l).getD (h.n + 1 - 1 - h.n) .dead = o
  simp
theorem AH.get_push_old {b : Nat} (hb : b ≠ h.n) (o : AObj) : (h.push o).get b = h.get b := by
  by_cases hlt : b < h.n
  · have e : h.n + 1 - 1 - b = (h.n - 1 - b) + 1 := by omega
    rw [AH.get_lt (h := h.push o) (Nat.lt_succ_of_lt hlt), AH.get_lt hlt]
    show (o :: h.l).getD (h.n + 1 - 1 - b) .dead = _
    rw [e]; simp
  · rw [AH.get_ge (h := h.push o) (show ¬ b < h.n + 1 by omega), AH.get_ge hlt]
theorem AH.lt_of_alive {b : Nat} (ha : (h.get b).alive = true) : b < h.n := by
  by_cases hlt : b < h.n
  · exact hlt
  · rw [AH.get_ge hlt] at ha; simp [AObj.alive] at ha

/-- The world with another object in a block. -/
def putO (W : World) (c : Nat) (o : Obj) : World := { W with heap := W.heap.setIfInBounds c o }
theorem putO_same {c : Nat} (hc : c < W.heap.size) (o : Obj) : (putO W c o).heap[c]? = some o := by simp [putO, hc]
theorem putO_other {c d : Nat} (hd : d ≠ c) (o : Obj) : (putO W c o).heap[d]? = W.heap[d]? := by
  simp [putO, Array.getElem?_setIfInBounds_ne (Ne.symm hd)]
theorem putO_size (c : Nat) (o : Obj) : (putO W c o).heap.size = W.heap.size := by simp [putO]

/-- A row of ours is changed (or let go). -/
theorem Rel.set (R : Rel P N W0 base ρ h W) {b : Nat} {r : RB} (ha : (h.get b).alive = true) (hr : ρ b = some r) {o : AObj} {o' : Obj} (ho : OR P N ρ r o o') :
    Rel P N W0 base ρ (h.set b o) (putO W r.c o') := by
  have hb := AH.lt_of_alive ha
  obtain ⟨_, _, hc, hbase⟩ := R.low b r hr
  have back : ∀ x, ((h.set b o).get x).alive = true → (h.get x).alive = true := fun x hx => by
    by_cases e : x = b
    · subst e; exact ha
    · rwa [AH.get_set_other R.len e hb] at hx
  refine ⟨by simp [AH.set_eq, R.len], fun x q e => ?_, fun x hx => ?_, fun x y p q hx hy ex ey e => R.inj x y p q (back x hx) (back y hy) ex ey e, ?_, R.hN, R.bs⟩
  · rw [putO_size]; exact R.low x q e
  · by_cases e : x = b
    · subst e
      rw [AH.get_set_same R.len hb] at hx ⊢
      exact ⟨r, o', hr, putO_same hc _, ho⟩
    · rw [AH.get_set_other R.len e hb] at hx ⊢
      obtain ⟨q, u, h1, h2, h3⟩ := R.row x hx
      have hne : q.c ≠ r.c := fun hq => e (R.inj x b q r hx ha h1 hr hq)
      exact ⟨q, u, h1, by rw [putO_other hne]; exact h2, h3⟩
  · exact R.below.trans ⟨rfl, rfl, rfl, by rw [putO_size]; exact Nat.le_refl _, fun k hk => putO_other (by omega) _⟩

def bind1 (ρ : Rho) (b : Nat) (r : RB) : Rho := fun x => if x = b then some r else ρ x
theorem bind1_same (ρ : Rho) (b : Nat) (r : RB) : bind1 ρ b r b = some r := by simp [bind1]
theorem bind1_le {b : Nat} {r : RB} (hb : ρ b = none) : ρ.le (bind1 ρ b r) := fun x q e => by
  by_cases hx : x = b
  · subst hx; rw [hb] at e; cases e
  · simpa [bind1, hx] using e

theorem alloc_at (W : World) (o : Obj) : (W.alloc o).heap[W.heap.size]? = some o := by
  show (W.heap.push o)[W.heap.size]? = _
  simp

/-- A new row. -/
theorem Rel.push (R : Rel P N W0 base ρ h W) {K sz : Nat} {o : AObj} {o' : Obj} (ho : OR P N ρ ⟨W.heap.size, K, sz⟩ o o') :
    ρ.le (bind1 ρ h.n ⟨W.heap.size, K, sz⟩) ∧ Rel P N W0 base (bind1 ρ h.n ⟨W.heap.size, K, sz⟩) (h.push o) (W.alloc o') := by
  have hN := R.hN
  have hbase : base ≤ W.heap.size := Nat.le_trans R.bs R.below.size
  have hnone : ρ h.n = none := by
    cases e : ρ h.n with
    | none => rfl
    | some q => have := (R.low _ _ e).2.1; omega
  have hle : ρ.le (bind1 ρ h.n ⟨W.heap.size, K, sz⟩) := bind1_le hnone
  refine ⟨hle, by simp [AH.push, R.len], fun x q e => ?_, fun x hx => ?_, fun x y p q hx hy ex ey e => ?_, ?_, Nat.le_succ_of_le hN, R.bs⟩
  · by_cases hx : x = h.n
    · subst hx
      simp [bind1] at e
      subst e
      exact ⟨hN, by simp [AH.push], by simp, hbase⟩
    · have e' : ρ x = some q := by simpa [bind1, hx] using e
      obtain ⟨h1, h2, h3, h4⟩ := R.low x q e'
      exact ⟨h1, by simp [AH.push]; omega, by simp; omega, h4⟩
  · by_cases e : x = h.n
    · subst e
      rw [AH.get_push_new R.len]
      exact ⟨_, o', bind1_same _ _ _, alloc_at _ _, ho.mono hle⟩
    · rw [AH.get_push_old e] at hx ⊢
      obtain ⟨q, u, h1, h2, h3⟩ := R.row x hx
      have := (R.low _ _ h1).2.2.1
      exact ⟨q, u, hle _ _ h1, by rw [Below.heap_alloc _ _ _ this]; exact h2, h3.mono hle⟩
  · by_cases e1 : x = h.n
    · by_cases e2 : y = h.n
      · rw [e1, e2]
      · subst e1
        simp [bind1] at ex
        have ey' : ρ y = some q := by simpa [bind1, e2] using ey
        have := (R.low _ _ ey').2.2.1
        rw [← e, ← ex] at this
        simp at this
    · have ex' : ρ x = some p := by simpa [bind1, e1] using ex
      by_cases e2 : y = h.n
      · subst e2
        simp [bind1] at ey
        have := (R.low _ _ ex').2.2.1
        rw [e, ← ey] at this
        simp at this
      · have ey' : ρ y = some q := by simpa [bind1, e2] using ey
        rw [AH.get_push_old e1] at hx
        rw [AH.get_push_old e2] at hy
        exact R.inj x y p q hx hy ex' ey' e
  · exact R.below.alloc hbase _

/-- A row for which a place was held. -/
theorem Rel.fill (R : Rel P N W0 base ρ h W) {b : Nat} (hb : b < h.n) (hN : N ≤ b) (hnone : ρ b = none) {K sz : Nat} {o : AObj} {o' : Obj} (ho : OR P N ρ ⟨W.heap.size, K, sz⟩ o o') :
    ρ.le (bind1 ρ b ⟨W.heap.size, K, sz⟩) ∧ Rel P N W0 base (bind1 ρ b ⟨W.heap.size, K, sz⟩) (h.set b o) (W.alloc o') := by
  have hbase : base ≤ W.heap.size := Nat.le_trans R.bs R.below.size
  have hle : ρ.le (bind1 ρ b ⟨W.heap.size, K, sz⟩) := bind1_le hnone
  refine ⟨hle, by simp [AH.set_eq, R.len], fun x q e => ?_, fun x hx => ?_, fun x y p q hx hy ex ey e => ?_, ?_, R.hN, R.bs⟩
  · by_cases hx : x = b
    · subst hx
      simp [bind1] at e
      subst e
      exact ⟨hN, hb, by simp, hbase⟩
    · have e' : ρ x = some q := by simpa [bind1, hx] using e
      obtain ⟨h1, h2, h3, h4⟩ := R.low x q e'
      exact ⟨h1, h2, by simp; omega, h4⟩
  · by_cases e : x = b
    · subst e
      rw [AH.get_set_same R.len hb]
      exact ⟨_, o', bind1_same _ _ _, alloc_at _ _, ho.mono hle⟩
    · rw [AH.get_set_other R.len e hb] at hx ⊢
      obtain ⟨q, u, h1, h2, h3⟩ := R.row x hx
      have := (R.low _ _ h1).2.2.1
      exact ⟨q, u, hle _ _ h1, by rw [Below.heap_alloc _ _ _ this]; exact h2, h3.mono hle⟩
  · by_cases e1 : x = b
    · by_cases e2 : y = b
      · rw [e1, e2]
      · subst e1
        simp [bind1] at ex
        have ey' : ρ y = some q := by simpa [bind1, e2] using ey
        have := (R.low _ _ ey').2.2.1
        rw [← e, ← ex] at this
        simp at this
    · have ex' : ρ x = some p := by simpa [bind1, e1] using ex
      by_cases e2 : y = b
      · subst e2
        simp [bind1] at ey
        have := (R.low _ _ ex').2.2.1
        rw [e, ← ey] at this
        simp at this
      · have ey' : ρ y = some q := by simpa [bind1, e2] using ey
        rw [AH.get_set_other R.len e1 hb] at hx
        rw [AH.get_set_other R.len e2 hb] at hy
        exact R.inj x y p q hx hy ex' ey' e
  · exact R.below.alloc hbase _

/-- Dead rows more. -/
theorem Rel.dead (R : Rel P N W0 base ρ h W) : Rel P N W0 base ρ (h.push .dead) W := by
  have back : ∀ x, ((h.push .dead).get x).alive = true → x ≠ h.n ∧ (h.get x).alive = true := fun x hx => by
    by_cases e : x = h.n
    · subst e; rw [AH.get_push_new R.len] at hx; simp [AObj.alive] at hx
    · exact ⟨e, by rwa [AH.get_push_old e] at hx⟩
  refine ⟨by simp [AH.push, R.len], fun x q e => ?_, fun x hx => ?_, fun x y p q hx hy ex ey e => R.inj x y p q (back x hx).2 (back y hy).2 ex ey e, R.below, Nat.le_succ_of_le R.hN, R.bs⟩
  · obtain ⟨h1, h2, h3, h4⟩ := R.low x q e
    exact ⟨h1, by simp [AH.push]; omega, h3, h4⟩
  · rw [AH.get_push_old (back x hx).1]; exact R.row x (back x hx).2
theorem Rel.room (R : Rel P N W0 base ρ h W) : ∀ k, Rel P N W0 base ρ (h.room k) W
  | 0 => R
  | k + 1 => (Rel.room R k).dead
theorem AH.room_n : ∀ k, (h.room k).n = h.n + k
  | 0 => rfl
  | k + 1 => by simp [AH.room, AH.push, AH.room_n k]; omega
theorem AH.room_dead (hl : h.l.length = h.n) {b : Nat} (hb : h.n ≤ b) : ∀ k, (h.room k).get b = .dead
  | 0 => AH.get_ge (show ¬ b < h.n by omega)
  | k + 1 => by
    have hlen : ∀ k, (h.room k).l.length = (h.room k).n := fun k => by
      induction k with
      | zero => exact hl
      | succ k ih => simp [AH.room, AH.push, ih]
    by_cases e : b = (h.room k).n
    · subst e; exact AH.get_push_new (hlen k) _
    · exact (AH.get_push_old e _).trans (AH.room_dead hl hb k)
end
end Go.Proofs.YtgjddachhhmimaaGreatDoor.Ax
