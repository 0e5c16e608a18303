import Derived.Test.YtgjddachhhmimaaGreatDoorAx4
set_option linter.unusedVariables false
set_option linter.unusedSimpArgs false
set_option linter.unnecessarySimpa false
set_option linter.all false
namespace Go.Proofs.YtgjddachhhmimaaGreatDoor.Ax
open Go.RowKit

section
variable {P : Program} {N : Nat} {ρ : Rho}

theorem pv_run {α : Type} {s : Sem α} {a : α} (h : pv P s = some a) (W : World) : s.run P W = .ok a W := by
  induction s with
  | pure x => simp [pv] at h; subst h; rfl
  | program k ih => simp only [pv] at h; simp only [Sem.run]; exact ih _ h
  | mark m k ih => simp only [pv] at h; simp only [Sem.run]; exact ih h
  | _ => simp [pv] at h

theorem pv_bind {α β : Type} (s : Sem α) (f : α → Sem β) : pv P (s.bind f) = (pv P s).bind fun a => pv P (f a) := by
  induction s with
  | pure x => rfl
  | program k ih => simp only [Sem.bind, pv]; exact ih P
  | mark m k ih => simp only [Sem.bind, pv]; exact ih
  | _ => rfl
theorem pv_bind' {α β : Type} (s : Sem α) (f : α → Sem β) : pv P (s >>= f) = (pv P s).bind fun a => pv P (f a) := pv_bind s f
theorem pv_pure {α : Type} (a : α) : pv P (pure a : Sem α) = some a := rfl
theorem pv_pure' {α : Type} (a : α) : pv P (Sem.pure a) = some a := rfl
theorem pv_stuck {α : Type} (w : String) : pv P (stuck w : Sem α) = none := rfl
theorem pv_unsupported {α : Type} (w : Unsupported) : pv P (unsupported w : Sem α) = none := rfl
theorem pv_program : pv P program = some P := rfl
theorem pv_underlying (t : TypeId) : pv P (underlying t) = P.underlying t := by
  unfold underlying
  rw [pv_bind', pv_program]
  simp only [Option.bind_some]
  cases P.underlying t <;> rfl
theorem pv_typeInfo (t : TypeId) : pv P (typeInfo t) = P.info? t := by
  unfold typeInfo
  rw [pv_bind', pv_program]
  simp only [Option.bind_some]
  cases P.info? t <;> rfl
theorem pv_zeroValue (t : TypeId) : pv P (zeroValue t) = (P.info? t).bind (·.zero) := by
  unfold zeroValue
  rw [pv_bind', pv_typeInfo]
  cases P.info? t with
  | none => rfl
  | some i => simp only [Option.bind_some]; cases i.zero <;> rfl
theorem pv_sizeOf (t : TypeId) : pv P (sizeOf t) = (P.info? t).map (·.size) := by
  unfold sizeOf
  rw [pv_bind', pv_typeInfo]
  cases P.info? t <;> rfl

/-- The slots of an act. -/
def TR (N : Nat) (ρ : Rho) (t : List Value) (a : Act) : Prop := VRL N ρ t a.tmps.toList ∧ a.defers = []

theorem TR.mono {σ : Rho} (e : ρ.le σ) {t : List Value} {a : Act} (h : TR N ρ t a) : TR N σ t a := ⟨h.1.mono e, h.2⟩
theorem TR.put {t : List Value} {a : Act} (h : TR N ρ t a) (d : Option Tmp) {v v' : Value} (hv : VR N ρ v v') : TR N ρ (putT t d v) (a.put d v') := by
  cases d with
  | none => exact h
  | some d => exact ⟨by simpa [putT, setR_eq, Act.put] using h.1.set hv d, h.2⟩
theorem VR.undef : VR N ρ undef undef := .rig rfl

theorem aev_sound {t : List Value} {a : Act} (h : TR N ρ t a) {x : Operand} {v : Value} (e : aev N t x = some v) : VR N ρ v (a.eval x) := by
  cases x with
  | tmp i =>
    obtain ⟨v', h1, h2⟩ := h.1.get (by simpa [aev, nthR_eq] using e)
    have : a.eval (.tmp i) = v' := by
      simp only [Act.eval, Array.getD_eq_getD_getElem?]
      rw [← Array.getElem?_toList, h1]; rfl
    rw [this]; exact h2
  | const c =>
    simp only [aev] at e
    split at e
    · cases e; exact .rig (by assumption)
    · cases e
  | global g =>
    simp only [aev] at e
    split at e
    · cases e
      refine .rig ?_
      simp [rigid, rigidA]; assumption
    · cases e
  | func f =>
    simp only [aev] at e
    cases e
    exact .rig rfl

theorem aevs_sound {t : List Value} {a : Act} (h : TR N ρ t a) : ∀ {l : List Operand} {vs : List Value}, aevs N t l = some vs → VRL N ρ vs (l.map a.eval)
  | [], vs, e => by simp [aevs] at e; subst e; exact .nil
  | x :: r, vs, e => by
    simp only [aevs, Option.bind_eq_some_iff] at e
    obtain ⟨v, h1, ws, h2, h3⟩ := e
    cases h3
    exact .cons (aev_sound h h1) (aevs_sound h h2)

theorem aevs_mem {t : List Value} : ∀ {l : List Operand} {vs : List Value}, aevs N t l = some vs → ∀ x ∈ l, ∃ v, aev N t x = some v ∧ v ∈ vs
  | [], vs, e, x, hx => by cases hx
  | y :: r, vs, e, x, hx => by
    simp only [aevs, Option.bind_eq_some_iff] at e
    obtain ⟨v, h1, ws, h2, h3⟩ := e
    cases h3
    rcases List.mem_cons.1 hx with rfl | hx
    · exact ⟨v, h1, List.mem_cons_self ..⟩
    · obtain ⟨u, h3, h4⟩ := aevs_mem h2 x hx
      exact ⟨u, h3, List.mem_cons_of_mem _ h4⟩

theorem rigids_mem : ∀ {l : List Value}, rigids N l = true → ∀ v ∈ l, rigid N v = true
  | [], _, v, hv => by cases hv
  | u :: r, h, v, hv => by
    simp only [rigids, Bool.and_eq_true] at h
    rcases List.mem_cons.1 hv with rfl | hv
    · exact h.1
    · exact rigids_mem h.2 v hv

theorem allRigid_sound {t : List Value} {a : Act} (h : TR N ρ t a) (hl : ∀ b r, ρ b = some r → N ≤ b) {l : List Operand} (e : allRigid N t l = true) :
    ∀ x ∈ l, a.eval x = (aev N t x).getD undef := by
  intro x hx
  unfold allRigid at e
  split at e
  · rename_i vs hvs
    obtain ⟨v, h1, h2⟩ := aevs_mem hvs x hx
    have h3 := (aev_sound h h1).eq_of_rigid hl (rigids_mem e v h2)
    rw [h3, h1]; rfl
  · cases e

theorem run_value {s : Sem Value} {v : Value} {W W' : World} (h : s.run P W = .ok v W') : ((do pure (.value (← s)) : Sem Next)).run P W = .ok (.value v) W' := by
  simp only [Sem.run_bind, h, Result.andThen_ok, Sem.run_pure]

theorem generic_sound {t : List Value} {a : Act} (h : TR N ρ t a) (hl : ∀ b r, ρ b = some r → N ≤ b) {o : Oper} (hs : ∀ cs b, o.op ≠ .select cs b) {v : Value} (e : generic P N o t = some v) :
    VR N ρ v v ∧ ∀ W, (execOp a.eval o).run P W = .ok (.value v) W := by
  unfold generic at e
  split at e
  · rename_i hr
    split at e
    · rename_i u hu
      split at e
      · cases e
        refine ⟨.rig (by assumption), fun W => ?_⟩
        rw [execOp_congr o hs (fun x hx => allRigid_sound h hl hr x (by simpa using hx))]
        exact pv_run hu W
      · cases e
    · cases e
  · cases e
end
end Go.Proofs.YtgjddachhhmimaaGreatDoor.Ax
