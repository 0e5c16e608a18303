import Derived.Test.YtgjddachhhmimaaGreatDoorAx5
set_option linter.unusedVariables false
set_option linter.unusedSimpArgs false
set_option linter.unnecessarySimpa false
set_option linter.all false
namespace Go.Proofs.YtgjddachhhmimaaGreatDoor.Ax
open Go.RowKit

section
variable {P : Program} {N : Nat} {ρ : Rho}

/-- Parts of a build. -/
inductive PR (N : Nat) (ρ : Rho) : List (Nat × Value) → List (Nat × Value) → Prop
  | nil : PR N ρ [] []
  | cons {i : Nat} {v v' : Value} {l l' : List (Nat × Value)} : VR N ρ v v' → PR N ρ l l' → PR N ρ ((i, v) :: l) ((i, v') :: l')

theorem aParts_sound {t : List Value} {a : Act} (h : TR N ρ t a) : ∀ {l : List (Nat × Operand)} {ps : List (Nat × Value)}, aParts N t l = some ps → PR N ρ ps (l.map fun p => (p.1, a.eval p.2))
  | [], ps, e => by simp [aParts] at e; subst e; exact .nil
  | (i, x) :: r, ps, e => by
    simp only [aParts, Option.bind_eq_some_iff] at e
    obtain ⟨v, h1, ws, h2, h3⟩ := e
    cases h3
    exact .cons (aev_sound h h1) (aParts_sound h h2)

theorem foldl_set (off : Nat) : ∀ {l l' : List Value} (k : Nat) {c c' : Array Value}, VRL N ρ l l' → VRL N ρ c.toList c'.toList →
    VRL N ρ ((l.zipIdx k).foldl (fun (cs : Array Value) p => cs.setIfInBounds (off + p.2) p.1) c).toList ((l'.zipIdx k).foldl (fun (cs : Array Value) p => cs.setIfInBounds (off + p.2) p.1) c').toList
  | _, _, k, c, c', .nil, hc => by simpa using hc
  | _, _, k, c, c', .cons hv hr, hc => by
    simp only [List.zipIdx_cons, List.foldl_cons]
    exact foldl_set off (k + 1) hr (by simpa using hc.set hv (off + k))

theorem fill_sound (place : Nat → Option (Nat × Nat)) : ∀ {ps ps' : List (Nat × Value)}, PR N ρ ps ps' → ∀ {c c' out : Array Value}, VRL N ρ c.toList c'.toList → Instr.fill place c ps = some out →
    ∃ out', Instr.fill place c' ps' = some out' ∧ VRL N ρ out.toList out'.toList
  | _, _, .nil, c, c', out, hc, e => by
    simp only [Instr.fill] at e
    cases e
    exact ⟨c', rfl, hc⟩
  | _, _, .cons (i := i) (v := v) (v' := v') hv hr, c, c', out, hc, e => by
    simp only [Instr.fill] at e ⊢
    cases hp : place i with
    | none => simp [hp] at e
    | some p =>
      obtain ⟨off, size⟩ := p
      simp only [hp] at e ⊢
      have hs : v'.cells.size = v.cells.size := by simpa using hv.cells.length.symm
      have hcs : c'.size = c.size := by simpa using hc.length.symm
      rw [hs, hcs]
      split at e
      · cases e
      · rename_i hcond
        rw [if_neg hcond]
        refine fill_sound place hr ?_ e
        have h1 := foldl_set (N := N) (ρ := ρ) off 0 hv.cells hc
        have h2 : ∀ (x : Array Value) (z : Array Value), x.zipIdx.foldl (fun (cs : Array Value) (p : Value × Nat) => cs.setIfInBounds (off + p.2) p.1) z = (x.toList.zipIdx 0).foldl (fun (cs : Array Value) p => cs.setIfInBounds (off + p.2) p.1) z := by
          intro x z
          rw [← Array.foldl_toList, Array.toList_zipIdx]
        rw [← h2, ← h2] at h1
        exact h1

theorem pv_mapM {α β : Type} (f : α → Sem β) (g : α → Option β) (hf : ∀ a, pv P (f a) = g a) (l : List α) : pv P (l.mapM f) = l.mapM g := by
  induction l with
  | nil => rfl
  | cons x r ih =>
    rw [List.mapM_cons, List.mapM_cons, pv_bind', hf]
    cases g x with
    | none => rfl
    | some y =>
      simp only [Option.bind_some]
      show pv P (do let ys ← List.mapM f r; pure (y :: ys)) = (do let ys ← List.mapM g r; pure (y :: ys))
      rw [pv_bind', ih]
      cases List.mapM g r <;> rfl

theorem zeroOf_spec {t : TypeId} {z : Value} (h : zeroOf P N t = some z) : (P.info? t).bind (·.zero) = some z ∧ rigid N z = true := by
  unfold zeroOf at h
  split at h
  · split at h
    · cases h; exact ⟨by assumption, by assumption⟩
    · cases h
  · cases h

theorem build_sound {ty : TypeId} {ps ps' : List (Nat × Value)} (hp : PR N ρ ps ps') {z v : Value} (hz : zeroOf P N ty = some z) (e : pv P (Instr.build ty ⟨ps⟩) = some v) :
    ∃ v', VR N ρ v v' ∧ ∀ W, (Instr.build ty ⟨ps'⟩).run P W = .ok v' W := by
  obtain ⟨hz1, hz2⟩ := zeroOf_spec hz
  suffices h : ∃ v', VR N ρ v v' ∧ pv P (Instr.build ty ⟨ps'⟩) = some v' by
    obtain ⟨v', h1, h2⟩ := h
    exact ⟨v', h1, fun W => pv_run h2 W⟩
  have hzc : VRL N ρ z.cells.toList z.cells.toList := (VR.rig hz2).cells
  unfold Instr.build at e ⊢
  rw [pv_bind', pv_zeroValue, hz1] at e ⊢
  simp only [Option.bind_some] at e ⊢
  rw [pv_bind', pv_underlying] at e ⊢
  cases hd : P.underlying ty with
  | none => simp [hd] at e
  | some d =>
    simp only [hd, Option.bind_some] at e ⊢
    cases d with
    | struct fields =>
      simp only [] at e ⊢
      rw [pv_bind'] at e ⊢
      cases hm : pv P (Array.mapM (fun f => do pure (f.offset, ← sizeOf f.type)) fields) with
      | none => rw [hm] at e; simp at e
      | some places =>
        rw [hm] at e
        simp only [Option.bind_some] at e ⊢
        cases hf : Instr.fill (fun x => places[x]?) z.cells ps with
        | none => rw [hf] at e; simp [pv_stuck] at e
        | some out =>
          rw [hf] at e
          simp only [pv_pure] at e
          obtain ⟨out', h1, h2⟩ := fill_sound _ hp hzc hf
          rw [h1]
          cases e
          exact ⟨_, .agg h2, rfl⟩
    | array n el =>
      simp only [] at e ⊢
      rw [pv_bind', pv_sizeOf] at e ⊢
      cases hm : P.info? el with
      | none => simp [hm] at e
      | some i =>
        simp only [hm, Option.map_some, Option.bind_some] at e ⊢
        cases hf : Instr.fill (fun j => some (j * i.size, i.size)) z.cells ps with
        | none => rw [hf] at e; simp [pv_stuck] at e
        | some out =>
          rw [hf] at e
          simp only [pv_pure] at e
          obtain ⟨out', h1, h2⟩ := fill_sound _ hp hzc hf
          rw [h1]
          cases e
          exact ⟨_, .agg h2, rfl⟩
    | _ => simp [pv_stuck] at e

theorem pv_map {α β : Type} (f : α → β) (s : Sem α) : pv P (f <$> s) = (pv P s).map f := by
  have : (f <$> s) = s.bind (fun a => Sem.pure (f a)) := rfl
  rw [this, pv_bind]
  cases pv P s <;> rfl

theorem typeAssert_sound {v v' : Value} (hv : VR N ρ v v') {xT asT : TypeId} {ok : Bool} {z r : Value} (hz : zeroOf P N asT = some z) (e : aAssert P z v asT ok = some r) :
    ∃ r', VR N ρ r r' ∧ ∀ W, (Instr.typeAssert v' xT asT ok).run P W = .ok r' W := by
  obtain ⟨hz1, hz2⟩ := zeroOf_spec hz
  suffices h : ∃ r', VR N ρ r r' ∧ pv P (Instr.typeAssert v' xT asT ok) = some r' by
    obtain ⟨r', h1, h2⟩ := h
    exact ⟨r', h1, fun W => pv_run h2 W⟩
  have hold : ∀ {u u' : Value}, VR N ρ u u' → VR N ρ (if ok = true then Value.tuple #[u, .bool true] else u) (if ok = true then Value.tuple #[u', .bool true] else u') := by
    intro u u' hu
    cases ok
    · simpa using hu
    · exact .tuple (.cons hu (.cons (.rig rfl) .nil))
  have hzt : VR N ρ (Value.tuple #[z, .bool false]) (Value.tuple #[z, .bool false]) := .tuple (.cons (.rig hz2) (.cons (.rig rfl) .nil))
  have hzv : pv P (zeroValue asT) = some z := by rw [pv_zeroValue, hz1]
  unfold aAssert at e
  cases v with
  | nilIface =>
    have : v' = .nilIface := by cases hv; rfl
    subst this
    simp only at e
    cases hd : P.underlying asT with
    | none => simp [hd] at e
    | some d =>
      cases ok
      · simp [hd] at e
      · simp [hd] at e
        subst e
        refine ⟨_, hzt, ?_⟩
        unfold Instr.typeAssert
        rw [pv_bind', pv_underlying, hd]
        cases d <;> simp [pv_map, hzv]
  | iface t u =>
    obtain ⟨u', rfl, hu⟩ := hv.iface_inv
    simp only at e
    cases hd : P.underlying asT with
    | none => simp [hd] at e
    | some d =>
      unfold Instr.typeAssert
      rw [pv_bind', pv_underlying, hd]
      simp only [Option.bind_some]
      by_cases hi : ∃ want, d = .interface want
      · obtain ⟨want, rfl⟩ := hi
        simp only [hd] at e
        simp only []
        rw [pv_bind', pv_typeInfo]
        cases hi : P.info? t with
        | none => simp [hi] at e
        | some inf =>
          simp only [hi] at e
          simp only [Option.bind_some]
          cases hm : Instr.missingMethod want inf.methods with
          | none =>
            simp only [hm] at e
            cases e
            exact ⟨_, hold (.iface hu), rfl⟩
          | some m =>
            simp only [hm] at e
            cases ok
            · simp at e
            · simp at e
              subst e
              exact ⟨_, hzt, by simp [pv_map, hzv]⟩
      · have e' : (if t = asT then some (if ok = true then Value.tuple #[u, .bool true] else u) else if ok = true then some (.tuple #[z, .bool false]) else none) = some r := by
          cases d <;> first | (exfalso; exact hi ⟨_, rfl⟩) | simpa [hd] using e
        by_cases ht : t = asT
        · rw [if_pos ht] at e'
          cases e'
          refine ⟨_, hold hu, ?_⟩
          cases d <;> first | (exfalso; exact hi ⟨_, rfl⟩) | (simp only [ht, if_true]; rfl)
        · rw [if_neg ht] at e'
          cases ok
          · simp at e'
          · simp at e'
            subst e'
            refine ⟨_, hzt, ?_⟩
            cases d <;> first | (exfalso; exact hi ⟨_, rfl⟩) | simp [ht, pv_map, hzv]
  | _ => simp at e
end
end Go.Proofs.YtgjddachhhmimaaGreatDoor.Ax
