import Derived.Test.YtgjddachhhmimaaGreatDoorAx17
set_option linter.unusedVariables false
set_option linter.unusedSimpArgs false
set_option linter.unnecessarySimpa false
set_option linter.all false
namespace Go.Proofs.YtgjddachhhmimaaGreatDoor.Ax
open Go.RowKit

section
variable {P : Program} {N : Nat} {W0 : World} {base : Nat}

/-- An entry of the small machine's list and what it says of the model. -/
def EntOK (P : Program) (N : Nat) (ops : Array Oper) (bf : Array Nat) (h : AH) (ρ : Rho) (x : Nat × Value × List Value) (e : Ent) : Prop :=
  ∃ (oi : Oper) (a0 : Act) (v0 : Value), ops[x.1]? = some oi ∧ aWanted ops oi x.2.2 = some true ∧ TR N ρ x.2.2 a0 ∧ VR N ρ x.2.1 v0 ∧ noE x.2.1 = true ∧ opR P N oi x.2.2 h = some x.2.1 ∧ e.D = descOf bf ops.size x.1 ∧
    e.H = fun W => (execOp a0.eval oi).run P W = .ok (.value v0) W

inductive EntsOK (P : Program) (N : Nat) (ops : Array Oper) (bf : Array Nat) (h : AH) (ρ : Rho) : List (Nat × Value × List Value) → List Ent → Prop
  | nil : EntsOK P N ops bf h ρ [] []
  | cons {x : Nat × Value × List Value} {e : Ent} {l : List (Nat × Value × List Value)} {E : List Ent} : EntOK P N ops bf h ρ x e → EntsOK P N ops bf h ρ l E → EntsOK P N ops bf h ρ (x :: l) (e :: E)

theorem EntsOK.mono {ops : Array Oper} {bf : Array Nat} {h0 : AH} {ρ σ : Rho} (h : ρ.le σ) : ∀ {l : List (Nat × Value × List Value)} {E : List Ent}, EntsOK P N ops bf h0 ρ l E → EntsOK P N ops bf h0 σ l E
  | _, _, .nil => .nil
  | _, _, .cons ⟨oi, a0, v0, h1, h2, h3, h4, h5⟩ r => .cons ⟨oi, a0, v0, h1, h2, h3.mono h, h4.mono h, h5⟩ (EntsOK.mono h r)

theorem nowR_spec {ops : Array Oper} {i : Nat} {t : List Value} {h : AH} {v : Value} (e : nowR P N ops i t h = some v) : ∃ o, ops[i]? = some o ∧ aWanted ops o t = some true ∧ opR P N o t h = some v := by
  unfold nowR at e; simp only [opRF_eq] at e
  split at e
  · cases e
  · rename_i o ho
    split at e
    · rename_i hw; exact ⟨o, ho, hw, e⟩
    · cases e

theorem store_far {call : FuncId → List Value → AH → Option (Value × AH)} {ops : Array Oper} {o : Oper} {ty : TypeId} {x y : Operand} {ph : Option Nat} {t t' : List Value} {h h' : AH} (hl : h.l.length = h.n) (ho : o.op = .store ty x y) {p : Addr} (hx : aev N t x = some (.pointer (some p)))
    (e : stepA P N call ops o ph t h = some (t', h')) {b : Nat} (hb : b ≠ p.block) : h'.get b = h.get b := by
  unfold stepA at e
  split at e
  · rw [opA_eq] at e
    simp only [opP, opR, opW, ho, hx] at e
    cases hv : aev N t y with
    | none => rw [hv] at e; simp at e
    | some v =>
      rw [hv] at e
      simp only at e
      cases hs : aStore P N h ty p v with
      | none => rw [hs] at e; simp at e
      | some h1 =>
        rw [hs] at e
        simp only [Option.bind_some] at e
        cases e
        unfold aStore at hs
        split at hs
        · split at hs
          · unfold putCells at hs
            split at hs
            · rename_i hg
              split at hs
              · cases hs
                exact AH.get_set_other hl hb (AH.lt_of_alive (by rw [hg]; rfl)) _
              · cases hs
            · cases hs
          · cases hs
        · cases hs
  · cases e; rfl
  · cases e

theorem load_far {o : Oper} {ty : TypeId} {y : Operand} {t : List Value} {h h' : AH} (ho : o.op = .load ty y) {q : Addr} (hy : aev N t y = some (.pointer (some q))) (hb : h'.get q.block = h.get q.block) : opR P N o t h' = opR P N o t h := by
  simp only [opR, ho, hy]
  unfold aLoad rowCells
  rw [hb]

theorem stillRead_sound {ops : Array Oper} {bf : Array Nat} {ρ : Rho} {h0 h : AH} {W : World} (hl : h0.l.length = h0.n) (R : Rel P N W0 base ρ h W) {j : Nat} {oj : Oper} {tj : List Value} (hoj : ops[j]? = some oj)
    {call : FuncId → List Value → AH → Option (Value × AH)} {ph : Option Nat} {t2 : List Value} (hst : stepA P N call ops oj ph tj h0 = some (t2, h)) :
    ∀ {l l' : List (Nat × Value × List Value)} {E : List Ent}, EntsOK P N ops bf h0 ρ l E → stillRead P N ops bf j tj h l = some l' → EntsOK P N ops bf h ρ l' (keepE j E) ∧ ∀ e ∈ keepE j E, e.H W := by
  intro l l' E hE
  induction hE generalizing l' with
  | nil =>
    intro hs
    simp only [stillRead] at hs
    cases hs
    exact ⟨.nil, fun e he => by simp [keepE] at he⟩
  | @cons x e l E hx hr ih =>
    intro hs
    obtain ⟨i, v, t⟩ := x
    obtain ⟨oi, a0, v0, h1, h2, h3, h4, h5, hnow, h6, h7⟩ := hx
    simp only [stillRead] at hs
    simp only at h1 h2 h3 h4 h5 h6 hnow
    split at hs
    · rename_i hD
      have hk : keepE j (e :: E) = keepE j E := by
        unfold keepE
        rw [List.filter_cons_of_neg]
        rw [h6]
        simp only [hD]
        simp
      rw [hk]
      exact ih hs
    · rename_i hD
      have hk : keepE j (e :: E) = e :: keepE j E := by
        unfold keepE
        rw [List.filter_cons_of_pos]
        rw [h6]
        simpa using hD
      have fin : opR P N oi t h = some v → ∀ l1, stillRead P N ops bf j tj h l = some l1 → EntsOK P N ops bf h ρ ((i, v, t) :: l1) (keepE j (e :: E)) ∧ ∀ e' ∈ keepE j (e :: E), e'.H W := by
        intro hnew l1 h8
        obtain ⟨k1, k2⟩ := ih h8
        rw [hk]
        refine ⟨.cons ⟨oi, a0, v0, h1, h2, h3, h4, h5, hnew, h6, h7⟩ k1, fun e' he' => ?_⟩
        rcases List.mem_cons.1 he' with rfl | he'
        · obtain ⟨v1, m4, m5⟩ := opR_sound R h3 hnew
          have hd := VR.det R.lowN h4 h5 m4
          subst hd
          rw [h7]
          exact m5
        · exact k2 e' he'
      split at hs
      · rename_i hfar
        simp only [Option.bind_eq_some_iff] at hs
        obtain ⟨l1, h8, h9⟩ := hs
        cases h9
        refine fin ?_ l1 h8
        unfold farStore at hfar
        rw [hoj, h1] at hfar
        simp only at hfar
        split at hfar
        · rename_i hjs hil
          split at hfar
          · rename_i p q hx hy
            have hne : p.block ≠ q.block := by simpa using hfar
            rw [load_far hil hy (store_far hl hjs hx hst (Ne.symm hne))]
            exact hnow
          · cases hfar
        · cases hfar
      · split at hs
        · rename_i v' hv'
          split at hs
          · rename_i hveq
            simp only [Option.bind_eq_some_iff] at hs
            obtain ⟨l1, h8, h9⟩ := hs
            cases h9
            obtain ⟨o, m1, m2, m3⟩ := nowR_spec hv'
            rw [h1] at m1; cases m1
            have := veq_eq _ _ hveq
            subst this
            exact fin m3 l1 h8
          · cases hs
        · cases hs

theorem descOk_spec {ops : Array Oper} {listed : Array Bool} {i : Nat} {D : List Bool} (hl : D.length = ops.size) (h : descOk ops listed i D = true) :
    (∀ j, D.getD j false = true → listed.getD j false = false) ∧ (∀ j, D.getD j false = true → j ≠ i → ∃ oj, ops[j]? = some oj ∧ ∃ e ∈ oj.after, Region.binds .any e = true ∧ D.getD e.on false = true) := by
  have key : ∀ j, D.getD j false = true → listed.getD j true = false ∧ (j ≠ i → ∃ oj, ops[j]? = some oj ∧ ∃ e ∈ oj.after, Region.binds .any e = true ∧ D.getD e.on false = true) := fun j hj => by
    have hlt : j < ops.size := by
      rcases Nat.lt_or_ge j D.length with h' | h'
      · omega
      · rw [List.getD_eq_getElem?_getD, List.getElem?_eq_none h'] at hj; cases hj
    unfold descOk at h
    have h1 := List.all_eq_true.1 h j (List.mem_range.2 hlt)
    rw [hj] at h1
    simp only [Bool.not_true, Bool.false_or, Bool.and_eq_true, Bool.not_eq_true', Bool.or_eq_true, beq_iff_eq] at h1
    refine ⟨h1.1, fun hne => ?_⟩
    have h2 := h1.2.resolve_left hne
    split at h2
    · rename_i o ho
      obtain ⟨e, he, hb⟩ := Array.any_eq_true'.1 h2
      simp only [Bool.and_eq_true] at hb
      exact ⟨o, ho, e, he, hb.1, hb.2⟩
    · cases h2
  refine ⟨fun j hj => ?_, fun j hj => (key j hj).2⟩
  have := (key j hj).1
  rw [Array.getD_eq_getD_getElem?] at this ⊢
  cases hg : listed[j]? with
  | none => rfl
  | some b => rw [hg] at this; exact this

theorem anyA_sound {call : FuncId → List Value → AH → Option (Value × AH)} (hc : CallOK P N W0 base call) {ops : Array Oper} (hns : Go.Region.noSelect ops = true) (bf : Array Nat) (rb : Nat) (hrb : N ≤ rb) :
    ∀ (k : Nat) (listed : Array Bool) (l : List (Nat × Value × List Value)) (t : List Value) (h : AH) (t' : List Value) (h' : AH), anyA P N call ops bf rb k listed l t h = some (t', h') →
    ∀ (ρ : Rho) (W : World) (a : Act) (E : List Ent), Rel P N W0 base ρ h W → TR N ρ t a → rb + ops.size ≤ h.n → (∀ i, i < ops.size → listed.getD i true = false → ρ (rb + i) = none) → EntsOK P N ops bf h ρ l E → (∀ e ∈ E, e.H W) →
    ∀ (Q : Exit → Act → World → Prop), (∀ c a w, ¬ Q (.panic c) a w) → (∀ σ a' W', ρ.le σ → (∀ b, b < rb → σ b = ρ b) → h.n ≤ h'.n → TR N σ t' a' → Rel P N W0 base σ h' W' → Q .normal a' W') →
    wpAnyE P ops Q k listed E a W := by
  intro k
  induction k with
  | zero =>
    intro listed l t h t' h' e ρ W a E R T hn hph hE hH Q hQ hq
    simp only [anyA] at e
    split at e
    · rename_i hr
      cases e
      exact ⟨List.isEmpty_iff.1 hr, hq ρ a W ρ.le_refl (fun _ _ => rfl) (Nat.le_refl _) T R⟩
    · cases e
  | succ k ih =>
    intro listed l t h t' h' e ρ W a E R T hn hph hE hH Q hQ hq
    have hselO : ∀ (j : Nat) (o : Oper) cs b, ops[j]? = some o → o.op ≠ .select cs b := fun j o cs b ho => Region.noSelect_spec hns j o cs b ho
    have hph' : ∀ i, ∀ j, j < ops.size → (listed.setIfInBounds i true).getD j true = false → ρ (rb + j) = none := fun i j hj hu => by
      by_cases hij : i = j
      · subst hij
        rw [Array.getD_eq_getD_getElem?] at hu
        rcases Nat.lt_or_ge i listed.size with h1 | h1
        · simp [h1] at hu
        · rw [Array.getElem?_eq_none (by simpa using h1)] at hu; cases hu
      · rw [getD_set_ne true hij] at hu; exact hph j hj hu
    simp only [anyA] at e
    split at e
    · rename_i hr
      cases e
      exact ⟨fun _ => hq ρ a W ρ.le_refl (fun _ _ => rfl) (Nat.le_refl _) T R, by rw [hr]; simp⟩
    · rename_i r rs hr
      split at e
      · -- a step that needs no memory
        rename_i i hfind
        have hmem := List.mem_of_find?_eq_some hfind
        have hprop := List.find?_some hfind
        simp only [Bool.and_eq_true] at hprop
        split at e
        · rename_i v hv
          unfold nowP at hv; simp only [opPF_eq] at hv
          split at hv
          · cases hv
          · rename_i oi hoi
            have hput : (ops[i]?).bind (·.dst) = oi.dst := by rw [hoi]; rfl
            rw [hput] at e
            have key : ∃ v' X b, VR N ρ v v' ∧ Same ops oi X b a ∧ ∀ w : World, True → (b = true ∧ X.run P w = .ok (.value v') w) ∨ (b = false ∧ v' = undef) := by
              split at hv
              · rename_i hw
                obtain ⟨v', h1, h2⟩ := opP_sound T R.lowN (fun cs b => hselO i oi cs b hoi) hv
                exact ⟨v', _, _, h1, ⟨rfl, rfl⟩, fun w _ => .inl ⟨wanted_sound T hw, h2 w⟩⟩
              · rename_i hw
                cases hv
                exact ⟨undef, _, _, VR.undef, ⟨rfl, rfl⟩, fun w _ => .inr ⟨wanted_sound T hw, rfl⟩⟩
              · cases hv
            obtain ⟨v', X, b, hvr, hS, hHH⟩ := key
            have hrec := ih (listed.setIfInBounds i true) l (putT t oi.dst v) h t' h' e ρ W (a.put oi.dst v') E R (T.put oi.dst hvr) hn (hph' i) hE hH Q hQ hq
            exact firstE (D := []) (H := fun _ => True) hoi hselO hQ hHH (fun j hj => by simp at hj) k listed E a W (fun j hj => by simp at hj)
              (Region.free_spec hoi hprop.2) (by rw [hr]; exact hmem) hS trivial hH hrec.always
        · cases e
      · split at e
        · -- a read
          rename_i i hfind
          have hmem := List.mem_of_find?_eq_some hfind
          have hprop := List.find?_some hfind
          simp only [Bool.and_eq_true] at hprop
          split at e
          · rename_i v hv
            have hno : noE v = true := by have := hprop.1.1; rw [hv] at this; exact this
            obtain ⟨oi, hoi, hw, hop⟩ := nowR_spec hv
            have hput : (ops[i]?).bind (·.dst) = oi.dst := by rw [hoi]; rfl
            rw [hput] at e
            obtain ⟨v', hvr, hrun⟩ := opR_sound R T hop
            obtain ⟨hD1, hD2⟩ := descOk_spec (by simp [descOf]) hprop.2
            have hent : EntOK P N ops bf h ρ (i, v, t) ⟨descOf bf ops.size i, fun W => (execOp a.eval oi).run P W = .ok (.value v') W⟩ := ⟨oi, a, v', hoi, hw, T, hvr, hno, hop, rfl, rfl⟩
            have hrec := ih (listed.setIfInBounds i true) ((i, v, t) :: l) (putT t oi.dst v) h t' h' e ρ W (a.put oi.dst v') (⟨descOf bf ops.size i, fun W => (execOp a.eval oi).run P W = .ok (.value v') W⟩ :: E) R
              (T.put oi.dst hvr) hn (hph' i) (.cons hent hE) (fun e' he' => by
                rcases List.mem_cons.1 he' with rfl | he'
                · exact hrun
                · exact hH e' he') Q hQ hq
            exact firstE (X := execOp a.eval oi) (b := true) hoi hselO hQ (fun w hw' => .inl ⟨rfl, hw'⟩) hD2 k listed E a W hD1
              (Region.free_spec hoi hprop.1.2) (by rw [hr]; exact hmem) ⟨rfl, wanted_sound T hw⟩ hrun hH hrec
          · cases e
        · -- all that are ready
          split at e
          · cases e
          · rename_i s hs
            split at e
            · rename_i hall
              cases e
              have hgo : ∀ i ∈ r :: rs, (match ops[i]? with
                  | none => none
                  | some o => match stepA P N call ops o (some (rb + i)) t h with
                    | some (t2, h2) => match stillRead P N ops bf i t h2 l with
                      | some E' => anyA P N call ops bf rb k (listed.setIfInBounds i true) E' t2 h2
                      | none => none
                    | none => none) = some (t', h') := by
                intro i hi
                rcases List.mem_cons.1 hi with rfl | hi
                · exact hs
                · have h1 := List.all_eq_true.1 hall i hi
                  split at h1
                  · rename_i s' hs'
                    rw [steq_eq h1]
                    exact hs'
                  · cases h1
              refine ⟨fun h0 => (by rw [hr] at h0; cases h0), fun i hi => ?_⟩
              rw [hr] at hi
              have hg := hgo i hi
              split at hg
              · cases hg
              · rename_i o ho
                split at hg
                · rename_i t2 h2 hst
                  split at hg
                  · rename_i l2 hl2
                    have hilt : i < ops.size := (Array.getElem?_eq_some_iff.1 ho).1
                    have hiun : listed.getD i true = false := (mem_ready.1 (by rw [hr]; exact hi)).1
                    have hp : PH N ρ h (some (rb + i)) := fun b hb => by
                      cases hb
                      exact ⟨by omega, by omega, hph i hilt hiun⟩
                    have hstep := stepA_sound hc R T hp hst (K := fun a' w' => (∀ e ∈ keepE i E, e.H w') ∧ wpAnyE P ops Q k (listed.setIfInBounds i true) (keepE i E) a' w') (Q := Q) (fun σ a' W' k1 k2 k3 k4 _ => by
                      obtain ⟨m1, m2⟩ := stillRead_sound R.len k4 ho hst (hE.mono k1.1) hl2
                      refine ⟨m2, ih (listed.setIfInBounds i true) l2 t2 h2 t' h' hg σ W' a' (keepE i E) k4 k3 (by omega) (fun j hj hu => ?_) m1 m2 Q hQ fun τ a2 W2 n1 n2 n3 n4 n5 => ?_⟩
                      · have hne : i ≠ j := fun hij => by
                          subst hij
                          rw [Array.getD_eq_getD_getElem?] at hu
                          rcases Nat.lt_or_ge i listed.size with h1 | h1
                          · simp [h1] at hu
                          · rw [Array.getElem?_eq_none (by simpa using h1)] at hu; cases hu
                        rw [getD_set_ne true hne] at hu
                        rw [k1.2 (rb + j) (by omega) (fun hh => hne (by injection hh with hh; omega))]
                        exact hph j hj hu
                      · exact hq τ a2 W2 (Rho.le_trans k1.1 n1) (fun b hb => (n2 b hb).trans (k1.2 b (by omega) (fun hh => by injection hh with hh; omega))) (Nat.le_trans k2 n3) n4 n5)
                    unfold wpOp
                    simp only [ho]
                    by_cases hw : Region.wanted o (yielded ops a.tmps) = true
                    · rw [if_pos hw] at hstep ⊢
                      exact .inl hstep
                    · rw [if_neg hw] at hstep ⊢
                      exact hstep
                  · cases hg
                · cases hg
            · cases e

theorem anyOK (hmo : P.follows .mixedOrders = true) (call : FuncId → List Value → AH → Option (Value × AH)) (hc : CallOK P N W0 base call) : AnyOK P N W0 base call := by
  intro id ops t h t' h' hns e ρ W a R T Q hQ
  refine wp_mono (Q := fun e' a' W' => e' = .normal ∧ Q .normal a' W') ?_ (fun e' a' W' hh => by rw [hh.1]; exact hh.2)
  refine wp_region_any hmo (wpAnyE.sound _ (E := []) ?_)
  have R1 : Rel P N W0 base ρ h { W with drawn := W.drawn + 1 } := R.drew _ rfl rfl rfl rfl
  have hnn : ∀ i, ρ (h.n + i) = none := fun i => by
    cases hh : ρ (h.n + i) with
    | none => rfl
    | some q => have := (R.low _ _ hh).2.1; omega
  refine anyA_sound hc hns (Go.Region.before ops) h.n R.hN ops.size _ [] t (h.room ops.size) t' h' e ρ _ a [] (R1.room _) T (by rw [AH.room_n]; exact Nat.le_refl _) (fun i _ _ => hnn i) .nil (fun e he => by cases he) _ (fun c a w hh => by cases hh.1) ?_
  intro σ a' W' k1 k2 k3 k4 k5
  rw [AH.room_n] at k3
  exact ⟨rfl, hQ σ a' W' ⟨k1, fun b hb _ => k2 b hb⟩ (by omega) k4 k5⟩
end
end Go.Proofs.YtgjddachhhmimaaGreatDoor.Ax
