import Derived.Test.YtgjddachhhmimaaGreatDoorAx14
set_option linter.unusedVariables false
set_option linter.unusedSimpArgs false
set_option linter.unnecessarySimpa false
set_option linter.all false
namespace Go.Proofs.YtgjddachhhmimaaGreatDoor.Ax
open Go.RowKit

section
variable {P : Program} {N : Nat} {W0 : World} {base : Nat} {ρ : Rho} {h : AH} {W : World}

/-- What a call of the small machine says of the model. -/
def CallSound (P : Program) (N : Nat) (W0 : World) (base : Nat) (f : FuncId) (args : List Value) (h : AH) (r : Value) (h' : AH) : Prop :=
  ∀ ρ W args', Rel P N W0 base ρ h W → VRL N ρ args args' → Calls P f ⟨args'⟩ W fun e W' => ∃ σ v, Ext h.n none ρ σ ∧ h.n ≤ h'.n ∧ e = .returned v ∧ VR N σ r v ∧ Rel P N W0 base σ h' W'

def CallOK (P : Program) (N : Nat) (W0 : World) (base : Nat) (call : FuncId → List Value → AH → Option (Value × AH)) : Prop :=
  ∀ f args h r h', call f args h = some (r, h') → CallSound P N W0 base f args h r h'

theorem wanted_sound {ops : Array Oper} {o : Oper} {t : List Value} {a : Act} (T : TR N ρ t a) {b : Bool} (e : aWanted ops o t = some b) : Region.wanted o (yielded ops a.tmps) = b := by
  unfold aWanted at e
  unfold Region.wanted
  split at e
  · rename_i hg
    simp only [hg]
    exact Option.some.inj e
  · rename_i j want hg
    simp only [hg]
    unfold yielded
    split at e
    · rename_i c hc
      cases e
      obtain ⟨d, hd, hv⟩ := Option.bind_eq_some_iff.1 hc
      obtain ⟨v', h1, h2⟩ := T.1.get ((nthR_eq _ _).symm.trans hv)
      have := h2.bool_inv
      subst this
      rw [hd]
      simp only [Option.bind_some]
      rw [← Array.getElem?_toList, h1]
      simp
    · rename_i hc
      cases e
      obtain ⟨d, hd, hv⟩ := Option.bind_eq_some_iff.1 hc
      obtain ⟨v', h1, h2⟩ := T.1.get ((nthR_eq _ _).symm.trans hv)
      obtain ⟨c', h3, h4⟩ := h2.tuple_inv
      subst h3
      rw [hd]
      simp only [Option.bind_some]
      rw [← Array.getElem?_toList, h1]
      rfl
    · cases e

theorem Ext.le {n : Nat} {ph : Option Nat} {σ : Rho} (h : Ext n ph ρ σ) : ρ.le σ := h.1
theorem Ext.trans {n m : Nat} {ph : Option Nat} {σ τ : Rho} (h : Ext n ph ρ σ) (hm : n ≤ m) (k : Ext m none σ τ) : Ext n ph ρ τ :=
  ⟨Rho.le_trans h.1 k.1, fun b hb hne => (k.2 b (by omega) (by simp)).trans (h.2 b hb hne)⟩

theorem stepA_sound {call : FuncId → List Value → AH → Option (Value × AH)} (hc : CallOK P N W0 base call) (R : Rel P N W0 base ρ h W) {t t' : List Value} {a : Act} (T : TR N ρ t a) {ops : Array Oper} {o : Oper}
    {ph : Option Nat} (hp : PH N ρ h ph) {h' : AH} (e : stepA P N call ops o ph t h = some (t', h')) {K : Act → World → Prop} {Q : Exit → Act → World → Prop}
    (hK : ∀ σ a' W', Ext h.n ph ρ σ → h.n ≤ h'.n → TR N σ t' a' → Rel P N W0 base σ h' W' → (∃ v, a'.tmps = (a.put o.dst v).tmps) → K a' W') :
    if Region.wanted o (yielded ops a.tmps) = true then o.wp P a W K Q else K (a.put o.dst undef) W := by
  unfold stepA at e
  split at e
  · rename_i hw
    rw [if_pos (wanted_sound T hw)]
    split at e
    · rename_i v h1 hop
      cases e
      have hs : ∀ cs b, o.op ≠ .select cs b := by
        intro cs b hh
        rw [opA_eq] at hop
        simp [opP, opR, opW, hh] at hop
      have key : WSound P N W0 base ρ h W ph (execOp a.eval o) v h' := by
        rw [opA_eq] at hop
        split at hop
        · rename_i u hu
          cases hop
          obtain ⟨v', h2, h3⟩ := opP_sound T R.lowN hs hu
          exact ⟨ρ, v', W, Ext.refl _ _ _, Nat.le_refl _, h2, R, .inl (h3 W)⟩
        · split at hop
          · rename_i u hu
            cases hop
            obtain ⟨v', h2, h3⟩ := opR_sound R T hu
            exact ⟨ρ, v', W, Ext.refl _ _ _, Nat.le_refl _, h2, R, .inl h3⟩
          · exact opW_val R T hs hp hop
      obtain ⟨σ, v', W', h2, h3, h4, h5, h6⟩ := key
      have hk := hK σ (a.put o.dst v') W' h2 h3 ((T.mono h2.1).put o.dst h4) h5 ⟨v', rfl⟩
      unfold Oper.wp
      rcases h6 with h6 | ⟨h6, h7⟩
      · rw [h6]; exact hk
      · subst h7; rw [h6]; exact hk
    · rename_i f args hop
      split at e
      · rename_i r h1 hcall
        cases e
        have hop' : opW P N o ph t h = some (.call f args) := by
          rw [opA_eq] at hop
          split at hop
          · cases hop
          · split at hop
            · cases hop
            · exact hop
        obtain ⟨args', h2, h3⟩ := opW_call R T hop'
        unfold Oper.wp
        rw [h3, Oper.upon_enter]
        refine (hc f args h r h' hcall ρ W args' R h2).mono fun en W' hh => ?_
        obtain ⟨σ, v, k1, k2, rfl, k3, k4⟩ := hh
        exact hK σ (a.put o.dst v) W' k1.none_of k2 ((T.mono k1.1).put o.dst k3) k4 ⟨v, rfl⟩
      · cases e
    · cases e
  · rename_i hw
    rw [if_neg (by rw [wanted_sound T hw]; simp)]
    cases e
    exact hK ρ _ W (Ext.refl _ _ _) (Nat.le_refl _) (T.put o.dst VR.undef) R ⟨_, rfl⟩
  · cases e

theorem lineA_sound {call : FuncId → List Value → AH → Option (Value × AH)} (hc : CallOK P N W0 base call) {ops : Array Oper} {Q : Exit → Act → World → Prop} :
    ∀ (l : List Oper) (k : Nat), l = ops.toList.drop k → ∀ {ρ : Rho} {h : AH} {W : World} {t t' : List Value} {a : Act} {h' : AH}, Rel P N W0 base ρ h W → TR N ρ t a → lineA P N call ops l t h = some (t', h') →
      (∀ σ a' W', Ext h.n none ρ σ → h.n ≤ h'.n → TR N σ t' a' → Rel P N W0 base σ h' W' → Q .normal a' W') → wpOps P ops Q (List.range' k l.length) a W
  | [], k, hl, ρ, h, W, t, t', a, h', R, T, e, hQ => by
    simp only [lineA] at e
    cases e
    exact hQ ρ a W (Ext.refl _ _ _) (Nat.le_refl _) T R
  | o :: r, k, hl, ρ, h, W, t, t', a, h', R, T, e, hQ => by
    have ho : ops[k]? = some o := by
      have : (ops.toList.drop k)[0]? = some o := by rw [← hl]; rfl
      rw [List.getElem?_drop] at this
      simpa using this
    have hr : r = ops.toList.drop (k + 1) := by
      have : (ops.toList.drop k).drop 1 = r := by rw [← hl]; rfl
      rw [List.drop_drop] at this
      exact this.symm
    simp only [lineA] at e
    split at e
    · rename_i t1 h1 hst
      simp only [List.length_cons, List.range'_succ]
      unfold wpOps
      simp only [ho]
      have hstep := stepA_sound hc R T (ph := none) (fun b hb => by cases hb) hst (K := wpOps P ops Q (List.range' (k + 1) r.length)) (Q := Q) (fun σ a' W' k1 k2 k3 k4 _ =>
        lineA_sound hc r (k + 1) hr k4 k3 e fun τ a2 W2 m1 m2 m3 m4 => hQ τ a2 W2 (k1.trans k2 m1) (Nat.le_trans k2 m2) m3 m4)
      by_cases hw : Region.wanted o (yielded ops a.tmps) = true
      · rw [if_pos hw] at hstep ⊢
        exact .inl hstep
      · rw [if_neg hw] at hstep ⊢
        exact hstep
    · cases e

def Region.noSel (ops : Array Oper) : Bool := Go.Region.noSelect ops

/-- What a code of the small machine says of the model. -/
def CodeSound (P : Program) (N : Nat) (W0 : World) (base : Nat) (c : Code) (t : List Value) (h : AH) (e : Exit) (t' : List Value) (h' : AH) : Prop :=
  ∀ ρ W (a : Act), Rel P N W0 base ρ h W → TR N ρ t a → ∀ Q : Exit → Act → World → Prop,
    (∀ σ a' W', Ext h.n none ρ σ → h.n ≤ h'.n → TR N σ t' a' → Rel P N W0 base σ h' W' → Q e a' W') → c.wp P Q a W
end
end Go.Proofs.YtgjddachhhmimaaGreatDoor.Ax
