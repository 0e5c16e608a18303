import Derived.Test.YtgjddachhhmimaaGreatDoorAx15
set_option linter.unusedVariables false
set_option linter.unusedSimpArgs false
set_option linter.unnecessarySimpa false
set_option linter.all false
namespace Go.Proofs.YtgjddachhhmimaaGreatDoor.Ax
open Go.RowKit

section
variable {P : Program} {N : Nat} {W0 : World} {base : Nat} {ρ : Rho} {h : AH} {W : World}

theorem loop_sound {c : Code} {round : List Value → AH → Option (Exit × List Value × AH)} (hr : ∀ t h e t' h', round t h = some (e, t', h') → CodeSound P N W0 base c t h e t' h') :
    ∀ (k : Nat) (t : List Value) (h : AH) (e : Exit) (t' : List Value) (h' : AH), exec.loopA round k t h = some (e, t', h') → CodeSound P N W0 base (.loop c) t h e t' h' := by
  have key : ∀ (k : Nat) (t : List Value) (h : AH) (e : Exit) (t' : List Value) (h' : AH), exec.loopA round k t h = some (e, t', h') → ∀ ρ W (a : Act), Rel P N W0 base ρ h W → TR N ρ t a → ∀ Q : Exit → Act → World → Prop,
      (∀ σ a' W', Ext h.n none ρ σ → h.n ≤ h'.n → TR N σ t' a' → Rel P N W0 base σ h' W' → Q e a' W') → ∀ (b : Frame) (k' : List Item) (cs : List Frame),
      ∃ e1 a1 w1, Q e1 a1 w1 ∧ Arrives P (lone (b.at a (.code c :: .inLoop c :: k')) cs W) b k' cs e1 a1 w1 := by
    intro k
    induction k with
    | zero => intro t h e t' h' he; simp [exec.loopA] at he
    | succ k ih =>
      intro t h e t' h' he ρ W a R T Q hQ b k' cs
      simp only [exec.loopA] at he
      split at he
      · rename_i t1 h1 hrd
        obtain ⟨e2, a2, w2, ⟨he2, σ, m1, m2, m3, m4⟩, harr⟩ := hr t h _ t1 h1 hrd ρ W a R T (fun e' a' W' => e' = .normal ∧ ∃ σ, Ext h.n none ρ σ ∧ h.n ≤ h1.n ∧ TR N σ t1 a' ∧ Rel P N W0 base σ h1 W')
          (fun σ a' W' k1 k2 k3 k4 => ⟨rfl, σ, k1, k2, k3, k4⟩) b (.inLoop c :: k') cs
        subst he2
        obtain ⟨e3, a3, w3, hq3, harr3⟩ := ih t1 h1 e t' h' he σ w2 a2 m4 m3 Q (fun τ a' W' k1 k2 k3 k4 => hQ τ a' W' (m1.trans m2 k1) (Nat.le_trans m2 k2) k3 k4) b k' cs
        exact ⟨e3, a3, w3, hq3, .of_steps (Steps.trans harr (.one step_inLoop)) harr3⟩
      · rename_i hne
        have hne' : e ≠ .normal := by
          intro hh; subst hh
          exact hne _ _ he
        obtain ⟨e2, a2, w2, ⟨he2, hq⟩, harr⟩ := hr t h e t' h' he ρ W a R T (fun e' a' W' => e' = e ∧ Q e' a' W') (fun σ a' W' k1 k2 k3 k4 => ⟨rfl, hQ σ a' W' k1 k2 k3 k4⟩) b (.inLoop c :: k') cs
        subst he2
        exact ⟨_, a2, w2, hq, .pass (x := .inLoop c) rfl (fun _ _ => .inl hne') harr⟩
  intro k t h e t' h' he ρ W a R T Q hQ b k' cs
  obtain ⟨e1, a1, w1, hq, harr⟩ := key k t h e t' h' he ρ W a R T Q hQ b k' cs
  exact ⟨e1, a1, w1, hq, .of_steps (.one step_loop) harr⟩

/-- What is known of regions whose order is open (shown in the next text). -/
def AnyOK (P : Program) (N : Nat) (W0 : World) (base : Nat) (call : FuncId → List Value → AH → Option (Value × AH)) : Prop :=
  ∀ (id : Nat) (ops : Array Oper) t h t' h', Go.Region.noSelect ops = true → anyA P N call ops (Go.Region.before ops) h.n ops.size (Array.replicate ops.size false) [] t (h.room ops.size) = some (t', h') → CodeSound P N W0 base (.region id ops true) t h .normal t' h'

theorem exec_sound {call : FuncId → List Value → AH → Option (Value × AH)} (hc : CallOK P N W0 base call) (ha : AnyOK P N W0 base call) (m : Nat) :
    ∀ (c : Code) (t : List Value) (h : AH) (e : Exit) (t' : List Value) (h' : AH), exec P N call m c t h = some (e, t', h') → CodeSound P N W0 base c t h e t' h' := by
  intro c
  induction c with
  | skip =>
    intro t h e t' h' he
    simp only [exec] at he
    cases he
    intro ρ W a R T Q hQ
    exact wp_skip (hQ ρ a W (Ext.refl _ _ _) (Nat.le_refl _) T R)
  | label l =>
    intro t h e t' h' he
    simp only [exec] at he
    cases he
    intro ρ W a R T Q hQ
    exact wp_label (hQ ρ a W (Ext.refl _ _ _) (Nat.le_refl _) T R)
  | exit id =>
    intro t h e t' h' he
    simp only [exec] at he
    cases he
    intro ρ W a R T Q hQ
    exact wp_exit (hQ ρ a W (Ext.refl _ _ _) (Nat.le_refl _) T R)
  | ret =>
    intro t h e t' h' he
    simp only [exec] at he
    cases he
    intro ρ W a R T Q hQ
    exact wp_ret (hQ ρ a W (Ext.refl _ _ _) (Nat.le_refl _) T R)
  | region id ops draw =>
    intro t h e t' h' he
    cases draw with
    | false =>
      simp only [exec, Option.bind_eq_some_iff] at he
      obtain ⟨r, h1, h2⟩ := he
      cases h2
      intro ρ W a R T Q hQ
      refine wp_region ?_
      have := lineA_sound hc (Q := Q) ops.toList 0 rfl R T (show _ = some (r.1, r.2) from h1) hQ
      rw [List.range_eq_range']
      simpa using this
    | true =>
      simp only [exec] at he
      split at he
      · rename_i hns
        simp only [Option.bind_eq_some_iff] at he
        obtain ⟨r, h1, h2⟩ := he
        cases h2
        exact ha id ops t h _ _ hns h1
      · cases he
  | seq x y ihx ihy =>
    intro t h e t' h' he
    simp only [exec] at he
    split at he
    · rename_i t1 h1 hx
      intro ρ W a R T Q hQ
      refine wp_seq (ihx t h _ t1 h1 hx ρ W a R T _ fun σ a' W' k1 k2 k3 k4 => ?_)
      exact ihy t1 h1 e t' h' he σ W' a' k4 k3 Q fun τ a2 W2 m1 m2 m3 m4 => hQ τ a2 W2 (k1.trans k2 m1) (Nat.le_trans k2 m2) m3 m4
    · rename_i hne
      have hne' : e ≠ .normal := by
        intro hh; subst hh
        exact hne _ _ he
      intro ρ W a R T Q hQ
      refine wp_seq (ihx t h e t' h' he ρ W a R T _ fun σ a' W' k1 k2 k3 k4 => ?_)
      have := hQ σ a' W' k1 k2 k3 k4
      cases e <;> first | exact absurd rfl hne' | exact this
  | cond c x y ihx ihy =>
    intro t h e t' h' he
    simp only [exec] at he
    split at he
    · rename_i hcv
      intro ρ W a R T Q hQ
      exact wp_cond_true (aev_sound T hcv).bool_inv (ihx t h e t' h' he ρ W a R T Q hQ)
    · rename_i hcv
      intro ρ W a R T Q hQ
      exact wp_cond_false (aev_sound T hcv).bool_inv (ihy t h e t' h' he ρ W a R T Q hQ)
    · cases he
  | block id b ih =>
    intro t h e t' h' he
    simp only [exec] at he
    split at he
    · rename_i j t1 h1 hb
      split at he
      · rename_i hj
        cases he
        intro ρ W a R T Q hQ
        refine wp_block (ih t h _ _ _ hb ρ W a R T _ fun σ a' W' k1 k2 k3 k4 => ?_)
        simp only [Exit.inBlock, hj, if_true]
        exact hQ σ a' W' k1 k2 k3 k4
      · rename_i hj
        cases he
        intro ρ W a R T Q hQ
        refine wp_block (ih t h _ _ _ hb ρ W a R T _ fun σ a' W' k1 k2 k3 k4 => ?_)
        simp only [Exit.inBlock, hj, if_false]
        exact hQ σ a' W' k1 k2 k3 k4
    · rename_i hne
      intro ρ W a R T Q hQ
      refine wp_block (ih t h e t' h' he ρ W a R T _ fun σ a' W' k1 k2 k3 k4 => ?_)
      have := hQ σ a' W' k1 k2 k3 k4
      cases e <;> first | exact absurd he (hne _ _ _) | exact this
  | loop b ih =>
    intro t h e t' h' he
    simp only [exec] at he
    exact loop_sound (fun t h e t' h' hh => ih t h e t' h' hh) m t h e t' h' he
  | _ => intro t h e t' h' he; simp [exec] at he

/-- How a result is read. -/
structure ReadsRes (a : Act) (f : ResultVar → Sem Value) : Prop where
  tmp : ∀ i, f (.tmp i) = pure (a.tmps.getD i undef)
  cell : ∀ b ty, f (.cell b ty) = (do loadVar ty (← asAddr (a.tmps.getD b undef)))

theorem resOne_sound (R : Rel P N W0 base ρ h W) {t : List Value} {a : Act} (T : TR N ρ t a) {f : ResultVar → Sem Value} (hf : ReadsRes a f) {r : ResultVar} {v : Value} (e : resOne P t h r = some v) :
    ∃ v', VR N ρ v v' ∧ (f r).run P W = .ok v' W := by
  unfold resOne at e
  split at e
  · rename_i i
    obtain ⟨v', h1, h2⟩ := T.1.get ((nthR_eq _ _).symm.trans e)
    refine ⟨v', h2, ?_⟩
    have : a.tmps.getD i undef = v' := by
      simp only [Array.getD_eq_getD_getElem?]
      rw [← Array.getElem?_toList, h1]; rfl
    rw [hf.tmp, this]; rfl
  · rename_i b ty
    split at e
    · rename_i p hp
      obtain ⟨x, h1, h2⟩ := T.1.get ((nthR_eq _ _).symm.trans hp)
      obtain ⟨q, v', h3, h4, h5⟩ := aLoad_sound R e h2
      refine ⟨v', h4, ?_⟩
      have : a.tmps.getD b undef = x := by
        simp only [Array.getD_eq_getD_getElem?]
        rw [← Array.getElem?_toList, h1]; rfl
      rw [hf.cell, this, h3]
      simp only [asAddr, Sem.run_bind, Sem.run_pure, Result.andThen_ok]
      exact h5
    · cases e

theorem resAll_sound (R : Rel P N W0 base ρ h W) {t : List Value} {a : Act} (T : TR N ρ t a) {f : ResultVar → Sem Value} (hf : ReadsRes a f) : ∀ {l : List ResultVar} {vs : List Value}, resAll P t h l = some vs →
    ∃ vs', VRL N ρ vs vs' ∧ (l.mapM f).run P W = .ok vs' W
  | [], vs, e => by
    simp only [resAll] at e
    cases e
    exact ⟨[], .nil, rfl⟩
  | r :: rs, vs, e => by
    simp only [resAll, Option.bind_eq_some_iff] at e
    obtain ⟨v, h1, ws, h2, h3⟩ := e
    cases h3
    obtain ⟨v', h4, h5⟩ := resOne_sound R T hf h1
    obtain ⟨vs', h6, h7⟩ := resAll_sound R T hf h2
    refine ⟨v' :: vs', .cons h4 h6, ?_⟩
    rw [List.mapM_cons]
    simp only [Sem.run_bind, h5, Result.andThen_ok, h7, Sem.run_pure]

def resVal : List Value → Value
  | [v] => v
  | vs => .tuple ⟨vs⟩

theorem results_sound (R : Rel P N W0 base ρ h W) {t : List Value} {a : Act} (T : TR N ρ t a) {fn : Func} {vs : List Value} (e : resAll P t h fn.results.toList = some vs) :
    ∃ v', VR N ρ (resVal vs) v' ∧ (results fn a.tmps).run P W = .ok v' W := by
  obtain ⟨vs', h1, h2⟩ := resAll_sound R T (f := fun | .tmp t => pure (a.tmps.getD t undef) | .cell b t => do loadVar t (← asAddr (a.tmps.getD b undef))) ⟨fun _ => rfl, fun _ _ => rfl⟩ e
  refine ⟨if h : vs'.length = 1 then vs'[0] else .tuple ⟨vs'⟩, ?_, ?_⟩
  · match vs, vs', h1 with
    | [], [], .nil => exact .tuple .nil
    | [v], [v'], .cons a .nil => exact a
    | _ :: _ :: _, _ :: _ :: _, .cons a (.cons b c) => exact .tuple (.cons a (.cons b c))
  · unfold results
    rw [Array.mapM_eq_mapM_toList]
    simp only [Sem.run_bind, Sem.run_map]
    erw [h2]
    simp only [Result.andThen_ok, Sem.run_pure]
    rfl

theorem callA_sound {prim : FuncId → Option (List Value → AH → Option (Value × AH))} (hprim : ∀ f g, prim f = some g → ∀ args h r h', g args h = some (r, h') → CallSound P N W0 base f args h r h')
    (ha : ∀ call, CallOK P N W0 base call → AnyOK P N W0 base call) (m : Nat) : ∀ d, CallOK P N W0 base (callA P N prim m d)
  | 0 => fun f args h r h' e => by simp [callA] at e
  | d + 1 => fun f args h r h' e => by
    have ih := callA_sound hprim ha m d
    unfold callA at e
    split at e
    · rename_i q hq
      cases e
      obtain ⟨g, h1, h2⟩ := Option.bind_eq_some_iff.1 hq
      exact hprim f g h1 args h r h' h2
    · split at e
      · cases e
      · rename_i fn hfn
        split at e
        · cases e
        · rename_i c hc
          have main : ∀ ex t h1, exec P N (callA P N prim m d) m c (args ++ List.replicate (fn.ntmps - args.length) undef) h = some (ex, t, h1) → (ex = .normal ∨ ex = .ret) → ∀ vs, resAll P t h1 fn.results.toList = some vs →
              CallSound P N W0 base f args h (resVal vs) h1 := by
            intro ex t h1 hex hx vs hvs ρ W args' R V
            refine calls_of_wp hfn hc ?_
            have T : TR N ρ (args ++ List.replicate (fn.ntmps - args.length) undef) { tmps := ⟨args'⟩ ++ Array.replicate (fn.ntmps - (Array.mk args').size) undef, defers := [] } := by
              refine ⟨?_, rfl⟩
              have : ((⟨args'⟩ : Array Value) ++ Array.replicate (fn.ntmps - (Array.mk args').size) undef).toList = args' ++ List.replicate (fn.ntmps - args.length) undef := by
                simp [V.length]
              rw [this]
              exact V.append (VRL.replicate VR.undef _)
            refine exec_sound ih (ha _ ih) m c _ h ex t h1 hex ρ W _ R T _ fun σ a' W' k1 k2 k3 k4 => ?_
            obtain ⟨v', h5, h6⟩ := results_sound k4 k3 hvs
            rcases hx with rfl | rfl
            · exact ⟨k3.2, v', h6, σ, v', k1, k2, rfl, h5, k4⟩
            · exact ⟨k3.2, v', h6, σ, v', k1, k2, rfl, h5, k4⟩
          split at e
          · rename_i t h1 hex
            split at e
            · rename_i v hv
              cases e
              exact main _ _ _ hex (.inl rfl) _ hv
            · rename_i vs hne hv
              cases e
              have hrv : resVal vs = .tuple ⟨vs⟩ := by unfold resVal; split <;> first | rfl | exact absurd rfl (hne _)
              rw [← hrv]
              exact main _ _ _ hex (.inl rfl) _ hv
            · cases e
          · rename_i t h1 hex
            split at e
            · rename_i v hv
              cases e
              exact main _ _ _ hex (.inr rfl) _ hv
            · rename_i vs hne hv
              cases e
              have hrv : resVal vs = .tuple ⟨vs⟩ := by unfold resVal; split <;> first | rfl | exact absurd rfl (hne _)
              rw [← hrv]
              exact main _ _ _ hex (.inr rfl) _ hv
            · cases e
          · cases e
end
end Go.Proofs.YtgjddachhhmimaaGreatDoor.Ax
