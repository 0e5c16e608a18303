import Derived.Test.YtgjddachhhmimaaGreatDoorAx16
set_option linter.unusedVariables false
set_option linter.unusedSimpArgs false
set_option linter.unnecessarySimpa false
set_option linter.all false
namespace Go.Proofs.YtgjddachhhmimaaGreatDoor.Ax
open Go.RowKit

/-! ## Regions whose order is open -/

mutual
theorem veq_eq : ∀ (v w : Value), veq v w = true → v = w
  | .bool a, w, h => by cases w <;> simp_all [veq]
  | .int k a, w, h => by cases w <;> simp_all [veq]
  | .float k a, w, h => by cases w <;> simp_all [veq]
  | .complex k a b, w, h => by cases w <;> simp_all [veq]
  | .string ⟨⟨a⟩⟩, w, h => by
    cases w with
    | string s => obtain ⟨⟨b⟩⟩ := s; simp [veq] at h; rw [h]
    | _ => simp [veq] at h
  | .pointer a, w, h => by cases w <;> simp_all [veq]
  | .slice a b c, w, h => by cases w <;> simp_all [veq]
  | .map a, w, h => by cases w <;> simp_all [veq]
  | .chan a, w, h => by cases w <;> simp_all [veq]
  | .nilFunc, w, h => by cases w <;> simp_all [veq]
  | .nilIface, w, h => by cases w <;> simp_all [veq]
  | .func f ⟨a⟩ ⟨b⟩, w, h => by
    cases w with
    | func g c d =>
      obtain ⟨c⟩ := c
      obtain ⟨d⟩ := d
      simp only [veq, Bool.and_eq_true, beq_iff_eq] at h
      rw [h.1.1, veqs_eq a c h.1.2, veqs_eq b d h.2]
    | _ => simp [veq] at h
  | .iface t v, w, h => by
    cases w with
    | iface u x =>
      simp only [veq, Bool.and_eq_true, beq_iff_eq] at h
      rw [h.1, veq_eq v x h.2]
    | _ => simp [veq] at h
  | .agg ⟨a⟩, w, h => by
    cases w with
    | agg b => obtain ⟨b⟩ := b; rw [veqs_eq a b (by simpa [veq] using h)]
    | _ => simp [veq] at h
  | .tuple ⟨a⟩, w, h => by
    cases w with
    | tuple b => obtain ⟨b⟩ := b; rw [veqs_eq a b (by simpa [veq] using h)]
    | _ => simp [veq] at h
theorem veqs_eq : ∀ (v w : List Value), veqs v w = true → v = w
  | [], [], _ => rfl
  | [], _ :: _, h => by simp [veqs] at h
  | _ :: _, [], h => by simp [veqs] at h
  | a :: r, b :: s, h => by
    simp only [veqs, Bool.and_eq_true] at h
    rw [veq_eq a b h.1, veqs_eq r s h.2]
end

theorem meqs_eq : ∀ (v w : List MapEntry), meqs v w = true → v = w
  | [], [], _ => rfl
  | [], _ :: _, h => by simp [meqs] at h
  | _ :: _, [], h => by simp [meqs] at h
  | ⟨k, v, b⟩ :: r, ⟨k', v', b'⟩ :: s, h => by
    simp only [meqs, Bool.and_eq_true, beq_iff_eq] at h
    rw [veq_eq k k' h.1.1.1, veq_eq v v' h.1.1.2, h.1.2, meqs_eq r s h.2]

theorem oeq_eq : ∀ (a b : AObj), oeq a b = true → a = b
  | .cells a t f x, o, h => by
    cases o with
    | cells b u g y =>
      simp only [oeq, Bool.and_eq_true, beq_iff_eq] at h
      rw [veqs_eq _ _ h.1.1.1, h.1.1.2, h.1.2, h.2]
    | _ => simp [oeq] at h
  | .map a c, o, h => by
    cases o with
    | map b d =>
      simp only [oeq, Bool.and_eq_true, beq_iff_eq] at h
      rw [meqs_eq _ _ h.1, h.2]
    | _ => simp [oeq] at h
  | .mapIter a b c d, o, h => by cases o <;> simp_all [oeq]
  | .strIter ⟨⟨a⟩⟩ p, o, h => by
    cases o with
    | strIter b q =>
      obtain ⟨⟨b⟩⟩ := b
      simp [oeq] at h
      rw [h.1, h.2]
    | _ => simp [oeq] at h
  | .dead, o, h => by cases o <;> simp_all [oeq]

theorem oeqs_eq : ∀ (v w : List AObj), oeqs v w = true → v = w
  | [], [], _ => rfl
  | [], _ :: _, h => by simp [oeqs] at h
  | _ :: _, [], h => by simp [oeqs] at h
  | a :: r, b :: s, h => by
    simp only [oeqs, Bool.and_eq_true] at h
    rw [oeq_eq a b h.1, oeqs_eq r s h.2]

theorem steq_eq {a b : List Value × AH} (h : steq a b = true) : a = b := by
  obtain ⟨t, n, l⟩ := a
  obtain ⟨u, m, k⟩ := b
  simp only [steq, Bool.and_eq_true, beq_iff_eq] at h
  obtain ⟨⟨h1, h2⟩, h3⟩ := h
  have h4 : t = u := veqs_eq _ _ h1
  have h5 : l = k := oeqs_eq _ _ h3
  have h6 : n = m := h2
  rw [h4, h5, h6]

section
variable {N : Nat} {ρ : Rho}
mutual
/-- A value that is not 'empty, somewhere' stands for one value. -/
theorem VR.det (hl : ∀ b r, ρ b = some r → N ≤ b) : ∀ {v x y : Value}, VR N ρ v x → noE v = true → VR N ρ v y → x = y
  | _, _, _, .rig r, _, hy => (hy.eq_of_rigid hl r).symm
  | _, _, _, .ptr e, _, hy => by
    obtain ⟨r, h1, h2, h3⟩ := hy.ptr_inv (hl _ _ e)
    rw [e] at h1; cases h1
    exact h3.symm
  | _, _, _, .slice e c, h, hy => by
    generalize hu : Value.slice _ _ _ = u at hy
    cases hy with
    | rig hr => subst hu; simp [rigid] at hr
    | slice e' _ => cases hu; rw [e] at e'; cases e'; rfl
    | sliceX e' _ _ _ => injection hu with h1 h2 h3; omega
    | sliceE => injection hu with h1 h2 h3; omega
    | _ => cases hu
  | _, _, _, .sliceX (c := c) (r := r) e a b d, h, hy => by
    generalize hu : Value.slice _ _ _ = u at hy
    cases hy with
    | rig hr => subst hu; simp [rigid] at hr
    | slice e' _ => injection hu with h1 h2 h3; omega
    | @sliceX _ _ _ c2 _ e' a' b' d' =>
      injection hu with h1 h2 h3
      injection h1 with h1
      injection h1 with h4 h5 h6
      subst h4 h5 h2
      rw [e] at e'; cases e'
      have : c * r.sz = c2 * r.sz := by omega
      rw [Nat.eq_of_mul_eq_mul_right (by omega) this]
    | sliceE => injection hu with h1 h2 h3; omega
    | _ => cases hu
  | _, _, _, .sliceE, h, _ => by simp [noE] at h
  | _, _, _, .map e, _, hy => by
    obtain ⟨r, h1, h2⟩ := hy.map_inv
    rw [e] at h1; cases h1
    exact h2.symm
  | _, _, _, .func a b, h, hy => by
    obtain ⟨f', c', h1, h2, h3⟩ := hy.func_inv
    simp only [noE, Bool.and_eq_true] at h
    rw [h1, VRL.det hl a h.1 h2, VRL.det hl b h.2 h3]
  | _, _, _, .iface a, h, hy => by
    obtain ⟨v', h1, h2⟩ := hy.iface_inv
    rw [h1, VR.det hl a (by simpa [noE] using h) h2]
  | _, _, _, .agg a, h, hy => by
    obtain ⟨c', h1, h2⟩ := hy.agg_inv
    rw [h1, VRL.det hl a (by simpa [noE] using h) h2]
  | _, _, _, .tuple a, h, hy => by
    obtain ⟨c', h1, h2⟩ := hy.tuple_inv
    rw [h1, VRL.det hl a (by simpa [noE] using h) h2]
theorem VRL.det (hl : ∀ b r, ρ b = some r → N ≤ b) : ∀ {v x y : List Value}, VRL N ρ v x → noEs v = true → VRL N ρ v y → x = y
  | _, _, _, .nil, _, .nil => rfl
  | _, _, _, .cons a b, h, .cons c d => by
    simp only [noEs, Bool.and_eq_true] at h
    rw [VR.det hl a h.1 c, VRL.det hl b h.2 d]
end
end

/-! ### Orders, with what was read early -/

/-- A read that was done early: what it bars (D), what must hold (H). -/
structure Ent where
  D : List Bool
  H : World → Prop

def keepE (j : Nat) (E : List Ent) : List Ent := E.filter fun e => !(e.D.getD j false)

section
variable {P : Program} {ops : Array Oper} {Q : Exit → Act → World → Prop}

def wpAnyE (P : Program) (ops : Array Oper) (Q : Exit → Act → World → Prop) : Nat → Array Bool → List Ent → Act → World → Prop
  | 0, listed, _, a, w => Region.ready .any ops listed = [] ∧ Q .normal a w
  | f + 1, listed, E, a, w => (Region.ready .any ops listed = [] → Q .normal a w) ∧
    ∀ i ∈ Region.ready .any ops listed, wpOp P ops Q i (fun a' w' => (∀ e ∈ keepE i E, e.H w') ∧ wpAnyE P ops Q f (listed.setIfInBounds i true) (keepE i E) a' w') a w

theorem wpAnyE.weaken : ∀ (f : Nat) {listed : Array Bool} {E E' : List Ent} {a : Act} {w : World}, (∀ e ∈ E', e ∈ E) → wpAnyE P ops Q f listed E a w → wpAnyE P ops Q f listed E' a w
  | 0, _, _, _, _, _, _, h => h
  | f + 1, _, E, E', _, _, hs, h => by
    refine ⟨h.1, fun i hi => wpOp_mono (fun a' w' hh => ?_) (h.2 i hi)⟩
    have hk : ∀ e ∈ keepE i E', e ∈ keepE i E := fun e he => by
      simp only [keepE, List.mem_filter] at he ⊢
      exact ⟨hs e he.1, he.2⟩
    exact ⟨fun e he => hh.1 e (hk e he), wpAnyE.weaken f hk hh.2⟩

theorem wpAnyE.sound : ∀ (f : Nat) {listed : Array Bool} {E : List Ent} {a : Act} {w : World}, wpAnyE P ops Q f listed E a w → wpAny P .any ops Q f listed a w
  | 0, _, _, _, _, h => h
  | f + 1, _, E, _, _, h => ⟨h.1, fun i hi => wpOp_mono (fun a' w' hh => wpAnyE.sound f hh.2) (h.2 i hi)⟩

theorem wpAnyE.always : ∀ (f : Nat) {listed : Array Bool} {E : List Ent} {a : Act} {w : World}, wpAnyE P ops Q f listed E a w → wpAnyE P ops Q f listed (⟨[], fun _ => True⟩ :: E) a w
  | 0, _, _, _, _, h => h
  | f + 1, _, E, _, _, h => by
    refine ⟨h.1, fun i hi => wpOp_mono (fun a' w' hh => ?_) (h.2 i hi)⟩
    have hk : keepE i (⟨[], fun _ => True⟩ :: E) = ⟨[], fun _ => True⟩ :: keepE i E := by simp [keepE]
    rw [hk]
    refine ⟨fun e he => ?_, wpAnyE.always f hh.2⟩
    rcases List.mem_cons.1 he with rfl | he
    · trivial
    · exact hh.1 e he

/-- What number i looks at is as it was. -/
def Same (ops : Array Oper) (oi : Oper) (X : Sem Next) (b : Bool) (a : Act) : Prop := execOp a.eval oi = X ∧ Region.wanted oi (yielded ops a.tmps) = b

theorem wpOp_putE {j : Nat} {oi oj : Oper} {v : Value} (hj : ops[j]? = some oj) (hap : oi.apart ops oj = true)
    (hsi : ∀ cs b, oi.op ≠ .select cs b) (hsj : ∀ cs b, oj.op ≠ .select cs b) (hQ : ∀ c a w, ¬ Q (.panic c) a w) {K : Act → World → Prop} {a : Act} {w : World} {X : Sem Next} {b : Bool}
    (hy : Same ops oi X b a) (h : wpOp P ops Q j K (a.put oi.dst v) w) :
    wpOp P ops Q j (fun a' w' => Same ops oi X b a' ∧ K (a'.put oi.dst v) w') a w := by
  obtain ⟨h1, h2, h3⟩ := Oper.apart_spec hap
  have keep : ∀ (a : Act), Same ops oi X b a → ∀ u, Same ops oi X b (a.put oj.dst u) := fun a hy u =>
    ⟨(execOp_put oi hsi a oj.dst u h3).trans hy.1, (wanted_put oi a oj.dst u h3).trans hy.2⟩
  have keepD : ∀ d, Same ops oi X b { a with defers := d :: a.defers } := fun d => hy
  unfold wpOp at *
  simp only [hj] at *
  rw [wanted_put oj a oi.dst v h1] at h
  split
  · rename_i hw
    simp only [hw, if_true] at h
    rcases h with h | ⟨hasks, hlets⟩
    case inr => exact .inr ⟨by unfold Oper.asks at *; rw [execOp_put oj hsj a oi.dst v h1] at hasks; exact hasks, hlets⟩
    refine .inl ?_
    unfold Oper.wp at *
    rw [execOp_put oj hsj a oi.dst v h1] at h
    generalize (execOp a.eval oj).run P w = r at *
    cases r with
    | ok n w' =>
      cases n <;> simp only [Oper.upon] at h ⊢
      case value u => exact ⟨keep a hy u, by rw [← Act.put_comm a v u h2]; exact h⟩
      case skip => exact ⟨keep a hy _, by rw [← Act.put_comm a v undef h2]; exact h⟩
      case defer d =>
        refine ⟨keep _ (keepD d) _, ?_⟩
        rw [← Act.put_comm _ v undef h2, ← Act.put_defers]
        exact h
      case enter f args =>
        refine Calls.mono h fun e w'' he => ?_
        cases e with
        | returned u => exact ⟨keep a hy u, by rw [← Act.put_comm a v u h2]; exact he⟩
        | panicked c => exact absurd he (hQ _ _ _)
        | outgrown => exact he
      case row row args => exact Rows.mono h fun u w'' he => ⟨keep a hy u, by rw [← Act.put_comm a v u h2]; exact he⟩
    | halt x w' =>
      cases x <;> simp only [Oper.upon] at h ⊢
      case panic u => exact absurd h (hQ _ _ _)
  · rename_i hw
    simp only [hw] at h
    exact ⟨keep a hy _, by rw [← Act.put_comm a v undef h2]; exact h⟩

/-- Number i may be done first, if what it yields holds for as long as it is not done. -/
theorem firstE {i : Nat} {oi : Oper} {v : Value} {X : Sem Next} {b : Bool} {D : List Bool} {H : World → Prop} (hi : ops[i]? = some oi) (hsel : ∀ (j : Nat) (o : Oper) cs b, ops[j]? = some o → o.op ≠ .select cs b)
    (hQ : ∀ c a w, ¬ Q (.panic c) a w) (hH : ∀ w, H w → (b = true ∧ X.run P w = .ok (.value v) w) ∨ (b = false ∧ v = undef))
    (hD : ∀ j, D.getD j false = true → j ≠ i → ∃ oj, ops[j]? = some oj ∧ ∃ e ∈ oj.after, Region.binds .any e = true ∧ D.getD e.on false = true) :
    ∀ (f : Nat) (listed : Array Bool) (E : List Ent) (a : Act) (w : World),
      (∀ j, D.getD j false = true → listed.getD j false = false) → (∀ j oj, ops[j]? = some oj → j ≠ i → listed.getD j true = false → (∀ e ∈ oj.after, Region.binds .any e = true → e.on ≠ i) → oi.apart ops oj = true) →
      i ∈ Region.ready .any ops listed → Same ops oi X b a → H w → (∀ e ∈ E, e.H w) →
      wpAnyE P ops Q f (listed.setIfInBounds i true) (⟨D, H⟩ :: E) (a.put oi.dst v) w → wpAnyE P ops Q (f + 1) listed E a w := by
  have now : ∀ (f : Nat) (listed : Array Bool) (E : List Ent) (a : Act) (w : World), Same ops oi X b a → H w → (∀ e ∈ E, e.H w) → wpAnyE P ops Q f (listed.setIfInBounds i true) (⟨D, H⟩ :: E) (a.put oi.dst v) w →
      wpOp P ops Q i (fun a' w' => (∀ e ∈ keepE i E, e.H w') ∧ wpAnyE P ops Q f (listed.setIfInBounds i true) (keepE i E) a' w') a w := by
    intro f listed E a w hS hh hE K
    have hk : ∀ e ∈ keepE i E, e ∈ E := fun e he => (List.mem_filter.1 he).1
    have res : (∀ e ∈ keepE i E, e.H w) ∧ wpAnyE P ops Q f (listed.setIfInBounds i true) (keepE i E) (a.put oi.dst v) w :=
      ⟨fun e he => hE e (hk e he), wpAnyE.weaken f (fun e he => List.mem_cons_of_mem _ (hk e he)) K⟩
    unfold wpOp
    simp only [hi]
    rcases hH w hh with ⟨hb, hX⟩ | ⟨hb, hv⟩
    · rw [if_pos (hS.2.trans hb)]
      refine .inl ?_
      unfold Oper.wp
      rw [hS.1, hX]
      exact res
    · rw [if_neg (by rw [hS.2, hb]; simp)]
      subst hv
      exact res
  intro f
  induction f with
  | zero =>
    intro listed E a w hun hfree hr hS hh hE K
    refine ⟨fun h => (by rw [h] at hr; cases hr), fun j hj => ?_⟩
    by_cases hji : j = i
    · subst hji; exact now 0 listed E a w hS hh hE K
    · have := ready_mono hj hji
      rw [K.1] at this
      cases this
  | succ f ih =>
    intro listed E a w hun hfree hr hS hh hE K
    refine ⟨fun h => (by rw [h] at hr; cases hr), fun j hj => ?_⟩
    by_cases hji : j = i
    · subst hji; exact now (f + 1) listed E a w hS hh hE K
    · obtain ⟨hjun, oj, hoj, hall⟩ := mem_ready.1 hj
      have hDj : D.getD j false = false := by
        cases hd : D.getD j false with
        | false => rfl
        | true =>
          obtain ⟨oj', h1, e, h2, h3, h4⟩ := hD j hd hji
          rw [hoj] at h1; cases h1
          have := hun _ h4
          rw [hall e h2 h3] at this
          cases this
      have hkeep : keepE j (⟨D, H⟩ :: E) = ⟨D, H⟩ :: keepE j E := by unfold keepE; rw [List.filter_cons_of_pos (by show (!D.getD j false) = true; rw [hDj]; rfl)]
      have h1 := K.2 j (ready_mono hj hji)
      rw [hkeep] at h1
      have hnot : ∀ e ∈ oj.after, Region.binds .any e = true → e.on ≠ i := fun e he hb heq => by
        have h1 := hall e he hb
        have h0 := (mem_ready.1 hr).1
        rw [heq] at h1
        rcases Nat.lt_or_ge i listed.size with h' | h'
        · simp [h'] at h0 h1; rw [h0] at h1; cases h1
        · simp [Array.getElem?_eq_none h'] at h1
      have h2 := wpOp_putE hoj (hfree j oj hoj hji hjun hnot) (fun cs b => hsel i oi cs b hi) (fun cs b => hsel j oj cs b hoj) hQ hS h1
      have hfree' : ∀ k ok, ops[k]? = some ok → k ≠ i → (listed.setIfInBounds j true).getD k true = false →
          (∀ e ∈ ok.after, Region.binds .any e = true → e.on ≠ i) → oi.apart ops ok = true := fun k ok hk hki hun hno => by
        refine hfree k ok hk hki ?_ hno
        by_cases hjk : j = k
        · subst hjk; exact hjun
        · rw [getD_set_ne true hjk] at hun; exact hun
      have hun' : ∀ k, D.getD k false = true → (listed.setIfInBounds j true).getD k false = false := fun k hk => by
        have hne : j ≠ k := fun e => by subst e; rw [hDj] at hk; cases hk
        rw [getD_set_ne false hne]; exact hun k hk
      refine wpOp_mono (fun a' w' h3 => ?_) h2
      obtain ⟨hS', hE', hK'⟩ := h3
      refine ⟨fun e he => hE' e (List.mem_cons_of_mem _ he), ih (listed.setIfInBounds j true) (keepE j E) a' w' hun' hfree' (ready_mono hr (Ne.symm hji)) hS' (hE' ⟨D, H⟩ (List.mem_cons_self ..)) (fun e he => hE' e (List.mem_cons_of_mem _ he)) ?_⟩
      rw [Array.setIfInBounds_comm _ _ hji]
      exact hK'
end
end Go.Proofs.YtgjddachhhmimaaGreatDoor.Ax
