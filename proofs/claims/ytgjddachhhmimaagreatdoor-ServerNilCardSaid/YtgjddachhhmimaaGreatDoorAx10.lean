import Derived.Test.YtgjddachhhmimaaGreatDoorAx9
import Derived.Laws.Append
set_option linter.unusedVariables false
set_option linter.unusedSimpArgs false
set_option linter.unnecessarySimpa false
set_option linter.all false
namespace Go.Proofs.YtgjddachhhmimaaGreatDoor.Ax
open Go.RowKit

section
variable {P : Program} {N : Nat} {W0 : World} {base : Nat} {ρ : Rho} {h : AH} {W : World}

/-- What an operation gives: a value, or nothing. -/
def Gives (r : Result Next) (v : Value) (W : World) : Prop := r = .ok (.value v) W ∨ (r = .ok .skip W ∧ v = undef)

/-- More rows are known: of those below n none but that at the place that was held. -/
def Ext (n : Nat) (ph : Option Nat) (ρ σ : Rho) : Prop := ρ.le σ ∧ ∀ b, b < n → ph ≠ some b → σ b = ρ b
theorem Ext.refl (n : Nat) (ph : Option Nat) (ρ : Rho) : Ext n ph ρ ρ := ⟨ρ.le_refl, fun _ _ _ => rfl⟩

/-- A place is held. -/
def PH (N : Nat) (ρ : Rho) (h : AH) (ph : Option Nat) : Prop := ∀ b, ph = some b → b < h.n ∧ N ≤ b ∧ ρ b = none

theorem new_sound (R : Rel P N W0 base ρ h W) {ph : Option Nat} (hp : PH N ρ h ph) {K sz : Nat} {o : AObj} {o' : Obj} (ho : OR P N ρ ⟨W.heap.size, K, sz⟩ o o') :
    ∃ σ, Ext h.n ph ρ σ ∧ h.n ≤ (newAt h ph o).2.n ∧ σ (newAt h ph o).1 = some ⟨W.heap.size, K, sz⟩ ∧ Rel P N W0 base σ (newAt h ph o).2 (W.alloc o') := by
  cases ph with
  | none =>
    obtain ⟨h1, h2⟩ := R.push ho
    refine ⟨_, ⟨h1, fun b hb _ => ?_⟩, Nat.le_succ _, bind1_same _ _ _, h2⟩
    simp [bind1, show b ≠ h.n by omega]
  | some b =>
    obtain ⟨h1, h2, h3⟩ := hp b rfl
    obtain ⟨h4, h5⟩ := R.fill h1 h2 h3 ho
    refine ⟨_, ⟨h4, fun c hc hne => ?_⟩, Nat.le_refl _, bind1_same _ _ _, h5⟩
    have : c ≠ b := fun e => hne (by rw [e])
    simp [bind1, this]

theorem OR.newCells {r : RB} {c c' : List Value} {t : TypeId} {ex : Bool} (hv : VRL N ρ c c') (hK : r.K = c.length) (hex : ex = true) : OR P N ρ r (.cells c t (0, 0) ex) (.cells ⟨c'⟩ t) := by
  refine ⟨c', (0, 0), rfl, ?_, Nat.le_of_eq hv.length, by rw [hK, hv.length], fun _ => hv.length, ?_, fun h => by rw [hex] at h; cases h⟩
  · rw [hv.length, List.take_length]; exact hv
  · unfold FR; simp

theorem newVar_run (t : TypeId) (v : Value) (W : World) : (newVar t v).run P W = .ok ⟨W.heap.size, 0, none⟩ (W.alloc (.cells v.cells t)) := by
  unfold newVar newRow
  simp only [Sem.run_bind, run_newObj, Result.andThen_ok, Sem.run_pure]
  rfl

/-- A new variable. -/
theorem aNew_sound (R : Rel P N W0 base ρ h W) {ph : Option Nat} (hp : PH N ρ h ph) {t : TypeId} {c c' : List Value} (hv : VRL N ρ c c') :
    ∃ σ, Ext h.n ph ρ σ ∧ h.n ≤ (aNew h ph t c true).2.n ∧ VR N σ (.pointer (some (aNew h ph t c true).1)) (.pointer (some ⟨W.heap.size, 0, none⟩)) ∧
      σ (aNew h ph t c true).1.block = some ⟨W.heap.size, c.length, 1⟩ ∧ Rel P N W0 base σ (aNew h ph t c true).2 (W.alloc (.cells ⟨c'⟩ t)) := by
  obtain ⟨σ, h1, h2, h3, h4⟩ := new_sound R hp (K := c.length) (sz := 1) (o := .cells c t (0, 0) true) (OR.newCells (P := P) (t := t) (r := ⟨W.heap.size, c.length, 1⟩) hv rfl rfl)
  exact ⟨σ, h1, h2, .ptr h3, h3, h4⟩

theorem VR.oneCell {v v' : Value} (h : VR N ρ v v') : v'.oneCell' = v.oneCell' := by cases h <;> rfl
theorem VRL.oneCells : ∀ {l l' : List Value}, VRL N ρ l l' → oneCells l = true → ∀ v ∈ l', v.oneCell' = true
  | _, _, .nil, _, v, hv => by cases hv
  | _, _, .cons a r, h, v, hv => by
    simp only [Ax.oneCells, Bool.and_eq_true] at h
    rcases List.mem_cons.1 hv with rfl | hv
    · rw [a.oneCell]; exact h.1
    · exact VRL.oneCells r h.2 v hv

theorem splice_length {c : List Value} {off : Nat} {vs : List Value} (h : off + vs.length ≤ c.length) : (splice c off vs).length = c.length := by
  simp [splice]; omega

theorem setCell_put {c j : Nat} {cs : List Value} {t : TypeId} {fz : Nat × Nat} (hw : W.heap[c]? = some (.cells ⟨cs⟩ t fz)) (v : Value) : W.setCell ⟨c, j, none⟩ v = putO W c (.cells ⟨cs.set j v⟩ t fz) := by
  unfold World.setCell putO
  congr 1
  apply Array.ext_getElem?
  intro k
  rw [Array.getElem?_modify]
  by_cases hk : c = k
  · subst hk
    rw [if_pos rfl, hw]
    have : c < W.heap.size := (Array.getElem?_eq_some_iff.1 hw).1
    simp [this]
  · rw [if_neg hk, Array.getElem?_setIfInBounds_ne hk]

theorem putO_put {c : Nat} {o o' : Obj} : putO (putO W c o) c o' = putO W c o' := by
  unfold putO
  congr 1
  apply Array.ext_getElem?
  intro k
  by_cases hk : c = k
  · subst hk
    by_cases hlt : c < W.heap.size
    · simp [hlt]
    · simp [hlt]
  · rw [Array.getElem?_setIfInBounds_ne hk, Array.getElem?_setIfInBounds_ne hk, Array.getElem?_setIfInBounds_ne hk]

theorem putO_self {c : Nat} {o : Obj} (hw : W.heap[c]? = some o) : putO W c o = W := by
  unfold putO
  have : W.heap.setIfInBounds c o = W.heap := by
    apply Array.ext_getElem?
    intro k
    by_cases hk : c = k
    · subst hk
      have hlt : c < W.heap.size := (Array.getElem?_eq_some_iff.1 hw).1
      simp [hlt, ← hw]
    · rw [Array.getElem?_setIfInBounds_ne hk]
  rw [this]

theorem storeCells_run (P : Program) (c off : Nat) (t : TypeId) (fz : Nat × Nat) : ∀ (vs : List Value) (i : Nat) (cs : List Value) (W : World), W.heap[c]? = some (.cells ⟨cs⟩ t fz) → off + i + vs.length ≤ cs.length →
    (∀ j, off + i ≤ j → j < cs.length → ¬ (fz.1 ≤ j ∧ j < fz.2)) → (∀ v ∈ vs, v.oneCell' = true) →
    (storeCells ⟨c, off, none⟩ vs i).run P W = .ok () (putO W c (.cells ⟨splice cs (off + i) vs⟩ t fz))
  | [], i, cs, W, hw, hl, hf, ho => by
    have : splice cs (off + i) [] = cs := by simp [splice]
    rw [this, putO_self hw]
    rfl
  | v :: r, i, cs, W, hw, hl, hf, ho => by
    simp only [List.length_cons] at hl
    unfold storeCells
    have h1 : W.cell? ⟨c, off + i, none⟩ = some cs[off + i] := by rw [cell_of hw]; simp
    have h2 : W.frozen? ⟨c, off + i, none⟩ = false := by
      rw [frozen_of hw]
      have := hf (off + i) (Nat.le_refl _) (by omega)
      by_cases h3 : fz.1 ≤ off + i
      · have : ¬ off + i < fz.2 := fun h4 => this ⟨h3, h4⟩
        simp [this]
      · simp [h3]
    rw [add_at]
    simp only [Sem.run_bind, run_store P W _ v .plain (ho v (List.mem_cons_self ..)), h1, h2, Result.andThen_ok]
    rw [setCell_put hw]
    have hw2 : (putO W c (.cells ⟨cs.set (off + i) v⟩ t fz)).heap[c]? = some (.cells ⟨cs.set (off + i) v⟩ t fz) := putO_same (Array.getElem?_eq_some_iff.1 hw).1 _
    have ih := storeCells_run P c off t fz r (i + 1) (cs.set (off + i) v) _ hw2 (by simp; omega) (fun j h3 h4 => hf j (by omega) (by simpa using h4)) (fun u hu => ho u (List.mem_cons_of_mem _ hu))
    rw [putO_put] at ih
    have hs : splice (cs.set (off + i) v) (off + (i + 1)) r = splice cs (off + i) (v :: r) := by
      unfold splice
      have e1 : (cs.set (off + i) v).take (off + (i + 1)) = cs.take (off + i) ++ [v] := by
        rw [show off + (i + 1) = (off + i) + 1 by omega, List.take_succ_eq_append_getElem (by simp; omega)]
        have : List.take (off + i) (cs.set (off + i) v) = List.take (off + i) cs := by
          rw [List.take_set]
          exact List.set_eq_of_length_le (by simp; omega)
        rw [this]; simp
      have e2 : (cs.set (off + i) v).drop (off + (i + 1) + r.length) = cs.drop (off + i + (v :: r).length) := by
        rw [List.drop_set_of_lt (by omega)]
        congr 1
        simp; omega
      rw [e1, e2]; simp
    rw [hs] at ih
    simpa using ih

theorem FR.free {fz fz' : Nat × Nat} {K off : Nat} (hf : FR fz fz' K) (hc : fz.1 = 1 ∨ fz.2 ≤ off) (h01 : fz.1 = 1 ∨ fz.1 ≠ 1) : ∀ j, off ≤ j → j < K → ¬ (fz'.1 ≤ j ∧ j < fz'.2) := by
  intro j h1 h2 h3
  unfold FR at hf
  split at hf
  · rcases hf with hf | hf <;> omega
  · rename_i hne
    rcases hc with hc | hc
    · exact hne hc
    · rcases hf with hf | hf <;> omega

theorem splice_VRL {c c' vs vs' : List Value} {off : Nat} (hc : VRL N ρ c (c'.take c.length)) (hl : c.length ≤ c'.length) (hv : VRL N ρ vs vs') (hb : off + vs.length ≤ c.length) :
    VRL N ρ (splice c off vs) ((splice c' off vs').take (splice c off vs).length) := by
  rw [splice_length hb]
  unfold splice
  have hn := hv.length
  have e : (c'.take off ++ vs' ++ c'.drop (off + vs'.length)).take c.length = c'.take off ++ vs' ++ (c'.drop (off + vs'.length)).take (c.length - (off + vs'.length)) := by
    rw [List.take_append, List.take_of_length_le (by simp; omega)]
    congr 1
    congr 1
    simp; omega
  rw [e]
  refine ((?_ : VRL N ρ _ _).append hv).append ?_
  · have := hc.take off
    rw [List.take_take, Nat.min_eq_left (by omega)] at this
    exact this
  · have := hc.drop (off + vs.length)
    rw [List.drop_take, hn] at this
    rw [hn]; exact this

/-- A store into cells of ours. -/
theorem putCells_sound (R : Rel P N W0 base ρ h W) {p : Addr} {vs vs' : List Value} {h' : AH} (e : putCells N h p vs = some h') {x : Value} (hx : VR N ρ (.pointer (some p)) x) (hv : VRL N ρ vs vs') :
    ∃ q W', x = .pointer (some q) ∧ (storeCells q vs').run P W = .ok () W' ∧ Rel P N W0 base ρ h' W' ∧ h'.n = h.n := by
  unfold putCells at e
  split at e
  · rename_i c t fz ex hg
    split at e
    · rename_i hc
      cases e
      simp only [Bool.and_eq_true, decide_eq_true_eq, Bool.or_eq_true, beq_iff_eq] at hc
      obtain ⟨⟨⟨⟨hc1, hc2⟩, hc3⟩, hc4⟩, hc5⟩ := hc
      have hal : (h.get p.block).alive = true := by rw [hg]; rfl
      obtain ⟨r, o, h1, h2, h3⟩ := R.row _ hal
      rw [hg] at h3
      obtain ⟨c', fz', rfl, h4, h5, h6, h7, h8, h9⟩ := h3
      obtain ⟨r', h10, h11, rfl⟩ := hx.ptr_inv hc2
      rw [h1] at h10
      cases h10
      have hn := hv.length
      have hrun := storeCells_run P r.c p.off t fz' vs' 0 c' W h2 (by omega) (h8.free hc5 (by by_cases hh : fz.1 = 1 <;> simp [hh])) (hv.oneCells hc4)
      refine ⟨_, _, rfl, hrun, R.set hal h1 ?_, rfl⟩
      have hb' : p.off + vs'.length ≤ c'.length := by omega
      have hspl := splice_length (c := c') (off := p.off) (vs := vs') hb'
      refine ⟨splice c' p.off vs', fz', rfl, splice_VRL h4 h5 hv (by omega), ?_, ?_, ?_, ?_, h9⟩
      · rw [splice_length (by omega), hspl]; exact h5
      · rw [hspl]; exact h6
      · intro hex
        rw [splice_length (by omega), hspl]; exact h7 hex
      · rw [hspl]; exact h8
    · cases e
  · cases e
end
end Go.Proofs.YtgjddachhhmimaaGreatDoor.Ax
