import Derived.Test.YtgjddachhhmimaaGreatDoorAx1
import Derived.Laws.Cells
set_option linter.unusedVariables false
set_option linter.unusedSimpArgs false
set_option linter.unnecessarySimpa false
set_option linter.all false
namespace Go.Proofs.YtgjddachhhmimaaGreatDoor.Ax
open Go.RowKit

/-- Where a row lies in the model: its block, how many cells that has, how many an element has. -/
structure RB where
  c : Nat
  K : Nat
  sz : Nat

abbrev Rho := Nat → Option RB
def Rho.le (ρ σ : Rho) : Prop := ∀ b r, ρ b = some r → σ b = some r
theorem Rho.le_refl (ρ : Rho) : ρ.le ρ := fun _ _ h => h
theorem Rho.le_trans {ρ σ τ : Rho} (h : ρ.le σ) (k : σ.le τ) : ρ.le τ := fun b r e => k b r (h b r e)

mutual
inductive VR (N : Nat) (ρ : Rho) : Value → Value → Prop
  | rig {v : Value} : rigid N v = true → VR N ρ v v
  | ptr {b off : Nat} {r : RB} : ρ b = some r → VR N ρ (.pointer (some ⟨b, off, none⟩)) (.pointer (some ⟨r.c, off, none⟩))
  | slice {b off l c : Nat} {r : RB} : ρ b = some r → c < capX → VR N ρ (.slice (some ⟨b, off, none⟩) l c) (.slice (some ⟨r.c, off, none⟩) l c)
  | sliceX {b off l c : Nat} {r : RB} : ρ b = some r → l ≤ c → off + c * r.sz = r.K → 1 ≤ r.sz → VR N ρ (.slice (some ⟨b, off, none⟩) l (capX + r.sz)) (.slice (some ⟨r.c, off, none⟩) l c)
  | sliceE {a a' : Addr} {c : Nat} : VR N ρ (.slice (some a) 0 capX) (.slice (some a') 0 c)
  | map {b : Nat} {r : RB} : ρ b = some r → VR N ρ (.map (some b)) (.map (some r.c))
  | func {fn : Fn} {f f' c c' : List Value} : VRL N ρ f f' → VRL N ρ c c' → VR N ρ (.func fn ⟨f⟩ ⟨c⟩) (.func fn ⟨f'⟩ ⟨c'⟩)
  | iface {t : TypeId} {v v' : Value} : VR N ρ v v' → VR N ρ (.iface t v) (.iface t v')
  | agg {c c' : List Value} : VRL N ρ c c' → VR N ρ (.agg ⟨c⟩) (.agg ⟨c'⟩)
  | tuple {c c' : List Value} : VRL N ρ c c' → VR N ρ (.tuple ⟨c⟩) (.tuple ⟨c'⟩)
inductive VRL (N : Nat) (ρ : Rho) : List Value → List Value → Prop
  | nil : VRL N ρ [] []
  | cons {v v' : Value} {l l' : List Value} : VR N ρ v v' → VRL N ρ l l' → VRL N ρ (v :: l) (v' :: l')
end

section
variable {N : Nat} {ρ σ : Rho}

mutual
theorem VR.mono (h : ρ.le σ) : ∀ {v v' : Value}, VR N ρ v v' → VR N σ v v'
  | _, _, .rig r => .rig r
  | _, _, .ptr e => .ptr (h _ _ e)
  | _, _, .slice e c => .slice (h _ _ e) c
  | _, _, .sliceX e a b c => .sliceX (h _ _ e) a b c
  | _, _, .sliceE => .sliceE
  | _, _, .map e => .map (h _ _ e)
  | _, _, .func a b => .func (VRL.mono h a) (VRL.mono h b)
  | _, _, .iface a => .iface (VR.mono h a)
  | _, _, .agg a => .agg (VRL.mono h a)
  | _, _, .tuple a => .tuple (VRL.mono h a)
theorem VRL.mono (h : ρ.le σ) : ∀ {l l' : List Value}, VRL N ρ l l' → VRL N σ l l'
  | _, _, .nil => .nil
  | _, _, .cons a b => .cons (VR.mono h a) (VRL.mono h b)
end

theorem VRL.rig : ∀ {l : List Value}, rigids N l = true → VRL N ρ l l
  | [], _ => .nil
  | v :: r, h => by
    simp only [rigids, Bool.and_eq_true] at h
    exact .cons (.rig h.1) (VRL.rig h.2)

theorem VRL.length : ∀ {l l' : List Value}, VRL N ρ l l' → l.length = l'.length
  | _, _, .nil => rfl
  | _, _, .cons _ h => by simp [VRL.length h]

theorem VRL.get : ∀ {l l' : List Value}, VRL N ρ l l' → ∀ {i : Nat} {v : Value}, l[i]? = some v → ∃ v', l'[i]? = some v' ∧ VR N ρ v v'
  | _, _, .nil, i, v, h => by simp at h
  | _, _, .cons a r, 0, v, h => by simp at h; subst h; exact ⟨_, rfl, a⟩
  | _, _, .cons a r, i + 1, v, h => by simp at h; simpa using VRL.get r h

theorem VRL.get' : ∀ {l l' : List Value}, VRL N ρ l l' → ∀ {i : Nat} {v : Value}, l'[i]? = some v → ∃ u, l[i]? = some u ∧ VR N ρ u v
  | _, _, .nil, i, v, h => by simp at h
  | _, _, .cons a r, 0, v, h => by simp at h; subst h; exact ⟨_, rfl, a⟩
  | _, _, .cons a r, i + 1, v, h => by simp at h; simpa using VRL.get' r h

theorem VRL.of_get : ∀ {l l' : List Value}, l.length = l'.length → (∀ (i : Nat) (v : Value), l[i]? = some v → ∃ v', l'[i]? = some v' ∧ VR N ρ v v') → VRL N ρ l l'
  | [], [], _, _ => .nil
  | [], _ :: _, h, _ => by simp at h
  | _ :: _, [], h, _ => by simp at h
  | v :: r, v' :: r', h, k => by
    obtain ⟨u, hu, hv⟩ := k 0 v rfl
    simp at hu
    subst hu
    exact .cons hv (VRL.of_get (by simpa using h) fun i w hw => by simpa using k (i + 1) w (by simpa using hw))

theorem VRL.set : ∀ {l l' : List Value} {v v' : Value}, VRL N ρ l l' → VR N ρ v v' → ∀ i, VRL N ρ (l.set i v) (l'.set i v')
  | _, _, _, _, .nil, _, _ => .nil
  | _, _, _, _, .cons a r, h, 0 => .cons h r
  | _, _, _, _, .cons a r, h, i + 1 => .cons a (VRL.set r h i)

theorem VRL.append : ∀ {l l' m m' : List Value}, VRL N ρ l l' → VRL N ρ m m' → VRL N ρ (l ++ m) (l' ++ m')
  | _, _, _, _, .nil, h => h
  | _, _, _, _, .cons a r, h => .cons a (VRL.append r h)

theorem VRL.take : ∀ {l l' : List Value}, VRL N ρ l l' → ∀ n, VRL N ρ (l.take n) (l'.take n)
  | _, _, _, 0 => by simp; exact .nil
  | _, _, .nil, n + 1 => by simp; exact .nil
  | _, _, .cons a r, n + 1 => by simp; exact .cons a (VRL.take r n)

theorem VRL.drop : ∀ {l l' : List Value}, VRL N ρ l l' → ∀ n, VRL N ρ (l.drop n) (l'.drop n)
  | _, _, h, 0 => by simpa using h
  | _, _, .nil, n + 1 => by simp; exact .nil
  | _, _, .cons a r, n + 1 => by simp; exact VRL.drop r n

theorem VRL.replicate {v v' : Value} (h : VR N ρ v v') : ∀ n, VRL N ρ (List.replicate n v) (List.replicate n v')
  | 0 => .nil
  | n + 1 => by simp only [List.replicate_succ]; exact .cons h (VRL.replicate h n)

/-! ### What a related value is, by its make -/
theorem rigidA_some {a : Addr} (h : rigidA N (some a) = true) : a.block < N ∧ a.spot = none := by
  simp only [rigidA, Bool.and_eq_true, decide_eq_true_eq, Option.isNone_iff_eq_none] at h; exact h

mutual
/-- A value that names no row of ours is related to itself alone. -/
theorem VR.eq_of_rigid : ∀ {v v' : Value}, VR N ρ v v' → (∀ b r, ρ b = some r → N ≤ b) → rigid N v = true → v' = v
  | _, _, .rig _, _, _ => rfl
  | _, _, .ptr e, hl, h => by
    have h1 := (rigidA_some (by simpa [rigid] using h)).1
    have h2 := hl _ _ e
    simp at h1; omega
  | _, _, .slice e c, hl, h => by simp [rigid] at h
  | _, _, .sliceX e a b c, hl, h => by simp [rigid] at h
  | _, _, .sliceE, hl, h => by simp [rigid] at h
  | _, _, .map e, hl, h => by simp [rigid] at h
  | _, _, .func a b, hl, h => by
    simp only [rigid, Bool.and_eq_true] at h
    rw [VRL.eq_of_rigid a hl h.1, VRL.eq_of_rigid b hl h.2]
  | _, _, .iface a, hl, h => by rw [VR.eq_of_rigid a hl (by simpa [rigid] using h)]
  | _, _, .agg a, hl, h => by rw [VRL.eq_of_rigid a hl (by simpa [rigid] using h)]
  | _, _, .tuple a, hl, h => by rw [VRL.eq_of_rigid a hl (by simpa [rigid] using h)]
theorem VRL.eq_of_rigid : ∀ {l l' : List Value}, VRL N ρ l l' → (∀ b r, ρ b = some r → N ≤ b) → rigids N l = true → l' = l
  | _, _, .nil, _, _ => rfl
  | _, _, .cons a b, hl, h => by
    simp only [rigids, Bool.and_eq_true] at h
    rw [VR.eq_of_rigid a hl h.1, VRL.eq_of_rigid b hl h.2]
end

theorem VR.bool_inv {b : Bool} {x : Value} (h : VR N ρ (.bool b) x) : x = .bool b := by cases h; rfl
theorem VR.int_inv {k : IntKind} {n : Int} {x : Value} (h : VR N ρ (.int k n) x) : x = .int k n := by cases h; rfl
theorem VR.string_inv {s : ByteArray} {x : Value} (h : VR N ρ (.string s) x) : x = .string s := by cases h; rfl
theorem VR.ptr_inv {a : Addr} {x : Value} (h : VR N ρ (.pointer (some a)) x) (ha : N ≤ a.block) : ∃ r, ρ a.block = some r ∧ a.spot = none ∧ x = .pointer (some ⟨r.c, a.off, none⟩) := by
  cases h with
  | rig h => have := (rigidA_some (by simpa [rigid] using h)).1; omega
  | ptr e => exact ⟨_, e, rfl, rfl⟩
theorem VR.agg_inv {c : List Value} {x : Value} (h : VR N ρ (.agg ⟨c⟩) x) : ∃ c', x = .agg ⟨c'⟩ ∧ VRL N ρ c c' := by
  cases h with
  | rig h => exact ⟨_, rfl, VRL.rig (by simpa [rigid] using h)⟩
  | agg h => exact ⟨_, rfl, h⟩
theorem VR.tuple_inv {c : List Value} {x : Value} (h : VR N ρ (.tuple ⟨c⟩) x) : ∃ c', x = .tuple ⟨c'⟩ ∧ VRL N ρ c c' := by
  cases h with
  | rig h => exact ⟨_, rfl, VRL.rig (by simpa [rigid] using h)⟩
  | tuple h => exact ⟨_, rfl, h⟩
theorem VR.iface_inv {t : TypeId} {v x : Value} (h : VR N ρ (.iface t v) x) : ∃ v', x = .iface t v' ∧ VR N ρ v v' := by
  cases h with
  | rig h => exact ⟨_, rfl, .rig (by simpa [rigid] using h)⟩
  | iface h => exact ⟨_, rfl, h⟩
theorem VR.func_inv {fn : Fn} {f c : List Value} {x : Value} (h : VR N ρ (.func fn ⟨f⟩ ⟨c⟩) x) : ∃ f' c', x = .func fn ⟨f'⟩ ⟨c'⟩ ∧ VRL N ρ f f' ∧ VRL N ρ c c' := by
  cases h with
  | rig h => simp only [rigid, Bool.and_eq_true] at h; exact ⟨_, _, rfl, VRL.rig h.1, VRL.rig h.2⟩
  | func h k => exact ⟨_, _, rfl, h, k⟩
theorem VR.map_inv {b : Nat} {x : Value} (h : VR N ρ (.map (some b)) x) : ∃ r, ρ b = some r ∧ x = .map (some r.c) := by
  cases h with
  | rig h => simp [rigid] at h
  | map e => exact ⟨_, e, rfl⟩
theorem VR.mapNil_inv {x : Value} (h : VR N ρ (.map none) x) : x = .map none := by cases h; rfl
theorem VR.nilSlice_inv {l c : Nat} {x : Value} (h : VR N ρ (.slice none l c) x) : x = .slice none l c := by cases h; rfl

/-- The cells of related values are related. -/
theorem VR.cells {v v' : Value} (h : VR N ρ v v') : VRL N ρ v.cells.toList v'.cells.toList := by
  cases h with
  | rig h =>
    cases v <;> simp only [Value.cells] <;> first
      | exact VRL.rig (by simpa [rigid] using h)
      | exact .cons (.rig h) .nil
  | agg h => exact h
  | _ => exact .cons (by first | exact .ptr ‹_› | exact .slice ‹_› ‹_› | exact .sliceX ‹_› ‹_› ‹_› ‹_› | exact .sliceE | exact .map ‹_› | exact .func ‹_› ‹_› | exact .iface ‹_› | exact .tuple ‹_›) .nil
end
end Go.Proofs.YtgjddachhhmimaaGreatDoor.Ax
