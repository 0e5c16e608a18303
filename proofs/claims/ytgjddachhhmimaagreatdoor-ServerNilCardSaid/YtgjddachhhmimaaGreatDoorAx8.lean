import Derived.Test.YtgjddachhhmimaaGreatDoorAx7
set_option linter.unusedVariables false
set_option linter.unusedSimpArgs false
set_option linter.unnecessarySimpa false
set_option linter.all false
namespace Go.Proofs.YtgjddachhhmimaaGreatDoor.Ax
open Go.RowKit

section
variable {P : Program} {N : Nat} {ρ : Rho}

theorem VR.slice_shape {p : Addr} {l c : Nat} {x : Value} (h : VR N ρ (.slice (some p) l c) x) : ∃ q c', x = .slice (some q) l c' := by
  cases h with
  | rig h => simp [rigid] at h
  | slice e c => exact ⟨_, _, rfl⟩
  | sliceX e a b c => exact ⟨_, _, rfl⟩
  | sliceE => exact ⟨_, _, rfl⟩
theorem VR.ptr_shape {p : Addr} {x : Value} (h : VR N ρ (.pointer (some p)) x) : ∃ q, x = .pointer (some q) := by
  obtain ⟨q, h1, _⟩ := h.ptr_add 0; exact ⟨q, h1⟩
theorem VR.ptrNil_inv {x : Value} (h : VR N ρ (.pointer none) x) : x = .pointer none := by cases h; rfl
theorem VR.nilFunc_inv {x : Value} (h : VR N ρ .nilFunc x) : x = .nilFunc := by cases h; rfl
theorem VR.nilIface_inv {x : Value} (h : VR N ρ .nilIface x) : x = .nilIface := by cases h; rfl
theorem VR.func_shape {fn : Fn} {f c : Array Value} {x : Value} (h : VR N ρ (.func fn f c) x) : ∃ f' c', x = .func fn f' c' := by
  obtain ⟨f⟩ := f; obtain ⟨c⟩ := c
  obtain ⟨f', c', h1, _⟩ := h.func_inv; exact ⟨_, _, h1⟩

theorem nilNot_sound {ty : TypeId} {d : TypeDesc} (hd : P.underlying ty = some d) {x y x' y' : Value} (hx : VR N ρ x x') (hy : VR N ρ y y') (e : nilNot d x y = true) (W : World) :
    (Op.equal ty x' y').run P W = .ok false W ∧ (∀ op a b, (eqGuard op ty a b x' y').run P W = .ok () W) ∧
    (binOp .eql ty x' y').run P W = .ok (.bool false) W ∧ (binOp .neq ty x' y').run P W = .ok (.bool true) W := by
  have key : (Op.equal ty x' y').run P W = .ok false W ∧ (∀ op a b, (eqGuard op ty a b x' y').run P W = .ok () W) ∧ binOp .eql ty x' y' = (do pure (.bool (← Op.equal ty x' y'))) ∧ binOp .neq ty x' y' = (do pure (.bool (!(← Op.equal ty x' y')))) := by
    have hq : ∀ (u v : Value), (∀ n, (Op.equalIn (n + 1) ty u v).run P W = .ok false W) → (Op.equal ty u v).run P W = .ok false W := fun u v hh => hh 9999
    unfold nilNot at e
    split at e <;> try (cases e; done)
    · obtain ⟨q, rfl⟩ := hx.ptr_shape; cases hy.ptrNil_inv
      refine ⟨?_, fun op a b => ?_, rfl, rfl⟩
      · refine hq _ _ fun n => ?_
        simp [Op.equalIn, run_under hd]
      · cases op <;> simp [eqGuard]
    · obtain ⟨q, rfl⟩ := hy.ptr_shape; cases hx.ptrNil_inv
      refine ⟨?_, fun op a b => ?_, rfl, rfl⟩
      · refine hq _ _ fun n => ?_
        simp [Op.equalIn, run_under hd]
      · cases op <;> simp [eqGuard]
    · obtain ⟨q, c', rfl⟩ := hx.slice_shape; cases hy.nilSlice_inv
      refine ⟨?_, fun op a b => ?_, rfl, rfl⟩
      · refine hq _ _ fun n => ?_
        simp [Op.equalIn, run_under hd]
      · cases op <;> simp [eqGuard]
    · obtain ⟨q, c', rfl⟩ := hy.slice_shape; cases hx.nilSlice_inv
      refine ⟨?_, fun op a b => ?_, rfl, rfl⟩
      · refine hq _ _ fun n => ?_
        simp [Op.equalIn, run_under hd]
      · cases op <;> simp [eqGuard]
    · obtain ⟨r, _, rfl⟩ := hx.map_inv; cases hy.mapNil_inv
      refine ⟨?_, fun op a b => ?_, rfl, rfl⟩
      · refine hq _ _ fun n => ?_
        simp [Op.equalIn, run_under hd]
      · cases op <;> simp [eqGuard]
    · obtain ⟨r, _, rfl⟩ := hy.map_inv; cases hx.mapNil_inv
      refine ⟨?_, fun op a b => ?_, rfl, rfl⟩
      · refine hq _ _ fun n => ?_
        simp [Op.equalIn, run_under hd]
      · cases op <;> simp [eqGuard]
    · obtain ⟨f', c', rfl⟩ := hx.func_shape; cases hy.nilFunc_inv
      refine ⟨?_, fun op a b => ?_, rfl, rfl⟩
      · refine hq _ _ fun n => ?_
        simp [Op.equalIn, run_under hd]
      · cases op <;> simp [eqGuard]
    · obtain ⟨f', c', rfl⟩ := hy.func_shape; cases hx.nilFunc_inv
      refine ⟨?_, fun op a b => ?_, rfl, rfl⟩
      · refine hq _ _ fun n => ?_
        simp [Op.equalIn, run_under hd]
      · cases op <;> simp [eqGuard]
    · obtain ⟨v', rfl, _⟩ := hx.iface_inv; cases hy.nilIface_inv
      refine ⟨?_, fun op a b => ?_, rfl, rfl⟩
      · refine hq _ _ fun n => ?_
        simp [Op.equalIn, run_under hd]
      · cases op <;> simp [eqGuard]
    · obtain ⟨v', rfl, _⟩ := hy.iface_inv; cases hx.nilIface_inv
      refine ⟨?_, fun op a b => ?_, rfl, rfl⟩
      · refine hq _ _ fun n => ?_
        simp [Op.equalIn, run_under hd]
      · cases op <;> simp [eqGuard]
  obtain ⟨h1, h2, h3, h4⟩ := key
  exact ⟨h1, h2, by rw [h3]; simp [h1], by rw [h4]; simp [h1]⟩

theorem opP_sound {t : List Value} {a : Act} (h : TR N ρ t a) (hl : ∀ b r, ρ b = some r → N ≤ b) {o : Oper} (hs : ∀ cs b, o.op ≠ .select cs b) {v : Value} (e : opP P N o t = some v) :
    ∃ v', VR N ρ v v' ∧ ∀ W, (execOp a.eval o).run P W = .ok (.value v') W := by
  have gen : ∀ {v}, generic P N o t = some v → ∃ v', VR N ρ v v' ∧ ∀ W, (execOp a.eval o).run P W = .ok (.value v') W := fun e => ⟨_, generic_sound h hl hs e⟩
  have mk : ∀ {s : Sem Value} {v'}, (∀ W, s.run P W = .ok v' W) → ∀ W, ((do pure (.value (← s)) : Sem Next)).run P W = .ok (.value v') W := fun hs W => run_value (hs W)
  unfold opP at e
  split at e
  · -- move
    rename_i x ho
    unfold execOp; simp only [ho]
    exact ⟨_, aev_sound h e, fun W => rfl⟩
  · rename_i x ho
    unfold execOp; simp only [ho]
    exact ⟨_, aev_sound h e, fun W => rfl⟩
  · -- pick
    rename_i c x y ho
    unfold execOp; simp only [ho]
    split at e
    · rename_i hc
      have h1 := (aev_sound h hc).bool_inv
      exact ⟨_, aev_sound h e, fun W => by rw [h1]; rfl⟩
    · rename_i hc
      have h1 := (aev_sound h hc).bool_inv
      exact ⟨_, aev_sound h e, fun W => by rw [h1]; rfl⟩
    · cases e
  · -- build
    rename_i ty parts ho
    unfold execOp; simp only [ho]
    simp only [Option.bind_eq_some_iff] at e
    obtain ⟨ps, h1, z, h2, h3⟩ := e
    obtain ⟨v', h4, h5⟩ := build_sound (aParts_sound h h1) h2 h3
    refine ⟨v', h4, mk fun W => ?_⟩
    have : (parts.map fun (i, x) => (i, a.eval x)) = ⟨parts.toList.map fun p => (p.1, a.eval p.2)⟩ := by
      apply Array.toList_inj.1; simp
    rw [this]; exact h5 W
  · -- nilCheck
    rename_i x ho
    unfold execOp; simp only [ho]
    split at e
    · rename_i p hx
      cases e
      have h1 := aev_sound h hx
      obtain ⟨q, h2⟩ := h1.ptr_shape
      rw [h2] at h1 ⊢
      exact ⟨_, h1, fun W => rfl⟩
    · rename_i f b c hx
      cases e
      have h1 := aev_sound h hx
      obtain ⟨f', c', h2⟩ := h1.func_shape
      rw [h2] at h1 ⊢
      exact ⟨_, h1, fun W => rfl⟩
    · cases e
  · -- makeInterface
    rename_i ty x ho
    unfold execOp; simp only [ho]
    simp only [Option.bind_eq_some_iff] at e
    obtain ⟨v, h1, h2⟩ := e
    cases hd : P.underlying ty with
    | none => simp [hd] at h2
    | some d =>
      have : v = v := rfl
      refine ⟨.iface ty (a.eval x), ?_, mk fun W => ?_⟩
      · cases d <;> simp [hd] at h2 <;> (subst h2; exact .iface (aev_sound h h1))
      · unfold Instr.makeInterface
        simp only [Sem.run_bind, run_under hd, Result.andThen_ok]
        cases d <;> simp [hd] at h2 <;> rfl
  · -- makeFunc
    rename_i fn first cap ho
    unfold execOp; simp only [ho]
    simp only [Option.bind_eq_some_iff] at e
    obtain ⟨fs, h1, cs, h2, h3⟩ := e
    cases h3
    refine ⟨.func fn (first.map a.eval) (cap.map a.eval), ?_, mk fun W => rfl⟩
    have e1 : first.map a.eval = ⟨first.toList.map a.eval⟩ := by apply Array.toList_inj.1; simp
    have e2 : cap.map a.eval = ⟨cap.toList.map a.eval⟩ := by apply Array.toList_inj.1; simp
    rw [e1, e2]
    exact .func (aevs_sound h h1) (aevs_sound h h2)
  · -- fieldAddr
    rename_i s x f ho
    unfold execOp; simp only [ho]
    split at e
    · rename_i p fields hx hu
      split at e
      · rename_i fd hf
        split at e
        · rename_i i hi
          split at e
          · rename_i hc
            cases e
            obtain ⟨q, h1, h2⟩ := (aev_sound h hx).ptr_add fd.offset
            exact ⟨_, h2, mk fun W => by rw [h1]; exact fieldAt_sound hu hf hi hc.1 q W⟩
          · cases e
        · cases e
      · cases e
    · cases e
  · -- indexAddr
    rename_i ty x ix ho
    unfold execOp; simp only [ho]
    split at e
    · rename_i p len c k i el hx hi hu
      split at e
      · rename_i ti hti
        split at e
        · rename_i hc
          cases e
          have h1 := aev_sound h hx
          have h2 := (aev_sound h hi).int_inv
          have h3 : ∃ q c', a.eval x = .slice (some q) len c' ∧ VR N ρ (.pointer (some (p.add (i.toNat * ti.size)))) (.pointer (some (q.add (i.toNat * ti.size)))) := by
            revert h1
            generalize a.eval x = u
            intro h1
            cases h1 with
            | rig hr => simp [rigid] at hr
            | slice e1 e2 => exact ⟨_, _, rfl, by rw [add_at, add_at]; exact .ptr e1⟩
            | sliceX e1 e2 e3 e4 => exact ⟨_, _, rfl, by rw [add_at, add_at]; exact .ptr e1⟩
            | sliceE => have := hc.2.1; have := hc.1; omega
          obtain ⟨q, c', h4, h5⟩ := h3
          exact ⟨_, h5, mk fun W => by rw [h4, h2]; exact indexAt_slice hu hti hc.1 hc.2.1 q W⟩
        · cases e
      · cases e
    · rename_i p k i len el hx hi hu
      split at e
      · rename_i ti hti
        split at e
        · rename_i hc
          cases e
          obtain ⟨q, h1, h2⟩ := (aev_sound h hx).ptr_add (i.toNat * ti.size)
          have h3 := (aev_sound h hi).int_inv
          exact ⟨_, h2, mk fun W => by rw [h1, h3]; exact indexAt_array hu hti hc.1 hc.2.1 q W⟩
        · cases e
      · cases e
    · cases e
  · -- slice
    rename_i ty x lo hi mx ho
    split at e
    · rename_i A len cap el hx hu
      split at e
      · rename_i ti hti
        unfold execOp; simp only [ho]
        obtain ⟨v', h1, h2⟩ := aSlice_sound h (aev_sound h hx) e hu hti rfl
        exact ⟨v', h1, mk fun W => h2 W⟩
      · cases e
    · exact gen e
  · -- extract
    rename_i x i ho
    unfold execOp; simp only [ho]
    split at e
    · rename_i vs hx
      obtain ⟨vs⟩ := vs
      obtain ⟨c', h1, h2⟩ := (aev_sound h hx).tuple_inv
      obtain ⟨v', h3, h4⟩ := h2.get (i := i) (v := v) (by simpa using e)
      refine ⟨v', h4, mk fun W => ?_⟩
      rw [h1]
      unfold Instr.extract
      simp [h3]
    · cases e
  · -- typeAssert
    rename_i x xT asT ok ho
    unfold execOp; simp only [ho]
    simp only [Option.bind_eq_some_iff] at e
    obtain ⟨u, h1, z, h2, h3⟩ := e
    obtain ⟨r', h4, h5⟩ := typeAssert_sound (xT := xT) (aev_sound h h1) h2 h3
    exact ⟨r', h4, mk fun W => h5 W⟩
  · -- binOp
    rename_i op ty x y yt ho
    split at e
    · exact gen e
    · split at e
      · rename_i u w d hx hy hd
        split at e
        · rename_i hn
          have hh := fun W => nilNot_sound hd (aev_sound h hx) (aev_sound h hy) hn W
          unfold execOp; simp only [ho]
          cases op <;> simp at e
          · subst e
            exact ⟨_, .rig rfl, mk fun W => by simp only [Sem.run_bind, (hh W).2.1, Result.andThen_ok, (hh W).2.2.1]⟩
          · subst e
            exact ⟨_, .rig rfl, mk fun W => by simp only [Sem.run_bind, (hh W).2.1, Result.andThen_ok, (hh W).2.2.2]⟩
        · cases e
      · cases e
  · exact gen e
  · exact gen e
  · exact gen e
  · exact gen e
  · -- len
    rename_i args tys ho
    split at e
    · rename_i x ty r ha htys
      split at e
      · rename_i A n c el hx hu
        cases e
        have h3 : ∃ A' c', a.eval x = .slice A' n c' := by
          cases A with
          | none => exact ⟨_, _, (aev_sound h hx).nilSlice_inv⟩
          | some p => obtain ⟨q, c', h4⟩ := (aev_sound h hx).slice_shape; exact ⟨_, _, h4⟩
        obtain ⟨A', c', h4⟩ := h3
        refine ⟨.int .i64 n, .rig rfl, fun W => ?_⟩
        have e1 : args = #[x] := by apply Array.toList_inj.1; simpa using ha
        have e2 : tys[0]? = some ty := by rw [← Array.getElem?_toList, htys]; rfl
        unfold execOp
        simp only [ho, resolve, e1]
        simp [invoke, builtin, Builtin.len_, e2, h4, run_under hu, goInt]
      · cases e
      · exact gen e
    · cases e
  · exact gen e
  · exact gen e
  · cases e
end
end Go.Proofs.YtgjddachhhmimaaGreatDoor.Ax
