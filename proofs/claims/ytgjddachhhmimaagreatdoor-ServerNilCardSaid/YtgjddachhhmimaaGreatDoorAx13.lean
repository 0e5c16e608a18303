import Derived.Test.YtgjddachhhmimaaGreatDoorAx12
set_option linter.unusedVariables false
set_option linter.unusedSimpArgs false
set_option linter.unnecessarySimpa false
set_option linter.all false
namespace Go.Proofs.YtgjddachhhmimaaGreatDoor.Ax
open Go.RowKit

section
variable {P : Program} {N : Nat} {W0 : World} {base : Nat} {ρ : Rho} {h : AH} {W : World}

theorem initCells_rigid {z : Array Value} (hz : rigids N z.toList = true) {n : Nat} (hn : z.size = 0 → n = 0) : rigids N (initCells n z).toList = true := by
  have key : ∀ l : List Value, (∀ v ∈ l, rigid N v = true) → rigids N l = true := by
    intro l
    induction l with
    | nil => intro _; rfl
    | cons v r ih => intro h; simp only [rigids, Bool.and_eq_true]; exact ⟨h v (List.mem_cons_self ..), ih fun u hu => h u (List.mem_cons_of_mem _ hu)⟩
  refine key _ fun v hv => ?_
  unfold initCells at hv
  simp only [Array.toList_map, List.mem_map, Array.toList_range, List.mem_range] at hv
  obtain ⟨k, hk, rfl⟩ := hv
  have hs : 0 < z.size := by
    rcases Nat.eq_zero_or_pos z.size with h0 | h0
    · have := hn h0; omega
    · exact h0
  have hlt : k % z.size < z.size := Nat.mod_lt _ hs
  rw [getElem!_pos z (k % z.size) hlt]
  exact rigids_mem hz _ (by simp)

theorem cells_rigid {z : Value} (hz2 : rigid N z = true) : rigids N z.cells.toList = true := by
  cases z <;> simp only [Value.cells] <;> first | (simpa [rigid] using hz2) | (simp [rigids, hz2])

/-- What opW leaves. -/
def WSound (P : Program) (N : Nat) (W0 : World) (base : Nat) (ρ : Rho) (h : AH) (W : World) (ph : Option Nat) (s : Sem Next) (v : Value) (h' : AH) : Prop :=
  ∃ σ v' W', Ext h.n ph ρ σ ∧ h.n ≤ h'.n ∧ VR N σ v v' ∧ Rel P N W0 base σ h' W' ∧ Gives (s.run P W) v' W'

theorem WSound.of {ph : Option Nat} {s : Sem Value} {v : Value} {h' : AH} (k : ∃ σ v' W', Ext h.n ph ρ σ ∧ h.n ≤ h'.n ∧ VR N σ v v' ∧ Rel P N W0 base σ h' W' ∧ s.run P W = .ok v' W') :
    WSound P N W0 base ρ h W ph (do pure (.value (← s))) v h' := by
  obtain ⟨σ, v', W', h1, h2, h3, h4, h5⟩ := k
  exact ⟨σ, v', W', h1, h2, h3, h4, .inl (run_value h5)⟩
theorem WSound.ofU {ph : Option Nat} {s : Sem Unit} {h' : AH} (k : ∃ σ W', Ext h.n ph ρ σ ∧ h.n ≤ h'.n ∧ Rel P N W0 base σ h' W' ∧ s.run P W = .ok () W') :
    WSound P N W0 base ρ h W ph (do s; pure .skip) undef h' := by
  obtain ⟨σ, W', h1, h2, h4, h5⟩ := k
  exact ⟨σ, undef, W', h1, h2, VR.undef, h4, .inr ⟨by simp only [Sem.run_bind, h5, Result.andThen_ok, Sem.run_pure], rfl⟩⟩

theorem Ext.none_of {ph : Option Nat} {n : Nat} {σ : Rho} (h : Ext n none ρ σ) : Ext n ph ρ σ := ⟨h.1, fun b hb _ => h.2 b hb (by simp)⟩

theorem aParts_build (R : Rel P N W0 base ρ h W) {ph : Option Nat} (hp : PH N ρ h ph) {ty e : TypeId} {len : Nat} {ps ps' : List (Nat × Value)} (hps : PR N ρ ps ps') {i : TypeInfo} {z : Value} (ht : P.underlying ty = some (.slice e)) (hi : P.info? e = some i) (hz : zeroOf P N e = some z)
    (hc : len * i.size ≤ 16777216 ∧ len < capX ∧ z.cells.size = i.size) {cs : Array Value} (hf : Instr.fill (fun j => some (j * i.size, i.size)) (initCells (len * i.size) z.cells) ps = some cs) :
    ∃ σ v' W', Ext h.n ph ρ σ ∧ h.n ≤ (aNew h ph e cs.toList true).2.n ∧ VR N σ (.slice (some (aNew h ph e cs.toList true).1) len len) v' ∧ Rel P N W0 base σ (aNew h ph e cs.toList true).2 W' ∧
      (Instr.buildSlice ty len ⟨ps'⟩).run P W = .ok v' W' := by
  obtain ⟨hz1, hz2⟩ := zeroOf_spec hz
  have hzr : rigids N z.cells.toList = true := by
    cases z <;> simp only [Value.cells] <;> first | (simpa [rigid] using hz2) | (simp [rigids, hz2])
  have hinit : rigids N (initCells (len * i.size) z.cells).toList = true := initCells_rigid hzr fun h0 => by rw [← hc.2.2, h0]; simp
  obtain ⟨cs', h1, h2⟩ := fill_sound _ hps (VRL.rig (ρ := ρ) hinit) hf
  obtain ⟨σ, k1, k2, k3, k4, k5⟩ := aNew_sound R hp (t := e) h2
  refine ⟨σ, .slice (some ⟨W.heap.size, 0, none⟩) len len, _, k1, k2, .slice k4 hc.2.1, k5, ?_⟩
  have hcc : ¬ (len * i.size > 2 ^ 24) := by have := hc.1; omega
  unfold Instr.buildSlice
  simp only [Sem.run_bind, run_under ht, Result.andThen_ok, run_size hi, hcc, if_false, Sem.run_pure]
  have hz0 : ∀ W, (if len * i.size = 0 then pure #[] else do pure (← zeroValue e).cells : Sem (Array Value)).run P W = .ok (if len * i.size = 0 then #[] else z.cells) W := by
    intro W
    split
    · rfl
    · simp only [Sem.run_bind, run_zero hz, Result.andThen_ok, Sem.run_pure]
  have hin : (Array.range (len * i.size)).map (fun x => (if len * i.size = 0 then #[] else z.cells)[x % (if len * i.size = 0 then (#[] : Array Value) else z.cells).size]!) = initCells (len * i.size) z.cells := by
    unfold initCells
    by_cases h0 : len * i.size = 0
    · simp [h0]
    · rw [if_neg h0]
  by_cases h0 : len * i.size = 0
  · simp only [h0, if_true] at hin ⊢
    rw [h0] at h1
    simp only [Sem.run_bind, Sem.run_pure, Result.andThen_ok]
    rw [hin, h1]
    simp only [newRow, Sem.run_bind, run_newObj, Result.andThen_ok, Sem.run_pure]
    rfl
  · rw [if_neg h0] at hin
    simp only [if_neg h0, Sem.run_bind, run_zero hz, Result.andThen_ok, Sem.run_pure]
    rw [hin, h1]
    simp only [newRow, Sem.run_bind, run_newObj, Result.andThen_ok, Sem.run_pure]
    rfl

theorem aStore_sound (R : Rel P N W0 base ρ h W) {ty : TypeId} {p : Addr} {v v' x : Value} {h' : AH} (e : aStore P N h ty p v = some h') (hx : VR N ρ (.pointer (some p)) x) (hv : VR N ρ v v') :
    ∃ W', (Instr.storeAt ty x v').run P W = .ok () W' ∧ Rel P N W0 base ρ h' W' ∧ h'.n = h.n := by
  unfold aStore at e
  split at e
  · rename_i i hi
    split at e
    · rename_i hs
      obtain ⟨q, W', rfl, h1, h2, h3⟩ := putCells_sound R e hx hv.cells
      refine ⟨W', ?_, h2, h3⟩
      have hs' : v'.cells.size = i.size := by
        have := hv.cells.length
        simp only [Array.length_toList] at this
        rw [← this]; simpa using hs
      unfold Instr.storeAt storeVar
      simp only [Instr.sureAddr, Sem.run_bind, Sem.run_pure, Result.andThen_ok, run_size hi, hs', ne_eq, not_true, if_false]
      exact h1
    · cases e
  · cases e

theorem setObj_run {c : Nat} {o o' : Obj} (hw : W.heap[c]? = some o) (hn : ∀ a t f, o ≠ .cells a t f) : (setObj c o').run P W = .ok () (putO W c o') := by
  cases o with
  | cells a t f => exact absurd rfl (hn a t f)
  | _ => simp [setObj, Sem.run, hw, putO]

theorem MER.modify {k v v' : Value} (hk : rigid N k = true) (hv : VR N ρ v v') : ∀ {es es' : List MapEntry}, MER N ρ es es' → ∀ {i : Nat} {e : MapEntry}, es[i]? = some e →
    MER N ρ (es.set i { e with key := k, val := v }) (es'.modify i fun e => { e with key := k, val := v' }) ∧ (∃ e', es'[i]? = some e' ∧ e'.key = e.key)
  | _, _, .nil, i, e, h => by simp at h
  | _, _, .cons a b r, 0, e, h => by
    simp at h; subst h
    exact ⟨.cons hk hv r, _, rfl, rfl⟩
  | _, _, .cons a b r, i + 1, e, h => by
    simp at h
    obtain ⟨h1, e', h2, h3⟩ := MER.modify hk hv r h
    exact ⟨by simpa using MER.cons a b h1, e', by simpa using h2, h3⟩
theorem MER.push {k v v' : Value} {b : Nat} (hk : rigid N k = true) (hv : VR N ρ v v') : ∀ {es es' : List MapEntry}, MER N ρ es es' → MER N ρ (es ++ [⟨k, v, b⟩]) (es' ++ [⟨k, v', b⟩])
  | _, _, .nil => .cons hk hv .nil
  | _, _, .cons a c r => .cons a c (MER.push hk hv r)
theorem MER.erase : ∀ {es es' : List MapEntry}, MER N ρ es es' → ∀ i, MER N ρ (es.eraseIdx i) (es'.eraseIdx i)
  | _, _, .nil, i => by simp; exact .nil
  | _, _, .cons a c r, 0 => by simpa using r
  | _, _, .cons a c r, i + 1 => by simpa using MER.cons a c (MER.erase r i)

theorem mapUpdate_sound (R : Rel P N W0 base ρ h W) {ty kt et : TypeId} {kd : TypeDesc} {r : Nat} {m' k v v' v0 : Value} {es : List MapEntry} {ck : Nat} {h' : AH} (ht : P.underlying ty = some (.map kt et)) (hk : P.underlying kt = some kd)
    (hg : h.get r = .map es ck) (hm : VR N ρ (.map (some r)) m') (hp : plainKey kd = true) (hkr : rigid N k = true) (hv : VR N ρ v v')
    (e : (match Instr.findNow kd k es 0 with
          | some (some (i, _)) => match es[i]? with
            | some e => if Instr.sameBits 10000 e.key k then some (AN.val undef (h.set r (.map (es.set i { e with key := k, val := v }) ck))) else none
            | none => none
          | some none => some (.val undef (h.set r (.map (es ++ [{ key := k, val := v, born := ck }]) (ck + 1))))
          | none => none) = some (.val v0 h')) :
    v0 = undef ∧ ∃ W', (Instr.mapUpdate ty m' k v').run P W = .ok () W' ∧ Rel P N W0 base ρ h' W' ∧ h'.n = h.n := by
  obtain ⟨q, es', h1, h2, h3⟩ := map_row R hg
  obtain ⟨q', h4, rfl⟩ := hm.map_inv
  rw [h1] at h4; cases h4
  have hal : (h.get r).alive = true := by rw [hg]; rfl
  have hob := getObj_run (P := P) h2 (by intro _ _ _ h; cases h)
  have hf := MER.findNow (N := N) (ρ := ρ) kd k 0 h3
  have hst : ∀ o', (setObj q.c o').run P W = .ok () (putO W q.c o') := fun o' => setObj_run h2 (by intro _ _ _ h; cases h)
  split at e
  · rename_i i u hfn
    split at e
    · rename_i en hen
      split at e
      · rename_i hsb
        cases e
        obtain ⟨u', _, h5⟩ := hf.1 i u hfn
        obtain ⟨h6, en', h7, h8⟩ := MER.modify hkr hv h3 hen
        refine ⟨rfl, _, ?_, R.set hal h1 (o := .map _ _) (o' := .map ⟨es'.modify i fun e => { e with key := k, val := v' }⟩ ck) ⟨_, rfl, h6⟩, rfl⟩
        have hks : ∀ W, (Instr.keyThatStays (((Array.mk es')[i]?.map (·.key)).getD k) k).run P W = .ok k W := by
          intro W
          have : (((Array.mk es')[i]?.map (·.key)).getD k) = en.key := by simp [h7, h8]
          rw [this]
          unfold Instr.keyThatStays
          rw [if_pos hsb]; rfl
        unfold Instr.mapUpdate
        simp only [Sem.run_bind, run_under ht, Result.andThen_ok, hob, checkKey_plain hk hp, findKey_sound hk h5, hks]
        rw [← hst]
        congr 2
        congr 1
        apply Array.toList_inj.1
        simp
      · cases e
    · cases e
  · rename_i hfn
    cases e
    have h5 := hf.2 hfn
    refine ⟨rfl, _, ?_, R.set hal h1 (o := .map _ _) (o' := .map ⟨es' ++ [⟨k, v', ck⟩]⟩ (ck + 1)) ⟨_, rfl, h3.push hkr hv⟩, rfl⟩
    unfold Instr.mapUpdate
    simp only [Sem.run_bind, run_under ht, Result.andThen_ok, hob, checkKey_plain hk hp, findKey_sound hk h5]
    rw [← hst]
    congr 2
    congr 1
    apply Array.toList_inj.1
    simp
  · cases e
end
end Go.Proofs.YtgjddachhhmimaaGreatDoor.Ax
