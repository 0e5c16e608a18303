import Derived.Test.YtgjddachhhmimaaGreatDoorAx11
set_option linter.unusedVariables false
set_option linter.unusedSimpArgs false
set_option linter.unnecessarySimpa false
set_option linter.all false
namespace Go.Proofs.YtgjddachhhmimaaGreatDoor.Ax
open Go.RowKit

section
variable {P : Program} {N : Nat} {W0 : World} {base : Nat} {ρ : Rho} {h : AH} {W : World}

theorem firstCells_row (R : Rel P N W0 base ρ h W) {p : Addr} {size k : Nat} {cs : List Value} (e : rowCells h p (k * size) = some cs) {q : Addr} (hx : VR N ρ (.pointer (some p)) (.pointer (some q))) (l c : Nat) :
    ∃ cs', VRL N ρ cs cs' ∧ cs'.length = k * size ∧ ∀ W', W'.heap = W.heap → (Builtin.firstCells size k (.slice (some q) l c)).run P W' = .ok ⟨cs'⟩ W' := by
  obtain ⟨hlen, q', cs', h5, h6, h7, _⟩ := rowCells_sound R e hx
  cases h5
  refine ⟨cs', h6, by rw [← h6.length, hlen], fun W' hW => ?_⟩
  refine run_firstCells_some (P := P) W' size k q l c _ (by rw [← h6.length, hlen]) fun j v hj => ?_
  have := h7 j v hj
  unfold World.cell? at this ⊢
  rw [hW]; exact this

/-- A new name for a row that none alive names. -/
theorem Rel.adopt (R : Rel P N W0 base ρ h W) {r : RB} (hb : base ≤ r.c) {o : AObj} {o' : Obj} (hw : W.heap[r.c]? = some o') (hfree : ∀ b q, (h.get b).alive = true → ρ b = some q → q.c ≠ r.c) (ho : OR P N ρ r o o') :
    ρ.le (bind1 ρ h.n r) ∧ Rel P N W0 base (bind1 ρ h.n r) (h.push o) W := by
  have hN := R.hN
  have hlt : r.c < W.heap.size := (Array.getElem?_eq_some_iff.1 hw).1
  have hnone : ρ h.n = none := by
    cases e : ρ h.n with
    | none => rfl
    | some q => have := (R.low _ _ e).2.1; omega
  have hle : ρ.le (bind1 ρ h.n r) := bind1_le hnone
  refine ⟨hle, by simp [AH.push, R.len], fun x q e => ?_, fun x hx => ?_, fun x y p q hx hy ex ey e => ?_, R.below, Nat.le_succ_of_le hN, R.bs⟩
  · by_cases hx : x = h.n
    · subst hx
      simp [bind1] at e
      subst e
      exact ⟨hN, by simp [AH.push], hlt, hb⟩
    · have e' : ρ x = some q := by simpa [bind1, hx] using e
      obtain ⟨h1, h2, h3, h4⟩ := R.low x q e'
      exact ⟨h1, by simp [AH.push]; omega, h3, h4⟩
  · by_cases e : x = h.n
    · subst e
      rw [AH.get_push_new R.len]
      exact ⟨_, o', bind1_same _ _ _, hw, ho.mono hle⟩
    · rw [AH.get_push_old e] at hx ⊢
      obtain ⟨q, u, h1, h2, h3⟩ := R.row x hx
      exact ⟨q, u, hle _ _ h1, h2, h3.mono hle⟩
  · by_cases e1 : x = h.n
    · by_cases e2 : y = h.n
      · rw [e1, e2]
      · subst e1
        simp [bind1] at ex
        have ey' : ρ y = some q := by simpa [bind1, e2] using ey
        rw [AH.get_push_old e2] at hy
        exact absurd (by rw [← e, ← ex]) (hfree y q hy ey')
    · have ex' : ρ x = some p := by simpa [bind1, e1] using ex
      rw [AH.get_push_old e1] at hx
      by_cases e2 : y = h.n
      · subst e2
        simp [bind1] at ey
        exact absurd (by rw [e, ← ey]) (hfree x p hx ex')
      · have ey' : ρ y = some q := by simpa [bind1, e2] using ey
        rw [AH.get_push_old e2] at hy
        exact R.inj x y p q hx hy ex' ey' e

theorem Ext.bind1 {ph : Option Nat} {r : RB} (hle : ρ.le (bind1 ρ h.n r)) : Ext h.n ph ρ (bind1 ρ h.n r) :=
  ⟨hle, fun b hb _ => by simp [Ax.bind1, show b ≠ h.n by omega]⟩

/-- What append leaves in a new row. -/
theorem grow_rel (R : Rel P N W0 base ρ h W) {e : TypeId} {i : TypeInfo} (hi : P.info? e = some i) {old cs old' cs' rest : List Value} (ho : VRL N ρ old old') (hc : VRL N ρ cs cs') {fz : Nat × Nat} {need nc : Nat} (hsz : 1 ≤ i.size)
    (hl : old'.length + cs'.length = need * i.size) (hn : need ≤ nc) (hr : rest.length = (nc - need) * i.size) :
    ∃ σ, Ext h.n none ρ σ ∧ VR N σ (.slice (some ⟨h.n, 0, none⟩) need (capX + i.size)) (.slice (some ⟨W.heap.size, 0, none⟩) need nc) ∧
      Rel P N W0 base σ (h.push (.cells (old ++ cs) e fz false)) (W.drew.alloc (.cells ⟨old' ++ cs' ++ rest⟩ e)) := by
  have R1 := R.drew W.drew rfl rfl rfl rfl
  have hlen : (old' ++ cs' ++ rest).length = nc * i.size := by
    simp only [List.length_append, hl, hr]
    rw [← Nat.add_mul]; congr 1; omega
  have hl2 : (old ++ cs).length = (old' ++ cs').length := by simp [ho.length, hc.length]
  have hor : OR P N ρ ⟨W.drew.heap.size, nc * i.size, i.size⟩ (.cells (old ++ cs) e fz false) (.cells ⟨old' ++ cs' ++ rest⟩ e) := by
    refine ⟨old' ++ cs' ++ rest, (0, 0), rfl, ?_, ?_, hlen, (fun hh => by cases hh), ?_, (fun _ => by rw [hi]; rfl)⟩
    · rw [hl2, List.take_left']
      · exact ho.append hc
      · rfl
    · rw [hl2]; simp
    · unfold FR; split <;> exact .inl rfl
  obtain ⟨h1, h2⟩ := R1.push hor
  refine ⟨_, Ext.bind1 h1, ?_, h2⟩
  exact .sliceX (r := ⟨W.drew.heap.size, nc * i.size, i.size⟩) (bind1_same _ _ _) hn (by simp) hsz

theorem aAppend2_sound (R : Rel P N W0 base ρ h W) {argTypes : Array TypeId} {ty sT xT el : TypeId} {xd : TypeDesc} {i : TypeInfo} {n : Nat} {cs : List Value} {base' : Option Addr} {len cap : Nat} {x s' x' v : Value} {h' : AH}
    (a0 : argTypes[0]? = some sT) (a1 : argTypes[1]? = some xT) (hsT : P.underlying sT = some (.slice el)) (hxT : P.underlying xT = some xd) (hni : ∀ k, xd ≠ .int k) (hi : P.info? el = some i)
    (hsz : 1 ≤ i.size) (hby : 1 ≤ i.bytes) (hzz : (zeroOf P N el).map (·.cells.size) = some i.size) (hsrc : srcCells h i.size x = some (n, cs)) (hneed : (len + n) * i.bytes ≤ 2 ^ 44)
    (e : aAppend2 N h el i.size i.bytes base' len cap n cs = some (v, h')) (hs : VR N ρ (.slice base' len cap) s') (hx : VR N ρ x x') :
    ∃ σ v' W', Ext h.n none ρ σ ∧ h.n ≤ h'.n ∧ VR N σ v v' ∧ Rel P N W0 base σ h' W' ∧ (Builtin.append_ argTypes ty #[s', x']).run P W = .ok v' W' := by
  unfold aAppend2 at e
  obtain ⟨z, hz, hzs⟩ := Option.map_eq_some_iff.1 hzz
  obtain ⟨cs', hcs, hlen, hfirst, _, hcl⟩ := srcCells_sound R hsrc hx
  have hcl' : cs'.length = n * i.size := by rw [← hcs.length, hcl]
  split at e
  · -- the capacity is known
    rename_i hcap
    split at e
    · rename_i hfit
      split at e
      · split at e
        · rename_i h0
          cases e
          have hl0 : len = 0 := by omega
          have hn0 : n = 0 := by omega
          subst hl0; subst hn0
          have := hs.nilSlice_inv
          subst this
          exact ⟨ρ, _, W, Ext.refl _ _ _, Nat.le_refl _, .rig rfl, R, append_fits a0 a1 hsT hxT hni hi (hlen W) (hfirst W rfl) hfit rfl⟩
        · cases e
      · rename_i a
        simp only [Option.bind_eq_some_iff] at e
        obtain ⟨h1, h2, h3⟩ := e
        cases h3
        obtain ⟨r, c', g1, g2, g3, g4, g5⟩ := slice_place R hs (by omega)
        have hc' : c' = cap := by rcases g5 with ⟨_, g⟩ | ⟨g, _⟩; exact g; omega
        subst hc'
        have g6 : VR N ρ (.pointer (some (a.add (len * i.size)))) (.pointer (some ((Addr.mk r.c a.off none).add (len * i.size)))) := by
          obtain ⟨q, h8, h9⟩ := g4.ptr_add (len * i.size)
          cases h8; exact h9
        obtain ⟨q, W', h4, h5, h6, h7⟩ := putCells_sound R h2 g6 hcs
        cases h4
        refine ⟨ρ, .slice (some ⟨r.c, a.off, none⟩) (len + n) c', W', Ext.refl _ _ _, by omega, ?_, h6, ?_⟩
        · have : a = ⟨a.block, a.off, none⟩ := by cases a; simp at g2; simp [g2]
          rw [this]; exact .slice g1 hcap
        · rw [g3]
          exact append_fits a0 a1 hsT hxT hni hi (hlen W) (hfirst W rfl) hfit h5
    · rename_i hno
      · split at e
        · cases e
        · rename_i old hold
          cases e
          -- the old cells in the model
          have hcapn : ∀ A' cap', s' = .slice A' len cap' → cap' = cap → ∀ old', VRL N ρ old old' → old'.length = len * i.size → (∀ W', W'.heap = W.heap → (Builtin.firstCells i.size len s').run P W' = .ok ⟨old'⟩ W') →
              ∃ σ v' W', Ext h.n none ρ σ ∧ h.n ≤ (h.push (.cells (old ++ cs) el (0, 0) false)).n ∧ VR N σ (.slice (some ⟨h.n, 0, none⟩) (len + n) (capX + i.size)) v' ∧ Rel P N W0 base σ (h.push (.cells (old ++ cs) el (0, 0) false)) W' ∧ (Builtin.append_ argTypes ty #[s', x']).run P W = .ok v' W' := by
            intro A' cap' hs' hc' old' ho hol hof
            subst hs'
            subst hc'
            obtain ⟨nc, rest, k1, k2, k3⟩ := append_grow (ty := ty) a0 a1 hsT hxT hni hi hz hzs hby (hlen W) hfirst hof (by omega) hneed
            obtain ⟨σ, k4, k5, k6⟩ := grow_rel R hi ho hcs (fz := (0, 0)) (need := len + n) hsz (by rw [hol, hcl', ← Nat.add_mul]) k1 k2
            exact ⟨σ, _, _, k4, Nat.le_succ _, k5, k6, k3⟩
          split at hold
          · split at hold
            · rename_i hl0
              cases hold
              subst hl0
              have := hs.nilSlice_inv
              subst this
              exact hcapn _ _ rfl rfl [] .nil (by simp) (fun W' _ => rfl)
            · cases hold
          · rename_i a
            obtain ⟨r, c', g1, g2, g3, g4, g5⟩ := slice_place R hs (by omega)
            have hc' : c' = cap := by rcases g5 with ⟨_, g⟩ | ⟨g, _⟩; exact g; omega
            obtain ⟨old', k1, k2, k3⟩ := firstCells_row R hold g4 len c'
            exact hcapn _ _ g3 hc' old' k1 k2 (by rw [g3]; exact k3)
  · rename_i hcap
    split at e
    · -- the capacity is not known
      rename_i hcap2
      split at e
      · cases e
      · rename_i a
        split at e
        · rename_i c t fz hg
          split at e
          · rename_i hc
            obtain ⟨hc1, hc2, hc3, rfl, hc5, hc6, hc7⟩ := hc
            cases e
            obtain ⟨r, c', g1, g2, g3, g4, g5⟩ := slice_place R hs (by omega)
            obtain ⟨g6, g7, g8, g9⟩ : capX + i.size = capX + r.sz ∧ len ≤ c' ∧ a.off + c' * r.sz = r.K ∧ 1 ≤ r.sz := by
              rcases g5 with ⟨g, _⟩ | g
              · omega
              · exact ⟨by omega, g.2⟩
            have hrs : r.sz = i.size := by omega
            have hal : (h.get a.block).alive = true := by rw [hg]; rfl
            obtain ⟨r2, o, h1, h2, h3⟩ := R.row _ hal
            rw [g1] at h1; cases h1
            rw [hg] at h3
            obtain ⟨c2, fz', rfl, h4, h5, h6, h7, h8, h9⟩ := h3
            have hba := AH.lt_of_alive hal
            have hbase := (R.low _ _ g1).2.2.2
            have hrc : rowCells h a (len * i.size) = some (c.take (len * i.size)) := by
              unfold rowCells
              simp [hg, hc1, hc2, hc5]
            obtain ⟨old', k1, k2, k3⟩ := firstCells_row R hrc g4 len c'
            by_cases hfit : len + n ≤ c'
            · -- in place
              have hKl : len * i.size + cs'.length ≤ c2.length := by
                rw [hcl', h6, ← Nat.add_mul, ← hrs]
                have := Nat.mul_le_mul_right r.sz hfit
                omega
              have hrun := storeCells_run P r.c (len * i.size) t fz' cs' 0 c2 W h2 (by omega) (h8.free hc7 (by by_cases hh : fz.1 = 1 <;> simp [hh])) (hcs.oneCells hc6)
              rw [Nat.add_zero] at hrun
              have R1 := R.set hal g1 (o := .dead) (o' := .cells ⟨splice c2 (len * i.size) cs'⟩ t fz') trivial
              have hrlt := (R.low _ _ g1).2.2.1
              have hfree : ∀ b q, ((h.set a.block .dead).get b).alive = true → ρ b = some q → q.c ≠ r.c := by
                intro b q hb hq hqc
                have hne : b ≠ a.block := fun hh => by
                  subst hh; rw [AH.get_set_same R.len hba] at hb; simp [AObj.alive] at hb
                rw [AH.get_set_other R.len hne hba] at hb
                exact hne (R.inj b a.block q r hb hal hq g1 hqc)
              have hspl := splice_length (c := c2) (off := len * i.size) (vs := cs') hKl
              have hor : OR P N ρ r (.cells (c.take (len * i.size) ++ cs) t fz false) (.cells ⟨splice c2 (len * i.size) cs'⟩ t fz') := by
                have hL : (c.take (len * i.size) ++ cs).length = len * i.size + cs'.length := by
                  rw [List.length_append, List.length_take, hcs.length]; omega
                refine ⟨_, fz', rfl, ?_, ?_, by rw [hspl]; exact h6, (fun hh => by cases hh), by rw [hspl]; exact h8, h9⟩
                · rw [hL]
                  have hsp : (splice c2 (len * i.size) cs').take (len * i.size + cs'.length) = c2.take (len * i.size) ++ cs' := by
                    unfold splice
                    rw [List.take_left']
                    rw [List.length_append, List.length_take]; omega
                  rw [hsp]
                  refine VRL.append ?_ hcs
                  have := h4.take (len * i.size)
                  rw [List.take_take, Nat.min_eq_left hc5] at this
                  exact this
                · rw [hL, hspl]; exact hKl
              obtain ⟨k4, k5⟩ := R1.adopt hbase (putO_same hrlt _) hfree hor
              refine ⟨_, .slice (some ⟨r.c, a.off, none⟩) (len + n) c', _, Ext.bind1 (h := h) k4, Nat.le_succ _, ?_, k5, ?_⟩
              · rw [hc1, ← hrs]
                exact .sliceX (b := h.n) (bind1_same _ _ _) hfit (by rw [hc1] at g8; exact g8) g9
              · rw [g3]
                refine append_fits a0 a1 hsT hxT hni hi (hlen W) (hfirst W rfl) hfit ?_
                simp only []
                rw [add_at, hc1, Nat.zero_add]
                exact hrun
            · -- a new row
              have R1 := R.set hal g1 (o := .dead) (o' := .cells ⟨c2⟩ t fz') trivial
              rw [putO_self h2] at R1
              obtain ⟨nc, rest, m1, m2, m3⟩ := append_grow (ty := ty) (A := some ⟨r.c, a.off, none⟩) (cap := c') a0 a1 hsT hxT hni hi hz hzs hby (hlen W) hfirst k3 (by omega) hneed
              obtain ⟨σ, k4, k5, k6⟩ := grow_rel R1 hi k1 hcs (fz := fz) (need := len + n) hsz (by rw [k2, hcl', ← Nat.add_mul]) m1 m2
              refine ⟨σ, _, _, k4, Nat.le_succ _, k5, k6, ?_⟩
              rw [g3]; exact m3
          · cases e
        · cases e
    · cases e

theorem aAppend_sound (R : Rel P N W0 base ρ h W) {argTypes : Array TypeId} {ty : TypeId} {s x s' x' v : Value} {h' : AH} (e : aAppend P N h argTypes.toList s x = some (v, h')) (hs : VR N ρ s s') (hx : VR N ρ x x') :
    ∃ σ v' W', Ext h.n none ρ σ ∧ h.n ≤ h'.n ∧ VR N σ v v' ∧ Rel P N W0 base σ h' W' ∧ (Builtin.append_ argTypes ty #[s', x']).run P W = .ok v' W' := by
  unfold aAppend at e
  split at e
  · rename_i sT xT base' len cap hT
    have a0 : argTypes[0]? = some sT := by rw [← Array.getElem?_toList, hT]; rfl
    have a1 : argTypes[1]? = some xT := by rw [← Array.getElem?_toList, hT]; rfl
    split at e
    · rename_i el xd hsT hxT
      split at e
      · cases e
      rename_i i hi
      split at e
      · rename_i hc
        obtain ⟨hni', hsz, hby, hzz⟩ := hc
        have hni : ∀ k, xd ≠ .int k := fun k hk => by rw [hk] at hni'; exact absurd hni' (by simp [notInt])
        split at e
        · cases e
        rename_i n cs hsrc
        split at e
        · rename_i hneed'
          have hneed : (len + n) * i.bytes ≤ 2 ^ 44 := hneed'
          exact aAppend2_sound R a0 a1 hsT hxT hni hi hsz hby hzz hsrc hneed e hs hx
        · cases e
      · cases e
    · cases e
  · cases e
end
end Go.Proofs.YtgjddachhhmimaaGreatDoor.Ax
