import Derived.Test.YtgjddachhhmimaaGreatDoorAx18
import Derived.Test.YtgjddachhhmimaaGreatDoorAx2
import Derived.Test.YtgjddachhhmimaaGreatDoorAxS1
set_option linter.unusedVariables false
set_option linter.unusedSimpArgs false
set_option linter.unnecessarySimpa false
set_option linter.all false
namespace Go.Proofs.YtgjddachhhmimaaGreatDoor.Ax
open Go.Shelf Go.RowKit Go.Proofs

section
variable {P : Program} {N : Nat} {W0 : World} {base : Nat} {ρ : Rho} {h : AH} {W : World}

theorem freeze_put {c n : Nat} {cs : Array Value} {t : TypeId} {fz : Nat × Nat} (hn : n ≠ 0) (hw : W.heap[c]? = some (.cells cs t fz)) :
    W.freeze ⟨c, 0, none⟩ n = putO W c (.cells cs t (if fz.1 == fz.2 then (0, n) else (0, max fz.2 n))) := by
  obtain ⟨lo, hi⟩ := fz
  unfold World.freeze putO
  rw [if_neg hn]
  congr 1
  apply Array.ext_getElem?
  intro k
  rw [Array.getElem?_modify]
  by_cases hk : c = k
  · subst hk
    rw [if_pos rfl, hw]
    have : c < W.heap.size := (Array.getElem?_eq_some_iff.1 hw).1
    simp [this]
  · rw [if_neg hk, Array.getElem?_setIfInBounds_ne hk]

theorem bytesIn_spec : ∀ {cs cs' : List Value} {l : List UInt8}, VRL N ρ cs cs' → bytesIn cs = some l → l.length = cs.length ∧ ∀ (j : Nat) (x : UInt8), l[j]? = some x → cs'[j]? = some (Value.int .u8 x.toNat)
  | [], _, l, .nil, e => by
    simp only [bytesIn] at e
    cases e
    exact ⟨rfl, fun j x hx => by simp at hx⟩
  | v :: r, _, l, .cons (v' := v') (l' := r') hv hr, e => by
    unfold bytesIn at e
    split at e
    · cases ‹v :: r = []›
    · rename_i n r0 heq
      cases heq
      split at e
      · rename_i hn
        simp only [Option.bind_eq_some_iff] at e
        obtain ⟨l1, h1, h2⟩ := e
        cases h2
        obtain ⟨h3, h4⟩ := bytesIn_spec hr h1
        refine ⟨by simp [h3], fun j x hx => ?_⟩
        cases j with
        | zero =>
          simp at hx
          subst hx
          rw [hv.int_inv]
          have h5 : n.toNat < 256 := by omega
          have h6 : ((UInt8.ofNat n.toNat).toNat : Int) = n := by
            rw [UInt8.toNat_ofNat']
            omega
          simp only [List.getElem?_cons_zero, h6]
        | succ j => simpa using h4 j x (by simpa using hx)
      · cases e
    · cases e

theorem row_cells (R : Rel P N W0 base ρ h W) {b : Nat} {c : List Value} {t : TypeId} {fz : Nat × Nat} {ex : Bool} (hg : h.get b = .cells c t fz ex) {r : RB} (hr : ρ b = some r) :
    ∃ (c' : List Value) (fz' : Nat × Nat), W.heap[r.c]? = some (.cells ⟨c'⟩ t fz') ∧ VRL N ρ c (c'.take c.length) ∧ c.length ≤ c'.length ∧ c'.length = r.K ∧ (ex = true → c.length = c'.length) ∧ FR fz fz' c'.length ∧
      (ex = false → (P.info? t).map (·.size) = some r.sz) := by
  obtain ⟨q, o, h1, h2, h3⟩ := R.row b (by rw [hg]; rfl)
  rw [hr] at h1; cases h1
  rw [hg] at h3
  obtain ⟨c', fz', h4, h5⟩ := h3
  subst h4
  exact ⟨c', fz', h2, h5⟩

theorem VRL.one {v : Value} {l : List Value} (h : VRL N ρ [v] l) : ∃ x, l = [x] ∧ VR N ρ v x := by
  cases h with
  | cons a b => cases b; exact ⟨_, rfl, a⟩
theorem VRL.two {u v : Value} {l : List Value} (h : VRL N ρ [u, v] l) : ∃ x y, l = [x, y] ∧ VR N ρ u x ∧ VR N ρ v y := by
  cases h with
  | cons a b => obtain ⟨y, rfl, hy⟩ := b.one; exact ⟨_, _, rfl, a, hy⟩

theorem primString_sound {ν : Ren} (L : Lays.n169 P ν) (X : Builder.Extra P ν) {args : List Value} {r : Value} {h' : AH} (e : primString N (ν.t 5) args h = some (r, h')) : CallSound P N W0 base (ν.f 169) args h r h' := by
  intro ρ W args' R V
  unfold primString at e
  split at e
  · rename_i b
    obtain ⟨x, rfl, hx⟩ := V.one
    split at e
    · rename_i p0 s tb fzb hg
      split at e
      · rename_i hb
        obtain ⟨rb, h1, h2, rfl⟩ := hx.ptr_inv hb.2.2
        obtain ⟨c', fz', k1, k2, k3, k4, k5, k6⟩ := row_cells R hg h1
        have hlen : c'.length = 2 := (k5 rfl).symm
        have htk : c'.take [p0, s].length = c' := List.take_of_length_le (by simp [hlen])
        rw [htk] at k2
        obtain ⟨x0, x1, rfl, hx0, hx1⟩ := k2.two
        have hc : W.cell? ⟨rb.c, 1, none⟩ = some x1 := by rw [Lib.cell_of_heap k1]; rfl
        rw [show b.off = 0 from hb.1]
        split at e
        · rename_i c
          cases e
          rw [hx1.nilSlice_inv] at hc
          refine (string_walk_nil L X rb.c c W hc).mono fun en W' hh => ?_
          obtain ⟨rfl, rfl⟩ := hh
          exact ⟨ρ, _, Ext.refl _ _ _, Nat.le_refl _, rfl, .rig rfl, R.drew _ rfl rfl rfl rfl⟩
        · rename_i a len c
          split at e
          · rename_i ha
            obtain ⟨r2, cc, m1, m2, rfl, m3, m4⟩ := slice_place R hx1 ha.2.2.2.1
            split at e
            · rename_i cs t fz ex hga
              split at e
              · rename_i hfz
                obtain ⟨hz1, hz2, hz3, hz4⟩ := hfz
                subst hz3
                simp only [Option.bind_eq_some_iff] at e
                obtain ⟨l, hl, he⟩ := e
                cases he
                obtain ⟨cs', fzz, n1, n2, n3, n4, n5, n6, n7⟩ := row_cells R hga m1
                obtain ⟨q1, q2⟩ := bytesIn_spec (n2.take len) hl
                have hll : l.length = len := by rw [q1, List.length_take]; omega
                have hao : a.off = 0 := ha.1
                rw [hao] at hc
                have hcc : cc ≠ 0 := by rcases m4 with ⟨_, m4⟩ | ⟨_, m4, _⟩ <;> omega
                rw [← hll] at hc
                have hcell : ∀ j x, l[j]? = some x → W.cell? ((⟨r2.c, 0, none⟩ : Addr).add j) = some (.int .u8 x.toNat) := fun j x hj => by
                  have hjl : j < l.length := (List.getElem?_eq_some_iff.1 hj).1
                  have h8 := q2 j x hj
                  rw [List.getElem?_take, if_pos (by omega), List.getElem?_take, if_pos (by omega)] at h8
                  have : ((⟨r2.c, 0, none⟩ : Addr).add j) = ⟨r2.c, j, none⟩ := by unfold Addr.add; split <;> simp_all
                  rw [this, Lib.cell_of_heap n1]
                  simpa using h8
                have hl0 : l ≠ [] := by intro hh; subst hh; simp at hll; omega
                refine (string_walk L X rb.c r2.c cc cs'.length l W hc hcc (by simp [World.shape?, n1]) hl0 (by omega) (by omega) hcell).mono fun en W' hh => ?_
                obtain ⟨rfl, rfl⟩ := hh
                have RD : Rel P N W0 base ρ h W.drew := R.drew _ rfl rfl rfl rfl
                have hfr : W.drew.freeze ⟨r2.c, 0, none⟩ l.length = _ := freeze_put (W := W.drew) (by omega) n1
                rw [hfr]
                refine ⟨ρ, _, Ext.refl _ _ _, Nat.le_refl _, rfl, .rig rfl, RD.set (by rw [hga]; rfl) m1 ?_⟩
                refine ⟨cs', _, rfl, n2, n3, n4, n5, ?_, n7⟩
                unfold FR at n6 ⊢
                rw [hz1] at n6
                simp only [show ¬ (0 = 1) by omega, if_false] at n6 ⊢
                split
                · exact .inr ⟨rfl, by simp; omega⟩
                · rename_i hne
                  rcases n6 with n6 | n6
                  · exact absurd (by simpa using n6) hne
                  · exact .inr ⟨rfl, by simp; omega⟩
              · cases e
            · cases e
          · cases e
        · cases e
      · cases e
    · cases e
  · cases e

theorem primIndex_sound {f : FuncId} (hf : ∀ (s t : ByteArray) (w : World), Below base W0 w → s.size < 4294967281 → Calls P f #[.string s, .string t] w fun e w' => e = .returned (.int .i64 (Lib.index s.data.toList t.data.toList)) ∧ w' = w)
    {args : List Value} {r : Value} {h' : AH} (e : primIndex args h = some (r, h')) : CallSound P N W0 base f args h r h' := by
  intro ρ W args' R V
  unfold primIndex at e
  split at e
  · rename_i s t
    split at e
    · rename_i hs
      cases e
      obtain ⟨x, y, rfl, hx, hy⟩ := V.two
      rw [hx.string_inv, hy.string_inv]
      refine (hf s t W R.below hs).mono fun en W' hh => ?_
      obtain ⟨rfl, rfl⟩ := hh
      exact ⟨ρ, _, Ext.refl _ _ _, Nat.le_refl _, rfl, .rig rfl, R⟩
    · cases e
  · cases e

theorem primCheck_sound {f : FuncId} {T : TypeId} (hu : ∀ (b : Nat) (w : World), w.cell? ⟨b, 0, none⟩ = some (.pointer (some ⟨b, 0, none⟩)) → Calls P f #[.pointer (some ⟨b, 0, none⟩)] w fun e w' => e = .returned (.tuple #[]) ∧ w' = w)
    (hfr : ∀ (b : Nat) (w : World), w.cell? ⟨b, 0, none⟩ = some (.pointer none) → w.shape? b = some (T, 2) → w.frozen? ⟨b, 0, none⟩ = false → Calls P f #[.pointer (some ⟨b, 0, none⟩)] w fun e w' => e = .returned (.tuple #[]) ∧ w' = w.setCell ⟨b, 0, none⟩ (.pointer (some ⟨b, 0, none⟩)))
    {args : List Value} {r : Value} {h' : AH} (e : primCheck N T args h = some (r, h')) : CallSound P N W0 base f args h r h' := by
  intro ρ W args' R V
  unfold primCheck at e
  split at e
  · rename_i b
    obtain ⟨x, rfl, hx⟩ := V.one
    split at e
    · rename_i p s t hg
      split at e
      · rename_i hb
        obtain ⟨rb, h1, h2, rfl⟩ := hx.ptr_inv hb.2.2.1
        obtain ⟨c', fz', k1, k2, k3, k4, k5, k6, k7⟩ := row_cells R hg h1
        have hlen : c'.length = 2 := (k5 rfl).symm
        have htk : c'.take [p, s].length = c' := List.take_of_length_le (by simp [hlen])
        rw [htk] at k2
        obtain ⟨x0, x1, rfl, hx0, hx1⟩ := k2.two
        have hc : W.cell? ⟨rb.c, 0, none⟩ = some x0 := by rw [Lib.cell_of_heap k1]; rfl
        rw [show b.off = 0 from hb.1]
        have hbb : b = ⟨b.block, 0, none⟩ := by
          obtain ⟨bb, bo, bs⟩ := b
          have h3 := hb.1
          simp only at h2 h3
          rw [h2, h3]
        split at e
        · -- fresh
          cases e
          rw [show x0 = .pointer none from by cases hx0; rfl] at hc k1
          have hT : t = T := hb.2.2.2
          subst hT
          have hff : W.frozen? ⟨rb.c, 0, none⟩ = false := by
            unfold FR at k6
            simp only [show ¬ (0 = 1) by omega, if_false] at k6
            unfold World.frozen?
            simp only [k1]
            rcases k6 with k6 | k6
            · simp; omega
            · simp; omega
          refine (hfr rb.c W hc (by simp [World.shape?, k1]) hff).mono fun en W' hh => ?_
          obtain ⟨rfl, rfl⟩ := hh
          rw [setCell_put k1]
          refine ⟨ρ, _, Ext.refl _ _ _, Nat.le_refl _, rfl, .rig rfl, R.set (by rw [hg]; rfl) h1 ?_⟩
          refine ⟨_, fz', rfl, ?_, by simp, by simpa using k4, fun _ => by simp, ?_, k7⟩
          · simp only [List.set_cons_zero, List.length_cons, List.length_nil, List.take_succ_cons, List.take_zero]
            rw [hbb]
            exact .cons (.ptr h1) (.cons hx1 .nil)
          · simpa using k6
        · rename_i q
          split at e
          · rename_i hq
            cases e
            subst hq
            obtain ⟨rq, m1, m2, rfl⟩ := hx0.ptr_inv hb.2.2.1
            rw [h1] at m1
            cases m1
            rw [show q.off = 0 from hb.1] at hc
            refine (hu rb.c W hc).mono fun en W' hh => ?_
            obtain ⟨rfl, rfl⟩ := hh
            exact ⟨ρ, _, Ext.refl _ _ _, Nat.le_refl _, rfl, .rig rfl, R⟩
          · cases e
        · cases e
      · cases e
    · cases e
  · cases e
end
end Go.Proofs.YtgjddachhhmimaaGreatDoor.Ax
