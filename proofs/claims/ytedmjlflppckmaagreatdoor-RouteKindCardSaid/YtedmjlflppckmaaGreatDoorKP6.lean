import Derived.Test.YtedmjlflppckmaaGreatDoorKP5
set_option linter.unusedVariables false
set_option linter.unusedSimpArgs false
namespace Go.Proofs.YtedmjlflppckmaaGreatDoor.PK
open Go.RowKit Go.Proofs.YtedmjlflppckmaaGreatDoorW.PrintWords
theorem num_print (n m k : Nat) (hn : n < 10 ^ (m + 1)) (hn2 : n ≤ 9223372036854775807) (hm : m ≤ 100) (hk : m + 1 < k) :
    ∃ r, num_Print.f k (n : Int) = some r ∧ r.data.toList = dec m n := by
  unfold num_Print.f
  rw [if_neg (by omega), u64_id (by omega) (by omega)]
  obtain ⟨r, hr, hd⟩ := based_l0 m n k ⟨#[]⟩ hn (by omega) (by rw [size_of (b := ⟨#[]⟩) (l := []) rfl]; simp; omega) hk
  have hr' : num_based.f k (n : Int) 10 = some r := hr
  rw [hr']
  exact ⟨r, rfl, by rw [hd]; simp⟩
theorem dig1 (i : Fin 10) : (strOfNums [(wrap64 (48 + (i.val : Int))) % 256]).data.toList = [UInt8.ofNat (48 + i.val)] := by
  revert i
  decide +kernel
theorem ref_print_small (n k : Nat) (hs : n < 10) (hk : 2 ≤ k) : ∃ r, larumref03_Print.f k (n : Int) = some r ∧ r.data.toList = [UInt8.ofNat (48 + n)] := by
  obtain ⟨k, rfl⟩ : ∃ j, k = j + 1 + 1 := ⟨k - 2, by omega⟩
  rw [larumref03_Print.f, if_pos (by omega), decide_eq_true (by omega), larumref03_Print.j0, if_pos rfl]
  exact ⟨_, rfl, dig1 ⟨n, hs⟩⟩
theorem ref_print : ∀ (m n k : Nat), n < 10 ^ (m + 1) → n ≤ 9223372036854775807 → m ≤ 100 → 2 * m + 2 ≤ k →
    ∃ r, larumref03_Print.f k (n : Int) = some r ∧ r.data.toList = dec m n
  | m, n, k, hn, hn2, hm, hk => by
    obtain ⟨k, rfl⟩ : ∃ j, k = j + 1 + 1 := ⟨k - 2, by omega⟩
    rw [larumref03_Print.f, if_pos (by omega)]
    by_cases hs : n < 10
    · rw [decide_eq_true (by omega), larumref03_Print.j0, if_pos rfl]
      refine ⟨_, rfl, ?_⟩
      have h := dig1 ⟨n, hs⟩
      rw [dec_small m n hs, show n % 10 = n by omega]
      exact h
    · obtain ⟨m, rfl⟩ : ∃ j, m = j + 1 := by
        cases m with
        | zero => simp at hn; omega
        | succ j => exact ⟨j, rfl⟩
      have e1 : wrap64 (Int.tdiv (n : Int) 10) = ((n / 10 : Nat) : Int) := by rw [Int.tdiv_eq_ediv_of_nonneg (by omega), w64_id (by omega) (by omega)]; omega
      have e2 : Int.tmod (n : Int) 10 = ((n % 10 : Nat) : Int) := by rw [Int.tmod_eq_emod_of_nonneg (by omega)]; omega
      rw [decide_eq_false (by omega), larumref03_Print.j0, if_neg Bool.false_ne_true, if_pos (by omega), e1, e2]
      obtain ⟨r1, h1, d1⟩ := ref_print m (n / 10) k (by rw [Nat.pow_succ] at hn; omega) (by omega) (by omega) (by omega)
      obtain ⟨r2, h2, d2⟩ := ref_print_small (n % 10) k (by omega) (by omega)
      rw [h1, h2]
      simp only [Option.bind_some]
      have l1 := dec_length m (n / 10)
      rw [if_pos (by rw [size_of d1, size_of d2]; simp; omega)]
      refine ⟨_, rfl, ?_⟩
      conv => rhs; unfold dec
      rw [if_neg hs]
      simp [d1, d2]
end Go.Proofs.YtedmjlflppckmaaGreatDoor.PK
