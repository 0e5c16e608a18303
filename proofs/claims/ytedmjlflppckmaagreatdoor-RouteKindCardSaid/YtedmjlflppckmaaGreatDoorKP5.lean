import Derived.Test.YtedmjlflppckmaaGreatDoorKP4
set_option linter.unusedVariables false
set_option linter.unusedSimpArgs false
namespace Go.Proofs.YtedmjlflppckmaaGreatDoor.PK
open Go.RowKit Go.Proofs.YtedmjlflppckmaaGreatDoorW.PrintWords
/-- The decimal text of a number below 10 ^ (m + 1). -/
def dec : Nat → Nat → List UInt8
  | 0, n => [UInt8.ofNat (48 + n % 10)]
  | m + 1, n => if n < 10 then [UInt8.ofNat (48 + n % 10)] else dec m (n / 10) ++ [UInt8.ofNat (48 + n % 10)]
theorem dec_length : ∀ (m n : Nat), (dec m n).length ≤ m + 1
  | 0, n => by simp [dec]
  | m + 1, n => by
    unfold dec
    split
    · simp
    · have := dec_length m (n / 10)
      simp
      omega
theorem dec_small (m n : Nat) (h : n < 10) : dec m n = [UInt8.ofNat (48 + n % 10)] := by
  cases m with
  | zero => rfl
  | succ m => unfold dec; rw [if_pos h]
theorem size_of {b : ByteArray} {l : List UInt8} (h : b.data.toList = l) : b.size = l.length := by
  rw [← h]
  simp
theorem hexAt : ∀ i : Fin 10, ((⟨#[48, 49, 50, 51, 52, 53, 54, 55, 56, 57, 97, 98, 99, 100, 101, 102]⟩ : ByteArray).extract i.val (i.val + 1)).data.toList = [UInt8.ofNat (48 + i.val)] := by decide +kernel
theorem based_l0 : ∀ (m n k : Nat) (acc : ByteArray), n < 10 ^ (m + 1) → n < 18446744073709551616 → acc.size + m + 1 ≤ 9223372036854775807 → m + 1 < k →
    ∃ r, num_based.l0 k (n : Int) 10 acc true = some r ∧ r.data.toList = dec m n ++ acc.data.toList
  | m, n, 0, acc, _, _, _, hk => absurd hk (by omega)
  | m, n, k + 1, acc, hn, hn2, ha, hk => by
    have e1 : Int.tmod (n : Int) 10 = ((n % 10 : Nat) : Int) := by rw [Int.tmod_eq_emod_of_nonneg (by omega)]; omega
    have e2 : IntKind.u64.wrap (((n % 10 : Nat) : Int) + 1) = ((n % 10 + 1 : Nat) : Int) := by rw [u64_id (by omega) (by omega)]; omega
    have e3 : IntKind.u64.wrap (Int.tdiv (n : Int) 10) = ((n / 10 : Nat) : Int) := by rw [Int.tdiv_eq_ediv_of_nonneg (by omega), u64_id (by omega) (by omega)]; omega
    have hx := hexAt ⟨n % 10, by omega⟩
    have hx' : ((⟨#[48, 49, 50, 51, 52, 53, 54, 55, 56, 57, 97, 98, 99, 100, 101, 102]⟩ : ByteArray).extract (n % 10) (n % 10 + 1)).data.toList = [UInt8.ofNat (48 + n % 10)] := hx
    have hz : ((⟨#[48, 49, 50, 51, 52, 53, 54, 55, 56, 57, 97, 98, 99, 100, 101, 102]⟩ : ByteArray).extract (n % 10) (n % 10 + 1)).size = 1 := by
      rw [size_of hx']
      rfl
    rw [num_based.l0, if_pos rfl, if_neg (by omega), e1, e2, e3, if_pos (by omega), if_pos (by omega), if_pos (by omega), Int.toNat_natCast, Int.toNat_natCast, if_pos (by rw [hz]; omega)]
    generalize (⟨#[48, 49, 50, 51, 52, 53, 54, 55, 56, 57, 97, 98, 99, 100, 101, 102]⟩ : ByteArray).extract (n % 10) (n % 10 + 1) = ch at hx' hz
    have hcat : (ch ++ acc).data.toList = UInt8.ofNat (48 + n % 10) :: acc.data.toList := by
      simp [hx']
    have hcs : (ch ++ acc).size = acc.size + 1 := by
      have := congrArg List.length hcat
      simpa using this
    by_cases hs : n < 10
    · have h0 : n / 10 = 0 := by omega
      rw [h0]
      obtain ⟨k, rfl⟩ : ∃ j, k = j + 1 := ⟨k - 1, by omega⟩
      refine ⟨ch ++ acc, ?_, ?_⟩
      · rw [num_based.l0, if_neg (by simp)]
      · rw [hcat, dec_small m n hs]
        rfl
    · obtain ⟨m, rfl⟩ : ∃ j, m = j + 1 := by
        cases m with
        | zero => simp at hn; omega
        | succ j => exact ⟨j, rfl⟩
      rw [decide_eq_true (show ((n / 10 : Nat) : Int) > 0 by omega)]
      obtain ⟨r, hr, hd⟩ := based_l0 m (n / 10) k (ch ++ acc) (by rw [Nat.pow_succ] at hn; omega) (by omega) (by omega) (by omega)
      refine ⟨r, hr, ?_⟩
      rw [hd, hcat]
      conv => rhs; unfold dec
      rw [if_neg hs]
      simp
end Go.Proofs.YtedmjlflppckmaaGreatDoor.PK
