import Derived.Test.YtedmjlflppckmaaGreatDoorKP1
set_option linter.unusedVariables false
set_option linter.unusedSimpArgs false
namespace Go.Proofs.YtedmjlflppckmaaGreatDoor.PK
open Go.RowKit Go.Proofs.YtedmjlflppckmaaGreatDoorW.PrintWords
/-- Digits, one at least, no zero ahead. -/
def txtOk (l : List UInt8) : Bool := !l.isEmpty && l.all isDig && !(decide (1 < l.length) && decide (l.head? = some 48))
/-- What a text of digits answers. -/
def parse1 (neg : Bool) (t : List UInt8) : Int × Int :=
  if txtOk t = true then
    (if neg = true then (if valFrom 0 t ≤ 9223372036854775808 then (-((valFrom 0 t : Nat) : Int), 0) else (0, 5))
     else (if valFrom 0 t ≤ 9223372036854775807 then (((valFrom 0 t : Nat) : Int), 0) else (0, 5)))
  else (0, 3)
def parseS (l : List UInt8) : Int × Int := if l.head? = some 45 then parse1 true l.tail else parse1 false l

theorem ext1 (s : ByteArray) : (s.extract 1 s.size).data.toList = s.data.toList.tail := by
  simp
  exact List.take_of_length_le (by simp)
theorem ext1_size (s : ByteArray) : (s.extract 1 s.size).size = s.size - 1 := by simp
theorem bt_head (s : ByteArray) (h : 0 < s.size) : ((bt s 0 == 48) = decide (s.data.toList.head? = some 48)) ∧ ((bt s 0 == 45) = decide (s.data.toList.head? = some 45)) ∧ (bt s 0 = 48 ↔ s.data.toList.head? = some 48) := by
  have hl : 0 < s.data.toList.length := by simpa using h
  have e' : ∀ c r, s.data.toList = c :: r → bt s 0 = (c.toNat : Int) := by
    intro c r hc
    have e := bt_get s 0 hl
    simp only [hc, List.getElem_cons_zero] at e
    exact e
  cases hs : s.data.toList with
  | nil => rw [hs] at hl; exact absurd hl (by simp)
  | cons c r =>
    rw [e' c r hs]
    simp only [List.head?_cons, Option.some.injEq]
    have h48 : (c = 48) ↔ ((c.toNat : Int) = 48) := by
      constructor
      · rintro rfl; rfl
      · intro h
        have h' : c.toNat = 48 := by omega
        exact UInt8.toNat_inj.1 (by simpa using h')
    have h45 : (c = 45) ↔ ((c.toNat : Int) = 45) := by
      constructor
      · rintro rfl; rfl
      · intro h
        have h' : c.toNat = 45 := by omega
        exact UInt8.toNat_inj.1 (by simpa using h')
    refine ⟨?_, ?_, h48.symm⟩
    · rw [Bool.eq_iff_iff]; simp [h48]
    · rw [Bool.eq_iff_iff]; simp [h45]
theorem digit_all (s : ByteArray) : allP (fun c => decide (48 ≤ c ∧ c ≤ 57)) s = s.data.toList.all isDig := by
  unfold allP
  congr 1
  funext c
  simp [isDig]
  rw [Bool.eq_iff_iff]
  simp
  omega

theorem num_j1 (s : ByteArray) (hs : s.size ≤ 9223372036854775807) (neg : Bool) (k : Nat) (hk : s.size + 2 < k) :
    num_Parse.j1 k s neg (if neg = true then 9223372036854775808 else 9223372036854775807) = some (parse1 neg s.data.toList) := by
  obtain ⟨k, rfl⟩ : ∃ j, k = j + 1 + 1 := ⟨k - 2, by omega⟩
  have hlen : s.data.toList.length = s.size := by simp
  rw [num_Parse.j1]
  unfold parse1
  by_cases h0 : s.toList = []
  · rw [if_pos h0]
    have h0' : s.data.toList = [] := by rw [← ByteArray.toList_eq]; exact h0
    have : txtOk s.data.toList = false := by simp [txtOk, h0']
    rw [this]
    simp [num_Parse.j2]
  · rw [if_neg h0]
    have h0' : s.data.toList ≠ [] := by rw [← ByteArray.toList_eq]; exact h0
    have hpos : 0 < s.size := by rw [← hlen]; exact List.length_pos_iff.2 h0'
    have hc : chars_All_chars_Digit.f s = some (s.data.toList.all isDig) := by
      unfold chars_All_chars_Digit.f; rw [if_pos hs, digit_all]
    rw [hc]
    simp only [Option.bind_some]
    by_cases hd : s.data.toList.all isDig = true
    · rw [if_pos hd]
      have key : ∀ b : Bool, b = (decide (1 < s.data.toList.length) && decide (s.data.toList.head? = some 48)) →
          num_Parse.j2 (k + 1) s neg (if neg = true then 9223372036854775808 else 9223372036854775807) b = some (if txtOk s.data.toList = true then
    (if neg = true then (if valFrom 0 s.data.toList ≤ 9223372036854775808 then (-((valFrom 0 s.data.toList : Nat) : Int), 0) else (0, 5))
     else (if valFrom 0 s.data.toList ≤ 9223372036854775807 then (((valFrom 0 s.data.toList : Nat) : Int), 0) else (0, 5)))
  else (0, 3)) := by
        intro b hb
        have he : s.data.toList.isEmpty = false := by
          cases hh : s.data.toList with
          | nil => exact absurd hh h0'
          | cons _ _ => rfl
        have ht : txtOk s.data.toList = !b := by
          rw [hb]
          unfold txtOk
          rw [hd, he]
          rfl
        rw [ht]
        rw [num_Parse.j2]
        cases b with
        | true => simp
        | false =>
          rw [if_neg Bool.false_ne_true, if_pos (show (!false) = true from rfl)]
          have hall := List.all_eq_true.1 hd
          cases neg with
          | true =>
            have hdig := digits_l0 s hs 9223372036854775808 (by omega) (by omega) s.data.toList [] 0 k rfl hall (by omega) (by rw [hlen]; omega)
            have hdig' : num_digits.f k s 9223372036854775808 = _ := hdig
            simp only [if_true]
            rw [hdig']
            simp only [Option.bind_some]
            by_cases hv : valFrom 0 s.data.toList ≤ 9223372036854775808
            · rw [if_pos hv, if_pos hv]
              simp only [if_true]
              congr 2
              generalize valFrom 0 s.data.toList = v at hv
              have e : IntKind.u64.wrap (-(v : Int)) = (-(v : Int)) % 18446744073709551616 := by simp [IntKind.wrap, IntKind.bits, IntKind.signed]
              rw [e]
              unfold wrap64
              omega
            · rw [if_neg hv, if_neg hv]
              simp
          | false =>
            have hdig := digits_l0 s hs 9223372036854775807 (by omega) (by omega) s.data.toList [] 0 k rfl hall (by omega) (by rw [hlen]; omega)
            have hdig' : num_digits.f k s 9223372036854775807 = _ := hdig
            simp only [Bool.false_eq_true, if_false]
            rw [hdig']
            simp only [Option.bind_some]
            by_cases hv : valFrom 0 s.data.toList ≤ 9223372036854775807
            · rw [if_pos hv]
              simp only [if_true]
              congr 2
              exact w64_id (by omega) (by omega)
            · rw [if_neg hv]
              simp
      by_cases h1 : (s.size : Int) > 1
      · rw [if_pos h1, if_pos (by omega)]
        exact key _ (by rw [(bt_head s hpos).1, hlen]; simp; omega)
      · rw [if_neg h1]
        exact key _ (by rw [hlen]; simp; omega)
    · rw [if_neg hd]
      have : txtOk s.data.toList = false := by simp [txtOk, hd]
      rw [this]
      simp [num_Parse.j2]
theorem num_spec (s : ByteArray) (hs : s.size ≤ 9223372036854775807) (k : Nat) (hk : s.size + 3 < k) : num_Parse.f k s = some (parseS s.data.toList) := by
  obtain ⟨k, rfl⟩ : ∃ j, k = j + 1 := ⟨k - 1, by omega⟩
  have hlen : s.data.toList.length = s.size := by simp
  have f0 : num_Parse.j0 (k + 1) s false = some (parse1 false s.data.toList) := by
    rw [num_Parse.j0]
    rw [if_neg (by simp)]
    exact num_j1 s hs false k (by omega)
  unfold num_Parse.f parseS
  by_cases hp : 0 < s.size
  · rw [if_pos (by omega), if_pos (by omega), (bt_head s hp).2.1]
    by_cases h : s.data.toList.head? = some 45
    · rw [if_pos h, decide_eq_true h]
      rw [num_Parse.j0]
      rw [if_pos rfl, if_pos (by omega)]
      have := num_j1 (s.extract 1 s.size) (by rw [ext1_size]; omega) true k (by rw [ext1_size]; omega)
      rw [ext1] at this
      exact this
    · rw [if_neg h, decide_eq_false h]
      exact f0
  · rw [if_neg (by omega), f0]
    have : s.data.toList = [] := List.length_eq_zero_iff.1 (by omega)
    rw [this]
    simp
end Go.Proofs.YtedmjlflppckmaaGreatDoor.PK
