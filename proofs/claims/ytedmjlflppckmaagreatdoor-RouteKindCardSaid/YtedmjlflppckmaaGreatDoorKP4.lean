import Derived.Test.YtedmjlflppckmaaGreatDoorKP3
set_option linter.unusedVariables false
set_option linter.unusedSimpArgs false
namespace Go.Proofs.YtedmjlflppckmaaGreatDoor.PK
open Go.RowKit Go.Proofs.YtedmjlflppckmaaGreatDoorW.PrintWords
theorem ref_l0 (s : ByteArray) (hs : s.size ≤ 9223372036854775807) (neg : Bool) : ∀ (rest pre : List UInt8) (v k : Nat), s.data.toList = pre ++ rest → (∀ c ∈ rest, isDig c = true) →
    (if neg = true then valFrom v rest ≤ 9223372036854775808 else valFrom v rest ≤ 9223372036854775807) → rest.length < k →
    larumref03_Parse.l0 k neg s (if neg = true then -(v : Int) else (v : Int)) (pre.length : Int) = some ((if neg = true then -((valFrom v rest : Nat) : Int) else ((valFrom v rest : Nat) : Int)), 0)
  | rest, pre, v, 0, _, _, _, hk => absurd hk (by omega)
  | [], pre, v, k + 1, he, _, _, _ => by
    have hsz : s.size = pre.length := by have := congrArg List.length he; simpa using this
    rw [larumref03_Parse.l0, if_neg (by omega)]
    rfl
  | c :: rest, pre, v, k + 1, he, hd, hv, hk => by
    have hsz : s.size = pre.length + (rest.length + 1) := by have := congrArg List.length he; simpa using this
    have hb : bt s (pre.length : Int) = (c.toNat : Int) := by
      rw [bt_get s pre.length (by rw [he]; simp)]
      simp [he]
    have hc := dig_lt (hd c (List.mem_cons_self ..))
    have hdg : ((c.toNat : Int) - 48) % 256 = ((c.toNat - 48 : Nat) : Int) := by omega
    have e5 : wrap64 ((pre.length : Int) + 1) = (((pre ++ [c]).length : Nat) : Int) := by rw [w64_id (by omega) (by omega)]; simp
    have hge := valFrom_le rest (v * 10 + (c.toNat - 48))
    rw [valFrom_cons] at hv ⊢
    have ih := fun h => ref_l0 s hs neg rest (pre ++ [c]) (v * 10 + (c.toNat - 48)) k (by rw [he]; simp) (fun x hx => hd x (List.mem_cons_of_mem _ hx)) h (by simp at hk; omega)
    rw [larumref03_Parse.l0, if_pos (by omega), hb, hdg, e5]
    cases neg with
    | true =>
      have hv' : valFrom (v * 10 + (c.toNat - 48)) rest ≤ 9223372036854775808 := hv
      have ih' := ih hv
      generalize c.toNat - 48 = d at hv' hge ih' ⊢
      have e1 : wrap64 (10 * (-(v : Int))) = -((v * 10 : Nat) : Int) := by rw [w64_id (by omega) (by omega)]; omega
      have e2 : wrap64 (-((v * 10 : Nat) : Int) - (d : Int)) = -((v * 10 + d : Nat) : Int) := by rw [w64_id (by omega) (by omega)]; omega
      show (if true = true then (if (0 : Int) ≤ (pre.length : Int) then larumref03_Parse.l0 k true s (wrap64 (wrap64 (10 * (-(v : Int))) - (d : Int))) _ else none) else _) = _
      rw [if_pos rfl, if_pos (by omega), e1, e2]
      exact ih'
    | false =>
      have hv' : valFrom (v * 10 + (c.toNat - 48)) rest ≤ 9223372036854775807 := hv
      have ih' := ih hv
      generalize c.toNat - 48 = d at hv' hge ih' ⊢
      have e1 : wrap64 (10 * (v : Int)) = ((v * 10 : Nat) : Int) := by rw [w64_id (by omega) (by omega)]; omega
      have e2 : wrap64 (((v * 10 : Nat) : Int) + (d : Int)) = ((v * 10 + d : Nat) : Int) := by rw [w64_id (by omega) (by omega)]; omega
      show (if false = true then _ else (if (0 : Int) ≤ (pre.length : Int) then larumref03_Parse.l0 k false s (wrap64 (wrap64 (10 * (v : Int)) + (d : Int))) _ else none)) = _
      rw [if_neg Bool.false_ne_true, if_pos (by omega), e1, e2]
      exact ih'

theorem ref_j1 (s : ByteArray) (hs : s.size ≤ 9223372036854775807) (neg : Bool) (k : Nat) (hk : s.size + 3 < k) :
    larumref03_Parse.j1 k neg s = some (parse1 neg s.data.toList) := by
  obtain ⟨k, rfl⟩ : ∃ j, k = j + 1 + 1 + 1 := ⟨k - 3, by omega⟩
  have hlen : s.data.toList.length = s.size := by simp
  rw [larumref03_Parse.j1, ref_all s hs _ (by omega)]
  unfold parse1
  simp only [Option.bind_some]
  by_cases hd : (s.data.toList.all isDig && !s.data.toList.isEmpty) = true
  · rw [if_pos hd]
    simp only [Bool.and_eq_true, Bool.not_eq_true'] at hd
    obtain ⟨hd, he⟩ := hd
    have hpos : 0 < s.size := by
      rw [← hlen]
      cases hh : s.data.toList with
      | nil => rw [hh] at he; cases he
      | cons _ _ => simp
    have key : ∀ b : Bool, b = (decide (1 < s.data.toList.length) && decide (s.data.toList.head? = some 48)) →
          larumref03_Parse.j2 (k + 1 + 1) neg s b = some (if txtOk s.data.toList = true then
    (if neg = true then (if valFrom 0 s.data.toList ≤ 9223372036854775808 then (-((valFrom 0 s.data.toList : Nat) : Int), 0) else (0, 5))
     else (if valFrom 0 s.data.toList ≤ 9223372036854775807 then (((valFrom 0 s.data.toList : Nat) : Int), 0) else (0, 5)))
  else (0, 3)) := by
      intro b hb
      have ht : txtOk s.data.toList = !b := by
        rw [hb]
        unfold txtOk
        rw [hd, he]
        rfl
      rw [larumref03_Parse.j2]
      cases b with
      | true => rw [if_pos rfl, ht]; rfl
      | false =>
        have hall := List.all_eq_true.1 hd
        rw [if_neg Bool.false_ne_true, ht]
        have ht' : txtOk s.data.toList = true := by rw [ht]; rfl
        rw [if_pos (show (!false) = true from rfl)]
        cases neg with
        | true =>
          rw [if_pos rfl, if_pos rfl, ref_above s _ k ht' (by decide) (by decide)]
          simp only [Option.bind_some]
          have hm : valFrom 0 (⟨#[57, 50, 50, 51, 51, 55, 50, 48, 51, 54, 56, 53, 52, 55, 55, 53, 56, 48, 56]⟩ : ByteArray).data.toList = 9223372036854775808 := by decide +kernel
          rw [hm, larumref03_Parse.j3]
          by_cases hv : valFrom 0 s.data.toList ≤ 9223372036854775808
          · rw [if_pos hv, if_neg (by simp; omega)]
            exact ref_l0 s hs true s.data.toList [] 0 k rfl hall hv (by rw [hlen]; omega)
          · rw [if_neg hv, if_pos (by simp; omega)]
        | false =>
          rw [if_neg Bool.false_ne_true, if_neg Bool.false_ne_true, ref_above s _ k ht' (by decide) (by decide)]
          simp only [Option.bind_some]
          have hm : valFrom 0 (⟨#[57, 50, 50, 51, 51, 55, 50, 48, 51, 54, 56, 53, 52, 55, 55, 53, 56, 48, 55]⟩ : ByteArray).data.toList = 9223372036854775807 := by decide +kernel
          rw [hm]
          by_cases hv : valFrom 0 s.data.toList ≤ 9223372036854775807
          · rw [if_pos hv, if_neg (by simp; omega), larumref03_Parse.j3, if_neg Bool.false_ne_true]
            exact ref_l0 s hs false s.data.toList [] 0 k rfl hall hv (by rw [hlen]; omega)
          · rw [if_neg hv, if_pos (by simp; omega), larumref03_Parse.j3, if_pos rfl]
    by_cases h1 : (s.size : Int) > 1
    · rw [if_pos h1, if_pos (by omega)]
      exact key _ (by rw [(bt_head s hpos).1, hlen]; simp; omega)
    · rw [if_neg h1]
      exact key _ (by rw [hlen]; simp; omega)
  · rw [if_neg hd]
    have : txtOk s.data.toList = false := by
      unfold txtOk
      rw [Bool.and_comm (!s.data.toList.isEmpty)]
      simp only [Bool.not_eq_true] at hd
      rw [hd]
      rfl
    rw [this, larumref03_Parse.j2]
    rfl
theorem ref_spec (s : ByteArray) (hs : s.size ≤ 9223372036854775807) (k : Nat) (hk : s.size + 4 < k) : larumref03_Parse.f k s = some (parseS s.data.toList) := by
  obtain ⟨k, rfl⟩ : ∃ j, k = j + 1 := ⟨k - 1, by omega⟩
  have hlen : s.data.toList.length = s.size := by simp
  have f0 : larumref03_Parse.j0 (k + 1) s false = some (parse1 false s.data.toList) := by
    rw [larumref03_Parse.j0, if_neg Bool.false_ne_true]
    exact ref_j1 s hs false k (by omega)
  unfold larumref03_Parse.f parseS
  by_cases hp : s.toList = []
  · rw [if_pos hp, f0]
    have : s.data.toList = [] := by rw [← ByteArray.toList_eq]; exact hp
    rw [this]
    simp
  · have h0' : s.data.toList ≠ [] := by rw [← ByteArray.toList_eq]; exact hp
    have hpos : 0 < s.size := by rw [← hlen]; exact List.length_pos_iff.2 h0'
    rw [if_neg hp, if_pos (by omega), (bt_head s hpos).2.1]
    by_cases h : s.data.toList.head? = some 45
    · rw [if_pos h, decide_eq_true h, larumref03_Parse.j0, if_pos rfl, if_pos (by omega)]
      have := ref_j1 (s.extract 1 s.size) (by rw [ext1_size]; omega) true k (by rw [ext1_size]; omega)
      rw [ext1] at this
      exact this
    · rw [if_neg h, decide_eq_false h]
      exact f0
end Go.Proofs.YtedmjlflppckmaaGreatDoor.PK
