import Derived.Test.YtedmjlflppckmaaGreatDoorKP2
set_option linter.unusedVariables false
set_option linter.unusedSimpArgs false
namespace Go.Proofs.YtedmjlflppckmaaGreatDoor.PK
open Go.RowKit Go.Proofs.YtedmjlflppckmaaGreatDoorW.PrintWords
theorem valFrom_cons (v : Nat) (c : UInt8) (l : List UInt8) : valFrom v (c :: l) = valFrom (v * 10 + (c.toNat - 48)) l := by
  unfold valFrom
  rw [List.foldl_cons]
theorem split_sum (v d p z : Nat) : (v * 10 + d) * p + z = v * (p * 10) + ((0 * 10 + d) * p + z) := by
  simp only [Nat.add_mul, Nat.zero_mul, Nat.zero_add, Nat.add_assoc, Nat.mul_assoc, Nat.mul_comm 10 p]
theorem valFrom_split (l : List UInt8) : ∀ v : Nat, valFrom v l = v * 10 ^ l.length + valFrom 0 l := by
  induction l with
  | nil => intro v; simp [valFrom]
  | cons c l ih =>
    intro v
    rw [valFrom_cons, valFrom_cons, ih (v * 10 + (c.toNat - 48)), ih (0 * 10 + (c.toNat - 48)), List.length_cons, Nat.pow_succ]
    exact split_sum _ _ _ _
theorem dig_lt {c : UInt8} (h : isDig c = true) : c.toNat - 48 ≤ 9 ∧ 48 ≤ c.toNat := by
  simp only [isDig, Bool.and_eq_true, decide_eq_true_eq] at h
  omega
theorem val_lt : ∀ (l : List UInt8), (∀ c ∈ l, isDig c = true) → valFrom 0 l < 10 ^ l.length
  | [], _ => by simp [valFrom]
  | c :: l, h => by
    have ih := val_lt l (fun x hx => h x (List.mem_cons_of_mem _ hx))
    have hd := (dig_lt (h c (List.mem_cons_self ..))).1
    rw [valFrom_cons, valFrom_split, List.length_cons, Nat.pow_succ]
    have : (0 * 10 + (c.toNat - 48)) * 10 ^ l.length ≤ 9 * 10 ^ l.length := Nat.mul_le_mul_right _ (by omega)
    omega
theorem val_ge (c : UInt8) (l : List UInt8) (hd : isDig c = true) (h0 : c ≠ 48) : 10 ^ l.length ≤ valFrom 0 (c :: l) := by
  rw [valFrom_cons, valFrom_split]
  have h1 := (dig_lt hd).2
  have h2 : c.toNat ≠ 48 := fun e => h0 (UInt8.toNat_inj.1 (by simpa using e))
  have : 1 * 10 ^ l.length ≤ (0 * 10 + (c.toNat - 48)) * 10 ^ l.length := Nat.mul_le_mul_right _ (by omega)
  omega
/-- Of two texts of digits of one length the lesser one is the lesser number. -/
theorem less_val : ∀ (a b : List UInt8) (v : Nat), a.length = b.length → (∀ c ∈ a, isDig c = true) → (∀ c ∈ b, isDig c = true) → Op.bytesLess a b = decide (valFrom v a < valFrom v b)
  | [], [], v, _, _, _ => by simp [Op.bytesLess, valFrom]
  | [], _ :: _, _, h, _, _ => by simp at h
  | _ :: _, [], _, h, _, _ => by simp at h
  | x :: a, y :: b, v, h, ha, hb => by
    have hl : a.length = b.length := by simpa using h
    have ha' : ∀ c ∈ a, isDig c = true := fun c hc => ha c (List.mem_cons_of_mem _ hc)
    have hb' : ∀ c ∈ b, isDig c = true := fun c hc => hb c (List.mem_cons_of_mem _ hc)
    have hx := dig_lt (ha x (List.mem_cons_self ..))
    have hy := dig_lt (hb y (List.mem_cons_self ..))
    have la := val_lt a ha'
    have lb := val_lt b hb'
    unfold Op.bytesLess
    rw [valFrom_cons, valFrom_cons]
    by_cases e : x = y
    · subst e
      rw [less_val a b (v * 10 + (x.toNat - 48)) hl ha' hb']
      have : ¬ x < x := by simp [UInt8.lt_iff_toNat_lt]
      simp [this]
    · have hne : x.toNat ≠ y.toNat := fun k => e (UInt8.toNat_inj.1 k)
      have he : (x == y) = false := by simpa using e
      rw [he, Bool.false_and, Bool.or_false, valFrom_split a, valFrom_split b, hl]
      rw [hl] at la
      generalize 10 ^ b.length = p at la lb
      by_cases hlt : x.toNat < y.toNat
      · have h1 : (x < y) := UInt8.lt_iff_toNat_lt.2 hlt
        have h2 : (v * 10 + (x.toNat - 48) + 1) * p ≤ (v * 10 + (y.toNat - 48)) * p := Nat.mul_le_mul_right _ (by omega)
        rw [Nat.add_mul, Nat.one_mul] at h2
        rw [decide_eq_true h1]
        exact (decide_eq_true (by omega)).symm
      · have h1 : ¬ (x < y) := fun k => hlt (UInt8.lt_iff_toNat_lt.1 k)
        have h2 : (v * 10 + (y.toNat - 48) + 1) * p ≤ (v * 10 + (x.toNat - 48)) * p := Nat.mul_le_mul_right _ (by omega)
        rw [Nat.add_mul, Nat.one_mul] at h2
        rw [decide_eq_false h1]
        exact (decide_eq_false (by omega)).symm

theorem ref_all_l0 (s : ByteArray) (hs : s.size ≤ 9223372036854775807) : ∀ (rest pre : List UInt8) (k : Nat), s.data.toList = pre ++ rest → rest.length < k →
    larumref03_all.l0 k s (pre.length : Int) = some (if rest.all isDig = true then (s.toList != []) else false)
  | rest, pre, 0, _, hk => absurd hk (by omega)
  | [], pre, k + 1, he, _ => by
    have hsz : s.size = pre.length := by have := congrArg List.length he; simpa using this
    rw [larumref03_all.l0, if_neg (by omega)]
    simp
  | c :: rest, pre, k + 1, he, hk => by
    have hsz : s.size = pre.length + (rest.length + 1) := by have := congrArg List.length he; simpa using this
    have hb : bt s (pre.length : Int) = (c.toNat : Int) := by
      rw [bt_get s pre.length (by rw [he]; simp)]
      simp [he]
    have hw : wrap64 ((c.toNat : Int)) = (c.toNat : Int) := w64_id (by omega) (by have := c.toNat_lt; omega)
    have hdg : larumref01_Digit.f (c.toNat : Int) = some (isDig c) := by
      unfold larumref01_Digit.f larumref01_is.f isDig
      rw [hw]
      by_cases h1 : (c.toNat : Int) ≥ 48
      · rw [if_pos h1]
        have : 48 ≤ c.toNat := by omega
        simp [this]
        omega
      · rw [if_neg h1]
        have : ¬ 48 ≤ c.toNat := by omega
        simp [this]
    rw [larumref03_all.l0, if_pos (by omega), if_pos (by omega), hb, hdg]
    simp only [Option.bind_some]
    by_cases hc : isDig c = true
    · have e5 : wrap64 ((pre.length : Int) + 1) = (((pre ++ [c]).length : Nat) : Int) := by rw [w64_id (by omega) (by omega)]; simp
      have ha : (c :: rest).all isDig = rest.all isDig := by simp [hc]
      rw [if_pos hc, e5, ref_all_l0 s hs rest (pre ++ [c]) k (by rw [he]; simp) (by simp at hk; omega)]
      simp only [ha]
    · have ha : (c :: rest).all isDig = false := by simp [hc]
      rw [if_neg hc]
      simp only [ha]
      rfl
theorem ref_all (s : ByteArray) (hs : s.size ≤ 9223372036854775807) (k : Nat) (hk : s.size < k) : larumref03_all.f k s = some (s.data.toList.all isDig && !s.data.toList.isEmpty) := by
  have h := ref_all_l0 s hs s.data.toList [] k rfl (by simpa using hk)
  have h' : larumref03_all.f k s = _ := h
  rw [h', ByteArray.toList_eq]
  cases s.data.toList with
  | nil => rfl
  | cons c l => cases (c :: l).all isDig <;> rfl
/-- A text without a zero ahead is stripped of nothing. -/
theorem ref_strip (s : ByteArray) (k : Nat) (h : 1 < s.size → s.data.toList.head? ≠ some 48) : larumref03_strip.f (k + 1) s = some s := by
  unfold larumref03_strip.f
  rw [larumref03_strip.l0]
  by_cases h1 : (s.size : Int) > 1
  · rw [if_pos h1, if_pos (by omega)]
    have h2 := h (by omega)
    have h3 : ¬ bt s 0 = 48 := fun e => h2 ((bt_head s (by omega)).2.2.1 e)
    rw [if_neg h3]
  · rw [if_neg h1]
theorem ok_parts {t : List UInt8} (h : txtOk t = true) : t ≠ [] ∧ (∀ c ∈ t, isDig c = true) ∧ (1 < t.length → t.head? ≠ some 48) := by
  unfold txtOk at h
  simp only [Bool.and_eq_true, Bool.not_eq_true', Bool.and_eq_false_iff, decide_eq_false_iff_not] at h
  obtain ⟨⟨h1, h2⟩, h3⟩ := h
  refine ⟨fun e => (by rw [e] at h1; cases h1), List.all_eq_true.1 h2, fun hl hh => ?_⟩
  exact h3.elim (fun h3 => h3 hl) (fun h3 => h3 hh)
theorem ref_above (s m : ByteArray) (k : Nat) (hs : txtOk s.data.toList = true) (hm : txtOk m.data.toList = true) (hm1 : 1 < m.size) :
    larumref03_above.f (k + 1) s m = some (decide (valFrom 0 m.data.toList < valFrom 0 s.data.toList)) := by
  obtain ⟨s1, s2, s3⟩ := ok_parts hs
  obtain ⟨m1, m2, m3⟩ := ok_parts hm
  have ls : s.data.toList.length = s.size := by simp
  have lm : m.data.toList.length = m.size := by simp
  unfold larumref03_above.f
  rw [ref_strip s k (fun h => s3 (by omega)), ref_strip m k (fun h => m3 (by omega))]
  simp only [Option.bind_some]
  by_cases he : (s.size : Int) = (m.size : Int)
  · rw [if_pos he, ByteArray.toList_eq, ByteArray.toList_eq, less_val _ _ 0 (by omega) m2 s2]
  · rw [if_neg he]
    congr 1
    have vs := val_lt _ s2
    have vm := val_lt _ m2
    rw [ls] at vs
    rw [lm] at vm
    have gm : 10 ^ (m.size - 1) ≤ valFrom 0 m.data.toList := by
      cases hh : m.data.toList with
      | nil => exact absurd hh m1
      | cons c l =>
        have hl : l.length = m.size - 1 := by rw [hh] at lm; simp at lm; omega
        rw [← hl]
        exact val_ge c l (m2 c (by rw [hh]; exact List.mem_cons_self ..)) (fun e => m3 (by omega) (by rw [hh, e]; rfl))
    by_cases hgt : (s.size : Int) > (m.size : Int)
    · rw [decide_eq_true hgt]
      have gs : 10 ^ (s.size - 1) ≤ valFrom 0 s.data.toList := by
        cases hh : s.data.toList with
        | nil => exact absurd hh s1
        | cons c l =>
          have hl : l.length = s.size - 1 := by rw [hh] at ls; simp at ls; omega
          rw [← hl]
          exact val_ge c l (s2 c (by rw [hh]; exact List.mem_cons_self ..)) (fun e => s3 (by omega) (by rw [hh, e]; rfl))
      have hp : 10 ^ m.size ≤ 10 ^ (s.size - 1) := Nat.pow_le_pow_right (by omega) (by omega)
      exact (decide_eq_true (by omega)).symm
    · rw [decide_eq_false hgt]
      have hp : 10 ^ s.size ≤ 10 ^ (m.size - 1) := Nat.pow_le_pow_right (by omega) (by omega)
      exact (decide_eq_false (by omega)).symm
end Go.Proofs.YtedmjlflppckmaaGreatDoor.PK
