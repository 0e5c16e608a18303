import Derived.Test.YtedmjlflppckmaaGreatDoorPk2
set_option linter.unusedVariables false
set_option linter.unusedSimpArgs false
namespace Go.Proofs.YtedmjlflppckmaaGreatDoor.PK
open Go.RowKit Go.Proofs.YtedmjlflppckmaaGreatDoorW.PrintWords
/-! ## Numbers out of digits -/
/-- The value of a text of digits, from v on. -/
def valFrom (v : Nat) (l : List UInt8) : Nat := l.foldl (fun v c => v * 10 + (c.toNat - 48)) v
def isDig (c : UInt8) : Bool := decide (48 ≤ c.toNat) && decide (c.toNat ≤ 57)
theorem valFrom_le : ∀ (l : List UInt8) (v : Nat), v ≤ valFrom v l
  | [], v => Nat.le_refl _
  | c :: l, v => by
    have := valFrom_le l (v * 10 + (c.toNat - 48))
    unfold valFrom at this ⊢
    rw [List.foldl_cons]
    omega
theorem bt_get (s : ByteArray) (i : Nat) (h : i < s.data.toList.length) : bt s (i : Int) = ((s.data.toList[i]).toNat : Int) := by
  unfold bt
  have h' : i < s.size := by simpa using h
  simp [h', ByteArray.getElem_eq_getElem_data]
theorem u64_id {n : Int} (h0 : 0 ≤ n) (h1 : n < 18446744073709551616) : IntKind.u64.wrap n = n := by
  simp [IntKind.wrap, IntKind.bits, IntKind.signed]; omega
theorem w64_id {n : Int} (h0 : -9223372036854775808 ≤ n) (h1 : n < 9223372036854775808) : wrap64 n = n := by
  unfold wrap64; omega

/-- The program's reading of digits. -/
theorem digits_l0 (s : ByteArray) (hs : s.size ≤ 9223372036854775807) (lim : Nat) (hl : 9 ≤ lim) (hl2 : lim < 18446744073709551616) :
    ∀ (rest pre : List UInt8) (v k : Nat), s.data.toList = pre ++ rest → (∀ c ∈ rest, isDig c = true) → v ≤ lim → rest.length < k →
      num_digits.l0 k s (lim : Int) (v : Int) (s.size : Int) (pre.length : Int) = some (if valFrom v rest ≤ lim then (((valFrom v rest : Nat) : Int), (0 : Int)) else (0, 5))
  | rest, pre, v, 0, _, _, _, hk => absurd hk (by omega)
  | [], pre, v, k + 1, he, _, hv, _ => by
    have hsz : s.size = pre.length := by have := congrArg List.length he; simpa using this
    unfold num_digits.l0
    rw [if_neg (by omega)]
    simp [valFrom, hv]
  | c :: rest, pre, v, k + 1, he, hd, hv, hk => by
    have hsz : s.size = pre.length + (rest.length + 1) := by have := congrArg List.length he; simpa using this
    have hb : bt s (pre.length : Int) = (c.toNat : Int) := by
      rw [bt_get s pre.length (by rw [he]; simp)]
      simp [he]
    have hc := hd c (List.mem_cons_self ..)
    simp only [isDig, Bool.and_eq_true, decide_eq_true_eq] at hc
    have hdg : ((c.toNat : Int) - 48) % 256 = ((c.toNat - 48 : Nat) : Int) := by omega
    have hd9 : c.toNat - 48 ≤ 9 := by omega
    unfold num_digits.l0
    rw [if_pos (by omega), if_pos (by omega), if_pos (by omega), hb, hdg]
    have hvf : valFrom v (c :: rest) = valFrom (v * 10 + (c.toNat - 48)) rest := rfl
    rw [hvf]
    generalize c.toNat - 48 = d at hd9
    have e1 : IntKind.u64.wrap ((lim : Int) - (d : Int)) = ((lim - d : Nat) : Int) := by rw [u64_id (by omega) (by omega)]; omega
    have e2 : Int.tdiv ((lim - d : Nat) : Int) 10 = (((lim - d) / 10 : Nat) : Int) := by
      rw [Int.tdiv_eq_ediv_of_nonneg (by omega)]; omega
    rw [e1, e2, u64_id (n := (((lim - d) / 10 : Nat) : Int)) (by omega) (by omega)]
    by_cases hov : (v : Int) > (((lim - d) / 10 : Nat) : Int)
    · rw [if_pos hov]
      have h1 := valFrom_le rest (v * 10 + d)
      rw [if_neg (by omega)]
    · rw [if_neg hov]
      have e3 : IntKind.u64.wrap ((v : Int) * 10) = ((v * 10 : Nat) : Int) := by rw [u64_id (by omega) (by omega)]; omega
      have e4 : IntKind.u64.wrap (((v * 10 : Nat) : Int) + (d : Int)) = ((v * 10 + d : Nat) : Int) := by rw [u64_id (by omega) (by omega)]; omega
      have e5 : wrap64 ((pre.length : Int) + 1) = (((pre ++ [c]).length : Nat) : Int) := by rw [w64_id (by omega) (by omega)]; simp
      rw [e3, e4, e5]
      exact digits_l0 s hs lim hl hl2 rest (pre ++ [c]) (v * 10 + d) k (by rw [he]; simp) (fun x hx => hd x (List.mem_cons_of_mem _ hx)) (by omega) (by simp at hk; omega)
end Go.Proofs.YtedmjlflppckmaaGreatDoor.PK
