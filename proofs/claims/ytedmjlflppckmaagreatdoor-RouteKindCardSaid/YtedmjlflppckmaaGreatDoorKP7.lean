import Derived.Test.YtedmjlflppckmaaGreatDoorKP6
set_option linter.unusedVariables false
set_option linter.unusedSimpArgs false
namespace Go.Proofs.YtedmjlflppckmaaGreatDoor.PK
open Go.RowKit Go.Proofs.YtedmjlflppckmaaGreatDoorW.PrintWords
theorem rd0 (p : ByteArray) (l : List ByteArray) : rdOf ByteArray.empty (p :: l) 0 = p := rfl
theorem rd1 (p q : ByteArray) (l : List ByteArray) : rdOf ByteArray.empty (p :: q :: l) 1 = q := rfl
theorem ref_methods (k : Nat) (a0 : ByteArray) (n : Int) :
    larumref29_Kind.l1 (k + 1 + 1 + 1 + 1) a0 n [⟨#[71, 69, 84]⟩, ⟨#[80, 85, 84]⟩, ⟨#[68, 69, 76, 69, 84, 69]⟩] 3 0 =
      some (if a0.toList = [71, 69, 84] then (3, n, 0) else if a0.toList = [80, 85, 84] then (4, n, 0) else if a0.toList = [68, 69, 76, 69, 84, 69] then (5, n, 0) else (0, 0, 405)) := by
  generalize hM : a0.toList = M
  have g1 : (⟨#[71, 69, 84]⟩ : ByteArray).toList = [71, 69, 84] := by rw [ByteArray.toList_eq]
  have g2 : (⟨#[80, 85, 84]⟩ : ByteArray).toList = [80, 85, 84] := by rw [ByteArray.toList_eq]
  have g3 : (⟨#[68, 69, 76, 69, 84, 69]⟩ : ByteArray).toList = [68, 69, 76, 69, 84, 69] := by rw [ByteArray.toList_eq]
  have w1 : wrap64 (0 + 1) = 1 := by decide +kernel
  have w2 : wrap64 (1 + 1) = 2 := by decide +kernel
  have w3 : wrap64 (2 + 1) = 3 := by decide +kernel
  have v0 : wrap64 (3 + 0) = 3 := by decide +kernel
  have v1 : wrap64 (3 + 1) = 4 := by decide +kernel
  have v2 : wrap64 (3 + 2) = 5 := by decide +kernel
  rw [larumref29_Kind.l1, if_pos (by decide), if_pos (by decide), if_pos (by simp), w1, v0]
  show (if (⟨#[71, 69, 84]⟩ : ByteArray).toList = a0.toList then _ else _) = _
  rw [g1, hM]
  by_cases h1 : M = [71, 69, 84]
  · rw [if_pos h1.symm, if_pos h1]
  rw [if_neg (fun e => h1 e.symm), if_neg h1, larumref29_Kind.l1, if_pos (by decide), if_pos (by decide), if_pos (by simp), w2, v1]
  show (if (⟨#[80, 85, 84]⟩ : ByteArray).toList = a0.toList then _ else _) = _
  rw [g2, hM]
  by_cases h2 : M = [80, 85, 84]
  · rw [if_pos h2.symm, if_pos h2]
  rw [if_neg (fun e => h2 e.symm), if_neg h2, larumref29_Kind.l1, if_pos (by decide), if_pos (by decide), if_pos (by simp), w3, v2]
  show (if (⟨#[68, 69, 76, 69, 84, 69]⟩ : ByteArray).toList = a0.toList then _ else _) = _
  rw [g3, hM]
  by_cases h3 : M = [68, 69, 76, 69, 84, 69]
  · rw [if_pos h3.symm, if_pos h3]
  rw [if_neg (fun e => h3 e.symm), if_neg h3, larumref29_Kind.l1, if_neg (by decide)]
theorem parse_pos {l : List UInt8} (h : (parseS l).2 = 0) (h1 : 0 < (parseS l).1) : ∃ n : Nat, (parseS l).1 = (n : Int) ∧ n ≤ 9223372036854775807 := by
  unfold parseS at h h1 ⊢
  split at h1
  · exfalso
    unfold parse1 at h1
    split at h1
    · rw [if_pos rfl] at h1
      split at h1
      · simp at h1; omega
      · simp at h1
    · simp at h1
  · rename_i hn
    rw [if_neg hn]
    unfold parse1 at h1 ⊢
    split at h1
    · rename_i ht
      rw [if_pos ht]
      rw [if_neg Bool.false_ne_true] at h1 ⊢
      split at h1
      · rename_i hv
        rw [if_pos hv]
        exact ⟨_, rfl, hv⟩
      · simp at h1
    · simp at h1
theorem kind_two (k : Nat) (a0 p q : ByteArray) (hq : q.size ≤ 9223372036854775807) (hk : q.size + 60 < k) :
    ∃ r, route_Kind.f k a0 [p, q] = some r ∧ larumref29_Kind.f k a0 [p, q] = some r := by
  have hP : num_Parse.f k q = some (parseS q.data.toList) := num_spec q hq k (by omega)
  have hR : larumref03_Parse.f k q = some (parseS q.data.toList) := ref_spec q hq k (by omega)
  obtain ⟨k, rfl⟩ : ∃ j, k = j + 1 + 1 + 1 + 1 := ⟨k - 4, by omega⟩
  have hof : route_ofOne.f a0 = some (if a0.toList = [71, 69, 84] then 3 else if a0.toList = [80, 85, 84] then 4 else if a0.toList = [68, 69, 76, 69, 84, 69] then 5 else 0) := by
    unfold route_ofOne.f
    repeat' split
    all_goals first | rfl | contradiction
  have hl0 : (0 : Int) < ((List.length [p, q] : Nat) : Int) := by simp
  have hl1 : (1 : Int) < ((List.length [p, q] : Nat) : Int) := by simp
  have hl2 : ((List.length [p, q] : Nat) : Int) = 2 := by simp
  have hl3 : ¬ ((List.length [p, q] : Nat) : Int) = 1 := by simp
  unfold route_Kind.f larumref29_Kind.f route_ident.f
  have q0 : rdOf ByteArray.empty [p, q] 0 = p := rfl
  have q1 : rdOf ByteArray.empty [p, q] 1 = q := rfl
  generalize rdOf ByteArray.empty [p, q] 0 = p' at q0 ⊢
  generalize rdOf ByteArray.empty [p, q] 1 = q' at q1 ⊢
  subst q0 q1
  simp only [Option.bind_some, if_pos hl0, if_pos hl1, if_pos hl2, if_neg hl3, hP, hR, hof]
  have hpos := @parse_pos q'.data.toList
  generalize hz : parseS q'.data.toList = z at hpos ⊢
  obtain ⟨n, c⟩ := z
  simp only at hpos ⊢
  by_cases hc : c = 0
  · rw [if_pos hc, if_pos hc]
    by_cases hn : n > 0
    · obtain ⟨m, rfl, hm⟩ := hpos hc hn
      rw [if_pos hn, if_neg (show ¬ ((m : Int) < 1) by omega)]
      obtain ⟨r1, e1, d1⟩ := num_print m 18 (k + 1 + 1 + 1 + 1) (by omega) hm (by omega) (by omega)
      obtain ⟨r2, e2, d2⟩ := ref_print 18 m (k + 1 + 1 + 1 + 1) (by omega) hm (by omega) (by omega)
      have er : r2 = r1 := Go.WideShapes.bytes_inj (d2.trans d1.symm)
      subst er
      rw [e1, e2]
      simp only [Option.bind_some]
      have hml : (((List.length [(⟨#[71, 69, 84]⟩ : ByteArray), ⟨#[80, 85, 84]⟩, ⟨#[68, 69, 76, 69, 84, 69]⟩]) : Nat) : Int) = 3 := rfl
      rw [hml, ref_methods]
      by_cases hs : p'.toList = [115, 105, 108, 101, 110, 99, 101, 115]
      · rw [if_pos hs, if_pos hs]
        by_cases hq2 : r2.toList = q'.toList
        · rw [if_pos hq2, show (r2.toList == q'.toList) = true by simpa using hq2, route_Kind.j0]
          refine ⟨_, ?_, rfl⟩
          repeat' split
          all_goals first | rfl | contradiction | simp_all
        · rw [if_neg hq2, show (r2.toList == q'.toList) = false by simpa using hq2, route_Kind.j0]
          exact ⟨_, rfl, rfl⟩
      · rw [if_neg hs, if_neg hs, route_Kind.j0]
        exact ⟨_, rfl, rfl⟩
    · rw [if_neg hn, if_pos (show n < 1 by omega)]
      simp only [Option.bind_some, ite_self]
      by_cases hs : p'.toList = [115, 105, 108, 101, 110, 99, 101, 115]
      · rw [if_pos hs, route_Kind.j0]
        exact ⟨_, rfl, rfl⟩
      · rw [if_neg hs, route_Kind.j0]
        exact ⟨_, rfl, rfl⟩
  · rw [if_neg hc, if_neg hc]
    simp only [Option.bind_some, ite_self]
    by_cases hs : p'.toList = [115, 105, 108, 101, 110, 99, 101, 115]
    · rw [if_pos hs, route_Kind.j0]
      exact ⟨_, rfl, rfl⟩
    · rw [if_neg hs, route_Kind.j0]
      exact ⟨_, rfl, rfl⟩
theorem lit_alerts : (⟨#[97, 108, 101, 114, 116, 115]⟩ : ByteArray).toList = [97, 108, 101, 114, 116, 115] := by rw [ByteArray.toList_eq]
theorem lit_silences : (⟨#[115, 105, 108, 101, 110, 99, 101, 115]⟩ : ByteArray).toList = [115, 105, 108, 101, 110, 99, 101, 115] := by rw [ByteArray.toList_eq]
theorem lit_groups : (⟨#[103, 114, 111, 117, 112, 115]⟩ : ByteArray).toList = [103, 114, 111, 117, 112, 115] := by rw [ByteArray.toList_eq]
theorem lit_watch : (⟨#[119, 97, 116, 99, 104]⟩ : ByteArray).toList = [119, 97, 116, 99, 104] := by rw [ByteArray.toList_eq]
theorem lit_outbox : (⟨#[111, 117, 116, 98, 111, 120]⟩ : ByteArray).toList = [111, 117, 116, 98, 111, 120] := by rw [ByteArray.toList_eq]
theorem lit_post : (⟨#[80, 79, 83, 84]⟩ : ByteArray).toList = [80, 79, 83, 84] := by rw [ByteArray.toList_eq]
theorem lit_get : (⟨#[71, 69, 84]⟩ : ByteArray).toList = [71, 69, 84] := by rw [ByteArray.toList_eq]
def five : List ByteArray := [(⟨#[97, 108, 101, 114, 116, 115]⟩ : ByteArray), (⟨#[115, 105, 108, 101, 110, 99, 101, 115]⟩ : ByteArray), (⟨#[103, 114, 111, 117, 112, 115]⟩ : ByteArray), (⟨#[119, 97, 116, 99, 104]⟩ : ByteArray), (⟨#[111, 117, 116, 98, 111, 120]⟩ : ByteArray)]
/-- One round over the five names. -/
theorem ref_one (k : Nat) (a0 p : ByteArray) (i : Nat) (hi : i < 5) :
    larumref29_Kind.l0 (k + 1) a0 [p] [1, 2, 6, 7, 8] five 5 (i : Int) =
      if (five.getD i ByteArray.empty).toList = p.toList then
        (if (i : Int) < 2 then (if a0.toList = [80, 79, 83, 84] then some (rd [1, 2, 6, 7, 8] (i : Int), 0, 0) else some (0, 0, 405))
         else (if a0.toList = [71, 69, 84] then some (rd [1, 2, 6, 7, 8] (i : Int), 0, 0) else some (0, 0, 405)))
      else larumref29_Kind.l0 k a0 [p] [1, 2, 6, 7, 8] five 5 ((i + 1 : Nat) : Int) := by
  have e5 : wrap64 ((i : Int) + 1) = ((i + 1 : Nat) : Int) := by rw [w64_id (by omega) (by omega)]; omega
  have h1 : (0 : Int) < ((List.length [p] : Nat) : Int) := by simp
  have h2 : (i : Int) < ((List.length [(1 : Int), 2, 6, 7, 8] : Nat) : Int) := by simp; omega
  have h3 : (i : Int) < ((five.length : Nat) : Int) := by simp [five]; omega
  have p0 : rdOf ByteArray.empty [p] 0 = p := rfl
  rw [larumref29_Kind.l0]
  rw [if_pos (show (i : Int) < 5 by omega), if_pos (show (0 : Int) ≤ (i : Int) by omega), if_pos h3, if_pos h1, e5]
  simp only [if_pos h2]
  rfl
theorem kind_one (k : Nat) (a0 p : ByteArray) (hk : 60 < k) :
    ∃ r, route_Kind.f k a0 [p] = some r ∧ larumref29_Kind.f k a0 [p] = some r := by
  obtain ⟨k, rfl⟩ : ∃ j, k = j + 1 + 1 + 1 + 1 + 1 + 1 := ⟨k - 6, by omega⟩
  have hl1 : ((List.length [p] : Nat) : Int) = 1 := by simp
  have hl2 : (0 : Int) < ((List.length [p] : Nat) : Int) := by simp
  have hl3 : ¬ ((List.length [p] : Nat) : Int) = 2 := by simp
  unfold route_Kind.f larumref29_Kind.f
  simp only [Option.bind_some, if_pos hl1, if_pos hl2]
  show ∃ r, (Option.bind (route_single.f p) _) = some r ∧ larumref29_Kind.l0 (k + 1 + 1 + 1 + 1 + 1 + 1) a0 [p] [1, 2, 6, 7, 8] five 5 ((0 : Nat) : Int) = some r
  rw [ref_one _ _ _ 0 (by omega), ref_one _ _ _ 1 (by omega), ref_one _ _ _ 2 (by omega), ref_one _ _ _ 3 (by omega), ref_one _ _ _ 4 (by omega)]
  have hend : larumref29_Kind.l0 (k + 1) a0 [p] [1, 2, 6, 7, 8] five 5 ((4 + 1 : Nat) : Int) = some (0, 0, 404) := by
    rw [larumref29_Kind.l0, if_neg (by decide), if_neg hl3]
  rw [hend]
  simp only [five, List.getD_cons_zero, List.getD_cons_succ, lit_alerts, lit_silences, lit_groups, lit_watch, lit_outbox]
  unfold route_single.f
  by_cases c1 : p.toList = [97, 108, 101, 114, 116, 115]
  · rw [if_pos c1, if_pos c1.symm, if_pos (show ((0 : Nat) : Int) < 2 by decide)]
    show ∃ r, (if (1 : Int) = 0 then some (0, 0, 404) else if (⟨#[80, 79, 83, 84]⟩ : ByteArray).toList = a0.toList then some (1, 0, 0) else some (0, 0, 405)) = some r ∧ (if a0.toList = [80, 79, 83, 84] then some (rd [1, 2, 6, 7, 8] ((0 : Nat) : Int), 0, 0) else some (0, 0, 405)) = some r
    rw [if_neg (by decide), lit_post]
    by_cases hm : a0.toList = [80, 79, 83, 84]
    · rw [if_pos hm.symm, if_pos hm]
      exact ⟨_, rfl, rfl⟩
    · rw [if_neg (fun e => hm e.symm), if_neg hm]
      exact ⟨_, rfl, rfl⟩
  by_cases c2 : p.toList = [115, 105, 108, 101, 110, 99, 101, 115]
  · rw [if_neg c1, if_pos c2, if_neg (fun e => c1 e.symm), if_pos c2.symm, if_pos (show ((1 : Nat) : Int) < 2 by decide)]
    show ∃ r, (if (2 : Int) = 0 then some (0, 0, 404) else if (⟨#[80, 79, 83, 84]⟩ : ByteArray).toList = a0.toList then some (2, 0, 0) else some (0, 0, 405)) = some r ∧ (if a0.toList = [80, 79, 83, 84] then some (rd [1, 2, 6, 7, 8] ((1 : Nat) : Int), 0, 0) else some (0, 0, 405)) = some r
    rw [if_neg (by decide), lit_post]
    by_cases hm : a0.toList = [80, 79, 83, 84]
    · rw [if_pos hm.symm, if_pos hm]
      exact ⟨_, rfl, rfl⟩
    · rw [if_neg (fun e => hm e.symm), if_neg hm]
      exact ⟨_, rfl, rfl⟩
  by_cases c3 : p.toList = [103, 114, 111, 117, 112, 115]
  · rw [if_neg c1, if_neg c2, if_pos c3, if_neg (fun e => c1 e.symm), if_neg (fun e => c2 e.symm), if_pos c3.symm, if_neg (show ¬ ((2 : Nat) : Int) < 2 by decide)]
    show ∃ r, (if (6 : Int) = 0 then some (0, 0, 404) else if (⟨#[71, 69, 84]⟩ : ByteArray).toList = a0.toList then some (6, 0, 0) else some (0, 0, 405)) = some r ∧ (if a0.toList = [71, 69, 84] then some (rd [1, 2, 6, 7, 8] ((2 : Nat) : Int), 0, 0) else some (0, 0, 405)) = some r
    rw [if_neg (by decide), lit_get]
    by_cases hm : a0.toList = [71, 69, 84]
    · rw [if_pos hm.symm, if_pos hm]
      exact ⟨_, rfl, rfl⟩
    · rw [if_neg (fun e => hm e.symm), if_neg hm]
      exact ⟨_, rfl, rfl⟩
  by_cases c4 : p.toList = [119, 97, 116, 99, 104]
  · rw [if_neg c1, if_neg c2, if_neg c3, if_pos c4, if_neg (fun e => c1 e.symm), if_neg (fun e => c2 e.symm), if_neg (fun e => c3 e.symm), if_pos c4.symm, if_neg (show ¬ ((3 : Nat) : Int) < 2 by decide)]
    show ∃ r, (if (7 : Int) = 0 then some (0, 0, 404) else if (⟨#[71, 69, 84]⟩ : ByteArray).toList = a0.toList then some (7, 0, 0) else some (0, 0, 405)) = some r ∧ (if a0.toList = [71, 69, 84] then some (rd [1, 2, 6, 7, 8] ((3 : Nat) : Int), 0, 0) else some (0, 0, 405)) = some r
    rw [if_neg (by decide), lit_get]
    by_cases hm : a0.toList = [71, 69, 84]
    · rw [if_pos hm.symm, if_pos hm]
      exact ⟨_, rfl, rfl⟩
    · rw [if_neg (fun e => hm e.symm), if_neg hm]
      exact ⟨_, rfl, rfl⟩
  by_cases c5 : p.toList = [111, 117, 116, 98, 111, 120]
  · rw [if_neg c1, if_neg c2, if_neg c3, if_neg c4, if_pos c5, if_neg (fun e => c1 e.symm), if_neg (fun e => c2 e.symm), if_neg (fun e => c3 e.symm), if_neg (fun e => c4 e.symm), if_pos c5.symm, if_neg (show ¬ ((4 : Nat) : Int) < 2 by decide)]
    show ∃ r, (if (8 : Int) = 0 then some (0, 0, 404) else if (⟨#[71, 69, 84]⟩ : ByteArray).toList = a0.toList then some (8, 0, 0) else some (0, 0, 405)) = some r ∧ (if a0.toList = [71, 69, 84] then some (rd [1, 2, 6, 7, 8] ((4 : Nat) : Int), 0, 0) else some (0, 0, 405)) = some r
    rw [if_neg (by decide), lit_get]
    by_cases hm : a0.toList = [71, 69, 84]
    · rw [if_pos hm.symm, if_pos hm]
      exact ⟨_, rfl, rfl⟩
    · rw [if_neg (fun e => hm e.symm), if_neg hm]
      exact ⟨_, rfl, rfl⟩
  rw [if_neg c1, if_neg c2, if_neg c3, if_neg c4, if_neg c5, if_neg (fun e => c1 e.symm), if_neg (fun e => c2 e.symm), if_neg (fun e => c3 e.symm), if_neg (fun e => c4 e.symm), if_neg (fun e => c5 e.symm)]
  exact ⟨_, rfl, rfl⟩
theorem kind_none (k : Nat) (a0 : ByteArray) (l : List ByteArray) (h1 : l.length ≠ 1) (h2 : l.length ≠ 2) :
    ∃ r, route_Kind.f k a0 l = some r ∧ larumref29_Kind.f k a0 l = some r := by
  have e1 : ¬ ((l.length : Nat) : Int) = 1 := by omega
  have e2 : ¬ ((l.length : Nat) : Int) = 2 := by omega
  unfold route_Kind.f larumref29_Kind.f
  simp only [Option.bind_some, if_neg e1, if_neg e2]
  exact ⟨_, rfl, rfl⟩
theorem kind_eq (a0 : ByteArray) (l : List ByteArray) (h : ∀ x ∈ l, x.size ≤ 9223372036854775807) : ∃ k r, route_Kind.f k a0 l = some r ∧ larumref29_Kind.f k a0 l = some r := by
  match l, h with
  | [], _ => exact ⟨0, kind_none 0 a0 [] (by simp) (by simp)⟩
  | [p], _ => exact ⟨61, kind_one 61 a0 p (by omega)⟩
  | [p, q], h => exact ⟨q.size + 61, kind_two _ a0 p q (h q (by simp)) (by omega)⟩
  | p :: q :: r :: l, _ => exact ⟨0, kind_none 0 a0 _ (by simp) (by simp)⟩
theorem routeKind_pure (a0 : ByteArray) (l : List ByteArray) (h : ∀ x ∈ l, x.size ≤ 9223372036854775807) : ∃ k, larumlaw29_RouteKind.f k a0 l = some true := by
  unfold larumlaw29_RouteKind.f
  by_cases h4 : ((l.length : Nat) : Int) > 4
  · obtain ⟨k, r, e1, e2⟩ := kind_eq a0 (l.take 4) (fun x hx => h x (List.mem_of_mem_take hx))
    refine ⟨k, ?_⟩
    rw [if_pos h4, if_pos (by omega), e1, e2]
    simp [larumlaw29_awake.f]
  · obtain ⟨k, r, e1, e2⟩ := kind_eq a0 l h
    refine ⟨k, ?_⟩
    rw [if_neg h4, e1, e2]
    simp [larumlaw29_awake.f]
end Go.Proofs.YtedmjlflppckmaaGreatDoor.PK
