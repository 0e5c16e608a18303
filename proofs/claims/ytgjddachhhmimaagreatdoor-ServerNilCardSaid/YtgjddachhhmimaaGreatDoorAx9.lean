import Derived.Test.YtgjddachhhmimaaGreatDoorAx8
import Derived.Laws.BytesString
import Derived.Lib.ConvBytes
set_option linter.unusedVariables false
set_option linter.unusedSimpArgs false
set_option linter.unnecessarySimpa false
set_option linter.all false
namespace Go.Proofs.YtgjddachhhmimaaGreatDoor.Ax
open Go.RowKit

section
variable {P : Program} {N : Nat} {W0 : World} {base : Nat} {ρ : Rho} {h : AH} {W : World}

theorem cell_of {c : Nat} {cs : List Value} {t : TypeId} {fz : Nat × Nat} (hw : W.heap[c]? = some (.cells ⟨cs⟩ t fz)) (j : Nat) : W.cell? ⟨c, j, none⟩ = cs[j]? := by
  simp [World.cell?, hw]
theorem frozen_of {c : Nat} {cs : List Value} {t : TypeId} {fz : Nat × Nat} (hw : W.heap[c]? = some (.cells ⟨cs⟩ t fz)) (j : Nat) : W.frozen? ⟨c, j, none⟩ = (decide (fz.1 ≤ j) && decide (j < fz.2)) := by
  obtain ⟨lo, hi⟩ := fz
  simp [World.frozen?, hw]

/-- Cells of a row of ours, in the model. -/
theorem rowCells_sound (R : Rel P N W0 base ρ h W) {p : Addr} {n : Nat} {cs : List Value} (e : rowCells h p n = some cs) {x : Value} (hx : VR N ρ (.pointer (some p)) x) :
    cs.length = n ∧ ∃ (q : Addr) (cs' : List Value), x = .pointer (some q) ∧ VRL N ρ cs cs' ∧ (∀ (j : Nat) v, cs'[j]? = some v → W.cell? (q.add j) = some v) ∧
      (∃ r, ρ p.block = some r ∧ q = ⟨r.c, p.off, none⟩) := by
  unfold rowCells at e
  split at e
  · rename_i c t fz ex hg
    split at e
    · rename_i hc
      cases e
      simp only [Bool.and_eq_true, decide_eq_true_eq] at hc
      have hal : (h.get p.block).alive = true := by rw [hg]; rfl
      obtain ⟨r, o, h1, h2, h3⟩ := R.row _ hal
      rw [hg] at h3
      obtain ⟨c', fz', rfl, h4, h5, h6⟩ := h3
      obtain ⟨r', h7, h8, rfl⟩ := hx.ptr_inv (R.low _ _ h1).1
      rw [h1] at h7
      cases h7
      have hlen : ((c.drop p.off).take n).length = n := by simp; omega
      refine ⟨hlen, ⟨r.c, p.off, none⟩, (c'.drop p.off).take n, rfl, ?_, fun j v hj => ?_, r, h1, rfl⟩
      · have h9 := (h4.drop p.off).take n
        have h10 : ((c'.take c.length).drop p.off).take n = (c'.drop p.off).take n := by
          rw [List.drop_take, List.take_take]
          congr 1
          omega
        rw [h10] at h9
        exact h9
      · rw [add_at, cell_of h2]
        have hj' : j < n := by
          have := (List.getElem?_eq_some_iff.1 hj).1
          simp at this; omega
        rw [List.getElem?_take_of_lt hj', List.getElem?_drop] at hj
        exact hj
    · cases e
  · cases e

theorem isAgg_sound {ty : TypeId} {d : TypeDesc} (hd : P.underlying ty = some d) (W : World) : (isAgg ty).run P W = .ok (isAggD d) W := by
  unfold isAgg
  simp only [Sem.run_bind, run_under hd, Result.andThen_ok]
  cases d <;> rfl

theorem aLoad_sound (R : Rel P N W0 base ρ h W) {ty : TypeId} {p : Addr} {v : Value} (e : aLoad P h ty p = some v) {x : Value} (hx : VR N ρ (.pointer (some p)) x) :
    ∃ q v', x = .pointer (some q) ∧ VR N ρ v v' ∧ (loadVar ty q).run P W = .ok v' W := by
  unfold aLoad at e
  split at e
  · rename_i i d hi hd
    split at e
    · rename_i ha
      simp only [Option.bind_eq_some_iff] at e
      obtain ⟨cs, h1, h2⟩ := e
      cases h2
      obtain ⟨hlen, q, cs', rfl, h3, h4, _⟩ := rowCells_sound R h1 hx
      refine ⟨q, .agg ⟨cs'⟩, rfl, .agg h3, ?_⟩
      unfold loadVar
      have h5 := run_loadCells_list W (P := P) q cs' h4
      rw [← h3.length, hlen] at h5
      simp only [Sem.run_bind, isAgg_sound hd, Result.andThen_ok, ha, if_true, run_size hi, h5, Sem.run_pure]
    · rename_i ha
      simp only [Option.bind_eq_some_iff] at e
      obtain ⟨cs, h1, h2⟩ := e
      obtain ⟨hlen, q, cs', rfl, h3, h4, _⟩ := rowCells_sound R h1 hx
      obtain ⟨v', h5, h6⟩ := h3.get h2
      refine ⟨q, v', rfl, h6, ?_⟩
      have h7 := h4 0 v' h5
      have h8 : q.add 0 = q := by simp [Addr.add]
      rw [h8] at h7
      unfold loadVar
      simp only [Sem.run_bind, isAgg_sound hd, Result.andThen_ok]
      rw [if_neg ha]
      simp [h7]
  · cases e

theorem MER.findNow (kd : TypeDesc) (k : Value) : ∀ {es es' : List MapEntry} (i : Nat), MER N ρ es es' →
    (∀ j v, Instr.findNow kd k es i = some (some (j, v)) → ∃ v', VR N ρ v v' ∧ Instr.findNow kd k es' i = some (some (j, v'))) ∧
    (Instr.findNow kd k es i = some none → Instr.findNow kd k es' i = some none)
  | _, _, i, .nil => ⟨fun j v e => by simp [Instr.findNow] at e, fun e => e⟩
  | _, _, i, .cons (k := k') (v := v) (v' := v') hk hv hr => by
    have ih := MER.findNow kd k (i + 1) hr
    constructor
    · intro j u e
      simp only [Instr.findNow] at e ⊢
      cases hs : Instr.sameNow kd k k' with
      | none => simp [hs] at e
      | some b => cases b with
        | true =>
          simp only [hs] at e ⊢
          simp at e
          obtain ⟨rfl, rfl⟩ := e
          exact ⟨v', hv, rfl⟩
        | false =>
          simp only [hs] at e ⊢
          exact ih.1 j u e
    · intro e
      simp only [Instr.findNow] at e ⊢
      cases hs : Instr.sameNow kd k k' with
      | none => simp [hs] at e
      | some b => cases b with
        | true => simp [hs] at e
        | false =>
          simp only [hs] at e ⊢
          exact ih.2 e

theorem checkKey_plain {kt : TypeId} {kd : TypeDesc} (hk : P.underlying kt = some kd) (hp : plainKey kd = true) (b : Bool) (v : Value) (W : World) : (Instr.checkKey b 10000 kt v).run P W = .ok () W := by
  have : ∀ n, (Instr.checkKey b (n + 1) kt v).run P W = .ok () W := by
    intro n
    simp only [Instr.checkKey, Sem.run_bind, run_under hk, Result.andThen_ok]
    cases kd <;> simp [plainKey] at hp <;> cases v <;> rfl
  exact this 9999

theorem findKey_sound {kt : TypeId} {kd : TypeDesc} (hk : P.underlying kt = some kd) {k : Value} {es : List MapEntry} {r : Option (Nat × Value)} (e : Instr.findNow kd k es 0 = some r) (W : World) :
    (Instr.findKey kt k es).run P W = .ok r W := by
  unfold Instr.findKey
  simp only [Sem.run_bind, run_under hk, Result.andThen_ok, e, Sem.run_pure]

theorem getObj_run {c : Nat} {o : Obj} (hw : W.heap[c]? = some o) (hn : ∀ a t f, o ≠ .cells a t f) : (getObj c).run P W = .ok o W := by
  cases o with
  | cells a t f => exact absurd rfl (hn a t f)
  | _ => simp [getObj, Sem.run, hw]

/-- A map of ours. -/
theorem map_row (R : Rel P N W0 base ρ h W) {b : Nat} {es : List MapEntry} {ck : Nat} (hg : h.get b = .map es ck) : ∃ r es', ρ b = some r ∧ W.heap[r.c]? = some (.map ⟨es'⟩ ck) ∧ MER N ρ es es' := by
  obtain ⟨r, o, h1, h2, h3⟩ := R.row b (by rw [hg]; rfl)
  rw [hg] at h3
  obtain ⟨es', rfl, h4⟩ := h3
  exact ⟨r, es', h1, h2, h4⟩

theorem MER.length : ∀ {es es' : List MapEntry}, MER N ρ es es' → es.length = es'.length
  | _, _, .nil => rfl
  | _, _, .cons _ _ h => by simp [MER.length h]

theorem lookup_sound (R : Rel P N W0 base ρ h W) {ty kt et : TypeId} {kd : TypeDesc} {z m m' k v : Value} {es : List MapEntry} {ok : Bool} (ht : P.underlying ty = some (.map kt et)) (hk : P.underlying kt = some kd) (hz : zeroOf P N et = some z)
    (hm : aMapOf h m = some es) (hmr : VR N ρ m m') (hp : plainKey kd = true)
    (e : (match Instr.findNow kd k es 0 with | some (some (_, v)) => some (if ok then Value.tuple #[v, .bool true] else v) | some none => some (if ok then .tuple #[z, .bool false] else z) | none => none) = some v) :
    ∃ v', VR N ρ v v' ∧ (Instr.lookup ty m' k ok).run P W = .ok v' W := by
  have hz2 := (zeroOf_spec hz).2
  obtain ⟨es', hes, hrun⟩ : ∃ es', MER N ρ es es' ∧ ((m' = .map none ∧ es' = []) ∨ ∃ c ck, m' = .map (some c) ∧ W.heap[c]? = some (.map ⟨es'⟩ ck)) := by
    unfold aMapOf at hm
    split at hm
    · cases hm; exact ⟨[], .nil, .inl ⟨hmr.mapNil_inv, rfl⟩⟩
    · split at hm
      · rename_i r es2 ck hg
        cases hm
        obtain ⟨q, es', h1, h2, h3⟩ := map_row R hg
        obtain ⟨q', h4, rfl⟩ := hmr.map_inv
        rw [h1] at h4; cases h4
        exact ⟨es', h3, .inr ⟨_, _, rfl, h2⟩⟩
      · cases hm
    · cases hm
  have hf := MER.findNow (N := N) (ρ := ρ) kd k 0 hes
  have main : ∃ v', VR N ρ v v' ∧ ∀ (emp : Bool), (do
      Instr.checkKey emp 10000 kt k
      let (v, ok') ← match ← Instr.findKey kt k es' with
        | some (_, v) => pure (v, true)
        | none => pure (← zeroValue et, false)
      pure (if ok then .tuple #[v, .bool ok'] else v) : Sem Value).run P W = .ok v' W := by
    cases hfn : Instr.findNow kd k es 0 with
    | none => simp [hfn] at e
    | some r => cases r with
      | none =>
        have h1 := hf.2 hfn
        simp only [hfn] at e
        refine ⟨v, ?_, fun emp => ?_⟩
        · cases e
          cases ok
          · exact .rig hz2
          · exact .tuple (.cons (.rig hz2) (.cons (.rig rfl) .nil))
        · simp only [Sem.run_bind, checkKey_plain hk hp, Result.andThen_ok, findKey_sound hk h1, run_zero hz, Sem.run_pure]
          cases e
          rfl
      | some jv =>
        obtain ⟨j, u⟩ := jv
        obtain ⟨u', h1, h2⟩ := hf.1 j u hfn
        simp only [hfn] at e
        refine ⟨if ok then .tuple #[u', .bool true] else u', ?_, fun emp => ?_⟩
        · cases e
          cases ok
          · exact h1
          · exact .tuple (.cons h1 (.cons (.rig rfl) .nil))
        · simp only [Sem.run_bind, checkKey_plain hk hp, Result.andThen_ok, findKey_sound hk h2, Sem.run_pure]
  obtain ⟨v', h1, h2⟩ := main
  refine ⟨v', h1, ?_⟩
  rcases hrun with ⟨rfl, rfl⟩ | ⟨c, ck, rfl, hw⟩
  · have h3 := h2 true
    unfold Instr.lookup
    simp only [Sem.run_bind, run_under ht, Result.andThen_ok, Sem.run_pure] at h3 ⊢
    exact h3
  · have h3 := h2 (Array.isEmpty ⟨es'⟩)
    unfold Instr.lookup
    simp only [Sem.run_bind, run_under ht, Result.andThen_ok, Sem.run_pure, getObj_run hw (by intro _ _ _ h; cases h)] at h3 ⊢
    exact h3

theorem bytesOf_spec : ∀ {cs cs' : List Value} {l : List UInt8}, VRL N ρ cs cs' → bytesOf cs = some l → ∃ ns : List Int, cs' = ns.map (Value.int .u8) ∧ l = ns.map (fun n => UInt8.ofNat n.toNat)
  | _, _, _, .nil, e => by
    simp [bytesOf] at e; subst e
    exact ⟨[], rfl, rfl⟩
  | v :: r, _, l, .cons hv hr, e => by
    unfold bytesOf at e
    split at e
    · cases ‹v :: r = []›
    · rename_i n r' heq
      cases heq
      simp only [Option.bind_eq_some_iff] at e
      obtain ⟨l', h1, h2⟩ := e
      cases h2
      have := hv.int_inv
      subst this
      obtain ⟨ns, rfl, rfl⟩ := bytesOf_spec hr h1
      exact ⟨n :: ns, rfl, rfl⟩
    · cases e

theorem foldl_push : ∀ (ns : List Int) (s : ByteArray), ns.foldl (fun r n => r.push (UInt8.ofNat n.toNat)) s = ⟨s.data ++ (ns.map fun n => UInt8.ofNat n.toNat).toArray⟩
  | [], s => by simp
  | n :: ns, s => by
    rw [List.foldl_cons, foldl_push ns]
    congr 1
    simp [ByteArray.push]

theorem bytes_run {q : Addr} {len c : Nat} {cs cs' : List Value} {l : List UInt8} (hv : VRL N ρ cs cs') (hlen : cs.length = len) (hb : bytesOf cs = some l) (hc : ∀ (j : Nat) v, cs'[j]? = some v → W.cell? (q.add j) = some v) :
    (Conv.bytesToString (.slice (some q) len c)).run P W = .ok (.string ⟨⟨l⟩⟩) W := by
  obtain ⟨ns, rfl, rfl⟩ := bytesOf_spec hv hb
  have h1 := run_loadCells_list W (P := P) q _ hc
  rw [← hv.length, hlen] at h1
  rw [run_bytesToString W q len c ns h1, foldl_push]
  congr 2
  simp [ByteArray.empty, ByteArray.emptyWithCapacity]
  rfl

theorem slice_place (R : Rel P N W0 base ρ h W) {p : Addr} {l c : Nat} {x : Value} (hx : VR N ρ (.slice (some p) l c) x) (hc : c ≠ capX) :
    ∃ r c', ρ p.block = some r ∧ p.spot = none ∧ x = .slice (some ⟨r.c, p.off, none⟩) l c' ∧ VR N ρ (.pointer (some p)) (.pointer (some ⟨r.c, p.off, none⟩)) ∧
      ((c < capX ∧ c' = c) ∨ (c = capX + r.sz ∧ l ≤ c' ∧ p.off + c' * r.sz = r.K ∧ 1 ≤ r.sz)) := by
  cases hx with
  | rig h => simp [rigid] at h
  | slice e1 e2 => exact ⟨_, _, e1, rfl, rfl, .ptr e1, .inl ⟨e2, rfl⟩⟩
  | sliceX e1 e2 e3 e4 => exact ⟨_, _, e1, rfl, rfl, .ptr e1, .inr ⟨rfl, e2, e3, e4⟩⟩
  | sliceE => exact absurd rfl hc

theorem opR_sound (R : Rel P N W0 base ρ h W) {t : List Value} {a : Act} (T : TR N ρ t a) {o : Oper} {v : Value} (e : opR P N o t h = some v) :
    ∃ v', VR N ρ v v' ∧ (execOp a.eval o).run P W = .ok (.value v') W := by
  unfold opR at e
  split at e
  · -- load
    rename_i ty x ho
    unfold execOp; simp only [ho]
    split at e
    · rename_i p hx
      obtain ⟨q, v', h1, h2, h3⟩ := aLoad_sound R e (aev_sound T hx)
      refine ⟨v', h2, run_value ?_⟩
      rw [h1]
      unfold Instr.loadAt
      simp only [Instr.sureAddr, Sem.run_bind, Sem.run_pure, Result.andThen_ok]
      exact h3
    · cases e
  · -- lookup
    rename_i ty m k ok ho
    unfold execOp; simp only [ho]
    split at e
    · rename_i mv kv kt et hm hk ht
      split at e
      · rename_i es kd z hes hkd hz
        split at e
        · rename_i hc
          simp only [Bool.and_eq_true] at hc
          have h1 := (aev_sound T hk).eq_of_rigid R.lowN hc.2
          obtain ⟨v', h2, h3⟩ := lookup_sound R ht hkd hz hes (aev_sound T hm) hc.1 (k := kv) (ok := ok) e
          exact ⟨v', h2, run_value (by rw [h1]; exact h3)⟩
        · cases e
      · cases e
    · cases e
  · -- bytes to a string
    rename_i src dst x ho
    unfold execOp; simp only [ho]
    split at e
    · rename_i el p len c hs hd hx
      split at e
      · rename_i hel
        split at e
        · rename_i hc
          simp only [Option.bind_eq_some_iff] at e
          obtain ⟨cs, h1, l, h2, h3⟩ := e
          cases h3
          obtain ⟨r, c', g1, g2, g3, g4, _⟩ := slice_place R (aev_sound T hx) hc
          obtain ⟨hlen, q, cs', h5, h6, h7, _⟩ := rowCells_sound R h1 g4
          cases h5
          refine ⟨_, .rig rfl, run_value ?_⟩
          rw [g3, run_convert_bytes_string W src dst el _ _ _ hs hel hd]
          exact bytes_run h6 hlen h2 h7
        · cases e
      · cases e
    · cases e
  · -- len of a map
    rename_i args tys ho
    split at e
    · rename_i x ty r ha htys
      split at e
      · rename_i b kt et hx hu
        split at e
        · rename_i es ck hg
          cases e
          obtain ⟨q, es', h1, h2, h3⟩ := map_row R hg
          obtain ⟨q', h4, h5⟩ := (aev_sound T hx).map_inv
          rw [h1] at h4; cases h4
          have e1 : args = #[x] := by apply Array.toList_inj.1; simpa using ha
          have e2 : tys[0]? = some ty := by rw [← Array.getElem?_toList, htys]; rfl
          refine ⟨_, .rig rfl, ?_⟩
          have hob := getObj_run (P := P) h2 (by intro _ _ _ h; cases h)
          unfold execOp
          simp only [ho, resolve, e1]
          simp [invoke, builtin, Builtin.len_, e2, h5, run_under hu, goInt, hob, h3.length]
        · cases e
      · cases e
    · cases e
  · cases e
end
end Go.Proofs.YtgjddachhhmimaaGreatDoor.Ax
