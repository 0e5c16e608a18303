import Derived.Test.YtgjddachhhmimaaGreatDoorAx13
set_option linter.unusedVariables false
set_option linter.unusedSimpArgs false
set_option linter.unnecessarySimpa false
set_option linter.all false
namespace Go.Proofs.YtgjddachhhmimaaGreatDoor.Ax
open Go.RowKit

section
variable {P : Program} {N : Nat} {W0 : World} {base : Nat} {ρ : Rho} {h : AH} {W : World}

theorem bytesWorld_eq (W : World) (e : TypeId) (s : ByteArray) : Lib.bytesWorld W e s = W.drew.alloc (.cells (Lib.bytesCells W e s) e ((Lib.bytesCells W e s).size, (Lib.bytesCells W e s).size + 1)) := by
  have hh : (Lib.bytesWorld W e s).heap = (W.drew.alloc (.cells (Lib.bytesCells W e s) e ((Lib.bytesCells W e s).size, (Lib.bytesCells W e s).size + 1))).heap := by
    apply Array.ext_getElem?
    intro k
    rcases Nat.lt_trichotomy k W.heap.size with hk | hk | hk
    · rw [Lib.bytesWorld_at_old W e s k hk, Below.heap_alloc _ _ _ (show k < W.drew.heap.size from hk)]; rfl
    · subst hk
      rw [Lib.bytesWorld_at_new]
      exact (alloc_at W.drew _).symm
    · rw [Array.getElem?_eq_none (by rw [Lib.bytesWorld_size]; omega), Array.getElem?_eq_none (by simp; omega)]
  have : Lib.bytesWorld W e s = { (W.drew.alloc (.cells (Lib.bytesCells W e s) e ((Lib.bytesCells W e s).size, (Lib.bytesCells W e s).size + 1))) with heap := (Lib.bytesWorld W e s).heap } := by
    unfold Lib.bytesWorld World.freeze
    simp only [Nat.one_ne_zero, if_false]
    rfl
  rw [this, hh]

theorem toBytes_sound (R : Rel P N W0 base ρ h W) {src dst e : TypeId} {s : ByteArray} {d : TypeDesc} (hs : P.underlying src = some d) (hd : P.underlying dst = some (.slice e)) (he : P.underlying e = some (.int .u8)) (hi : (P.info? e).map (·.size) = some 1) :
    ∃ σ v' W', Ext h.n none ρ σ ∧ VR N σ (.slice (some ⟨h.n, 0, none⟩) s.size (capX + 1)) v' ∧ Rel P N W0 base σ (h.push (.cells (s.data.toList.map fun b => .int .u8 (b.toNat : Int)) e (1, 0) false)) W' ∧
      (convert src dst (.string s)).run P W = .ok v' W' := by
  have R1 := R.drew W.drew rfl rfl rfl rfl
  have hcap : s.size ≤ grownCap W s.size 0 e := Nat.le_add_right s.size _
  have hsz : (Lib.bytesCells W e s).size = grownCap W s.size 0 e := by
    have : s.data.size = s.size := rfl
    simp [Lib.bytesCells, this]; omega
  have hor : OR P N ρ ⟨W.drew.heap.size, grownCap W s.size 0 e, 1⟩ (.cells (s.data.toList.map fun b => .int .u8 (b.toNat : Int)) e (1, 0) false) (.cells (Lib.bytesCells W e s) e ((Lib.bytesCells W e s).size, (Lib.bytesCells W e s).size + 1)) := by
    have hl : (s.data.toList.map fun b => Value.int .u8 (b.toNat : Int)).length = s.size := by simp
    have hr : ∀ l : List UInt8, rigids N (l.map fun b => Value.int .u8 (b.toNat : Int)) = true := by
      intro l
      induction l with
      | nil => rfl
      | cons b r ih => simp [rigids, rigid, ih]
    have hls : (Lib.bytesCells W e s).toList.length = grownCap W s.size 0 e := by rw [Array.length_toList, hsz]
    refine ⟨(Lib.bytesCells W e s).toList, _, rfl, ?_, by rw [hl, hls]; exact hcap, hls, (fun hh => by cases hh), ?_, (fun _ => hi)⟩
    · have : (Lib.bytesCells W e s).toList.take (s.data.toList.map fun b => Value.int .u8 (b.toNat : Int)).length = s.data.toList.map fun b => Value.int .u8 (b.toNat : Int) := by
        simp [Lib.bytesCells]
      rw [this]
      exact VRL.rig (hr _)
    · unfold FR
      simp
  obtain ⟨h1, h2⟩ := R1.push hor
  refine ⟨_, .slice (some ⟨W.heap.size, 0, none⟩) s.size (grownCap W s.size 0 e), _, Ext.bind1 (h := h) h1, ?_, h2, ?_⟩
  · exact .sliceX (b := h.n) (r := ⟨W.drew.heap.size, grownCap W s.size 0 e, 1⟩) (bind1_same _ _ _) hcap (by simp) (Nat.le_refl _)
  · rw [Lib.run_convert_string_bytes W src dst e s hs hd he, bytesWorld_eq]

theorem fnOf_enter {f : FuncId} (hf : fnOf P f = true) (args : Array Value) (W : World) : (callFunc f args).run P W = .ok (.enter f args) W := by
  unfold fnOf at hf
  split at hf
  · rename_i fn hfn
    simp only [Bool.and_eq_true, bne_iff_ne] at hf
    unfold callFunc
    obtain ⟨c, hc⟩ := Option.isSome_iff_exists.1 hf.1
    simp [hfn, hf.2, hc]
  · cases hf

theorem opW_val (R : Rel P N W0 base ρ h W) {t : List Value} {a : Act} (T : TR N ρ t a) {o : Oper} (hs : ∀ cs b, o.op ≠ .select cs b) {ph : Option Nat} (hp : PH N ρ h ph) {v : Value} {h' : AH} (e : opW P N o ph t h = some (.val v h')) :
    WSound P N W0 base ρ h W ph (execOp a.eval o) v h' := by
  unfold opW at e
  split at e
  · -- alloc
    rename_i el ho
    unfold execOp; simp only [ho]
    simp only [Option.bind_eq_some_iff] at e
    obtain ⟨z, h1, h2⟩ := e
    cases h2
    have hz2 := (zeroOf_spec h1).2
    obtain ⟨σ, k1, k2, k3, _, k5⟩ := aNew_sound R hp (t := el) (VR.rig (ρ := ρ) hz2).cells
    refine .of ⟨σ, _, _, k1, k2, k3, k5, ?_⟩
    unfold Instr.alloc
    simp only [Sem.run_bind, run_zero h1, Result.andThen_ok, newVar_run, Sem.run_pure]
  · -- box
    rename_i el x ho
    unfold execOp; simp only [ho]
    simp only [Option.bind_eq_some_iff] at e
    obtain ⟨u, h1, h2⟩ := e
    cases h2
    obtain ⟨σ, k1, k2, k3, _, k5⟩ := aNew_sound R hp (t := el) (aev_sound T h1).cells
    refine .of ⟨σ, _, _, k1, k2, k3, k5, ?_⟩
    unfold Instr.box
    simp only [Sem.run_bind, newVar_run, Result.andThen_ok, Sem.run_pure]
  · -- buildSlice
    rename_i ty len parts ho
    unfold execOp; simp only [ho]
    simp only [Option.bind_eq_some_iff] at e
    obtain ⟨ps, h1, h2⟩ := e
    split at h2
    · rename_i el ht
      split at h2
      · rename_i i z hi hz
        split at h2
        · rename_i hc
          split at h2
          · rename_i cs hf
            cases h2
            have hpe : (parts.map fun (i, x) => (i, a.eval x)) = ⟨parts.toList.map fun p => (p.1, a.eval p.2)⟩ := by
              apply Array.toList_inj.1; simp
            obtain ⟨σ, v', W', k1, k2, k3, k4, k5⟩ := aParts_build R hp (aParts_sound T h1) ht hi hz hc hf
            exact .of ⟨σ, v', W', k1, k2, k3, k4, by rw [hpe]; exact k5⟩
          · cases h2
        · cases h2
      · cases h2
    · cases h2
  · -- store
    rename_i ty x y ho
    unfold execOp; simp only [ho]
    split at e
    · rename_i p u hx hy
      simp only [Option.bind_eq_some_iff] at e
      obtain ⟨h2, h3, h4⟩ := e
      cases h4
      obtain ⟨W', k1, k2, k3⟩ := aStore_sound R h3 (aev_sound T hx) (aev_sound T hy)
      exact .ofU ⟨ρ, W', Ext.refl _ _ _, by omega, k2, k1⟩
    · cases e
  · -- makeMap
    rename_i ty ho
    unfold execOp; simp only [ho]
    cases e
    obtain ⟨σ, k1, k2, k3, k4⟩ := new_sound R hp (K := 0) (sz := 0) (o := .map [] 0) (o' := .map #[] 0) ⟨[], rfl, .nil⟩
    refine .of ⟨σ, _, _, k1, k2, .map k3, k4, ?_⟩
    unfold Instr.makeMap
    simp only [Option.map_none, Sem.run_bind, run_newObj, Result.andThen_ok, Sem.run_pure]
    rfl
  · -- makeSlice
    rename_i ty l c ho
    unfold execOp; simp only [ho]
    split at e
    · rename_i x y el hx hy ht
      split at e
      · rename_i i z hi hz
        split at e
        · rename_i hc
          cases e
          obtain ⟨c1, c2, c3, c4, c5⟩ := hc
          have hz2 := (zeroOf_spec hz).2
          have hzr := cells_rigid hz2
          have hinit : rigids N (initCells (y.toNat * i.size) z.cells).toList = true := initCells_rigid hzr fun h0 => by rw [← c5, h0]; exact Nat.mul_zero _
          obtain ⟨σ, k1, k2, k3, k4, k5⟩ := aNew_sound R hp (t := el) (VRL.rig (ρ := ρ) hinit)
          have hx' := (aev_sound T hx).int_inv
          have hy' := (aev_sound T hy).int_inv
          refine .of ⟨σ, .slice (some ⟨W.heap.size, 0, none⟩) x.toNat y.toNat, _, k1, k2, .slice k4 (by unfold capX; omega), k5, ?_⟩
          rw [hx', hy']
          have w1 : IntKind.i64.wrap x = x := by rw [IntKind.wrap_i64]; omega
          have w2 : IntKind.i64.wrap y = y := by rw [IntKind.wrap_i64]; omega
          have t1 : (decide (y < 0) || decide ((i.bytes : Int) * y > 2 ^ 48)) = false := by
            have : (i.bytes : Int) * y ≤ 17592186044416 := by
              have h1 : (i.bytes : Int) * y = ((y.toNat * i.bytes : Nat) : Int) := by
                rw [Int.natCast_mul, Int.toNat_of_nonneg (by omega), Int.mul_comm]
              rw [h1]
              generalize y.toNat * i.bytes = m at c3
              omega
            rw [Bool.or_eq_false_iff, decide_eq_false_iff_not, decide_eq_false_iff_not]; omega
          unfold Instr.makeSlice
          have hai : ∀ (k : IntKind) (n : Int) W, (asInt (.int k n)).run P W = .ok n W := fun _ _ _ => rfl
          simp only [Sem.run_bind, run_under ht, Result.andThen_ok, hai, run_info hi, w1, w2, t1, Bool.false_or]
          have t2 : (decide (x < 0) || decide (x > y)) = false := by rw [Bool.or_eq_false_iff, decide_eq_false_iff_not, decide_eq_false_iff_not]; omega
          rw [t2]
          simp only [Bool.false_eq_true, if_false, Sem.run_bind, run_askRoom, Result.andThen_ok, run_size hi]
          by_cases h0 : y.toNat * i.size = 0
          · simp only [h0, if_true, Sem.run_pure, Result.andThen_ok, newRow, Sem.run_bind, run_newObj]
            simp [initCells]
            rw [show Array.map (fun x => (default : Value)) (Array.range 0) = ⟨[]⟩ from by apply Array.toList_inj.1; simp]
          · simp only [h0, if_false, Sem.run_bind, run_zero hz, Result.andThen_ok, Sem.run_pure, newRow, run_newObj]
            rfl
        · cases e
      · cases e
    · cases e
  · -- a string to bytes
    rename_i src dst x ho
    unfold execOp; simp only [ho]
    split at e
    · rename_i el s hs hd hx
      split at e
      · rename_i hel
        split at e
        · rename_i hc
          cases e
          obtain ⟨σ, v', W', k1, k2, k3, k4⟩ := toBytes_sound R hs hd hel hc.2 (s := s)
          exact .of ⟨σ, v', W', k1.none_of, Nat.le_succ _, k2, k3, by rw [(aev_sound T hx).string_inv]; exact k4⟩
        · cases e
      · cases e
    · cases e
  · -- mapUpdate
    rename_i ty m k vo ho
    unfold execOp; simp only [ho]
    split at e
    · rename_i r kv vv kt et hm hk hv ht
      split at e
      · rename_i es ck kd hg hkd
        split at e
        · rename_i hc
          simp only [Bool.and_eq_true, decide_eq_true_eq] at hc
          have hkk := (aev_sound T hk).eq_of_rigid R.lowN hc.1.2
          obtain ⟨rfl, W', k1, k2, k3⟩ := mapUpdate_sound R ht hkd hg (aev_sound T hm) hc.1.1 hc.1.2 (aev_sound T hv) e
          exact .ofU ⟨ρ, W', Ext.refl _ _ _, by omega, k2, by rw [hkk]; exact k1⟩
        · cases e
      · cases e
    · cases e
  · -- range
    rename_i ty x ho
    unfold execOp; simp only [ho]
    split at e
    · rename_i s hx ht
      cases e
      obtain ⟨σ, k1, k2, k3, k4⟩ := new_sound R hp (K := 0) (sz := 0) (o := .strIter s 0) (o' := .stringIter s 0) rfl
      refine .of ⟨σ, _, _, k1, k2, .ptr k3, k4, ?_⟩
      unfold Instr.range
      simp only [Sem.run_bind, run_under ht, Result.andThen_ok, (aev_sound T hx).string_inv, Sem.run_pure, run_newObj]
      rfl
    · rename_i kt et hx ht
      cases e
      obtain ⟨σ, k1, k2, k3, k4⟩ := new_sound R hp (K := 0) (sz := 0) (o := .mapIter none 0 [] 0) (o' := .mapIter none 0 #[] 0) rfl
      refine .of ⟨σ, _, _, k1, k2, .ptr k3, k4, ?_⟩
      unfold Instr.range
      simp only [Sem.run_bind, run_under ht, Result.andThen_ok, (aev_sound T hx).mapNil_inv, Sem.run_pure, run_newObj]
      rfl
    · rename_i m kt et hx ht
      split at e
      · rename_i es ck hg
        cases e
        obtain ⟨q, es', h1, h2, h3⟩ := map_row R hg
        obtain ⟨q', h4, h5⟩ := (aev_sound T hx).map_inv
        rw [h1] at h4; cases h4
        have hob := getObj_run (P := P) h2 (by intro _ _ _ h; cases h)
        obtain ⟨σ, k1, k2, k3, k4⟩ := new_sound R hp (K := 0) (sz := 0) (o := .mapIter (some m) ck [] ck) (o' := .mapIter (some q.c) ck #[] ck) ⟨q, h1, rfl⟩
        refine .of ⟨σ, _, _, k1, k2, .ptr k3, k4, ?_⟩
        unfold Instr.range
        simp only [Sem.run_bind, run_under ht, Result.andThen_ok, h5, hob, Sem.run_pure, run_newObj]
        rfl
      · cases e
    · cases e
  · -- next
    rename_i x isStr ho
    unfold execOp; simp only [ho]
    split at e
    · rename_i p hx
      split at e
      · rename_i hc
        obtain ⟨hc1, hc2, hc3⟩ := hc
        obtain ⟨r, g1, g2, g3⟩ := (aev_sound T hx).ptr_inv hc3
        split at e
        · rename_i s pos hg
          have hal : (h.get p.block).alive = true := by rw [hg]; rfl
          obtain ⟨r', o, h1, h2, h3⟩ := R.row _ hal
          rw [g1] at h1; cases h1
          rw [hg] at h3
          cases h3
          have hob := getObj_run (P := P) h2 (by intro _ _ _ h; cases h)
          split at e
          · rename_i hlt
            cases e
            refine .of ⟨ρ, _, _, Ext.refl _ _ _, Nat.le_refl _, .rig rfl, R.set hal g1 (o := .strIter s (pos + (Utf8.decode s pos).2)) (o' := .stringIter s (pos + (Utf8.decode s pos).2)) rfl, ?_⟩
            have hst := setObj_run (P := P) (o' := .stringIter s (pos + (Utf8.decode s pos).2)) h2 (by intro _ _ _ h; cases h)
            unfold Instr.next
            simp only [g3, hc1, Sem.run_bind, hob, Result.andThen_ok, hlt, if_true, hst, Sem.run_pure]
          · rename_i hlt
            cases e
            refine .of ⟨ρ, _, _, Ext.refl _ _ _, Nat.le_refl _, .rig rfl, R, ?_⟩
            unfold Instr.next
            simp only [g3, hc1, Sem.run_bind, hob, Result.andThen_ok, hlt, if_false, Sem.run_pure]
        · rename_i since seen last hg
          have hal : (h.get p.block).alive = true := by rw [hg]; rfl
          obtain ⟨r', o, h1, h2, h3⟩ := R.row _ hal
          rw [g1] at h1; cases h1
          rw [hg] at h3
          cases h3
          have hob := getObj_run (P := P) h2 (by intro _ _ _ h; cases h)
          cases e
          refine .of ⟨ρ, _, _, Ext.refl _ _ _, Nat.le_refl _, .rig rfl, R, ?_⟩
          unfold Instr.next
          simp only [g3, hc1, Sem.run_bind, hob, Result.andThen_ok, Sem.run_pure]
        · rename_i m since seen last hg
          have hal : (h.get p.block).alive = true := by rw [hg]; rfl
          obtain ⟨r', o, h1, h2, h3⟩ := R.row _ hal
          rw [g1] at h1; cases h1
          rw [hg] at h3
          obtain ⟨q, h4, rfl⟩ := h3
          have hob := getObj_run (P := P) h2 (by intro _ _ _ h; cases h)
          split at e
          · rename_i ck hgm
            cases e
            obtain ⟨q', es', h5, h6, h7⟩ := map_row R hgm
            rw [h4] at h5; cases h5
            cases h7
            have hob2 : (getObj q.c).run P W = .ok (.map #[] ck) W := getObj_run (P := P) h6 (by intro _ _ _ h; cases h)
            refine .of ⟨ρ, _, _, Ext.refl _ _ _, Nat.le_refl _, .rig rfl, R, ?_⟩
            unfold Instr.next
            have hfil : ∀ p : MapEntry → Bool, Array.filter p (#[] : Array MapEntry) = #[] := fun p => by apply Array.toList_inj.1; simp
            simp only [g3, hc1, Sem.run_bind, hob, hob2, Result.andThen_ok, Sem.run_pure, hfil]
            simp [Question.forced]
          · cases e
        · cases e
      · cases e
    · cases e
  · -- calls
    rename_i c ho
    have hex : execOp a.eval o = (do let d ← resolve a.eval c o.type; invoke d.target d.args) := by
      unfold execOp; simp only [ho]
    rw [hex]
    split at e
    · -- append
      rename_i hcal
      split at e
      · rename_i x y hargs
        split at e
        · rename_i s u hx hy
          simp only [Option.bind_eq_some_iff] at e
          obtain ⟨r, h1, h2⟩ := e
          cases h2
          obtain ⟨σ, v', W', k1, k2, k3, k4, k5⟩ := aAppend_sound (ty := o.type) R (show _ = some (r.1, r.2) from h1) (aev_sound T hx) (aev_sound T hy)
          refine ⟨σ, v', W', k1.none_of, k2, k3, k4, .inl ?_⟩
          have e1 : c.args = #[x, y] := by apply Array.toList_inj.1; simpa using hargs
          simp only [resolve, hcal, e1, Sem.run_bind, Sem.run_pure, Result.andThen_ok, invoke, builtin]
          have : (#[x, y].map a.eval) = #[a.eval x, a.eval y] := by simp
          rw [this, k5]
          rfl
        · cases e
      · cases e
    · -- copy
      rename_i hcal
      split at e
      · rename_i x y ty tys hargs htys
        split at e
        · rename_i A dl dc src el hx hy hu
          split at e
          · rename_i i hi
            split at e
            · rename_i hdc
              split at e
              · rename_i n cs hsrc
                obtain ⟨cs', hcs, hlen, _, hfirst, hcl⟩ := srcCells_sound R hsrc (aev_sound T hy)
                have e1 : c.args = #[x, y] := by apply Array.toList_inj.1; simpa using hargs
                have e2 : c.argTypes[0]? = some ty := by rw [← Array.getElem?_toList, htys]; rfl
                have hmap : (#[x, y].map a.eval) = #[a.eval x, a.eval y] := by simp
                have hmin : Nat.min n dl = min n dl := rfl
                split at e
                · split at e
                  · rename_i hd0
                    cases e
                    subst hd0
                    have h3 := (aev_sound T hx).nilSlice_inv
                    refine ⟨ρ, .int .i64 0, W, Ext.refl _ _ _, Nat.le_refl _, .rig rfl, R, .inl ?_⟩
                    simp only [resolve, hcal, e1, hmap, h3, Sem.run_bind, Sem.run_pure, Result.andThen_ok, invoke, builtin]
                    unfold Builtin.copy_
                    have h0 := hfirst 0 (Nat.zero_le _) W rfl
                    simp only [e2, List.getElem?_toArray, List.getElem?_cons_zero, List.getElem?_cons_succ, Sem.run_bind, run_under hu, Result.andThen_ok, hlen, run_size hi, Sem.run_pure, show Nat.min n 0 = 0 from Nat.min_zero n, h0]
                    rfl
                  · cases e
                · rename_i b
                  simp only [Option.bind_eq_some_iff] at e
                  obtain ⟨h2, h3, h4⟩ := e
                  cases h4
                  obtain ⟨r, c', g1, g2, g3, g4, g5⟩ := slice_place R (aev_sound T hx) hdc
                  obtain ⟨q, W', h5, h6, h7, h8⟩ := putCells_sound R h3 g4 (hcs.take (min n dl * i.size))
                  cases h5
                  refine ⟨ρ, .int .i64 ((min n dl : Nat) : Int), W', Ext.refl _ _ _, by omega, .rig rfl, h7, .inl ?_⟩
                  simp only [resolve, hcal, e1, hmap, g3, Sem.run_bind, Sem.run_pure, Result.andThen_ok, invoke, builtin]
                  unfold Builtin.copy_
                  have h0 := hfirst (min n dl) (Nat.min_le_left _ _) W rfl
                  simp only [e2, List.getElem?_toArray, List.getElem?_cons_zero, List.getElem?_cons_succ, Sem.run_bind, run_under hu, Result.andThen_ok, hlen, run_size hi, Sem.run_pure, hmin, h0]
                  rw [h6]
                  rfl
              · cases e
            · cases e
          · cases e
        · cases e
      · cases e
    · -- delete
      rename_i hcal
      split at e
      · rename_i m k ty tys hargs htys
        split at e
        · rename_i r kv kt et hm hk hu
          split at e
          · rename_i es ck kd hg hkd
            split at e
            · rename_i hc
              simp only [Bool.and_eq_true, decide_eq_true_eq] at hc
              have hkk := (aev_sound T hk).eq_of_rigid R.lowN hc.1.2
              have e1 : c.args = #[m, k] := by apply Array.toList_inj.1; simpa using hargs
              have e2 : c.argTypes[0]? = some ty := by rw [← Array.getElem?_toList, htys]; rfl
              have hmap : (#[m, k].map a.eval) = #[a.eval m, a.eval k] := by simp
              obtain ⟨q, es', h1, h2, h3⟩ := map_row R hg
              obtain ⟨q', h4, h5⟩ := (aev_sound T hm).map_inv
              rw [h1] at h4; cases h4
              have hal : (h.get r).alive = true := by rw [hg]; rfl
              have hob := getObj_run (P := P) h2 (by intro _ _ _ h; cases h)
              have hf := MER.findNow (N := N) (ρ := ρ) kd kv 0 h3
              have hst : ∀ o', (setObj q.c o').run P W = .ok () (putO W q.c o') := fun o' => setObj_run h2 (by intro _ _ _ h; cases h)
              split at e
              · rename_i i u hfn
                cases e
                obtain ⟨u', _, h6⟩ := hf.1 i u hfn
                refine ⟨ρ, .tuple #[], putO W q.c (.map ⟨es'.eraseIdx i⟩ ck), Ext.refl _ _ _, Nat.le_refl _, .rig rfl, R.set hal h1 (o := .map _ _) (o' := .map ⟨es'.eraseIdx i⟩ ck) ⟨_, rfl, h3.erase i⟩, .inl ?_⟩
                have hee : (Array.mk es').eraseIdxIfInBounds i = ⟨es'.eraseIdx i⟩ := by
                  apply Array.toList_inj.1
                  by_cases hi : i < es'.length
                  · simp [Array.eraseIdxIfInBounds, hi]
                  · simp [Array.eraseIdxIfInBounds, hi, List.eraseIdx_of_length_le (Nat.le_of_not_lt hi)]
                simp only [resolve, hcal, e1, hmap, h5, hkk, Sem.run_bind, Sem.run_pure, Result.andThen_ok, invoke, builtin]
                unfold Builtin.delete_
                simp only [e2, List.getElem?_toArray, List.getElem?_cons_zero, List.getElem?_cons_succ, Sem.run_bind, run_under hu, Result.andThen_ok, hob, checkKey_plain hkd hc.1.1, findKey_sound hkd h6, hst, hee, Sem.run_pure]
              · rename_i hfn
                cases e
                have h6 := hf.2 hfn
                refine ⟨ρ, .tuple #[], W, Ext.refl _ _ _, Nat.le_refl _, .rig rfl, R, .inl ?_⟩
                have hself : putO W q.c (.map ⟨es'⟩ ck) = W := putO_self h2
                simp only [resolve, hcal, e1, hmap, h5, hkk, Sem.run_bind, Sem.run_pure, Result.andThen_ok, invoke, builtin]
                unfold Builtin.delete_
                simp only [e2, List.getElem?_toArray, List.getElem?_cons_zero, List.getElem?_cons_succ, Sem.run_bind, run_under hu, Result.andThen_ok, hob, checkKey_plain hkd hc.1.1, findKey_sound hkd h6, hst, hself, Sem.run_pure]
              · cases e
            · cases e
          · cases e
        · cases e
      · cases e
    · cases e
    · -- a function value
      rename_i f hcal
      split at e
      · rename_i g first cap hf
        split at e
        · simp only [Option.bind_eq_some_iff] at e
          obtain ⟨as, h1, h2⟩ := e
          cases h2
        · simp only [Option.bind_eq_some_iff] at e
          obtain ⟨u, h1, h2⟩ := e
          cases h2
          obtain ⟨k1, k2⟩ := generic_sound T R.lowN hs h1
          refine ⟨ρ, _, W, Ext.refl _ _ _, Nat.le_refl _, k1, R, .inl ?_⟩
          rw [← hex]; exact k2 W
      · cases e
    · cases e
  · cases e

theorem opW_call (R : Rel P N W0 base ρ h W) {t : List Value} {a : Act} (T : TR N ρ t a) {o : Oper} {ph : Option Nat} {f : FuncId} {args : List Value} (e : opW P N o ph t h = some (.call f args)) :
    ∃ args', VRL N ρ args args' ∧ (execOp a.eval o).run P W = .ok (.enter f ⟨args'⟩) W := by
  have hcall : ∃ c fo first cap as, o.op = .call c ∧ c.callee = .value fo ∧ aev N t fo = some (.func (.func f) first cap) ∧ fnOf P f = true ∧ aevs N t c.args.toList = some as ∧ args = first.toList ++ as ++ cap.toList := by
    unfold opW at e
    split at e
    iterate 10
      · (repeat' split at e) <;> first | (cases e; done) | (simp only [Option.bind_eq_some_iff] at e; obtain ⟨_, _, e⟩ := e; first | (cases e; done) | ((repeat' split at e) <;> cases e))
    · rename_i c ho
      split at e
      · (repeat' split at e) <;> first | (cases e; done) | (simp only [Option.bind_eq_some_iff] at e; obtain ⟨_, _, e⟩ := e; first | (cases e; done) | ((repeat' split at e) <;> cases e))
      · (repeat' split at e) <;> first | (cases e; done) | (simp only [Option.bind_eq_some_iff] at e; obtain ⟨_, _, e⟩ := e; first | (cases e; done) | ((repeat' split at e) <;> cases e))
      · (repeat' split at e) <;> first | (cases e; done) | (simp only [Option.bind_eq_some_iff] at e; obtain ⟨_, _, e⟩ := e; first | (cases e; done) | ((repeat' split at e) <;> cases e))
      · cases e
      · rename_i fo hcal
        split at e
        · rename_i g first cap hf
          split at e
          · rename_i hg
            simp only [Option.bind_eq_some_iff] at e
            obtain ⟨as, h1, h2⟩ := e
            cases h2
            exact ⟨c, fo, first, cap, as, ho, hcal, hf, hg, h1, rfl⟩
          · simp only [Option.bind_eq_some_iff] at e
            obtain ⟨as, h1, h2⟩ := e
            cases h2
        · cases e
      · cases e
    · cases e
  obtain ⟨c, fo, first, cap, as, h1, h2, h3, h4, h5, rfl⟩ := hcall
  obtain ⟨first⟩ := first
  obtain ⟨cap⟩ := cap
  obtain ⟨f', c', h6, h7, h8⟩ := (aev_sound T h3).func_inv
  have h9 := aevs_sound T h5
  refine ⟨f' ++ c.args.toList.map a.eval ++ c', (h7.append h9).append h8, ?_⟩
  unfold execOp
  simp only [h1, resolve, h2, h6, Deferred.ofValue, Sem.run_bind, Sem.run_pure, Result.andThen_ok, invoke]
  rw [fnOf_enter h4]
  congr 2
  apply Array.toList_inj.1
  simp
end
end Go.Proofs.YtgjddachhhmimaaGreatDoor.Ax
