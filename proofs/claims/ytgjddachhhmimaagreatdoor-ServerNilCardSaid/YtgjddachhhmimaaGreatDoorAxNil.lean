import Derived.Test.YtgjddachhhmimaaGreatDoorAxAw
import Derived.Test.YtgjddachhhmimaaGreatDoorShort
set_option linter.unusedVariables false
set_option linter.unusedSimpArgs false
set_option linter.unnecessarySimpa false
set_option linter.all false
namespace Go.Proofs.YtgjddachhhmimaaGreatDoor.Pre
open Go.RowKit Go.Proofs.YtgjddachhhmimaaGreatDoor.Ax

/-- larumlaw10.Short -/
noncomputable def primShort (args : List Value) (h : AH) : Option (Value × AH) :=
  match args with
  | [.string s] => some (.string (shortOf s), h)
  | _ => none
/-- larumlaw32.awake -/
noncomputable def primAwake (args : List Value) (h : AH) : Option (Value × AH) :=
  match args with
  | [] => some (.bool true, h)
  | _ => none
noncomputable def primsN (f : FuncId) : Option (List Value → AH → Option (Value × AH)) :=
  if f = 12 then some primShort else if f = 11 then some primAwake else prims f

theorem Rel.kept {P : Program} {N : Nat} {W0 : World} {base : Nat} {ρ : Rho} {h : AH} {W W' : World} (R : Rel P N W0 base ρ h W) (hb : Below W.heap.size W W') : Rel P N W0 base ρ h W' := by
  have hbase : base ≤ W.heap.size := Nat.le_trans R.bs R.below.size
  refine ⟨R.len, fun b r e => ?_, fun b a => ?_, R.inj, R.below.trans (hb.mono hbase), R.hN, R.bs⟩
  · obtain ⟨h1, h2, h3, h4⟩ := R.low b r e
    exact ⟨h1, h2, Nat.lt_of_lt_of_le h3 hb.size, h4⟩
  · obtain ⟨r, u, h1, h2, h3⟩ := R.row b a
    exact ⟨r, u, h1, by rw [hb.block _ (R.low b r h1).2.2.1]; exact h2, h3⟩

theorem short_sound {W0 : World} {args : List Value} {h : AH} {r : Value} {h' : AH} (e : primShort args h = some (r, h')) : CallSound Tryz.prog 4 W0 W0.heap.size 12 args h r h' := by
  intro ρ W args' R V
  unfold primShort at e
  split at e
  · rename_i t
    cases e
    obtain ⟨x, rfl, hx⟩ := V.one
    rw [hx.string_inv]
    refine (short_calls t W).mono fun en W' hh => ?_
    obtain ⟨rfl, hb⟩ := hh
    exact ⟨ρ, _, Ext.refl _ _ _, Nat.le_refl _, rfl, .rig rfl, Rel.kept R hb⟩
  · cases e

theorem awake_sound {W0 : World} (hG : GOK W0) {args : List Value} {h : AH} {r : Value} {h' : AH} (e : primAwake args h = some (r, h')) : CallSound Tryz.prog 4 W0 W0.heap.size 11 args h r h' := by
  intro ρ W args' R V
  unfold primAwake at e
  split at e
  · cases e
    cases V
    refine (awake_true W (hG.below R.below)).mono fun en W' hh => ?_
    obtain ⟨rfl, hb⟩ := hh
    exact ⟨ρ, _, Ext.refl _ _ _, Nat.le_refl _, rfl, .rig rfl, Rel.kept R hb⟩
  · cases e

theorem primsN_sound {W0 : World} (hG : GOK W0) (f : FuncId) (g : List Value → AH → Option (Value × AH)) (hf : primsN f = some g) (args : List Value) (h : AH) (r : Value) (h' : AH) (e : g args h = some (r, h')) :
    CallSound Tryz.prog 4 W0 W0.heap.size f args h r h' := by
  unfold primsN at hf
  split at hf
  · rename_i h0; subst h0; cases hf
    exact short_sound e
  · split at hf
    · rename_i h0; subst h0; cases hf
      exact awake_sound hG e
    · exact prims_sound hG f g hf args h r h' e

theorem callN_ok {W0 : World} (hG : GOK W0) (m d : Nat) : CallOK Tryz.prog 4 W0 W0.heap.size (callA Tryz.prog 4 primsN m d) :=
  callA_sound (primsN_sound hG) (anyOK (by kernel_rfl)) m d

theorem nil_runs (k c n : Int) (t : ByteArray) : Go.Proofs.YtgjddachhhmimaaGreatDoor.Ax.isTrue (callA Tryz.prog 4 primsN 100000 300 3 [.agg ⟨[.int .i64 k, .int .i64 c, .string t, .int .i64 n]⟩] (Go.Proofs.YtgjddachhhmimaaGreatDoor.Ax.start 4)) = true := by kernel_rfl

/-- larumlaw32.ServerNil, whatever the event. -/
theorem nil_true (k c n : Int) (t : ByteArray) (W : World) (hG : GOK W) : Calls Tryz.prog 3 #[.agg #[.int .i64 k, .int .i64 c, .string t, .int .i64 n]] W fun e W' => e = .returned (.bool true) ∧ Below W.heap.size W W' := by
  have e := nil_runs k c n t
  unfold Go.Proofs.YtgjddachhhmimaaGreatDoor.Ax.isTrue at e
  split at e
  · rename_i h1 hcall
    refine (callN_ok hG 100000 300 3 _ (Go.Proofs.YtgjddachhhmimaaGreatDoor.Ax.start 4) _ h1 hcall _ W [.agg ⟨[.int .i64 k, .int .i64 c, .string t, .int .i64 n]⟩] (Rel.start Tryz.prog 4 W) (VRL.rig rfl)).mono fun en W' hh => ?_
    obtain ⟨σ, v, k1, k2, rfl, k3, k4⟩ := hh
    rw [k3.bool_inv]
    exact ⟨rfl, k4.below⟩
  · cases e
end Go.Proofs.YtgjddachhhmimaaGreatDoor.Pre
