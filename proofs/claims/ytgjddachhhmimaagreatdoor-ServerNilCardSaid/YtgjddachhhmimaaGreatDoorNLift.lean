/- Whatever the event, larumlaw32.ServerNil answers true: a server that is not there does nothing, and the chapter's own example runs as it says. -/
import Derived.Test.YtgjddachhhmimaaGreatDoorCards
import Derived.Test.YtgjddachhhmimaaGreatDoorGok
import Derived.Test.YtgjddachhhmimaaGreatDoorAxNil
import Derived.WalkKit
import Derived.ProofKit
import Derived.OpenShut
import Derived.Below
import Derived.Lib.SmallJoins
import Derived.Deep.DeepHandedRow
import Derived.Deep.DeepWitnessRowRef
set_option linter.unusedVariables false
set_option linter.unusedSimpArgs false
set_option linter.unnecessarySimpa false
set_option linter.all false
namespace Go.Proofs.YtgjddachhhmimaaGreatDoor.serverNil
open Go.ChangeShapes Go.WideShapes Go.ChangeAt Go.RowKit Go.Joins
open Go.Proofs.YtgjddachhhmimaaGreatDoor.Pre
theorem own : ownKnob Tryz.prog.godebug = none := by kernel_rfl
theorem cells23 : Tryz.prog.cellsOf 23 = 4 := by kernel_rfl
theorem reads (os : Os) {H : Type} (enc : TypeId × Value → H) : ∃ places, DataW.whole enc Tryz.prog ((laidW os).forCall (fun _ _ => 0) ⟨#[], #[.agg #[.int .i64 0, .int .i64 0, .string ⟨#[]⟩, .int .i64 0]], []⟩).memory Tryz.f3.params.toList Rows.serverNilSpec.vars false #[Value.agg #[.int .i64 0, .int .i64 0, .string ⟨#[]⟩, .int .i64 0]].toList 8 = some ([.agg [.lit (.int .i64 0), .lit (.int .i64 0), .lit (.string []), .lit (.int .i64 0)]], [], places) :=
  ⟨[], by kernel_rfl⟩
set_option maxRecDepth 100000 in
theorem lifted (os : Os) (started : os.Started) (H : Type) (enc : TypeId × Value → H) (F : Stop.Interp) :
    ReturnsInHanded {} Tryz.checked os 3 .any ((OpenSpec.ofChange Rows.serverNilSpec).preRow enc Tryz.prog Tryz.f3 Rows.serverNilRow.domain false Rows.serverNilRow.laid) (((OpenSpec.ofChange Rows.serverNilSpec).at F).post enc Tryz.prog Tryz.f3 false true false false) := by
  obtain ⟨places, hx⟩ := reads os enc
  refine returnsInHanded_of_row (C := Tryz.checked) (s := OpenSpec.ofChange Rows.serverNilSpec) own started (by kernel_rfl) Tryz.func3
    (witness_row_atRef (enc := enc) (C := Tryz.checked) false (laidW os) #[.agg #[.int .i64 0, .int .i64 0, .string ⟨#[]⟩, .int .i64 0]] (laidW_os os) (by kernel_rfl) (by kernel_rfl) (by kernel_rfl)
      (OpenSpec.preRow_of_cond 8 hx (by kernel_rfl) (fun k hk => by cases hk) (by kernel_rfl) (laidW_met os _))) ?_
  intro W base args ds gs before hval hW _ _ _ hL hsh _
  have hG : GOK W := gok_of hL hsh
  have hW' := hW
  obtain ⟨p, q, hA0, hV, rfl, hfz, hnd⟩ := hW
  have hA : DataW.TrodAll enc Tryz.prog W 0 (fun _ => true) true Tryz.f3.params.toList args.toList ds p := hA0
  have hval1 : ∀ (j : Nat) t v, Tryz.f3.params[j]? = some t → args[j]? = some v → Value.okWide Tryz.prog W .any base t v := hval
  rw [Tryz.params3] at hA hval1
  obtain ⟨v0, d0, rfl, rfl, h0⟩ := trodAll_one hA
  obtain ⟨rfl, rfl⟩ := trodVars_none hV
  obtain ⟨c0, c1, c2, c3, y0, y1, y2, y3, m, rfl, rfl, rfl, hy0, hy1, hy2, hy3⟩ := open_agg4 Tryz.underlying23 (by kernel_rfl) cells23 (hval1 0 23 v0 rfl rfl) h0
  obtain ⟨k, e0, rfl, wk⟩ := DataW.trod_int Tryz.underlying3 hy0
  obtain ⟨c, e1, rfl, wc⟩ := DataW.trod_int Tryz.underlying3 hy1
  obtain ⟨t, e2, rfl, wt⟩ := DataW.trod_string Tryz.underlying9 hy2
  obtain ⟨n, e3, rfl, wn⟩ := DataW.trod_int Tryz.underlying2 hy3
  simp at e0 e1 e2 e3
  subst e0 e1 e2 e3
  clear hA0 hval
  simp only [List.append_nil] at hW'
  have structReads : ∀ (W' : World) (sp : Nat → Bool), DataW.Trod enc Tryz.prog W' 0 sp true 23 (.agg #[.int .i64 k, .int .i64 c, .string t, .int .i64 n]) (.agg [.lit (.int .i64 k), .lit (.int .i64 c), .lit (.string t.data.toList), .lit (.int .i64 n)]) [] := fun W' sp =>
    shut_agg4 (y0 := (.lit (.int .i64 k), [])) (y1 := (.lit (.int .i64 c), [])) (y2 := (.lit (.string t.data.toList), [])) (y3 := (.lit (.int .i64 n), [])) Tryz.underlying23 (by kernel_rfl) cells23
      ⟨1, by simp [DataW.trod, Tryz.underlying3, wk]⟩ ⟨1, by simp [DataW.trod, Tryz.underlying3, wc]⟩ ⟨1, by simp [DataW.trod, Tryz.underlying9, wt]⟩ ⟨1, by simp [DataW.trod, Tryz.underlying2, wn]⟩
  refine (nil_true k c n t W hG).mono fun e W' ⟨he, bel⟩ => ?_
  subst he
  exact ⟨_, rfl, _, _, _, [], _, [], hW', trodAll_mk1 (shut_bool Tryz.underlying4 _), trodAll_mk1 (structReads _ _), rfl, bel.frame _, fun h => by cases h⟩

end Go.Proofs.YtgjddachhhmimaaGreatDoor.serverNil
