/- errors.As by its contracts: a nil error; an error that wraps a number of the target's type (two rounds); an error that is such a number itself. -/
import Derived.Test.YtgjddachhhmimaaGreatDoorPre
import Derived.LaidEql
import Derived.Stop.Asserts
import Derived.RowKitTokens
set_option linter.unusedVariables false
set_option linter.unusedSimpArgs false

namespace Go.Proofs.YtgjddachhhmimaaGreatDoor.Pre
open Go.RowKit Go.Extern.Stop Go.Stop Go.Extern Go.Lib

/-- What is known of the package-level variables. -/
structure GOK (w : World) : Prop where
  et : w.cell? ⟨0, 0, none⟩ = some (.iface 411 (.agg #[.pointer (some ⟨4, 184, none⟩)]))
  ml : ∃ m : Int, w.cell? ⟨1, 0, none⟩ = some (.int .i64 m)
theorem GOK.below {w W : World} (h : GOK w) (hb : Below w.heap.size w W) : GOK W :=
  ⟨(hb.cell (World.block_lt_of_cell? w _ h.et)).trans h.et, by obtain ⟨m, hm⟩ := h.ml; exact ⟨m, (hb.cell (World.block_lt_of_cell? w _ hm)).trans hm⟩⟩
theorem GOK.drewN {w : World} (h : GOK w) (n : Nat) : GOK (w.drewN n) := ⟨by simpa using h.et, by obtain ⟨m, hm⟩ := h.ml; exact ⟨m, by simpa using hm⟩⟩
theorem GOK.alloc {w : World} (h : GOK w) (o : Obj) : GOK (w.alloc o) := h.below ((Below.refl _ _).alloc (Nat.le_refl _) o)

/-- errors.As(nil, target). -/
theorem as_nil (t : Value) (w : World) :
    Calls Tryz.prog 103 #[.nilIface, t] w fun e w' => e = .returned (.bool false) ∧ w' = w := by
  go_enter Tryz.func103, Tryz.ntmps103
  go_wp2
  go_ret
  exact ⟨rfl, rfl⟩

theorem rlm (z : Sem Value) (f : TypeId → Addr → Nat → Nat → Sem Value) (v : Value) :
    ReflectliteValue.method z f #[v] = (do match ← ReflectliteValue.parts v with | none => z | some (t, a, fl) => f t a fl (fl % 32)) := rfl
theorem rls (v x : Value) : ReflectliteValue.set #[v, x] = (do
    let (some (dst, a, fl), some (src, b, _)) := (← ReflectliteValue.parts v, ← ReflectliteValue.parts x)
      | unsupported (.noEntry "extern/(internal/reflectlite.Value).Set.zeroValue")
    if fl / ReflectliteValue.flagAddr % 2 == 0 then unsupported (.noEntry "extern/(internal/reflectlite.Value).Set.unaddressable")
    let val ← loadVar src b
    if ← Rtype.directlyAssignable dst src then storeVar dst a val
    else if ← Rtype.implements dst src then
      if (← Rtype.kind src) == 20 then
        match val with
        | .nilIface => unsupported (.noEntry "extern/reflectlite: a nil value of one interface type handed on as a value of another")
        | _ => storeVar dst a val
      else storeVar dst a (.iface src val)
    else panicString ("reflectlite.Set: value of type " ++ (← Rtype.spelt src) ++ " is not assignable to type " ++ (← Rtype.spelt dst))
    pure (.tuple #[])) := rfl
theorem methodKind (h : Value) (w : World) : (Go.method 886 411 (.agg #[h]) "Kind").run Tryz.prog w = .ok (598, h) w := by kernel_rfl
theorem methodElem (h : Value) (w : World) : (Go.method 886 411 (.agg #[h]) "Elem").run Tryz.prog w = .ok (616, .agg #[h]) w := by kernel_rfl
theorem methodImplements (h : Value) (w : World) : (Go.method 886 411 (.agg #[h]) "Implements").run Tryz.prog w = .ok (617, .agg #[h]) w := by kernel_rfl
theorem methodAssignableTo (h : Value) (w : World) : (Go.method 886 411 (.agg #[h]) "AssignableTo").run Tryz.prog w = .ok (614, .agg #[h]) w := by kernel_rfl


/-! ### the target type status -/
theorem valueOfP_status (t : Addr) (w : World) : (ReflectliteValue.unpack (.iface 189 (.pointer (some t)))).run Tryz.prog w
    = .ok (.agg #[.pointer (some ⟨4, 189, none⟩), .pointer (some ⟨w.heap.size, 0, none⟩), .int .u64 150]) (w.alloc (.cells #[.pointer (some t)] 189)) := by kernel_rfl
theorem typeP_status (a : Addr) (w : World) : (ReflectliteValue.methodAny (ReflectliteValue.valueError "reflectlite.Value.Type" 0) (fun t _ _ _ => ReflectliteType.toType t) #[.agg #[.pointer (some ⟨4, 189, none⟩), .pointer (some a), .int .u64 150]]).run Tryz.prog w
    = .ok (.iface 411 (.agg #[.pointer (some ⟨4, 189, none⟩)])) w := by kernel_rfl
theorem kindP_status (w : World) : ((ReflectliteType.abiMethod fun t => (fun a : Nat => Value.int IntKind.u8 (a : Int)) <$> Rtype.kind t) #[.pointer (some ⟨4, 189, none⟩)]).run Tryz.prog w = .ok (.int .u8 22) w := by kernel_rfl
theorem kind_status (w : World) : ((ReflectliteType.abiMethod fun t => (fun a : Nat => Value.int IntKind.u8 (a : Int)) <$> Rtype.kind t) #[.pointer (some ⟨4, 187, none⟩)]).run Tryz.prog w = .ok (.int .u8 2) w := by kernel_rfl
theorem partsP_status (a : Addr) (w : World) : (ReflectliteValue.parts (.agg #[.pointer (some ⟨4, 189, none⟩), .pointer (some a), .int .u64 150])).run Tryz.prog w = .ok (some (189, a, 150)) w := by kernel_rfl
theorem isNilP_status (a p : Addr) (W : World) (ha : W.cell? a = some (.pointer (some p))) :
    (ReflectliteValue.method (ReflectliteValue.valueError "reflectlite.Value.IsNil" 0) ReflectliteValue.isNil #[.agg #[.pointer (some ⟨4, 189, none⟩), .pointer (some a), .int .u64 150]]).run Tryz.prog W = .ok (.bool false) W := by
  rw [rlm]
  simp only [Sem.run_bind, partsP_status, Result.andThen]
  simp [ReflectliteValue.isNil, loadVar, isAgg, underlying, Tryz.underlying189, ha, Result.andThen]
theorem elemP_status (w : World) : (ReflectliteType.method ReflectliteType.elem #[.agg #[.pointer (some ⟨4, 189, none⟩)]]).run Tryz.prog w = .ok (.iface 411 (.agg #[.pointer (some ⟨4, 187, none⟩)])) w := by kernel_rfl
theorem impl_status (w : World) : (ReflectliteType.relation "Implements" ReflectliteType.implements_ #[.agg #[.pointer (some ⟨4, 187, none⟩)], .iface 411 (.agg #[.pointer (some ⟨4, 184, none⟩)])]).run Tryz.prog w = .ok (.bool true) w := by kernel_rfl
theorem typeOf_status (v : Value) (w : World) : (ReflectliteType.typeOf #[.iface 187 v]).run Tryz.prog w = .ok (.iface 411 (.agg #[.pointer (some ⟨4, 187, none⟩)])) w := by kernel_rfl
theorem assignable_status (w : World) : (ReflectliteType.relation "AssignableTo" ReflectliteType.assignableTo #[.agg #[.pointer (some ⟨4, 187, none⟩)], .iface 411 (.agg #[.pointer (some ⟨4, 187, none⟩)])]).run Tryz.prog w = .ok (.bool true) w := by kernel_rfl
theorem valueOf_status (c : Int) (w : World) : (ReflectliteValue.unpack (.iface 187 (.int .i64 c))).run Tryz.prog w
    = .ok (.agg #[.pointer (some ⟨4, 187, none⟩), .pointer (some ⟨w.heap.size, 0, none⟩), .int .u64 130]) (w.alloc (.cells #[.int .i64 c] 187)) := by kernel_rfl
theorem elemOfP_status (w : World) : (Rtype.elem? 189).run Tryz.prog w = .ok (some 187) w := by kernel_rfl
theorem mk_status (p : Addr) (w : World) : (ReflectliteValue.mk 187 p ReflectliteValue.flagAddr).run Tryz.prog w = .ok (.agg #[.pointer (some ⟨4, 187, none⟩), .pointer (some p), .int .u64 386]) w := by kernel_rfl
theorem elemV_status (a p : Addr) (W : World) (ha : W.cell? a = some (.pointer (some p))) :
    (ReflectliteValue.method (ReflectliteValue.valueError "reflectlite.Value.Elem" 0) ReflectliteValue.elem #[.agg #[.pointer (some ⟨4, 189, none⟩), .pointer (some a), .int .u64 150]]).run Tryz.prog W
      = .ok (.agg #[.pointer (some ⟨4, 187, none⟩), .pointer (some p), .int .u64 386]) W := by
  rw [rlm]
  simp only [Sem.run_bind, partsP_status, Result.andThen]
  simp [ReflectliteValue.elem, loadVar, isAgg, underlying, Tryz.underlying189, ha, Result.andThen, elemOfP_status, mk_status]
theorem partsA_status (a : Addr) (w : World) : (ReflectliteValue.parts (.agg #[.pointer (some ⟨4, 187, none⟩), .pointer (some a), .int .u64 386])).run Tryz.prog w = .ok (some (187, a, 386)) w := by kernel_rfl
theorem parts_status (a : Addr) (w : World) : (ReflectliteValue.parts (.agg #[.pointer (some ⟨4, 187, none⟩), .pointer (some a), .int .u64 130])).run Tryz.prog w = .ok (some (187, a, 130)) w := by kernel_rfl
theorem direct_status (w : World) : (Rtype.directlyAssignable 187 187).run Tryz.prog w = .ok true w := by kernel_rfl
theorem set_status (ta b : Addr) (c : Int) (old : Value) (W : World) (hb : W.cell? b = some (.int .i64 c)) (ht : W.cell? ta = some old) (hf : W.frozen? ta = false) :
    (ReflectliteValue.set #[.agg #[.pointer (some ⟨4, 187, none⟩), .pointer (some ta), .int .u64 386], .agg #[.pointer (some ⟨4, 187, none⟩), .pointer (some b), .int .u64 130]]).run Tryz.prog W
      = .ok (.tuple #[]) (W.setCell ta (.int .i64 c)) := by
  rw [rls]
  simp only [Sem.run_bind, partsA_status, parts_status, Result.andThen]
  simp [ReflectliteValue.flagAddr, loadVar, isAgg, underlying, Tryz.underlying187, hb, Result.andThen, direct_status, storeVar, Value.cells, storeCells, Addr.add]
  rw [run_store Tryz.prog W ta _ _ (by rfl)]
  simp [ht, hf]
theorem noAs_status (v : Value) (w : World) : (Instr.typeAssert (.iface 187 v) 184 415 true).run Tryz.prog w = .ok (.tuple #[.nilIface, .bool false]) w := run_typeAssert_lacksB Tryz.underlying415 (by kernel_rfl) (by kernel_rfl) v 184 w


/-! ### the target type errno -/
theorem valueOfP_errno (t : Addr) (w : World) : (ReflectliteValue.unpack (.iface 488 (.pointer (some t)))).run Tryz.prog w
    = .ok (.agg #[.pointer (some ⟨4, 488, none⟩), .pointer (some ⟨w.heap.size, 0, none⟩), .int .u64 150]) (w.alloc (.cells #[.pointer (some t)] 488)) := by kernel_rfl
theorem typeP_errno (a : Addr) (w : World) : (ReflectliteValue.methodAny (ReflectliteValue.valueError "reflectlite.Value.Type" 0) (fun t _ _ _ => ReflectliteType.toType t) #[.agg #[.pointer (some ⟨4, 488, none⟩), .pointer (some a), .int .u64 150]]).run Tryz.prog w
    = .ok (.iface 411 (.agg #[.pointer (some ⟨4, 488, none⟩)])) w := by kernel_rfl
theorem kindP_errno (w : World) : ((ReflectliteType.abiMethod fun t => (fun a : Nat => Value.int IntKind.u8 (a : Int)) <$> Rtype.kind t) #[.pointer (some ⟨4, 488, none⟩)]).run Tryz.prog w = .ok (.int .u8 22) w := by kernel_rfl
theorem kind_errno (w : World) : ((ReflectliteType.abiMethod fun t => (fun a : Nat => Value.int IntKind.u8 (a : Int)) <$> Rtype.kind t) #[.pointer (some ⟨4, 75, none⟩)]).run Tryz.prog w = .ok (.int .u8 2) w := by kernel_rfl
theorem partsP_errno (a : Addr) (w : World) : (ReflectliteValue.parts (.agg #[.pointer (some ⟨4, 488, none⟩), .pointer (some a), .int .u64 150])).run Tryz.prog w = .ok (some (488, a, 150)) w := by kernel_rfl
theorem isNilP_errno (a p : Addr) (W : World) (ha : W.cell? a = some (.pointer (some p))) :
    (ReflectliteValue.method (ReflectliteValue.valueError "reflectlite.Value.IsNil" 0) ReflectliteValue.isNil #[.agg #[.pointer (some ⟨4, 488, none⟩), .pointer (some a), .int .u64 150]]).run Tryz.prog W = .ok (.bool false) W := by
  rw [rlm]
  simp only [Sem.run_bind, partsP_errno, Result.andThen]
  simp [ReflectliteValue.isNil, loadVar, isAgg, underlying, Tryz.underlying488, ha, Result.andThen]
theorem elemP_errno (w : World) : (ReflectliteType.method ReflectliteType.elem #[.agg #[.pointer (some ⟨4, 488, none⟩)]]).run Tryz.prog w = .ok (.iface 411 (.agg #[.pointer (some ⟨4, 75, none⟩)])) w := by kernel_rfl
theorem impl_errno (w : World) : (ReflectliteType.relation "Implements" ReflectliteType.implements_ #[.agg #[.pointer (some ⟨4, 75, none⟩)], .iface 411 (.agg #[.pointer (some ⟨4, 184, none⟩)])]).run Tryz.prog w = .ok (.bool true) w := by kernel_rfl
theorem typeOf_errno (v : Value) (w : World) : (ReflectliteType.typeOf #[.iface 75 v]).run Tryz.prog w = .ok (.iface 411 (.agg #[.pointer (some ⟨4, 75, none⟩)])) w := by kernel_rfl
theorem assignable_errno (w : World) : (ReflectliteType.relation "AssignableTo" ReflectliteType.assignableTo #[.agg #[.pointer (some ⟨4, 75, none⟩)], .iface 411 (.agg #[.pointer (some ⟨4, 75, none⟩)])]).run Tryz.prog w = .ok (.bool true) w := by kernel_rfl
theorem valueOf_errno (c : Int) (w : World) : (ReflectliteValue.unpack (.iface 75 (.int .i64 c))).run Tryz.prog w
    = .ok (.agg #[.pointer (some ⟨4, 75, none⟩), .pointer (some ⟨w.heap.size, 0, none⟩), .int .u64 130]) (w.alloc (.cells #[.int .i64 c] 75)) := by kernel_rfl
theorem elemOfP_errno (w : World) : (Rtype.elem? 488).run Tryz.prog w = .ok (some 75) w := by kernel_rfl
theorem mk_errno (p : Addr) (w : World) : (ReflectliteValue.mk 75 p ReflectliteValue.flagAddr).run Tryz.prog w = .ok (.agg #[.pointer (some ⟨4, 75, none⟩), .pointer (some p), .int .u64 386]) w := by kernel_rfl
theorem elemV_errno (a p : Addr) (W : World) (ha : W.cell? a = some (.pointer (some p))) :
    (ReflectliteValue.method (ReflectliteValue.valueError "reflectlite.Value.Elem" 0) ReflectliteValue.elem #[.agg #[.pointer (some ⟨4, 488, none⟩), .pointer (some a), .int .u64 150]]).run Tryz.prog W
      = .ok (.agg #[.pointer (some ⟨4, 75, none⟩), .pointer (some p), .int .u64 386]) W := by
  rw [rlm]
  simp only [Sem.run_bind, partsP_errno, Result.andThen]
  simp [ReflectliteValue.elem, loadVar, isAgg, underlying, Tryz.underlying488, ha, Result.andThen, elemOfP_errno, mk_errno]
theorem partsA_errno (a : Addr) (w : World) : (ReflectliteValue.parts (.agg #[.pointer (some ⟨4, 75, none⟩), .pointer (some a), .int .u64 386])).run Tryz.prog w = .ok (some (75, a, 386)) w := by kernel_rfl
theorem parts_errno (a : Addr) (w : World) : (ReflectliteValue.parts (.agg #[.pointer (some ⟨4, 75, none⟩), .pointer (some a), .int .u64 130])).run Tryz.prog w = .ok (some (75, a, 130)) w := by kernel_rfl
theorem direct_errno (w : World) : (Rtype.directlyAssignable 75 75).run Tryz.prog w = .ok true w := by kernel_rfl
theorem set_errno (ta b : Addr) (c : Int) (old : Value) (W : World) (hb : W.cell? b = some (.int .i64 c)) (ht : W.cell? ta = some old) (hf : W.frozen? ta = false) :
    (ReflectliteValue.set #[.agg #[.pointer (some ⟨4, 75, none⟩), .pointer (some ta), .int .u64 386], .agg #[.pointer (some ⟨4, 75, none⟩), .pointer (some b), .int .u64 130]]).run Tryz.prog W
      = .ok (.tuple #[]) (W.setCell ta (.int .i64 c)) := by
  rw [rls]
  simp only [Sem.run_bind, partsA_errno, parts_errno, Result.andThen]
  simp [ReflectliteValue.flagAddr, loadVar, isAgg, underlying, Tryz.underlying75, hb, Result.andThen, direct_errno, storeVar, Value.cells, storeCells, Addr.add]
  rw [run_store Tryz.prog W ta _ _ (by rfl)]
  simp [ht, hf]
theorem noAs_errno (v : Value) (w : World) : (Instr.typeAssert (.iface 75 v) 184 415 true).run Tryz.prog w = .ok (.tuple #[.nilIface, .bool false]) w := run_typeAssert_lacksB Tryz.underlying415 (by kernel_rfl) (by kernel_rfl) v 184 w


/-! ### an error of type refused that wraps a number of type status -/
theorem typeOf_refused (v : Value) (w : World) : (ReflectliteType.typeOf #[.iface 279 v]).run Tryz.prog w = .ok (.iface 411 (.agg #[.pointer (some ⟨4, 279, none⟩)])) w := by kernel_rfl
theorem assignable_refused (w : World) : (ReflectliteType.relation "AssignableTo" ReflectliteType.assignableTo #[.agg #[.pointer (some ⟨4, 279, none⟩)], .iface 411 (.agg #[.pointer (some ⟨4, 187, none⟩)])]).run Tryz.prog w = .ok (.bool false) w := by kernel_rfl
theorem noAs_refused (v : Value) (w : World) : (Instr.typeAssert (.iface 279 v) 184 415 true).run Tryz.prog w = .ok (.tuple #[.nilIface, .bool false]) w := run_typeAssert_lacksB Tryz.underlying415 (by kernel_rfl) (by kernel_rfl) v 184 w
theorem hasUnwrap_refused (v : Value) (w : World) : (Instr.typeAssert (.iface 279 v) 184 418 true).run Tryz.prog w = .ok (.tuple #[.iface 279 v, .bool true]) w := run_typeAssert_hasB Tryz.underlying418 (by kernel_rfl) v 184 w
theorem methodUnwrap_refused (a : Addr) (w : World) : (Go.method 886 279 (.pointer (some a)) "Unwrap").run Tryz.prog w = .ok (609, .pointer (some a)) w := by kernel_rfl
theorem unwrap_refused (b : Nat) (v : Value) (w : World) (hc : w.cell? ⟨b, 1, none⟩ = some v) : Calls Tryz.prog 609 #[.pointer (some ⟨b, 0, none⟩)] w fun e w' => e = .returned v ∧ w' = w := by
  go_enter Tryz.func609, Tryz.ntmps609
  go_wp2
  go_ret
  exact ⟨rfl, rfl⟩

end Go.Proofs.YtgjddachhhmimaaGreatDoor.Pre
