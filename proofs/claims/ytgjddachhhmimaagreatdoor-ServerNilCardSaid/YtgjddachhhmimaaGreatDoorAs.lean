/- errors.As at an error that wraps a number of the target's type. -/
import Derived.Test.YtgjddachhhmimaaGreatDoorAsF
import Derived.Outline
set_option linter.unusedVariables false
set_option linter.unusedSimpArgs false
namespace Go.Proofs.YtgjddachhhmimaaGreatDoor.Pre
open Go.RowKit Go.Extern.Stop Go.Stop Go.Extern Go.Lib


set_option maxHeartbeats 4000000 in
set_option maxRecDepth 100000 in
theorem as_refused (b : Nat) (t : Addr) (c : Int) (old : Value) (w : World) (hG : GOK w) (hb : w.cell? ⟨b, 1, none⟩ = some (.iface 187 (.int .i64 c))) (ht : w.cell? t = some old) (hf : w.frozen? t = false) :
    Calls Tryz.prog 103 #[.iface 279 (.pointer (some ⟨b, 0, none⟩)), .iface 189 (.pointer (some t))] w fun e w' => e = .returned (.bool true) ∧ w' = ((((w.alloc (.cells #[.pointer (some t)] 189)).alloc (.cells #[.pointer (some ⟨4, 189, none⟩), .pointer (some ⟨w.heap.size, 0, none⟩), .int .u64 150] 288)).alloc (.cells #[.pointer (some ⟨4, 189, none⟩), .pointer (some ⟨w.heap.size, 0, none⟩), .int .u64 150] 288)).alloc (.cells #[.int .i64 c] 187)).setCell t (.int .i64 c) := by
  have x44 := @run_callFunc_extern Tryz.prog 167 _ (fun args => ReflectliteValue.unpack (args.getD 0 (.tuple #[]))) Tryz.func167 (by kernel_rfl) (by kernel_rfl) (by kernel_rfl) (by kernel_rfl)
  have x45 := @run_callFunc_extern Tryz.prog 168 _ (ReflectliteValue.methodAny (ReflectliteValue.valueError "reflectlite.Value.Type" 0) (fun t _ _ _ => ReflectliteType.toType t)) Tryz.func168 (by kernel_rfl) (by kernel_rfl) (by kernel_rfl) (by kernel_rfl)
  have x46 := @run_callFunc_extern Tryz.prog 169 _ (ReflectliteValue.method (ReflectliteValue.valueError "reflectlite.Value.IsNil" 0) ReflectliteValue.isNil) Tryz.func169 (by kernel_rfl) (by kernel_rfl) (by kernel_rfl) (by kernel_rfl)
  have x385 := @run_callFunc_extern Tryz.prog 598 _ (ReflectliteType.abiMethod fun t => do pure (.int .u8 (← Rtype.kind t))) Tryz.func598 (by kernel_rfl) (by kernel_rfl) (by kernel_rfl) (by kernel_rfl)
  have x402 := @run_callFunc_extern Tryz.prog 616 _ (ReflectliteType.method ReflectliteType.elem) Tryz.func616 (by kernel_rfl) (by kernel_rfl) (by kernel_rfl) (by kernel_rfl)
  have x403 := @run_callFunc_extern Tryz.prog 617 _ (ReflectliteType.relation "Implements" ReflectliteType.implements_) Tryz.func617 (by kernel_rfl) (by kernel_rfl) (by kernel_rfl) (by kernel_rfl)
  have x81 := @run_callFunc_extern Tryz.prog 219 _ ReflectliteType.typeOf Tryz.func219 (by kernel_rfl) (by kernel_rfl) (by kernel_rfl) (by kernel_rfl)
  have x400 := @run_callFunc_extern Tryz.prog 614 _ (ReflectliteType.relation "AssignableTo" ReflectliteType.assignableTo) Tryz.func614 (by kernel_rfl) (by kernel_rfl) (by kernel_rfl) (by kernel_rfl)
  have x82 := @run_callFunc_extern Tryz.prog 257 _ (ReflectliteValue.method (ReflectliteValue.valueError "reflectlite.Value.Elem" 0) ReflectliteValue.elem) Tryz.func257 (by kernel_rfl) (by kernel_rfl) (by kernel_rfl) (by kernel_rfl)
  have x83 := @run_callFunc_extern Tryz.prog 258 _ ReflectliteValue.set Tryz.func258 (by kernel_rfl) (by kernel_rfl) (by kernel_rfl) (by kernel_rfl)
  have f1 := valueOfP_status
  have f2 := typeP_status
  have mK := methodKind
  have mE := methodElem
  have mI := methodImplements
  have mA := methodAssignableTo
  have f3 := kindP_status
  have f4 := kind_status
  have f5 := elemP_status
  have f6 := impl_status
  have f7 := typeOf_refused
  have f8 := assignable_refused
  have f9 := noAs_refused
  have f10 := hasUnwrap_refused
  have f11 := methodUnwrap_refused
  have f12 := typeOf_status
  have f13 := assignable_status
  have f14 := valueOf_status
  have hg := hG.et
  have hbl := World.block_lt_of_cell? w _ hb
  have htl := World.block_lt_of_cell? w _ ht
  have n8 := isNilP_status ⟨w.heap.size, 0, none⟩ t ((w.alloc (.cells #[.pointer (some t)] 189)).alloc (.cells #[.pointer (some ⟨4, 189, none⟩), .pointer (some ⟨w.heap.size, 0, none⟩), .int .u64 150] 288)) (by simp)
  have hg2 : ((w.alloc (.cells #[.pointer (some t)] 189)).alloc (.cells #[.pointer (some ⟨4, 189, none⟩), .pointer (some ⟨w.heap.size, 0, none⟩), .int .u64 150] 288)).cell? ⟨0, 0, none⟩ = some (.iface 411 (.agg #[.pointer (some ⟨4, 184, none⟩)])) := ((hG.alloc _).alloc _).et
  have hb3 : (((w.alloc (.cells #[.pointer (some t)] 189)).alloc (.cells #[.pointer (some ⟨4, 189, none⟩), .pointer (some ⟨w.heap.size, 0, none⟩), .int .u64 150] 288)).alloc (.cells #[.pointer (some ⟨4, 189, none⟩), .pointer (some ⟨w.heap.size, 0, none⟩), .int .u64 150] 288)).cell? ⟨b, 1, none⟩ = some (.iface 187 (.int .i64 c)) := by
    rw [World.cell?_alloc_lt _ _ ⟨b, 1, none⟩ (by simp at hbl ⊢; omega), World.cell?_alloc_lt _ _ ⟨b, 1, none⟩ (by simp at hbl ⊢; omega), World.cell?_alloc_lt _ _ ⟨b, 1, none⟩ (by simpa using hbl)]; exact hb
  have el := elemV_status ⟨w.heap.size, 0, none⟩ t (((w.alloc (.cells #[.pointer (some t)] 189)).alloc (.cells #[.pointer (some ⟨4, 189, none⟩), .pointer (some ⟨w.heap.size, 0, none⟩), .int .u64 150] 288)).alloc (.cells #[.pointer (some ⟨4, 189, none⟩), .pointer (some ⟨w.heap.size, 0, none⟩), .int .u64 150] 288)) (by rw [World.cell?_alloc_lt _ _ ⟨w.heap.size, 0, none⟩ (by simp; omega)]; simp)
  have st := set_status t ⟨w.heap.size + 1 + 1 + 1, 0, none⟩ c old ((((w.alloc (.cells #[.pointer (some t)] 189)).alloc (.cells #[.pointer (some ⟨4, 189, none⟩), .pointer (some ⟨w.heap.size, 0, none⟩), .int .u64 150] 288)).alloc (.cells #[.pointer (some ⟨4, 189, none⟩), .pointer (some ⟨w.heap.size, 0, none⟩), .int .u64 150] 288)).alloc (.cells #[.int .i64 c] 187))
    (by rw [World.cell?_alloc_at _ _ _ _ (by simp)]; rfl)
    (by rw [World.cell?_alloc_lt _ _ t (by simp; omega), World.cell?_alloc_lt _ _ t (by simp; omega), World.cell?_alloc_lt _ _ t (by simp; omega), World.cell?_alloc_lt _ _ t htl]; exact ht)
    (by rw [World.frozen?_alloc_old _ _ t (by simp; omega), World.frozen?_alloc_old _ _ t (by simp; omega), World.frozen?_alloc_old _ _ t (by simp; omega), World.frozen?_alloc_old _ _ t (Nat.ne_of_lt htl)]; exact hf)
  go_enter Tryz.func103, Tryz.ntmps103
  go_wp2
  refine wp_loop_rounds 2 ?_
  rw [rounds_succ]
  go_wp2
  rw [rounds_succ]
  go_wp2
  go_ret
  exact ⟨rfl, rfl⟩

end Go.Proofs.YtgjddachhhmimaaGreatDoor.Pre
