/- Texts of one proof, one behind the other: As, Code, Hand. -/
import Derived.Test.YtppkeophochgiaaGreatDoorB04
import Derived.Test.YtppkeophochgiaaGreatDoorB03
import Derived.Handy
/- errors.As by its contracts, at the target **api.Fault. -/
namespace Go.Proofs.YtppkeophochgiaaGreatDoor
open Go.RowKit Go.Extern.Stop Go.Stop Go.Extern
set_option linter.unusedVariables false

/-- the handle of the type error lies in errors.errorType -/
def Hand (w : World) : Prop := w.cell? ⟨12, 0, none⟩ = some (.iface 211 (.agg #[.pointer (some ⟨26, 41, none⟩)]))
theorem Hand.below {w w' : World} (h : Hand w) (hb : Below w.heap.size w w') : Hand w' := (hb.cell (p := ⟨12, 0, none⟩) (World.block_lt_of_cell? w _ h)).trans h
theorem as_valueOf27 (t : Addr) (w : World) : (ReflectliteValue.unpack (.iface 123 (.pointer (some t)))).run Tryz.prog w
    = .ok (.agg #[.pointer (some ⟨26, 123, none⟩), .pointer (some ⟨w.heap.size, 0, none⟩), .int .u64 150]) (w.alloc (.cells #[.pointer (some t)] 123)) := by kernel_rfl
theorem as_type27 (a : Addr) (w : World) : (ReflectliteValue.methodAny (ReflectliteValue.valueError "reflectlite.Value.Type" 0) (fun t _ _ _ => ReflectliteType.toType t) #[.agg #[.pointer (some ⟨26, 123, none⟩), .pointer (some a), .int .u64 150]]).run Tryz.prog w
    = .ok (.iface 211 (.agg #[.pointer (some ⟨26, 123, none⟩)])) w := by kernel_rfl
theorem as_methodKind (h : Value) (w : World) : (Go.method 492 211 (.agg #[h]) "Kind").run Tryz.prog w = .ok (292, h) w := by kernel_rfl
theorem as_kind27 (w : World) : ((ReflectliteType.abiMethod fun t => (fun a : Nat => Value.int IntKind.u8 (a : Int)) <$> Rtype.kind t) #[.pointer (some ⟨26, 123, none⟩)]).run Tryz.prog w = .ok (.int .u8 22) w := by kernel_rfl
theorem as_kind25 (w : World) : ((ReflectliteType.abiMethod fun t => (fun a : Nat => Value.int IntKind.u8 (a : Int)) <$> Rtype.kind t) #[.pointer (some ⟨26, 121, none⟩)]).run Tryz.prog w = .ok (.int .u8 22) w := by kernel_rfl

theorem rlm (z : Sem Value) (f : TypeId → Addr → Nat → Nat → Sem Value) (v : Value) :
    ReflectliteValue.method z f #[v] = (do match ← ReflectliteValue.parts v with | none => z | some (t, a, fl) => f t a fl (fl % 32)) := rfl
theorem as_parts27 (a : Addr) (w : World) : (ReflectliteValue.parts (.agg #[.pointer (some ⟨26, 123, none⟩), .pointer (some a), .int .u64 150])).run Tryz.prog w = .ok (some (123, a, 150)) w := by kernel_rfl
theorem as_isNil27 (a p : Addr) (W : World) (ha : W.cell? a = some (.pointer (some p))) :
    (ReflectliteValue.method (ReflectliteValue.valueError "reflectlite.Value.IsNil" 0) ReflectliteValue.isNil #[.agg #[.pointer (some ⟨26, 123, none⟩), .pointer (some a), .int .u64 150]]).run Tryz.prog W = .ok (.bool false) W := by
  rw [rlm]
  simp only [Sem.run_bind, as_parts27, Result.andThen]
  simp [ReflectliteValue.isNil, loadVar, isAgg, underlying, Tryz.underlying123, ha, Result.andThen]

theorem as_methodElem (h : Value) (w : World) : (Go.method 492 211 (.agg #[h]) "Elem").run Tryz.prog w = .ok (305, .agg #[h]) w := by kernel_rfl
theorem as_methodImplements (h : Value) (w : World) : (Go.method 492 211 (.agg #[h]) "Implements").run Tryz.prog w = .ok (306, .agg #[h]) w := by kernel_rfl
theorem as_methodAssignableTo (h : Value) (w : World) : (Go.method 492 211 (.agg #[h]) "AssignableTo").run Tryz.prog w = .ok (303, .agg #[h]) w := by kernel_rfl
theorem as_elem27 (w : World) : (ReflectliteType.method ReflectliteType.elem #[.agg #[.pointer (some ⟨26, 123, none⟩)]]).run Tryz.prog w = .ok (.iface 211 (.agg #[.pointer (some ⟨26, 121, none⟩)])) w := by kernel_rfl
theorem as_implements25 (w : World) : (ReflectliteType.relation "Implements" ReflectliteType.implements_ #[.agg #[.pointer (some ⟨26, 121, none⟩)], .iface 211 (.agg #[.pointer (some ⟨26, 41, none⟩)])]).run Tryz.prog w = .ok (.bool true) w := by kernel_rfl
theorem as_typeOf25 (v : Value) (w : World) : (ReflectliteType.typeOf #[.iface 121 v]).run Tryz.prog w = .ok (.iface 211 (.agg #[.pointer (some ⟨26, 121, none⟩)])) w := by kernel_rfl
theorem as_assignable25 (w : World) : (ReflectliteType.relation "AssignableTo" ReflectliteType.assignableTo #[.agg #[.pointer (some ⟨26, 121, none⟩)], .iface 211 (.agg #[.pointer (some ⟨26, 121, none⟩)])]).run Tryz.prog w = .ok (.bool true) w := by kernel_rfl
theorem as_valueOf25 (e : Addr) (w : World) : (ReflectliteValue.unpack (.iface 121 (.pointer (some e)))).run Tryz.prog w
    = .ok (.agg #[.pointer (some ⟨26, 121, none⟩), .pointer (some ⟨w.heap.size, 0, none⟩), .int .u64 150]) (w.alloc (.cells #[.pointer (some e)] 121)) := by kernel_rfl

theorem as_elemOf27 (w : World) : (Rtype.elem? 123).run Tryz.prog w = .ok (some 121) w := by kernel_rfl
theorem as_mk25 (p : Addr) (w : World) : (ReflectliteValue.mk 121 p ReflectliteValue.flagAddr).run Tryz.prog w = .ok (.agg #[.pointer (some ⟨26, 121, none⟩), .pointer (some p), .int .u64 406]) w := by kernel_rfl
theorem as_elemV27 (a p : Addr) (W : World) (ha : W.cell? a = some (.pointer (some p))) :
    (ReflectliteValue.method (ReflectliteValue.valueError "reflectlite.Value.Elem" 0) ReflectliteValue.elem #[.agg #[.pointer (some ⟨26, 123, none⟩), .pointer (some a), .int .u64 150]]).run Tryz.prog W
      = .ok (.agg #[.pointer (some ⟨26, 121, none⟩), .pointer (some p), .int .u64 406]) W := by
  rw [rlm]
  simp only [Sem.run_bind, as_parts27, Result.andThen]
  simp [ReflectliteValue.elem, loadVar, isAgg, underlying, Tryz.underlying123, ha, Result.andThen, as_elemOf27, as_mk25]
theorem rls (v x : Value) : ReflectliteValue.set #[v, x] = (do
    let (some (dst, a, fl), some (src, b, _)) := (← ReflectliteValue.parts v, ← ReflectliteValue.parts x)
      | unsupported (.noEntry "extern/(internal/reflectlite.Value).Set.zeroValue")
    if fl / ReflectliteValue.flagAddr % 2 == 0 then unsupported (.noEntry "extern/(internal/reflectlite.Value).Set.unaddressable")
    let val ← loadVar src b
    if ← Rtype.directlyAssignable dst src then storeVar dst a val
    else if ← Rtype.implements dst src then
      if (← Rtype.kind src) == 20 then
        match val with
        | .nilIface => unsupported (.noEntry "extern/reflectlite: a nil value of one interface type handed on as a value of another")
        | _ => storeVar dst a val
      else storeVar dst a (.iface src val)
    else panicString ("reflectlite.Set: value of type " ++ (← Rtype.spelt src) ++ " is not assignable to type " ++ (← Rtype.spelt dst))
    pure (.tuple #[])) := rfl
theorem as_parts25a (a : Addr) (w : World) : (ReflectliteValue.parts (.agg #[.pointer (some ⟨26, 121, none⟩), .pointer (some a), .int .u64 406])).run Tryz.prog w = .ok (some (121, a, 406)) w := by kernel_rfl
theorem as_parts25 (a : Addr) (w : World) : (ReflectliteValue.parts (.agg #[.pointer (some ⟨26, 121, none⟩), .pointer (some a), .int .u64 150])).run Tryz.prog w = .ok (some (121, a, 150)) w := by kernel_rfl
theorem as_direct25 (w : World) : (Rtype.directlyAssignable 121 121).run Tryz.prog w = .ok true w := by kernel_rfl
theorem as_set25 (ta b e : Addr) (old : Value) (W : World) (hb : W.cell? b = some (.pointer (some e))) (ht : W.cell? ta = some old) (hf : W.frozen? ta = false) :
    (ReflectliteValue.set #[.agg #[.pointer (some ⟨26, 121, none⟩), .pointer (some ta), .int .u64 406], .agg #[.pointer (some ⟨26, 121, none⟩), .pointer (some b), .int .u64 150]]).run Tryz.prog W
      = .ok (.tuple #[]) (W.setCell ta (.pointer (some e))) := by
  rw [rls]
  simp only [Sem.run_bind, as_parts25a, as_parts25, Result.andThen]
  simp [ReflectliteValue.flagAddr, loadVar, isAgg, underlying, Tryz.underlying121, hb, Result.andThen, as_direct25, storeVar, Value.cells, storeCells, Addr.add]
  rw [run_store Tryz.prog W ta _ _ (by rfl)]
  simp [ht, hf]

set_option maxHeartbeats 4000000 in
theorem as_hit (e t : Addr) (old : Value) (w : World) (hg : Hand w) (ht0 : w.cell? t = some old) (hf0 : w.frozen? t = false) :
    Calls Tryz.prog 52 #[.iface 121 (.pointer (some e)), .iface 123 (.pointer (some t))] w fun ev w' => ev = .returned (.bool true) ∧ w' = ((((w.alloc (.cells #[.pointer (some t)] 123)).alloc (.cells #[.pointer (some ⟨26, 123, none⟩), .pointer (some ⟨w.heap.size, 0, none⟩), .int .u64 150] 153)).alloc (.cells #[.pointer (some ⟨26, 123, none⟩), .pointer (some ⟨w.heap.size, 0, none⟩), .int .u64 150] 153)).alloc (.cells #[.pointer (some e)] 121)).setCell t (.pointer (some e)) := by
  have hg : w.cell? ⟨12, 0, none⟩ = some (.iface 211 (.agg #[.pointer (some ⟨26, 41, none⟩)])) := hg
  have h6 := @run_callFunc_extern Tryz.prog 85 _ (fun args => ReflectliteValue.unpack (args.getD 0 (.tuple #[]))) Tryz.func85 (by kernel_rfl) (by kernel_rfl) (by kernel_rfl) (by kernel_rfl)
  have h7 := @run_callFunc_extern Tryz.prog 86 _ (ReflectliteValue.methodAny (ReflectliteValue.valueError "reflectlite.Value.Type" 0) (fun t _ _ _ => ReflectliteType.toType t)) Tryz.func86 (by kernel_rfl) (by kernel_rfl) (by kernel_rfl) (by kernel_rfl)
  have h8 := @run_callFunc_extern Tryz.prog 87 _ (ReflectliteValue.method (ReflectliteValue.valueError "reflectlite.Value.IsNil" 0) ReflectliteValue.isNil) Tryz.func87 (by kernel_rfl) (by kernel_rfl) (by kernel_rfl) (by kernel_rfl)
  have h27 := @run_callFunc_extern Tryz.prog 292 _ (ReflectliteType.abiMethod fun t => do pure (.int .u8 (← Rtype.kind t))) Tryz.func292 (by kernel_rfl) (by kernel_rfl) (by kernel_rfl) (by kernel_rfl)
  have h37 := @run_callFunc_extern Tryz.prog 305 _ (ReflectliteType.method ReflectliteType.elem) Tryz.func305 (by kernel_rfl) (by kernel_rfl) (by kernel_rfl) (by kernel_rfl)
  have h38 := @run_callFunc_extern Tryz.prog 306 _ (ReflectliteType.relation "Implements" ReflectliteType.implements_) Tryz.func306 (by kernel_rfl) (by kernel_rfl) (by kernel_rfl) (by kernel_rfl)
  have h10 := @run_callFunc_extern Tryz.prog 89 _ ReflectliteType.typeOf Tryz.func89 (by kernel_rfl) (by kernel_rfl) (by kernel_rfl) (by kernel_rfl)
  have h35 := @run_callFunc_extern Tryz.prog 303 _ (ReflectliteType.relation "AssignableTo" ReflectliteType.assignableTo) Tryz.func303 (by kernel_rfl) (by kernel_rfl) (by kernel_rfl) (by kernel_rfl)
  have h11 := @run_callFunc_extern Tryz.prog 129 _ (ReflectliteValue.method (ReflectliteValue.valueError "reflectlite.Value.Elem" 0) ReflectliteValue.elem) Tryz.func129 (by kernel_rfl) (by kernel_rfl) (by kernel_rfl) (by kernel_rfl)
  have h12 := @run_callFunc_extern Tryz.prog 130 _ ReflectliteValue.set Tryz.func130 (by kernel_rfl) (by kernel_rfl) (by kernel_rfl) (by kernel_rfl)
  have tO := as_typeOf25
  have mA := as_methodAssignableTo
  have a25 := as_assignable25
  have v25 := as_valueOf25
  have f6 := as_valueOf27
  have f7 := as_type27
  have mK := as_methodKind
  have mE := as_methodElem
  have mI := as_methodImplements
  have k27 := as_kind27
  have k25 := as_kind25
  have e27 := as_elem27
  have i25 := as_implements25
  have n8 := as_isNil27 ⟨w.heap.size, 0, none⟩ t ((w.alloc (.cells #[.pointer (some t)] 123)).alloc (.cells #[.pointer (some ⟨26, 123, none⟩), .pointer (some ⟨w.heap.size, 0, none⟩), .int .u64 150] 153)) (by simp)
  have hlt : 12 < w.heap.size := World.block_lt_of_cell? w _ hg
  have hg2 : ((w.alloc (.cells #[.pointer (some t)] 123)).alloc (.cells #[.pointer (some ⟨26, 123, none⟩), .pointer (some ⟨w.heap.size, 0, none⟩), .int .u64 150] 153)).cell? ⟨12, 0, none⟩ = some (.iface 211 (.agg #[.pointer (some ⟨26, 41, none⟩)])) := by
    rw [World.cell?_alloc_lt _ _ ⟨12, 0, none⟩ (by simp; omega), World.cell?_alloc_lt _ _ ⟨12, 0, none⟩ hlt]; exact hg
  have htl : t.block < w.heap.size := by
    rcases Nat.lt_or_ge t.block w.heap.size with h | h
    · exact h
    · simp [World.cell?, Array.getElem?_eq_none h] at ht0
  have el := as_elemV27 ⟨w.heap.size, 0, none⟩ t (((w.alloc (.cells #[.pointer (some t)] 123)).alloc (.cells #[.pointer (some ⟨26, 123, none⟩), .pointer (some ⟨w.heap.size, 0, none⟩), .int .u64 150] 153)).alloc (.cells #[.pointer (some ⟨26, 123, none⟩), .pointer (some ⟨w.heap.size, 0, none⟩), .int .u64 150] 153)) (by rw [World.cell?_alloc_lt _ _ ⟨w.heap.size, 0, none⟩ (by simp; omega)]; simp)
  have st := as_set25 t ⟨w.heap.size + 1 + 1 + 1, 0, none⟩ e old ((((w.alloc (.cells #[.pointer (some t)] 123)).alloc (.cells #[.pointer (some ⟨26, 123, none⟩), .pointer (some ⟨w.heap.size, 0, none⟩), .int .u64 150] 153)).alloc (.cells #[.pointer (some ⟨26, 123, none⟩), .pointer (some ⟨w.heap.size, 0, none⟩), .int .u64 150] 153)).alloc (.cells #[.pointer (some e)] 121))
    (by rw [World.cell?_alloc_at _ _ _ _ (by simp)]; rfl)
    (by rw [World.cell?_alloc_lt _ _ t (by simp; omega), World.cell?_alloc_lt _ _ t (by simp; omega), World.cell?_alloc_lt _ _ t (by simp; omega), World.cell?_alloc_lt _ _ t htl]; exact ht0)
    (by rw [World.frozen?_alloc_old _ _ t (by simp; omega), World.frozen?_alloc_old _ _ t (by simp; omega), World.frozen?_alloc_old _ _ t (by simp; omega), World.frozen?_alloc_old _ _ t (Nat.ne_of_lt htl)]; exact hf0)
  go_enter Tryz.func52, Tryz.ntmps52
  go_wp2
  refine wp_loop_rounds 1 ?_
  rw [rounds_succ]
  go_wp2
  go_ret
  exact ⟨rfl, rfl⟩
theorem noAsE (v : Value) (xT : TypeId) (w : World) : (Instr.typeAssert (.iface 345 v) xT 215 true).run Tryz.prog w = .ok (.tuple #[.nilIface, .bool false]) w := run_typeAssert_lacksB Tryz.underlying215 (by kernel_rfl) (by kernel_rfl) v xT w
theorem as_assignableE (w : World) : (ReflectliteType.relation "AssignableTo" ReflectliteType.assignableTo #[.agg #[.pointer (some ⟨26, 345, none⟩)], .iface 211 (.agg #[.pointer (some ⟨26, 121, none⟩)])]).run Tryz.prog w = .ok (.bool false) w := by kernel_rfl
theorem below_three (w : World) (a b c : Obj) : Below w.heap.size w (((w.alloc a).alloc b).alloc c) := (((Below.refl _ w).alloc (Nat.le_refl _) a).alloc (by simp) b).alloc (by simp; omega) c
set_option maxHeartbeats 4000000 in
theorem as_miss (e t : Addr) (w : World) (hg : Hand w) :
    Calls Tryz.prog 52 #[.iface 345 (.pointer (some e)), .iface 123 (.pointer (some t))] w fun ev w' => ev = .returned (.bool false) ∧ Below w.heap.size w w' := by
  have hg : w.cell? ⟨12, 0, none⟩ = some (.iface 211 (.agg #[.pointer (some ⟨26, 41, none⟩)])) := hg
  have h6 := @run_callFunc_extern Tryz.prog 85 _ (fun args => ReflectliteValue.unpack (args.getD 0 (.tuple #[]))) Tryz.func85 (by kernel_rfl) (by kernel_rfl) (by kernel_rfl) (by kernel_rfl)
  have h7 := @run_callFunc_extern Tryz.prog 86 _ (ReflectliteValue.methodAny (ReflectliteValue.valueError "reflectlite.Value.Type" 0) (fun t _ _ _ => ReflectliteType.toType t)) Tryz.func86 (by kernel_rfl) (by kernel_rfl) (by kernel_rfl) (by kernel_rfl)
  have h8 := @run_callFunc_extern Tryz.prog 87 _ (ReflectliteValue.method (ReflectliteValue.valueError "reflectlite.Value.IsNil" 0) ReflectliteValue.isNil) Tryz.func87 (by kernel_rfl) (by kernel_rfl) (by kernel_rfl) (by kernel_rfl)
  have h27 := @run_callFunc_extern Tryz.prog 292 _ (ReflectliteType.abiMethod fun t => do pure (.int .u8 (← Rtype.kind t))) Tryz.func292 (by kernel_rfl) (by kernel_rfl) (by kernel_rfl) (by kernel_rfl)
  have h37 := @run_callFunc_extern Tryz.prog 305 _ (ReflectliteType.method ReflectliteType.elem) Tryz.func305 (by kernel_rfl) (by kernel_rfl) (by kernel_rfl) (by kernel_rfl)
  have h38 := @run_callFunc_extern Tryz.prog 306 _ (ReflectliteType.relation "Implements" ReflectliteType.implements_) Tryz.func306 (by kernel_rfl) (by kernel_rfl) (by kernel_rfl) (by kernel_rfl)
  have h10 := @run_callFunc_extern Tryz.prog 89 _ ReflectliteType.typeOf Tryz.func89 (by kernel_rfl) (by kernel_rfl) (by kernel_rfl) (by kernel_rfl)
  have h35 := @run_callFunc_extern Tryz.prog 303 _ (ReflectliteType.relation "AssignableTo" ReflectliteType.assignableTo) Tryz.func303 (by kernel_rfl) (by kernel_rfl) (by kernel_rfl) (by kernel_rfl)
  have tO := isTypeOfE
  have mA := as_methodAssignableTo
  have a25 := as_assignableE
  have f6 := as_valueOf27
  have f7 := as_type27
  have mK := as_methodKind
  have mE := as_methodElem
  have mI := as_methodImplements
  have k27 := as_kind27
  have k25 := as_kind25
  have e27 := as_elem27
  have i25 := as_implements25
  have n8 := as_isNil27 ⟨w.heap.size, 0, none⟩ t ((w.alloc (.cells #[.pointer (some t)] 123)).alloc (.cells #[.pointer (some ⟨26, 123, none⟩), .pointer (some ⟨w.heap.size, 0, none⟩), .int .u64 150] 153)) (by simp)
  have hlt : 12 < w.heap.size := World.block_lt_of_cell? w _ hg
  have hg2 : ((w.alloc (.cells #[.pointer (some t)] 123)).alloc (.cells #[.pointer (some ⟨26, 123, none⟩), .pointer (some ⟨w.heap.size, 0, none⟩), .int .u64 150] 153)).cell? ⟨12, 0, none⟩ = some (.iface 211 (.agg #[.pointer (some ⟨26, 41, none⟩)])) := by
    rw [World.cell?_alloc_lt _ _ ⟨12, 0, none⟩ (by simp; omega), World.cell?_alloc_lt _ _ ⟨12, 0, none⟩ hlt]; exact hg
  have nA := noAsE
  have uE := noUnwrapE
  have vE := noUnwrapsE
  have HB := Lib.hid (below_three w)
  go_enter Tryz.func52, Tryz.ntmps52
  go_wp2
  refine wp_loop_rounds 1 ?_
  rw [rounds_succ]
  go_wp2
  go_ret
  exact ⟨rfl, HB.out _ _ _⟩
end Go.Proofs.YtppkeophochgiaaGreatDoor
/- plain.Code by its contract: an error's number and place. -/
namespace Go.Proofs.YtppkeophochgiaaGreatDoor
open Go.RowKit
set_option linter.unusedVariables false

theorem ret2c {a a' b b' : Value} (h1 : a = a') (h2 : b = b') : Ending.returned (.tuple #[a, b]) = .returned (.tuple #[a', b']) := by rw [h1, h2]
theorem as_hit' (e t : Addr) (old : Value) (w : World) (hg : Hand w) (ht0 : w.cell? t = some old) (hf0 : w.frozen? t = false) (hts : t = ⟨t.block, 0, none⟩) :
    Calls Tryz.prog 52 #[.iface 121 (.pointer (some e)), .iface 123 (.pointer (some t))] w fun ev w' => ev = .returned (.bool true) ∧ w'.cell? t = some (.pointer (some e)) ∧ w.grownBy w' (some t.block) := by
  refine (as_hit e t old w hg ht0 hf0).mono ?_
  rintro ev w' ⟨rfl, rfl⟩
  have htl : t.block < w.heap.size := World.block_lt_of_cell? w _ ht0
  have b4 : ∀ a b c d : Obj, Below w.heap.size w ((((w.alloc a).alloc b).alloc c).alloc d) := fun a b c d => ((((Below.refl _ w).alloc (Nat.le_refl _) a).alloc (by simp) b).alloc (by simp; omega) c).alloc (by simp; omega) d
  refine ⟨rfl, ?_, ?_⟩
  · exact World.cell?_setCell_same (h := ((b4 _ _ _ _).cell htl).trans ht0) ..
  · rw [hts]
    exact grownBy_trans (grownBy_below (b4 _ _ _ _)) (grownBy_set _ _ _ _)

theorem below_al (w : World) (o : Obj) : Below w.heap.size w (w.alloc o) := (Below.refl _ w).alloc (Nat.le_refl _) o
/-- all the errors, and the handle, at a world -/
structure Errs (E : Nat → Addr) (w : World) : Prop where
  hand : Hand w
  has : ∀ c, 1 ≤ c → c ≤ 12 → Has E w c
  sent : ∀ c, 1 ≤ c → c ≤ 12 → ∃ cs t, w.heap[(E c).block]? = some (.cells cs t (0, 0))
  ne : ∀ c d, 1 ≤ c → c ≤ 12 → 1 ≤ d → d ≤ 12 → c ≠ d → E c ≠ E d
theorem Errs.below {E : Nat → Addr} {w w' : World} (h : Errs E w) (hb : Below w.heap.size w w') : Errs E w' :=
  ⟨h.hand.below hb, fun c h1 h2 => (h.has c h1 h2).below hb, fun c h1 h2 => by
    obtain ⟨cs, t, e⟩ := h.sent c h1 h2
    exact ⟨cs, t, (hb.block _ (lt_of_block e)).trans e⟩, h.ne⟩
theorem twelve {c : Nat} (h1 : 1 ≤ c) (h2 : c ≤ 12) : c ∈ [1, 2, 3, 4, 5, 6, 7, 8, 9, 10, 11, 12] := by
  have : c = 1 ∨ c = 2 ∨ c = 3 ∨ c = 4 ∨ c = 5 ∨ c = 6 ∨ c = 7 ∨ c = 8 ∨ c = 9 ∨ c = 10 ∨ c = 11 ∨ c = 12 := by omega
  simp; omega
theorem Errs.of {E : Nat → Addr} {w : World} (hh : Hand w) (h : ∀ c ∈ [1, 2, 3, 4, 5, 6, 7, 8, 9, 10, 11, 12], Has E w c ∧ Sent w (E c)) (h2 : ∀ c ∈ [1, 2, 3, 4, 5, 6, 7, 8, 9, 10, 11, 12], ∀ c' ∈ [1, 2, 3, 4, 5, 6, 7, 8, 9, 10, 11, 12], c ≠ c' → E c ≠ E c') : Errs E w :=
  ⟨hh, fun c a b => (h c (twelve a b)).1, fun c a b => (h c (twelve a b)).2.1, fun c d a b a' b' => h2 c (twelve a b) d (twelve a' b')⟩
/-- errors.Is of an error with a place, or without -/
theorem isE {E : Nat → Addr} {w : World} (h : Errs E w) {v : Value} {c : Nat} {a : Int} (hv : FErr E w v c a) (hc : 1 ≤ c) (hc2 : c ≤ 12) (k : Nat) (hk : 1 ≤ k) (hk2 : k ≤ 12) :
    Calls Tryz.prog 53 #[v, errv (E k)] w fun e w' => e = .returned (.bool (decide (c = k))) ∧ w = w' := by
  obtain ⟨ca, ta, ha⟩ := h.sent c hc hc2
  obtain ⟨cb, tb, hb⟩ := h.sent k hk hk2
  rcases hv with ⟨h0, _⟩ | ⟨h0, h1, rfl⟩ | ⟨h0, h1, fb, rfl, hf⟩
  · omega
  · by_cases e : c = k
    · subst e
      simp only [decide_true]
      unfold errv
      exact is_same _ w
    · simp only [e, decide_false]
      unfold errv
      exact is_other _ _ ca cb ta tb w (h.ne c k hc hc2 hk hk2 e) ha hb
  · have c1 : w.cell? ⟨fb, 1, none⟩ = some (errv (E c)) := by simp [World.cell?, hf]
    unfold errv at c1 ⊢
    by_cases e : c = k
    · subst e
      simp only [decide_true]
      exact is_fault_same fb _ w c1
    · simp only [e, decide_false]
      exact is_fault_other fb _ _ ca cb ta tb w c1 (h.ne c k hc hc2 hk hk2 e) ha hb
theorem row12 {w : World} {b : Nat} {f : Nat → Value} {t : TypeId} (h : w.heap[b]? = some (.cells #[f 1, f 2, f 3, f 4, f 5, f 6, f 7, f 8, f 9, f 10, f 11, f 12] t (0, 0))) (k : Nat) (hk : k < 12) : w.cell? ⟨b, k, none⟩ = some (f (k + 1)) := by
  have : k = 0 ∨ k = 1 ∨ k = 2 ∨ k = 3 ∨ k = 4 ∨ k = 5 ∨ k = 6 ∨ k = 7 ∨ k = 8 ∨ k = 9 ∨ k = 10 ∨ k = 11 := by omega
  rcases this with rfl | rfl | rfl | rfl | rfl | rfl | rfl | rfl | rfl | rfl | rfl | rfl <;> simp [World.cell?, h]

set_option maxRecDepth 100000 in
set_option maxHeartbeats 6400000 in
theorem code_any (E : Nat → Addr) (v : Value) (c : Nat) (a : Int) (w : World) (h : FErr E w v c a) (hE : Errs E w) (hc : c ≤ 12) :
    Calls Tryz.prog 24 #[v] w fun e w' => e = .returned (.tuple #[.int .i64 c, .int .i64 a]) ∧ Below w.heap.size w w' := by
  by_cases h0 : c = 0
  · subst h0
    have hv := h.zero
    have ha : a = -1 := by rcases h with ⟨_, h, _⟩ | ⟨h, _⟩ | ⟨h, _⟩ <;> first | exact h | exact absurd rfl h
    subst hv ha
    clear h hE
    go_enter Tryz.func24, Tryz.ntmps24
    go_wp2_with fail
    go_ret2
    exact ⟨rfl, Below.refl _ _⟩
  · have hc1 : 1 ≤ c := by omega
    have HEE := Lib.hid hE
    have HV := Lib.hid h
    have L1 := Lib.hid (fun (w' : World) (b : Below w.heap.size w w') => show w'.cell? ⟨1, 0, none⟩ = some (errv (E 1)) from (hE.below b).has 1 (by omega) (by omega))
    have L2 := Lib.hid (fun (w' : World) (b : Below w.heap.size w w') => show w'.cell? ⟨0, 0, none⟩ = some (errv (E 2)) from (hE.below b).has 2 (by omega) (by omega))
    have L3 := Lib.hid (fun (w' : World) (b : Below w.heap.size w w') => show w'.cell? ⟨2, 0, none⟩ = some (errv (E 3)) from (hE.below b).has 3 (by omega) (by omega))
    have L4 := Lib.hid (fun (w' : World) (b : Below w.heap.size w w') => show w'.cell? ⟨3, 0, none⟩ = some (errv (E 4)) from (hE.below b).has 4 (by omega) (by omega))
    have L5 := Lib.hid (fun (w' : World) (b : Below w.heap.size w w') => show w'.cell? ⟨4, 0, none⟩ = some (errv (E 5)) from (hE.below b).has 5 (by omega) (by omega))
    have L6 := Lib.hid (fun (w' : World) (b : Below w.heap.size w w') => show w'.cell? ⟨5, 0, none⟩ = some (errv (E 6)) from (hE.below b).has 6 (by omega) (by omega))
    have L7 := Lib.hid (fun (w' : World) (b : Below w.heap.size w w') => show w'.cell? ⟨6, 0, none⟩ = some (errv (E 7)) from (hE.below b).has 7 (by omega) (by omega))
    have L8 := Lib.hid (fun (w' : World) (b : Below w.heap.size w w') => show w'.cell? ⟨7, 0, none⟩ = some (errv (E 8)) from (hE.below b).has 8 (by omega) (by omega))
    have L9 := Lib.hid (fun (w' : World) (b : Below w.heap.size w w') => show w'.cell? ⟨8, 0, none⟩ = some (errv (E 9)) from (hE.below b).has 9 (by omega) (by omega))
    have L10 := Lib.hid (fun (w' : World) (b : Below w.heap.size w w') => show w'.cell? ⟨9, 0, none⟩ = some (errv (E 10)) from (hE.below b).has 10 (by omega) (by omega))
    have L11 := Lib.hid (fun (w' : World) (b : Below w.heap.size w w') => show w'.cell? ⟨10, 0, none⟩ = some (errv (E 11)) from (hE.below b).has 11 (by omega) (by omega))
    have L12 := Lib.hid (fun (w' : World) (b : Below w.heap.size w w') => show w'.cell? ⟨11, 0, none⟩ = some (errv (E 12)) from (hE.below b).has 12 (by omega) (by omega))
    have b0 := below_al w (.cells #[.pointer none] 121)
    have hand0 := Lib.hid (hE.below b0).hand
    obtain ⟨t, p, hvp⟩ := h.some h0
    -- what errors.As gives
    have AS : ∃ hit : Bool, Calls Tryz.prog 52 #[v, .iface 123 (.pointer (some ⟨w.heap.size, 0, none⟩))] (w.alloc (.cells #[.pointer none] 121)) fun ev w' => ev = .returned (.bool hit) ∧ Below w.heap.size w w' ∧
        (if hit = true then ∃ fb, w'.cell? ⟨w.heap.size, 0, none⟩ = some (.pointer (some ⟨fb, 0, none⟩)) ∧ w'.cell? ⟨fb, 0, none⟩ = some (.int .i64 a) else a = -1) := by
      rcases h with ⟨h0', _⟩ | ⟨_, h1, rfl⟩ | ⟨_, h1, fb, rfl, hf⟩
      · exact absurd h0' h0
      · refine ⟨false, ?_⟩
        unfold errv
        refine (as_miss _ _ _ hand0.out).mono ?_
        rintro ev w' ⟨rfl, b⟩
        exact ⟨rfl, below_trans' b0 b, by simpa using h1⟩
      · refine ⟨true, ?_⟩
        refine (as_hit' _ _ (.pointer none) _ hand0.out (by simp) (by simp) rfl).mono ?_
        rintro ev w' ⟨rfl, hc', hg⟩
        refine ⟨rfl, b0.grown hg (by simp) (fun k hk => by cases hk; exact Nat.le_refl _), ?_⟩
        simp only [if_true]
        refine ⟨fb, hc', ?_⟩
        have hlt := lt_of_block hf
        have := (hg.block fb (by simp; omega) (by simp; omega)).trans ((Below.heap_alloc w _ fb hlt).trans hf)
        simp [World.cell?, this]
    obtain ⟨hit, AS⟩ := AS
    subst hvp
    have HAS := Lib.hid AS
    clear AS h hE b0
    cases hit
    · go_enter Tryz.func24, Tryz.ntmps24
      go_wp2_with fail
      refine HAS.out.mono ?_
      rintro e w1 ⟨rfl, b1, ha⟩
      simp only [Bool.false_eq_true, if_false] at ha
      subst ha
      have c1 := L1.out _ b1
      have c2 := L2.out _ b1
      have c3 := L3.out _ b1
      have c4 := L4.out _ b1
      have c5 := L5.out _ b1
      have c6 := L6.out _ b1
      have c7 := L7.out _ b1
      have c8 := L8.out _ b1
      have c9 := L9.out _ b1
      have c10 := L10.out _ b1
      have c11 := L11.out _ b1
      have c12 := L12.out _ b1
      unfold errv at c1 c2 c3 c4 c5 c6 c7 c8 c9 c10 c11 c12
      clear L1 L2 L3 L4 L5 L6 L7 L8 L9 L10 L11 L12 hand0
      go_wp2_with fail
      have ROW := heap_alloc_new w1 (.cells #[.iface 345 (.pointer (some (E 1))), .iface 345 (.pointer (some (E 2))), .iface 345 (.pointer (some (E 3))), .iface 345 (.pointer (some (E 4))), .iface 345 (.pointer (some (E 5))), .iface 345 (.pointer (some (E 6))), .iface 345 (.pointer (some (E 7))), .iface 345 (.pointer (some (E 8))), .iface 345 (.pointer (some (E 9))), .iface 345 (.pointer (some (E 10))), .iface 345 (.pointer (some (E 11))), .iface 345 (.pointer (some (E 12)))] 41)
      have b2 := b1.alloc b1.size (.cells #[.iface 345 (.pointer (some (E 1))), .iface 345 (.pointer (some (E 2))), .iface 345 (.pointer (some (E 3))), .iface 345 (.pointer (some (E 4))), .iface 345 (.pointer (some (E 5))), .iface 345 (.pointer (some (E 6))), .iface 345 (.pointer (some (E 7))), .iface 345 (.pointer (some (E 8))), .iface 345 (.pointer (some (E 9))), .iface 345 (.pointer (some (E 10))), .iface 345 (.pointer (some (E 11))), .iface 345 (.pointer (some (E 12)))] 41)
      have hsz : w1.heap.size < (w1.alloc (.cells #[.iface 345 (.pointer (some (E 1))), .iface 345 (.pointer (some (E 2))), .iface 345 (.pointer (some (E 3))), .iface 345 (.pointer (some (E 4))), .iface 345 (.pointer (some (E 5))), .iface 345 (.pointer (some (E 6))), .iface 345 (.pointer (some (E 7))), .iface 345 (.pointer (some (E 8))), .iface 345 (.pointer (some (E 9))), .iface 345 (.pointer (some (E 10))), .iface 345 (.pointer (some (E 11))), .iface 345 (.pointer (some (E 12)))] 41)).heap.size := by simp
      clear c1 c2 c3 c4 c5 c6 c7 c8 c9 c10 c11 c12
      generalize w1.alloc (.cells #[.iface 345 (.pointer (some (E 1))), .iface 345 (.pointer (some (E 2))), .iface 345 (.pointer (some (E 3))), .iface 345 (.pointer (some (E 4))), .iface 345 (.pointer (some (E 5))), .iface 345 (.pointer (some (E 6))), .iface 345 (.pointer (some (E 7))), .iface 345 (.pointer (some (E 8))), .iface 345 (.pointer (some (E 9))), .iface 345 (.pointer (some (E 10))), .iface 345 (.pointer (some (E 11))), .iface 345 (.pointer (some (E 12)))] 41) = w2 at ROW b2 hsz ⊢
      have RW := Lib.hid (fun k hk => row12 (f := fun k => .iface 345 (.pointer (some (E k)))) ROW k hk)
      have E2 := Lib.hid (HEE.out.below b2)
      have V2 := Lib.hid (HV.out.below b2)
      clear ROW
      go_loop [30, 5, 6, 3] (fun i _ _ at' => ∃ k : Nat, i = .int .i64 k ∧ k < c ∧ at' = .int .i64 (-1)) (fun i _ _ _ => 12 - (intOf i).toNat)
      case atStart => exact ⟨0, rfl, by omega, rfl⟩
      case round =>
        obtain ⟨k, rfl, hk, rfl⟩ := hrel
        have hltI : (k : Int) < 12 := by omega
        have hcell := RW.out k (by omega)
        have IS := isE E2.out V2.out hc1 hc (k + 1) (by omega) (by omega)
        unfold errv at IS
        have x1 : (0 : Int) ≤ k := by omega
        have x2 : (k : Int).toNat = k := by omega
        by_cases hck : c = k + 1
        · simp only [hck, decide_true] at IS
          have HIS := Lib.hid IS
          clear IS
          go_wp2_with fail
          refine HIS.out.mono ?_
          rintro e w4 ⟨rfl, rfl⟩
          go_wp2_with fail
          go_ret2
          exact ⟨ret2c (by rw [hck]; go_num) rfl, b2⟩
        · simp only [hck, decide_false] at IS
          have HIS := Lib.hid IS
          have HCK := Lib.hid (show k + 1 < c by omega)
          clear IS hck
          go_wp2_with fail
          refine HIS.out.mono ?_
          rintro e w4 ⟨rfl, rfl⟩
          go_wp2_with fail
          go_round
          case rel => exact ⟨k + 1, by go_num, HCK.out, rfl⟩
          case measure => simp [intOf]; omega
    · go_enter Tryz.func24, Tryz.ntmps24
      go_wp2_with fail
      refine HAS.out.mono ?_
      rintro e w1 ⟨rfl, b1, ha⟩
      simp only [if_true] at ha
      obtain ⟨fb, hf1, hf2⟩ := ha
      have c1 := L1.out _ b1
      have c2 := L2.out _ b1
      have c3 := L3.out _ b1
      have c4 := L4.out _ b1
      have c5 := L5.out _ b1
      have c6 := L6.out _ b1
      have c7 := L7.out _ b1
      have c8 := L8.out _ b1
      have c9 := L9.out _ b1
      have c10 := L10.out _ b1
      have c11 := L11.out _ b1
      have c12 := L12.out _ b1
      unfold errv at c1 c2 c3 c4 c5 c6 c7 c8 c9 c10 c11 c12
      clear L1 L2 L3 L4 L5 L6 L7 L8 L9 L10 L11 L12 hand0
      go_wp2_with fail
      have ROW := heap_alloc_new w1 (.cells #[.iface 345 (.pointer (some (E 1))), .iface 345 (.pointer (some (E 2))), .iface 345 (.pointer (some (E 3))), .iface 345 (.pointer (some (E 4))), .iface 345 (.pointer (some (E 5))), .iface 345 (.pointer (some (E 6))), .iface 345 (.pointer (some (E 7))), .iface 345 (.pointer (some (E 8))), .iface 345 (.pointer (some (E 9))), .iface 345 (.pointer (some (E 10))), .iface 345 (.pointer (some (E 11))), .iface 345 (.pointer (some (E 12)))] 41)
      have b2 := b1.alloc b1.size (.cells #[.iface 345 (.pointer (some (E 1))), .iface 345 (.pointer (some (E 2))), .iface 345 (.pointer (some (E 3))), .iface 345 (.pointer (some (E 4))), .iface 345 (.pointer (some (E 5))), .iface 345 (.pointer (some (E 6))), .iface 345 (.pointer (some (E 7))), .iface 345 (.pointer (some (E 8))), .iface 345 (.pointer (some (E 9))), .iface 345 (.pointer (some (E 10))), .iface 345 (.pointer (some (E 11))), .iface 345 (.pointer (some (E 12)))] 41)
      have hsz : w1.heap.size < (w1.alloc (.cells #[.iface 345 (.pointer (some (E 1))), .iface 345 (.pointer (some (E 2))), .iface 345 (.pointer (some (E 3))), .iface 345 (.pointer (some (E 4))), .iface 345 (.pointer (some (E 5))), .iface 345 (.pointer (some (E 6))), .iface 345 (.pointer (some (E 7))), .iface 345 (.pointer (some (E 8))), .iface 345 (.pointer (some (E 9))), .iface 345 (.pointer (some (E 10))), .iface 345 (.pointer (some (E 11))), .iface 345 (.pointer (some (E 12)))] 41)).heap.size := by simp
      clear c1 c2 c3 c4 c5 c6 c7 c8 c9 c10 c11 c12
      generalize w1.alloc (.cells #[.iface 345 (.pointer (some (E 1))), .iface 345 (.pointer (some (E 2))), .iface 345 (.pointer (some (E 3))), .iface 345 (.pointer (some (E 4))), .iface 345 (.pointer (some (E 5))), .iface 345 (.pointer (some (E 6))), .iface 345 (.pointer (some (E 7))), .iface 345 (.pointer (some (E 8))), .iface 345 (.pointer (some (E 9))), .iface 345 (.pointer (some (E 10))), .iface 345 (.pointer (some (E 11))), .iface 345 (.pointer (some (E 12)))] 41) = w2 at ROW b2 hsz ⊢
      have RW := Lib.hid (fun k hk => row12 (f := fun k => .iface 345 (.pointer (some (E k)))) ROW k hk)
      have E2 := Lib.hid (HEE.out.below b2)
      have V2 := Lib.hid (HV.out.below b2)
      clear ROW
      go_loop [30, 5, 6, 3] (fun i _ _ at' => ∃ k : Nat, i = .int .i64 k ∧ k < c ∧ at' = .int .i64 a) (fun i _ _ _ => 12 - (intOf i).toNat)
      case atStart => exact ⟨0, rfl, by omega, rfl⟩
      case round =>
        obtain ⟨k, rfl, hk, rfl⟩ := hrel
        have hltI : (k : Int) < 12 := by omega
        have hcell := RW.out k (by omega)
        have IS := isE E2.out V2.out hc1 hc (k + 1) (by omega) (by omega)
        unfold errv at IS
        have x1 : (0 : Int) ≤ k := by omega
        have x2 : (k : Int).toNat = k := by omega
        by_cases hck : c = k + 1
        · simp only [hck, decide_true] at IS
          have HIS := Lib.hid IS
          clear IS
          go_wp2_with fail
          refine HIS.out.mono ?_
          rintro e w4 ⟨rfl, rfl⟩
          go_wp2_with fail
          go_ret2
          exact ⟨ret2c (by rw [hck]; go_num) rfl, b2⟩
        · simp only [hck, decide_false] at IS
          have HIS := Lib.hid IS
          have HCK := Lib.hid (show k + 1 < c by omega)
          clear IS hck
          go_wp2_with fail
          refine HIS.out.mono ?_
          rintro e w4 ⟨rfl, rfl⟩
          go_wp2_with fail
          go_round
          case rel => exact ⟨k + 1, by go_num, HCK.out, rfl⟩
          case measure => simp [intOf]; omega
end Go.Proofs.YtppkeophochgiaaGreatDoor
/- plain.Code of another error; the statements' coded and faulted. -/
namespace Go.Proofs.YtppkeophochgiaaGreatDoor
open Go.RowKit
set_option linter.unusedVariables false

set_option maxRecDepth 100000 in
set_option maxHeartbeats 1600000 in
theorem coded_any (E : Nat → Addr) (v : Value) (c : Nat) (a : Int) (k : Int) (w : World) (h : FErr E w v c a) (hE : Errs E w) (hc : c ≤ 12) :
    Calls Tryz.prog 13 #[v, .int .i64 k] w fun e w' => e = .returned (.bool (decide ((c : Int) = k) && decide (a = -1))) ∧ Below w.heap.size w w' := by
  have CA := Lib.hid (code_any E v c a w h hE hc)
  clear h hE
  by_cases hk : (c : Int) = k
  · subst hk
    by_cases ha : a = -1
    · subst ha
      go_enter Tryz.func13, Tryz.ntmps13
      go_wp2_with (go_at_call 24; refine CA.out.mono ?_; rintro e w1 ⟨rfl, b1⟩)
      go_ret
      exact ⟨by simp, b1⟩
    · have h1 : (a == -1) = false := by simp [ha]
      have h2 : decide (a = -1) = false := by simp [ha]
      rw [h2]
      clear ha h2
      go_enter Tryz.func13, Tryz.ntmps13
      go_wp2_with (go_at_call 24; refine CA.out.mono ?_; rintro e w1 ⟨rfl, b1⟩)
      go_ret
      exact ⟨by simp, b1⟩
  · have h1 : ((c : Int) == k) = false := by simp [hk]
    have h2 : decide ((c : Int) = k) = false := by simp [hk]
    rw [h2]
    clear hk h2
    go_enter Tryz.func13, Tryz.ntmps13
    go_wp2_with (go_at_call 24; refine CA.out.mono ?_; rintro e w1 ⟨rfl, b1⟩)
    go_ret
    exact ⟨by simp, b1⟩

end Go.Proofs.YtppkeophochgiaaGreatDoor
/- The statements' own tests of errors, where they hold. -/
namespace Go.Proofs.YtppkeophochgiaaGreatDoor
open Go.RowKit
set_option linter.unusedVariables false

theorem coded_yes (E : Nat → Addr) (v : Value) (c : Nat) (w : World) (h : FErr E w v c (-1)) (hE : Errs E w) (hc : c ≤ 12) : Calls Tryz.prog 13 #[v, .int .i64 c] w fun e w' => e = .returned (.bool true) ∧ Below w.heap.size w w' := by
  have h := coded_any E _ c (-1) c w h hE hc
  rw [show (decide ((c : Int) = (c : Int)) && decide ((-1 : Int) = -1)) = true by simp] at h
  exact h
end Go.Proofs.YtppkeophochgiaaGreatDoor
/- What a row that lists the handle and the errors gives a walk. -/
namespace Go.Proofs.YtppkeophochgiaaGreatDoor
open Go.RowKit Go.ChangeShapes
set_option linter.unusedVariables false

def hdat : DataW Unit := .iface "internal/reflectlite.rtype" (.agg [.ptr (.lit (.string [101, 114, 114, 111, 114]))])
theorem h_et : Tryz.prog.globalNamed "errors.errorType" = some 12 := by kernel_rfl
theorem h_rt : (Tryz.prog.cutTypes.find? (·.1 == "internal/reflectlite.rtype")).map (·.2) = some 211 := by kernel_rfl
theorem h_row : ((List.range 392).filter fun t => Tryz.prog.rowNamed t [101, 114, 114, 111, 114]) = [41] := by kernel_rfl
theorem h_size : Tryz.prog.types.size = 392 := by kernel_rfl
theorem h_entry (c : Nat) : (entry c).2.handleName? = none := by unfold entry; rfl
theorem hand_of {W : World} (h : handlesMet Tryz.prog [("errors.errorType", hdat)] W) : Hand W := by
  obtain ⟨name, u, ty, e1, e2, e3, e4, e5⟩ := h _ (List.mem_singleton.2 rfl)
  have en : name = [101, 114, 114, 111, 114] := (Option.some.inj e1).symm
  subst en
  obtain rfl := Option.some.inj (h_rt.symm.trans e2)
  have hm : ty ∈ (List.range 392).filter fun t => Tryz.prog.rowNamed t [101, 114, 114, 111, 114] := List.mem_filter.2 ⟨List.mem_range.2 (by rw [← h_size]; exact e3), e4⟩
  rw [h_row] at hm
  obtain rfl := List.mem_singleton.1 hm
  have hh : typeHandle Tryz.prog 41 = .pointer (some ⟨26, 41, none⟩) := by kernel_rfl
  rw [hh] at e5
  have := World.var?_cell h_et e5 0
  unfold Hand
  simpa using this
theorem f_none (l : List Nat) : (l.map entry).filter (fun x => x.2.handleName?.isSome) = [] := by
  rw [List.filter_eq_nil_iff]
  intro x hx
  obtain ⟨c, _, rfl⟩ := List.mem_map.1 hx
  rw [h_entry]; simp
theorem f_all (l : List Nat) : (l.map entry).filter (fun x => x.2.handleName?.isNone) = l.map entry := by
  rw [List.filter_eq_self]
  intro x hx
  obtain ⟨c, _, rfl⟩ := List.mem_map.1 hx
  rw [h_entry]; rfl
theorem laid_errs {L : List (String × DataW Unit)} {l : List Nat} {W : World} (e : L = ("errors.errorType", hdat) :: l.map entry) (h : laidMetH Tryz.prog L W) : laidMet Tryz.prog (l.map entry) W ∧ Hand W := by
  subst e
  have hs : (("errors.errorType", hdat) :: l.map entry).filter (fun x => x.2.handleName?.isSome) = [("errors.errorType", hdat)] := by
    rw [List.filter_cons_of_pos (by rfl), f_none]
  have hn : (("errors.errorType", hdat) :: l.map entry).filter (fun x => x.2.handleName?.isNone) = l.map entry := by
    rw [List.filter_cons_of_neg (by simp [hdat, DataW.handleName?]), f_all]
  unfold laidMetH at h
  rw [hs] at h
  simp only [hn] at h
  exact ⟨h.1, hand_of h.2⟩
end Go.Proofs.YtppkeophochgiaaGreatDoor
