/- The library's errors.As at a place's error, by contracts. Conditions: none. -/
import Derived.Test.YtkookaogdkdegabDoorErA
namespace Go.HL
open Go Go.Proofs Go.RowKit Go.Extern.Stop Go.Stop Go.Extern
set_option linter.unusedVariables false
set_option linter.unusedSimpArgs false

def valE : Array Value → Sem Value := fun args => ReflectliteValue.unpack (args.getD 0 (.tuple #[]))
def typE : Array Value → Sem Value := ReflectliteValue.methodAny (ReflectliteValue.valueError "reflectlite.Value.Type" 0) fun t _ _ _ => ReflectliteType.toType t
def rnlE : Array Value → Sem Value := ReflectliteValue.method (ReflectliteValue.valueError "reflectlite.Value.IsNil" 0) ReflectliteValue.isNil
def elmE : Array Value → Sem Value := ReflectliteValue.method (ReflectliteValue.valueError "reflectlite.Value.Elem" 0) ReflectliteValue.elem
def setE : Array Value → Sem Value := ReflectliteValue.set
def kndE : Array Value → Sem Value := ReflectliteType.abiMethod fun t => do pure (.int .u8 (← Rtype.kind t))
def telE : Array Value → Sem Value := ReflectliteType.method ReflectliteType.elem
def impE : Array Value → Sem Value := ReflectliteType.relation "Implements" ReflectliteType.implements_
def asgE : Array Value → Sem Value := ReflectliteType.relation "AssignableTo" ReflectliteType.assignableTo
def hT (t : Nat) : Value := .pointer (some ⟨10, t, none⟩)
theorem as_vF (t : Addr) (w : World) : (valE #[.iface 192 (.pointer (some t))]).run Tryd.prog w = .ok (.agg #[.pointer (some ⟨10, 192, none⟩), .pointer (some ⟨w.heap.size, 0, none⟩), .int .u64 150]) (w.alloc (.cells #[.pointer (some t)] 192)) := by kernel_rfl
theorem as_tF (a : Addr) (w : World) : (typE #[.agg #[.pointer (some ⟨10, 192, none⟩), .pointer (some a), .int .u64 150]]).run Tryd.prog w = .ok (.iface 241 (.agg #[.pointer (some ⟨10, 192, none⟩)])) w := by kernel_rfl
theorem as_mKind (h : Value) (w : World) : (Go.method 398 241 (.agg #[h]) "Kind").run Tryd.prog w = .ok (195, h) w := by kernel_rfl
theorem as_kFF (w : World) : (kndE #[.pointer (some ⟨10, 192, none⟩)]).run Tryd.prog w = .ok (.int .u8 22) w := by kernel_rfl
theorem as_kF (w : World) : (kndE #[.pointer (some ⟨10, 144, none⟩)]).run Tryd.prog w = .ok (.int .u8 22) w := by kernel_rfl
theorem rlm (z : Sem Value) (f : TypeId → Addr → Nat → Nat → Sem Value) (v : Value) :
    ReflectliteValue.method z f #[v] = (do match ← ReflectliteValue.parts v with | none => z | some (t, a, fl) => f t a fl (fl % 32)) := rfl
theorem as_pFF (a : Addr) (w : World) : (ReflectliteValue.parts (.agg #[.pointer (some ⟨10, 192, none⟩), .pointer (some a), .int .u64 150])).run Tryd.prog w = .ok (some (192, a, 150)) w := by kernel_rfl
theorem as_isNil (a p : Addr) (W : World) (ha : W.cell? a = some (.pointer (some p))) :
    (rnlE #[.agg #[.pointer (some ⟨10, 192, none⟩), .pointer (some a), .int .u64 150]]).run Tryd.prog W = .ok (.bool false) W := by
  unfold rnlE
  rw [rlm]
  simp only [Sem.run_bind, as_pFF, Result.andThen]
  simp [ReflectliteValue.isNil, loadVar, isAgg, underlying, Tryd.underlying192, ha, Result.andThen]
theorem as_mElem (h : Value) (w : World) : (Go.method 398 241 (.agg #[h]) "Elem").run Tryd.prog w = .ok (207, .agg #[h]) w := by kernel_rfl
theorem as_mImpl (h : Value) (w : World) : (Go.method 398 241 (.agg #[h]) "Implements").run Tryd.prog w = .ok (208, .agg #[h]) w := by kernel_rfl
theorem as_mAsgn (h : Value) (w : World) : (Go.method 398 241 (.agg #[h]) "AssignableTo").run Tryd.prog w = .ok (205, .agg #[h]) w := by kernel_rfl
theorem as_elem (w : World) : (telE #[.agg #[.pointer (some ⟨10, 192, none⟩)]]).run Tryd.prog w = .ok (.iface 241 (.agg #[.pointer (some ⟨10, 144, none⟩)])) w := by kernel_rfl
theorem as_impl (w : World) : (impE #[.agg #[.pointer (some ⟨10, 144, none⟩)], .iface 241 (.agg #[.pointer (some ⟨10, 37, none⟩)])]).run Tryd.prog w = .ok (.bool true) w := by kernel_rfl
theorem as_typeF (v : Value) (w : World) : (ReflectliteType.typeOf #[.iface 144 v]).run Tryd.prog w = .ok (.iface 241 (.agg #[.pointer (some ⟨10, 144, none⟩)])) w := by kernel_rfl
theorem as_asgnF (w : World) : (asgE #[.agg #[.pointer (some ⟨10, 144, none⟩)], .iface 241 (.agg #[.pointer (some ⟨10, 144, none⟩)])]).run Tryd.prog w = .ok (.bool true) w := by kernel_rfl
theorem as_asgnE (w : World) : (asgE #[.agg #[.pointer (some ⟨10, 267, none⟩)], .iface 241 (.agg #[.pointer (some ⟨10, 144, none⟩)])]).run Tryd.prog w = .ok (.bool false) w := by kernel_rfl
theorem as_valF (e : Addr) (w : World) : (valE #[.iface 144 (.pointer (some e))]).run Tryd.prog w
    = .ok (.agg #[.pointer (some ⟨10, 144, none⟩), .pointer (some ⟨w.heap.size, 0, none⟩), .int .u64 150]) (w.alloc (.cells #[.pointer (some e)] 144)) := by kernel_rfl
theorem as_elemOf (w : World) : (Rtype.elem? 192).run Tryd.prog w = .ok (some 144) w := by kernel_rfl
theorem as_mk (p : Addr) (w : World) : (ReflectliteValue.mk 144 p ReflectliteValue.flagAddr).run Tryd.prog w = .ok (.agg #[.pointer (some ⟨10, 144, none⟩), .pointer (some p), .int .u64 406]) w := by kernel_rfl
theorem as_elemV (a p : Addr) (W : World) (ha : W.cell? a = some (.pointer (some p))) :
    (elmE #[.agg #[.pointer (some ⟨10, 192, none⟩), .pointer (some a), .int .u64 150]]).run Tryd.prog W = .ok (.agg #[.pointer (some ⟨10, 144, none⟩), .pointer (some p), .int .u64 406]) W := by
  unfold elmE
  rw [rlm]
  simp only [Sem.run_bind, as_pFF, Result.andThen]
  simp [ReflectliteValue.elem, loadVar, isAgg, underlying, Tryd.underlying192, ha, Result.andThen, as_elemOf, as_mk]
theorem rls (v x : Value) : ReflectliteValue.set #[v, x] = (do
    let (some (dst, a, fl), some (src, b, _)) := (← ReflectliteValue.parts v, ← ReflectliteValue.parts x)
      | unsupported (.noEntry "extern/(internal/reflectlite.Value).Set.zeroValue")
    if fl / ReflectliteValue.flagAddr % 2 == 0 then unsupported (.noEntry "extern/(internal/reflectlite.Value).Set.unaddressable")
    let val ← loadVar src b
    if ← Rtype.directlyAssignable dst src then storeVar dst a val
    else if ← Rtype.implements dst src then
      if (← Rtype.kind src) == 20 then
        match val with
        | .nilIface => unsupported (.noEntry "extern/reflectlite: a nil value of one interface type handed on as a value of another")
        | _ => storeVar dst a val
      else storeVar dst a (.iface src val)
    else panicString ("reflectlite.Set: value of type " ++ (← Rtype.spelt src) ++ " is not assignable to type " ++ (← Rtype.spelt dst))
    pure (.tuple #[])) := rfl
theorem as_pFa (a : Addr) (w : World) : (ReflectliteValue.parts (.agg #[.pointer (some ⟨10, 144, none⟩), .pointer (some a), .int .u64 406])).run Tryd.prog w = .ok (some (144, a, 406)) w := by kernel_rfl
theorem as_pF (a : Addr) (w : World) : (ReflectliteValue.parts (.agg #[.pointer (some ⟨10, 144, none⟩), .pointer (some a), .int .u64 150])).run Tryd.prog w = .ok (some (144, a, 150)) w := by kernel_rfl
theorem as_direct (w : World) : (Rtype.directlyAssignable 144 144).run Tryd.prog w = .ok true w := by kernel_rfl
theorem as_set (ta b e : Addr) (old : Value) (W : World) (hb : W.cell? b = some (.pointer (some e))) (ht : W.cell? ta = some old) (hf : W.frozen? ta = false) :
    (setE #[.agg #[.pointer (some ⟨10, 144, none⟩), .pointer (some ta), .int .u64 406], .agg #[.pointer (some ⟨10, 144, none⟩), .pointer (some b), .int .u64 150]]).run Tryd.prog W
      = .ok (.tuple #[]) (W.setCell ta (.pointer (some e))) := by
  unfold setE
  rw [rls]
  simp only [Sem.run_bind, as_pFa, as_pF, Result.andThen]
  simp [ReflectliteValue.flagAddr, loadVar, isAgg, underlying, Tryd.underlying144, hb, Result.andThen, as_direct, storeVar, Value.cells, storeCells, Addr.add]
  rw [run_store Tryd.prog W ta _ _ (by rfl)]
  simp [ht, hf]
theorem as_noAsE (v : Value) (xT : TypeId) (w : World) : (Instr.typeAssert (.iface 267 v) xT 245 true).run Tryd.prog w = .ok (.tuple #[.nilIface, .bool false]) w := run_typeAssert_lacksB Tryd.underlying245 (by kernel_rfl) (by kernel_rfl) v xT w
abbrev asV (w : World) (t : Addr) : World := (w.alloc (.cells #[.pointer (some t)] 192)).alloc (.cells #[.pointer (some ⟨10, 192, none⟩), .pointer (some ⟨w.heap.size, 0, none⟩), .int .u64 150] 219)

set_option maxHeartbeats 4000000 in
theorem as_hit (e t : Addr) (old : Value) (w : World) (hg : w.cell? ⟨9, 0, none⟩ = some (.iface 241 (.agg #[.pointer (some ⟨10, 37, none⟩)]))) (ht0 : w.cell? t = some old) (hf0 : w.frozen? t = false) :
    Calls Tryd.prog 129 #[.iface 144 (.pointer (some e)), .iface 192 (.pointer (some t))] w fun ev w' => ev = .returned (.bool true) ∧ w' = (((asV w t).alloc (.cells #[.pointer (some ⟨10, 192, none⟩), .pointer (some ⟨w.heap.size, 0, none⟩), .int .u64 150] 219)).alloc (.cells #[.pointer (some e)] 144)).setCell t (.pointer (some e)) := by
  have x0 := @run_callFunc_extern Tryd.prog 145 _ valE Tryd.func145 (by kernel_rfl) (by kernel_rfl) (by kernel_rfl) (by kernel_rfl)
  have x1 := @run_callFunc_extern Tryd.prog 146 _ typE Tryd.func146 (by kernel_rfl) (by kernel_rfl) (by kernel_rfl) (by kernel_rfl)
  have x2 := @run_callFunc_extern Tryd.prog 147 _ rnlE Tryd.func147 (by kernel_rfl) (by kernel_rfl) (by kernel_rfl) (by kernel_rfl)
  have x3 := @run_callFunc_extern Tryd.prog 195 _ kndE Tryd.func195 (by kernel_rfl) (by kernel_rfl) (by kernel_rfl) (by kernel_rfl)
  have x4 := @run_callFunc_extern Tryd.prog 207 _ telE Tryd.func207 (by kernel_rfl) (by kernel_rfl) (by kernel_rfl) (by kernel_rfl)
  have x5 := @run_callFunc_extern Tryd.prog 208 _ impE Tryd.func208 (by kernel_rfl) (by kernel_rfl) (by kernel_rfl) (by kernel_rfl)
  have x6 := @run_callFunc_extern Tryd.prog 149 _ ReflectliteType.typeOf Tryd.func149 (by kernel_rfl) (by kernel_rfl) (by kernel_rfl) (by kernel_rfl)
  have x7 := @run_callFunc_extern Tryd.prog 205 _ asgE Tryd.func205 (by kernel_rfl) (by kernel_rfl) (by kernel_rfl) (by kernel_rfl)
  have x8 := @run_callFunc_extern Tryd.prog 166 _ elmE Tryd.func166 (by kernel_rfl) (by kernel_rfl) (by kernel_rfl) (by kernel_rfl)
  have x9 := @run_callFunc_extern Tryd.prog 167 _ setE Tryd.func167 (by kernel_rfl) (by kernel_rfl) (by kernel_rfl) (by kernel_rfl)
  have f_as_vF := as_vF
  have f_as_tF := as_tF
  have f_as_mKind := as_mKind
  have f_as_kFF := as_kFF
  have f_as_kF := as_kF
  have f_as_mElem := as_mElem
  have f_as_mImpl := as_mImpl
  have f_as_mAsgn := as_mAsgn
  have f_as_elem := as_elem
  have f_as_impl := as_impl
  have f_as_typeF := as_typeF
  have f_as_asgnF := as_asgnF
  have f_as_asgnE := as_asgnE
  have f_as_valF := as_valF
  have f_is_typeOf := is_typeOf
  have f_as_noAsE := as_noAsE
  have f_is_noUnwrapE := is_noUnwrapE
  have f_is_noUnwrapsE := is_noUnwrapsE
  have n8 := as_isNil ⟨w.heap.size, 0, none⟩ t (asV w t) (by simp [asV])
  have hlt : 9 < w.heap.size := by
    rcases Nat.lt_or_ge 9 w.heap.size with h | h
    · exact h
    · simp [World.cell?, Array.getElem?_eq_none h] at hg
  have hg2 : (asV w t).cell? ⟨9, 0, none⟩ = some (.iface 241 (.agg #[.pointer (some ⟨10, 37, none⟩)])) := by
    unfold asV
    rw [World.cell?_alloc_lt _ _ ⟨9, 0, none⟩ (by simp; omega), World.cell?_alloc_lt _ _ ⟨9, 0, none⟩ hlt]; exact hg
  have htl : t.block < w.heap.size := by
    rcases Nat.lt_or_ge t.block w.heap.size with h | h
    · exact h
    · simp [World.cell?, Array.getElem?_eq_none h] at ht0
  have el := as_elemV ⟨w.heap.size, 0, none⟩ t ((asV w t).alloc (.cells #[.pointer (some ⟨10, 192, none⟩), .pointer (some ⟨w.heap.size, 0, none⟩), .int .u64 150] 219)) (by unfold asV; rw [World.cell?_alloc_lt _ _ ⟨w.heap.size, 0, none⟩ (by simp; omega)]; simp)
  have st := as_set t ⟨w.heap.size + 1 + 1 + 1, 0, none⟩ e old (((asV w t).alloc (.cells #[.pointer (some ⟨10, 192, none⟩), .pointer (some ⟨w.heap.size, 0, none⟩), .int .u64 150] 219)).alloc (.cells #[.pointer (some e)] 144))
    (by unfold asV; rw [World.cell?_alloc_at _ _ _ _ (by simp)]; rfl)
    (by unfold asV; rw [World.cell?_alloc_lt _ _ t (by simp; omega), World.cell?_alloc_lt _ _ t (by simp; omega), World.cell?_alloc_lt _ _ t (by simp; omega), World.cell?_alloc_lt _ _ t htl]; exact ht0)
    (by unfold asV; rw [World.frozen?_alloc_old _ _ t (by simp; omega), World.frozen?_alloc_old _ _ t (by simp; omega), World.frozen?_alloc_old _ _ t (by simp; omega), World.frozen?_alloc_old _ _ t (Nat.ne_of_lt htl)]; exact hf0)
  go_enter Tryd.func129, Tryd.ntmps129
  go_wp2
  refine wp_loop_rounds 1 ?_
  rw [rounds_succ]
  go_wp2
  go_ret
  exact ⟨rfl, rfl⟩
set_option maxHeartbeats 4000000 in
theorem as_miss (e t : Addr) (w : World) (hg : w.cell? ⟨9, 0, none⟩ = some (.iface 241 (.agg #[.pointer (some ⟨10, 37, none⟩)]))) :
    Calls Tryd.prog 129 #[.iface 267 (.pointer (some e)), .iface 192 (.pointer (some t))] w fun ev w' => ev = .returned (.bool false) ∧ w' = (asV w t).alloc (.cells #[.pointer (some ⟨10, 192, none⟩), .pointer (some ⟨w.heap.size, 0, none⟩), .int .u64 150] 219) := by
  have x0 := @run_callFunc_extern Tryd.prog 145 _ valE Tryd.func145 (by kernel_rfl) (by kernel_rfl) (by kernel_rfl) (by kernel_rfl)
  have x1 := @run_callFunc_extern Tryd.prog 146 _ typE Tryd.func146 (by kernel_rfl) (by kernel_rfl) (by kernel_rfl) (by kernel_rfl)
  have x2 := @run_callFunc_extern Tryd.prog 147 _ rnlE Tryd.func147 (by kernel_rfl) (by kernel_rfl) (by kernel_rfl) (by kernel_rfl)
  have x3 := @run_callFunc_extern Tryd.prog 195 _ kndE Tryd.func195 (by kernel_rfl) (by kernel_rfl) (by kernel_rfl) (by kernel_rfl)
  have x4 := @run_callFunc_extern Tryd.prog 207 _ telE Tryd.func207 (by kernel_rfl) (by kernel_rfl) (by kernel_rfl) (by kernel_rfl)
  have x5 := @run_callFunc_extern Tryd.prog 208 _ impE Tryd.func208 (by kernel_rfl) (by kernel_rfl) (by kernel_rfl) (by kernel_rfl)
  have x6 := @run_callFunc_extern Tryd.prog 149 _ ReflectliteType.typeOf Tryd.func149 (by kernel_rfl) (by kernel_rfl) (by kernel_rfl) (by kernel_rfl)
  have x7 := @run_callFunc_extern Tryd.prog 205 _ asgE Tryd.func205 (by kernel_rfl) (by kernel_rfl) (by kernel_rfl) (by kernel_rfl)
  have x8 := @run_callFunc_extern Tryd.prog 166 _ elmE Tryd.func166 (by kernel_rfl) (by kernel_rfl) (by kernel_rfl) (by kernel_rfl)
  have x9 := @run_callFunc_extern Tryd.prog 167 _ setE Tryd.func167 (by kernel_rfl) (by kernel_rfl) (by kernel_rfl) (by kernel_rfl)
  have f_as_vF := as_vF
  have f_as_tF := as_tF
  have f_as_mKind := as_mKind
  have f_as_kFF := as_kFF
  have f_as_kF := as_kF
  have f_as_mElem := as_mElem
  have f_as_mImpl := as_mImpl
  have f_as_mAsgn := as_mAsgn
  have f_as_elem := as_elem
  have f_as_impl := as_impl
  have f_as_typeF := as_typeF
  have f_as_asgnF := as_asgnF
  have f_as_asgnE := as_asgnE
  have f_as_valF := as_valF
  have f_is_typeOf := is_typeOf
  have f_as_noAsE := as_noAsE
  have f_is_noUnwrapE := is_noUnwrapE
  have f_is_noUnwrapsE := is_noUnwrapsE
  have n8 := as_isNil ⟨w.heap.size, 0, none⟩ t (asV w t) (by simp [asV])
  have hlt : 9 < w.heap.size := by
    rcases Nat.lt_or_ge 9 w.heap.size with h | h
    · exact h
    · simp [World.cell?, Array.getElem?_eq_none h] at hg
  have hg2 : (asV w t).cell? ⟨9, 0, none⟩ = some (.iface 241 (.agg #[.pointer (some ⟨10, 37, none⟩)])) := by
    unfold asV
    rw [World.cell?_alloc_lt _ _ ⟨9, 0, none⟩ (by simp; omega), World.cell?_alloc_lt _ _ ⟨9, 0, none⟩ hlt]; exact hg
  go_enter Tryd.func129, Tryd.ntmps129
  go_wp2
  refine wp_loop_rounds 1 ?_
  rw [rounds_succ]
  go_wp2
  go_ret
  exact ⟨rfl, rfl⟩
end Go.HL
