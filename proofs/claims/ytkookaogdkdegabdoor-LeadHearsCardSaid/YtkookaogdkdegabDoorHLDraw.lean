/- The heap logic: a region that draws its order and only reads. No program in sight. Conditions: none. -/
import Derived.Test.YtkookaogdkdegabDoorHLWrite
namespace Go.HL
open Go
set_option linter.unusedVariables false
set_option linter.unusedSimpArgs false

section draw
variable {P : Program} {n : Nat} {ops : List Oper} {K : Env → Prop} {rest : List Oper} {o : Oper} {ρ : Env} {L : Heap}

/-- the operations in the text's order, each of them quiet -/
def HQ (P : Program) (n : Nat) (ops : List Oper) (K : Env → Prop) (l : List Oper) (ρ : Env) (L : Heap) : Prop :=
  ∀ k a, Agr n a ρ → wpQuiet P ops.toArray (fun w => Sat k w L) (fun a' => ∃ ρ', Agr n a' ρ' ∧ K ρ') l a
theorem hq_nil (h : K ρ) : HQ P n ops K [] ρ L := fun k a ha => ⟨ρ, ha, h⟩
theorem hq_q {v : Value} {d : Nat} {op : Op} {ty : TypeId} {pos : String} {af : Array Edge} (hn : Nat.blt d n = true) (h : QOp P ⟨some d, op, ty, pos, af, none⟩ ρ L v) (hr : HQ P n ops K rest ((d, v) :: ρ) L) :
    HQ P n ops K (⟨some d, op, ty, pos, af, none⟩ :: rest) ρ L := by
  have hg : (Oper.mk (some d) op ty pos af none).guard = none := rfl
  intro k a ha
  have hlt : d < n := Nat.le_of_ble_eq_true hn
  unfold wpQuiet
  rw [if_pos (wanted_none _ hg _)]
  refine ⟨v, fun w hs => h k a (fun x _ u hu => ha.ev hu) w hs, ?_⟩
  exact hr k _ (ha.put hlt v)
theorem hq_want {v : Value} {d j t : Nat} {wt : Bool} {op : Op} {ty : TypeId} {pos : String} {af : Array Edge} (hn : Nat.blt d n = true) (hj : gdst ops j = some t) (ht : lk ρ t = some (.bool wt)) (h : QOp P ⟨some d, op, ty, pos, af, some (j, wt)⟩ ρ L v)
    (hr : HQ P n ops K rest ((d, v) :: ρ) L) : HQ P n ops K (⟨some d, op, ty, pos, af, some (j, wt)⟩ :: rest) ρ L := by
  have hg : (Oper.mk (some d) op ty pos af (some (j, wt))).guard = some (j, wt) := rfl
  intro k a ha
  have hlt : d < n := Nat.le_of_ble_eq_true hn
  unfold wpQuiet
  rw [if_pos (by rw [wanted_guard ha hg hj ht]; simp)]
  refine ⟨v, fun w hs => h k a (fun x _ u hu => ha.ev hu) w hs, ?_⟩
  exact hr k _ (ha.put hlt v)
theorem hq_skip {d j t : Nat} {wt b : Bool} {op : Op} {ty : TypeId} {pos : String} {af : Array Edge} (hn : Nat.blt d n = true) (hj : gdst ops j = some t) (ht : lk ρ t = some (.bool b)) (hb : (!wt) = b)
    (hr : HQ P n ops K rest ((d, undef) :: ρ) L) : HQ P n ops K (⟨some d, op, ty, pos, af, some (j, wt)⟩ :: rest) ρ L := by
  subst hb
  have hg : (Oper.mk (some d) op ty pos af (some (j, wt))).guard = some (j, wt) := rfl
  intro k a ha
  have hlt : d < n := Nat.le_of_ble_eq_true hn
  unfold wpQuiet
  rw [if_neg (by rw [wanted_guard ha hg hj ht]; cases wt <;> simp)]
  exact hr k _ (ha.put hlt undef)
theorem hq_split {l : List Oper} (t : Nat) {p : Prop} [Decidable p] (ht : lk ρ t = some (.bool (decide p))) (h1 : p → HQ P n ops K l ((t, .bool true) :: ρ) L) (h0 : ¬ p → HQ P n ops K l ((t, .bool false) :: ρ) L) : HQ P n ops K l ρ L := by
  intro k a ha
  by_cases hp : p
  · exact h1 hp k a (ha.name ht (decide_eq_true hp))
  · exact h0 hp k a (ha.name ht (decide_eq_false hp))
theorem hq_splitb {l : List Oper} (t : Nat) {b : Bool} (ht : lk ρ t = some (.bool b)) (h1 : b = true → HQ P n ops K l ((t, .bool true) :: ρ) L) (h0 : b = false → HQ P n ops K l ((t, .bool false) :: ρ) L) : HQ P n ops K l ρ L := by
  intro k a ha
  cases hb : b with
  | true => exact h1 hb k a (ha.name ht hb)
  | false => exact h0 hb k a (ha.name ht hb)
theorem hq_want1 {v : Value} {d j t : Nat} {b : Bool} {op : Op} {ty : TypeId} {pos : String} {af : Array Edge} (hj : gdst ops j = some t) (ht : lk ρ t = some (.bool b)) (hb : b = true) (hn : Nat.blt d n = true) (h : QOp P ⟨some d, op, ty, pos, af, some (j, true)⟩ ρ L v)
    (hr : HQ P n ops K rest ((d, v) :: ρ) L) : HQ P n ops K (⟨some d, op, ty, pos, af, some (j, true)⟩ :: rest) ρ L := hq_want hn hj (hb ▸ ht) h hr
theorem hq_want0 {v : Value} {d j t : Nat} {b : Bool} {op : Op} {ty : TypeId} {pos : String} {af : Array Edge} (hj : gdst ops j = some t) (ht : lk ρ t = some (.bool b)) (hb : b = false) (hn : Nat.blt d n = true) (h : QOp P ⟨some d, op, ty, pos, af, some (j, false)⟩ ρ L v)
    (hr : HQ P n ops K rest ((d, v) :: ρ) L) : HQ P n ops K (⟨some d, op, ty, pos, af, some (j, false)⟩ :: rest) ρ L := hq_want hn hj (hb ▸ ht) h hr
theorem hq_skip1 {d j t : Nat} {b : Bool} {op : Op} {ty : TypeId} {pos : String} {af : Array Edge} (hj : gdst ops j = some t) (ht : lk ρ t = some (.bool b)) (hb : b = false) (hn : Nat.blt d n = true)
    (hr : HQ P n ops K rest ((d, undef) :: ρ) L) : HQ P n ops K (⟨some d, op, ty, pos, af, some (j, true)⟩ :: rest) ρ L := hq_skip hn hj ht hb.symm hr
theorem hq_skip0 {d j t : Nat} {b : Bool} {op : Op} {ty : TypeId} {pos : String} {af : Array Edge} (hj : gdst ops j = some t) (ht : lk ρ t = some (.bool b)) (hb : b = true) (hn : Nat.blt d n = true)
    (hr : HQ P n ops K rest ((d, undef) :: ρ) L) : HQ P n ops K (⟨some d, op, ty, pos, af, some (j, false)⟩ :: rest) ρ L := hq_skip hn hj ht hb.symm hr
theorem hq_skipu {d j t : Nat} {wt : Bool} {v : Value} {op : Op} {ty : TypeId} {pos : String} {af : Array Edge} (hj : gdst ops j = some t) (ht : lk ρ t = some v) (hb : v = undef) (hn : Nat.blt d n = true)
    (hr : HQ P n ops K rest ((d, undef) :: ρ) L) : HQ P n ops K (⟨some d, op, ty, pos, af, some (j, wt)⟩ :: rest) ρ L := by
  subst hb
  intro k a ha
  have hlt : d < n := Nat.le_of_ble_eq_true hn
  unfold wpQuiet
  have hw : Region.wanted (Oper.mk (some d) op ty pos af (some (j, wt))) (yielded ops.toArray a.tmps) = false := by
    unfold gdst at hj
    simp [Region.wanted, yielded, hj, ha.get _ _ ht, undef]
  rw [if_neg (by rw [hw]; simp)]
  exact hr k _ (ha.put hlt undef)
theorem hq_gsplit {d j t : Nat} {wt : Bool} {op : Op} {ty : TypeId} {pos : String} {af : Array Edge} {b : Bool} (hj : gdst ops j = some t) (ht : lk ρ t = some (.bool b))
    (h1 : b = true → HQ P n ops K (⟨some d, op, ty, pos, af, some (j, wt)⟩ :: rest) ((t, .bool true) :: ρ) L) (h0 : b = false → HQ P n ops K (⟨some d, op, ty, pos, af, some (j, wt)⟩ :: rest) ((t, .bool false) :: ρ) L) :
    HQ P n ops K (⟨some d, op, ty, pos, af, some (j, wt)⟩ :: rest) ρ L := hq_splitb t ht h1 h0
theorem wpQuiet_mono' {P : Program} {ops : Array Oper} {C : World → Prop} {Q Q' : Act → Prop} (hq : ∀ a, Q a → Q' a) : ∀ (l : List Oper) (a : Act), wpQuiet P ops C Q l a → wpQuiet P ops C Q' l a
  | [], a, h => hq a h
  | o :: l, a, h => by
    unfold wpQuiet at *
    split
    · rename_i hw
      rw [if_pos hw] at h
      exact Oper.quiet_mono (fun a' h' => wpQuiet_mono' hq l a' h') h
    · rename_i hw
      rw [if_neg hw] at h
      exact wpQuiet_mono' hq l _ h
/-- a region that draws its order: all of it only reads -/
theorem hw_quiet {id : Nat} {Q : Exit → Env → Heap → Prop} (S : Tab P) (hB : Region.lexB .any ops.toArray = true) (h : HQ P n ops (fun ρ' => Q .normal ρ' L) ops ρ L) : HW P n (.region id ops.toArray true) Q ρ L := by
  intro k w a hs ha
  refine wp_region_quiet (C := fun w => Sat k w L) S.mixed hB hs.drew ?_
  exact wpQuiet_mono' (fun a' ⟨ρ', h1, h2⟩ w' hs' => ⟨ρ', L, h1, hs', h2⟩) _ _ (h k a ha)
end draw
end Go.HL
