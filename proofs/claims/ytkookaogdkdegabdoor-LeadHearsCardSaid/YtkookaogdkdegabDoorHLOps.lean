/- The heap logic: the operations that read. No program in sight. Conditions: none. -/
import Derived.Test.YtkookaogdkdegabDoorHL
namespace Go.HL
open Go
set_option linter.unusedVariables false
set_option linter.unusedSimpArgs false

/-! ### the types that a program has, as numbers -/
structure TyI where
  kind : Nat   -- 0 other, 1 bool, 2 int, 3 string, 4 pointer, 5 slice, 6 array, 7 struct, 8 map, 9 interface, 10 func
  x : Nat
  y : Nat
  size : Nat
  bytes : Nat
  deriving DecidableEq

def kindNo : IntKind → Nat
  | .i8 => 0 | .i16 => 1 | .i32 => 2 | .i64 => 3 | .u8 => 4 | .u16 => 5 | .u32 => 6 | .u64 => 7
def kindOf : Nat → IntKind
  | 0 => .i8 | 1 => .i16 | 2 => .i32 | 3 => .i64 | 4 => .u8 | 5 => .u16 | 6 => .u32 | _ => .u64
theorem kindOf_no (k : IntKind) : kindOf (kindNo k) = k := by cases k <;> rfl

def descI : TypeDesc → Nat × Nat × Nat
  | .bool => (1, 0, 0)
  | .int k => (2, kindNo k, 0)
  | .string => (3, 0, 0)
  | .pointer e => (4, e, 0)
  | .slice e => (5, e, 0)
  | .array n e => (6, n, e)
  | .struct fs => (7, fs.size, 0)
  | .map k e => (8, k, e)
  | .interface ms => (9, ms.size, 0)
  | .func ps rs _ => (10, ps.size, rs.size)
  | _ => (0, 0, 0)
def tyI (P : Program) (t : Nat) : Option TyI :=
  match P.underlying t, P.info? t with
  | some d, some i => some ⟨(descI d).1, (descI d).2.1, (descI d).2.2, i.size, i.bytes⟩
  | _, _ => none
/-- the offset of a field of a struct, if it has a size -/
def fldI (P : Program) (s f : Nat) : Option Nat :=
  match P.underlying s with
  | some (.struct fs) => match fs[f]? with
    | some fd => match P.info? fd.type with
      | some i => if i.size = 0 then none else some fd.offset
      | none => none
    | none => none
  | _ => none
/-- of a field: offset, its size, is it a struct or an array -/
def fldT (P : Program) (s f : Nat) : Option (Nat × Nat) :=
  match P.underlying s with
  | some (.struct fs) => match fs[f]? with
    | some fd => some (fd.offset, fd.type)
    | none => none
  | _ => none
/-- a struct's fields: offset, size, type -/
def stI (P : Program) (t : Nat) : Option (List (Nat × Nat × Nat)) :=
  match P.underlying t with
  | some (.struct fs) => fs.toList.mapM fun f => (P.info? f.type).map fun i => (f.offset, i.size, f.type)
  | _ => none
def zeroI (P : Program) (t : Nat) : Option Value := (P.info? t).bind (·.zero)

def lkN {α : Type} : List (Nat × α) → Nat → Option α
  | [], _ => none
  | (t, v) :: r, x => bif Nat.beq t x then some v else lkN r x
theorem lkN_mem {α : Type} {l : List (Nat × α)} {x : Nat} {v : α} (h : lkN l x = some v) : (x, v) ∈ l := by
  induction l with
  | nil => simp [lkN] at h
  | cons p r ih =>
    obtain ⟨t, u⟩ := p
    simp only [lkN] at h
    cases hb : Nat.beq t x with
    | true =>
      rw [hb] at h
      cases h
      have := Nat.eq_of_beq_eq_true hb
      subst this
      exact .head _
    | false => rw [hb] at h; exact .tail _ (ih h)

/-- the plain parts of a type: 1 bool, 2 int, 3 text -/
def flatFs (g : Nat → Option (List Nat)) : List Field → Nat → Option (List Nat)
  | [], _ => some []
  | f :: r, off => match g f.type with
    | some l => if f.name ≠ "_" ∧ f.offset = off ∧ 0 < l.length then (match flatFs g r (off + l.length) with
      | some m => some (l ++ m)
      | none => none) else none
    | none => none
def flatT (P : Program) : Nat → Nat → Option (List Nat)
  | 0, _ => none
  | d + 1, t => match P.underlying t, P.info? t with
    | some .bool, some i => if i.size = 1 then some [1] else none
    | some (.int _), some i => if i.size = 1 then some [2] else none
    | some .string, some i => if i.size = 1 then some [3] else none
    | some (.struct fs), some i => if P.stoodInHeld t = true then none else (match flatFs (flatT P d) fs.toList 0 with
      | some l => if i.size = l.length then some l else none
      | none => none)
    | some (.array n e), some i => (match flatT P d e with
      | some l => if i.size = n * l.length ∧ (P.info? e).map (·.size) = some l.length ∧ 0 < l.length then some (List.replicate n l).flatten else none
      | none => none)
    | _, _ => none
def isA (P : Program) (t : Nat) : Bool := match P.underlying t with
  | some (.struct _) => true
  | some (.array _ _) => true
  | _ => false
structure Tab (P : Program) where
  ty : List (Nat × TyI)
  fl : List (Nat × Nat × Nat)
  zr : List (Nat × Value)
  st : List (Nat × List (Nat × Nat × Nat))
  eq : List (Nat × List Nat)
  ty_ok : (ty.all fun p => decide (tyI P p.1 = some p.2)) = true
  fl_ok : (fl.all fun p => decide (fldI P (p.1 / 64) (p.1 % 64) = some p.2.1) && decide (fldT P (p.1 / 64) (p.1 % 64) = some p.2)) = true
  zr_ok : ∀ p ∈ zr, zeroI P p.1 = some p.2
  st_ok : (st.all fun p => decide (stI P p.1 = some p.2)) = true
  eq_ok : (eq.all fun p => decide (flatT P 8 p.1 = some p.2) && isA P p.1 && !(P.eqGuardType P.depth p.1)) = true
  mixed : P.follows .mixedOrders = true

section tab
variable {P : Program} (S : Tab P)
theorem Tab.tyI {t : Nat} {i : TyI} (h : lkN S.ty t = some i) : HL.tyI P t = some i := by
  have := List.all_eq_true.1 S.ty_ok _ (lkN_mem h)
  exact of_decide_eq_true this
theorem Tab.fldI {s f o ft : Nat} (h : lkN S.fl (s * 64 + f) = some (o, ft)) (hf : Nat.blt f 64 = true) : HL.fldI P s f = some o ∧ HL.fldT P s f = some (o, ft) := by
  have hf' : f < 64 := Nat.le_of_ble_eq_true hf
  have := List.all_eq_true.1 S.fl_ok _ (lkN_mem h)
  simp only [Bool.and_eq_true, decide_eq_true_eq] at this
  have e1 : (s * 64 + f) / 64 = s := by omega
  have e2 : (s * 64 + f) % 64 = f := by omega
  rw [e1, e2] at this
  exact this
theorem Tab.stI {t : Nat} {i : List (Nat × Nat × Nat)} (h : lkN S.st t = some i) : HL.stI P t = some i := by
  have := List.all_eq_true.1 S.st_ok _ (lkN_mem h)
  exact of_decide_eq_true this
theorem Tab.zeroI {t : Nat} {v : Value} (h : lkN S.zr t = some v) : HL.zeroI P t = some v := S.zr_ok _ (lkN_mem h)
end tab

section tyfacts
variable {P : Program} {t : Nat} {i : TyI}
theorem ty_desc (h : tyI P t = some i) : ∃ d j, P.underlying t = some d ∧ P.info? t = some j ∧ descI d = (i.kind, i.x, i.y) ∧ j.size = i.size ∧ j.bytes = i.bytes := by
  unfold tyI at h
  split at h
  · rename_i d j hd hj
    cases h
    exact ⟨d, j, hd, hj, rfl, rfl, rfl⟩
  · cases h
theorem ty_size (h : tyI P t = some i) (w : World) : (sizeOf t).run P w = .ok i.size w := by
  obtain ⟨d, j, hd, hj, _, hs, _⟩ := ty_desc h
  simp [sizeOf, typeInfo, hj, hs]
theorem ty_agg_no (h : tyI P t = some i) (hk : Nat.beq i.kind 6 = false) (hk' : Nat.beq i.kind 7 = false) (w : World) : (isAgg t).run P w = .ok false w := by
  obtain ⟨d, j, hd, hj, he, hs, _⟩ := ty_desc h
  have k6 : i.kind ≠ 6 := fun e => by rw [e] at hk; cases hk
  have k7 : i.kind ≠ 7 := fun e => by rw [e] at hk'; cases hk'
  cases d <;> simp [isAgg, run_underlying hd] <;> simp [descI] at he <;> omega
theorem ty_agg (h : tyI P t = some i) (hk : (Nat.beq i.kind 6 || Nat.beq i.kind 7) = true) (w : World) : (isAgg t).run P w = .ok true w := by
  obtain ⟨d, j, hd, hj, he, hs, _⟩ := ty_desc h
  have k : i.kind = 6 ∨ i.kind = 7 := by
    simp only [Bool.or_eq_true] at hk
    exact hk.imp Nat.eq_of_beq_eq_true Nat.eq_of_beq_eq_true
  cases d <;> simp [isAgg, run_underlying hd] <;> simp [descI] at he <;> omega
theorem ty_int (h : tyI P t = some i) (hk : i.kind = 2) : P.underlying t = some (.int (kindOf i.x)) := by
  obtain ⟨d, j, hd, hj, he, hs, _⟩ := ty_desc h
  rw [hd]
  cases d <;> simp [descI, hk] at he
  rw [← he.1, kindOf_no]
theorem ty_bool (h : tyI P t = some i) (hk : i.kind = 1) : P.underlying t = some .bool := by
  obtain ⟨d, j, hd, hj, he, hs, _⟩ := ty_desc h
  rw [hd]
  cases d <;> simp [descI, hk] at he
  rfl
theorem ty_string (h : tyI P t = some i) (hk : i.kind = 3) : P.underlying t = some .string := by
  obtain ⟨d, j, hd, hj, he, hs, _⟩ := ty_desc h
  rw [hd]
  cases d <;> simp [descI, hk] at he
  rfl
theorem ty_pointer (h : tyI P t = some i) (hk : i.kind = 4) : P.underlying t = some (.pointer i.x) := by
  obtain ⟨d, j, hd, hj, he, hs, _⟩ := ty_desc h
  rw [hd]
  cases d <;> simp [descI, hk] at he
  rw [he.1]
theorem ty_slice (h : tyI P t = some i) (hk : i.kind = 5) : P.underlying t = some (.slice i.x) := by
  obtain ⟨d, j, hd, hj, he, hs, _⟩ := ty_desc h
  rw [hd]
  cases d <;> simp [descI, hk] at he
  rw [he.1]
theorem ty_array (h : tyI P t = some i) (hk : i.kind = 6) : P.underlying t = some (.array i.x i.y) := by
  obtain ⟨d, j, hd, hj, he, hs, _⟩ := ty_desc h
  rw [hd]
  cases d <;> simp [descI, hk] at he
  rw [he.1, he.2]
theorem ty_map (h : tyI P t = some i) (hk : i.kind = 8) : P.underlying t = some (.map i.x i.y) := by
  obtain ⟨d, j, hd, hj, he, hs, _⟩ := ty_desc h
  rw [hd]
  cases d <;> simp [descI, hk] at he
  rw [he.1, he.2]
theorem ty_isSome (h : tyI P t = some i) : (P.underlying t).isSome = true := by
  obtain ⟨d, j, hd, hj, he, hs, _⟩ := ty_desc h
  simp [hd]
theorem zero_run {v : Value} (h : zeroI P t = some v) (w : World) : (zeroValue t).run P w = .ok v w := by
  unfold zeroI at h
  cases hj : P.info? t with
  | none => simp [hj] at h
  | some j =>
    simp [hj] at h
    simp [zeroValue, typeInfo, hj, h]
end tyfacts

/-! ### blocks -/
def Has (L : Heap) (b : Nat) (o : Obj) : Prop := (b, o) ∈ L.flatten
theorem has_here {b : Nat} {o : Obj} {c : List Blk} {L : Heap} : Has (((b, o) :: c) :: L) b o := by simp [Has]
theorem has_in {b : Nat} {o : Obj} {e : Blk} {c : List Blk} {L : Heap} (h : Has (c :: L) b o) : Has ((e :: c) :: L) b o := by
  simp only [Has, List.flatten_cons, List.cons_append, List.mem_cons] at *
  exact .inr h
theorem has_next {b : Nat} {o : Obj} {c : List Blk} {L : Heap} (h : Has L b o) : Has (c :: L) b o := by
  simp only [Has, List.flatten_cons, List.mem_append] at *
  exact .inr h
theorem has_mem {b : Nat} {o : Obj} {c : List Blk} {L : Heap} (h : (b, o) ∈ c) : Has (c :: L) b o := by
  simp only [Has, List.flatten_cons, List.mem_append]
  exact .inl h
theorem Sat.heap {k : Ctx} {w : World} {L : Heap} (h : Sat k w L) {b : Nat} {o : Obj} (hb : Has L b o) : w.heap[b]? = some o := h.has _ hb
theorem Sat.cell {k : Ctx} {w : World} {L : Heap} (h : Sat k w L) {b : Nat} {l : List Value} {E : Nat} {fr : Nat × Nat} (hb : Has L b (.cells ⟨l⟩ E fr)) (j : Nat) : w.cell? ⟨b, j, none⟩ = l[j]? := by
  rw [cell_of_row w b j ⟨l⟩ E fr (h.heap hb)]
  simp

/-- some cells in a row -/
def Gets (l : List Value) (i : Nat) (vs : List Value) : Prop := ∀ j v, vs[j]? = some v → l[i + j]? = some v
theorem gets1 {l : List Value} {i : Nat} {a : Value} (h : l[i]? = some a) : Gets l i [a] := by
  intro j v hj
  match j with
  | 0 => simp at hj; subst hj; simpa using h
  | j + 1 => simp at hj
theorem gets_cons {l : List Value} {i : Nat} {a : Value} {vs : List Value} (h : l[i]? = some a) (h2 : Gets l (i + 1) vs) : Gets l i (a :: vs) := by
  intro j v hj
  match j with
  | 0 => simp at hj; subst hj; simpa using h
  | j + 1 =>
    have := h2 j v (by simpa using hj)
    rw [show i + (j + 1) = i + 1 + j by omega]
    exact this
theorem gets_nil {l : List Value} {i : Nat} : Gets l i [] := by intro j v hj; simp at hj

theorem addr_add (b i n : Nat) : (Addr.mk b i none).add n = ⟨b, i + n, none⟩ := by
  unfold Addr.add
  split
  · rename_i h; subst h; rfl
  · rfl
theorem load_cells {P : Program} {k : Ctx} {w : World} {L : Heap} (hs : Sat k w L) {b i E : Nat} {l vs : List Value} {fr : Nat × Nat} (hb : Has L b (.cells ⟨l⟩ E fr)) (hg : Gets l i vs) :
    (loadCells ⟨b, i, none⟩ vs.length).run P w = .ok ⟨vs⟩ w := by
  have := run_loadCells_list (P := P) w ⟨b, i, none⟩ vs (fun j v hj => by rw [addr_add, hs.cell hb]; exact hg j v hj)
  simpa using this

/-! ### an operation that yields one value and leaves the blocks as they are -/
def QOp (P : Program) (o : Oper) (ρ : Env) (L : Heap) (v : Value) : Prop :=
  ∀ k a, (∀ x ∈ o.op.operands, ∀ u, ev ρ x = some u → a.eval x = u) → ∀ w, Sat k w L → o.quietAt P a (fun w' => Sat k w' L) w v

section rules
variable {P : Program} {n : Nat} {ops : List Oper} {Q : Exit → Env → Heap → Prop} {rest : List Oper} {o : Oper} {ρ : Env} {L : Heap}

theorem wanted_none (o : Oper) (h : o.guard = none) (y : Nat → Option Bool) : Region.wanted o y = true := by simp [Region.wanted, h]
theorem ho_nil (h : Q .normal ρ L) : HO P n ops Q [] ρ L := fun k w a hs ha => ⟨ρ, L, ha, hs, h⟩
theorem quiet_wp {k : Ctx} {w : World} {a : Act} {v : Value} {K : Act → World → Prop} {Q' : Exit → Act → World → Prop} (hs : Sat k w L) (h : o.quietAt P a (fun w' => Sat k w' L) w v)
    (hK : ∀ w', Sat k w' L → K (a.put o.dst v) w') : o.wp P a w K Q' := by
  unfold Oper.quietAt at h
  unfold Oper.wp
  generalize (execOp a.eval o).run P w = r at *
  cases r with
  | ok nx w' =>
    cases nx <;> simp only [Oper.quietUpon] at h <;> simp only [Oper.upon]
    case value u =>
      obtain ⟨e1, e2⟩ := h
      rw [e1, e2]
      exact hK _ hs
    case skip =>
      obtain ⟨e1, e2⟩ := h
      rw [e1, ← e2]
      exact hK _ hs
    case enter f args =>
      obtain ⟨e1, hc⟩ := h
      rw [e1]
      exact hc.mono fun e w'' ⟨he, hw''⟩ => by subst he; exact hK _ hw''
  | halt x w' => simp only [Oper.quietUpon] at h

theorem ho_q {v : Value} {d : Nat} {op : Op} {ty : TypeId} {pos : String} {af : Array Edge} (hn : Nat.blt d n = true) (h : QOp P ⟨some d, op, ty, pos, af, none⟩ ρ L v) (hr : HO P n ops Q rest ((d, v) :: ρ) L) :
    HO P n ops Q (⟨some d, op, ty, pos, af, none⟩ :: rest) ρ L := by
  have hg : (Oper.mk (some d) op ty pos af none).guard = none := rfl
  intro k w a hs ha
  have hlt : d < n := Nat.le_of_ble_eq_true hn
  unfold wpList
  rw [if_pos (wanted_none _ hg _)]
  refine .inl (quiet_wp hs (h k a (fun x _ u hu => ha.ev hu) w hs) fun w' hs' => ?_)
  exact hr k w' _ hs' (ha.put hlt v)

def gdst (ops : List Oper) (j : Nat) : Option Nat := (ops[j]?).bind (·.dst)
theorem wanted_guard {a : Act} {j t : Nat} {b wt : Bool} (ha : Agr n a ρ) (hg : o.guard = some (j, wt)) (hj : gdst ops j = some t) (ht : lk ρ t = some (.bool b)) : Region.wanted o (yielded ops.toArray a.tmps) = (b == wt) := by
  unfold gdst at hj
  simp [Region.wanted, hg, yielded, hj, ha.get _ _ ht]
theorem ho_want {v : Value} {d j t : Nat} {wt : Bool} {op : Op} {ty : TypeId} {pos : String} {af : Array Edge} (hn : Nat.blt d n = true) (hj : gdst ops j = some t) (ht : lk ρ t = some (.bool wt)) (h : QOp P ⟨some d, op, ty, pos, af, some (j, wt)⟩ ρ L v)
    (hr : HO P n ops Q rest ((d, v) :: ρ) L) : HO P n ops Q (⟨some d, op, ty, pos, af, some (j, wt)⟩ :: rest) ρ L := by
  have hg : (Oper.mk (some d) op ty pos af (some (j, wt))).guard = some (j, wt) := rfl
  intro k w a hs ha
  have hlt : d < n := Nat.le_of_ble_eq_true hn
  unfold wpList
  rw [if_pos (by rw [wanted_guard ha hg hj ht]; simp)]
  refine .inl (quiet_wp hs (h k a (fun x _ u hu => ha.ev hu) w hs) fun w' hs' => ?_)
  exact hr k w' _ hs' (ha.put hlt v)
theorem ho_skip {d j t : Nat} {wt b : Bool} {op : Op} {ty : TypeId} {pos : String} {af : Array Edge} (hn : Nat.blt d n = true) (hj : gdst ops j = some t) (ht : lk ρ t = some (.bool b)) (hb : (!wt) = b)
    (hr : HO P n ops Q rest ((d, undef) :: ρ) L) : HO P n ops Q (⟨some d, op, ty, pos, af, some (j, wt)⟩ :: rest) ρ L := by
  subst hb
  have hg : (Oper.mk (some d) op ty pos af (some (j, wt))).guard = some (j, wt) := rfl
  intro k w a hs ha
  have hlt : d < n := Nat.le_of_ble_eq_true hn
  unfold wpList
  rw [if_neg (by rw [wanted_guard ha hg hj ht]; cases wt <;> simp)]
  exact hr k w _ hs (ha.put hlt undef)
/-- the truth of a slot is named -/
theorem Agr.name {a : Act} (ha : Agr n a ρ) {t : Nat} {b c : Bool} (ht : lk ρ t = some (.bool b)) (hb : b = c) : Agr n a ((t, .bool c) :: ρ) := by
  subst hb
  refine ⟨ha.size, ha.defers, fun x u hx => ?_⟩
  by_cases e : t = x
  · subst e
    rw [lk_cons_eq] at hx
    cases hx
    exact ha.get _ _ ht
  · rw [lk_cons_ne _ _ e] at hx
    exact ha.get _ _ hx
theorem ho_split {l : List Oper} (t : Nat) {p : Prop} [Decidable p] (ht : lk ρ t = some (.bool (decide p))) (h1 : p → HO P n ops Q l ((t, .bool true) :: ρ) L) (h0 : ¬ p → HO P n ops Q l ((t, .bool false) :: ρ) L) : HO P n ops Q l ρ L := by
  intro k w a hs ha
  by_cases hp : p
  · exact h1 hp k w a hs (ha.name ht (decide_eq_true hp))
  · exact h0 hp k w a hs (ha.name ht (decide_eq_false hp))
theorem ho_splitb {l : List Oper} (t : Nat) {b : Bool} (ht : lk ρ t = some (.bool b)) (h1 : b = true → HO P n ops Q l ((t, .bool true) :: ρ) L) (h0 : b = false → HO P n ops Q l ((t, .bool false) :: ρ) L) : HO P n ops Q l ρ L := by
  intro k w a hs ha
  cases hb : b with
  | true => exact h1 hb k w a hs (ha.name ht hb)
  | false => exact h0 hb k w a hs (ha.name ht hb)
theorem ho_want1 {v : Value} {d j t : Nat} {b : Bool} {op : Op} {ty : TypeId} {pos : String} {af : Array Edge} (hj : gdst ops j = some t) (ht : lk ρ t = some (.bool b)) (hb : b = true) (hn : Nat.blt d n = true) (h : QOp P ⟨some d, op, ty, pos, af, some (j, true)⟩ ρ L v)
    (hr : HO P n ops Q rest ((d, v) :: ρ) L) : HO P n ops Q (⟨some d, op, ty, pos, af, some (j, true)⟩ :: rest) ρ L := ho_want hn hj (hb ▸ ht) h hr
theorem ho_want0 {v : Value} {d j t : Nat} {b : Bool} {op : Op} {ty : TypeId} {pos : String} {af : Array Edge} (hj : gdst ops j = some t) (ht : lk ρ t = some (.bool b)) (hb : b = false) (hn : Nat.blt d n = true) (h : QOp P ⟨some d, op, ty, pos, af, some (j, false)⟩ ρ L v)
    (hr : HO P n ops Q rest ((d, v) :: ρ) L) : HO P n ops Q (⟨some d, op, ty, pos, af, some (j, false)⟩ :: rest) ρ L := ho_want hn hj (hb ▸ ht) h hr
theorem ho_skip1 {d j t : Nat} {b : Bool} {op : Op} {ty : TypeId} {pos : String} {af : Array Edge} (hj : gdst ops j = some t) (ht : lk ρ t = some (.bool b)) (hb : b = false) (hn : Nat.blt d n = true)
    (hr : HO P n ops Q rest ((d, undef) :: ρ) L) : HO P n ops Q (⟨some d, op, ty, pos, af, some (j, true)⟩ :: rest) ρ L := ho_skip hn hj ht hb.symm hr
theorem ho_skip0 {d j t : Nat} {b : Bool} {op : Op} {ty : TypeId} {pos : String} {af : Array Edge} (hj : gdst ops j = some t) (ht : lk ρ t = some (.bool b)) (hb : b = true) (hn : Nat.blt d n = true)
    (hr : HO P n ops Q rest ((d, undef) :: ρ) L) : HO P n ops Q (⟨some d, op, ty, pos, af, some (j, false)⟩ :: rest) ρ L := ho_skip hn hj ht hb.symm hr
theorem ho_skipu {d j t : Nat} {wt : Bool} {v : Value} {op : Op} {ty : TypeId} {pos : String} {af : Array Edge} (hj : gdst ops j = some t) (ht : lk ρ t = some v) (hb : v = undef) (hn : Nat.blt d n = true)
    (hr : HO P n ops Q rest ((d, undef) :: ρ) L) : HO P n ops Q (⟨some d, op, ty, pos, af, some (j, wt)⟩ :: rest) ρ L := by
  subst hb
  intro k w a hs ha
  have hlt : d < n := Nat.le_of_ble_eq_true hn
  unfold wpList
  have hw : Region.wanted (Oper.mk (some d) op ty pos af (some (j, wt))) (yielded ops.toArray a.tmps) = false := by
    unfold gdst at hj
    simp [Region.wanted, yielded, hj, ha.get _ _ ht, undef]
  rw [if_neg (by rw [hw]; simp)]
  exact hr k w _ hs (ha.put hlt undef)
theorem ho_gsplit {d j t : Nat} {wt : Bool} {op : Op} {ty : TypeId} {pos : String} {af : Array Edge} {b : Bool} (hj : gdst ops j = some t) (ht : lk ρ t = some (.bool b))
    (h1 : b = true → HO P n ops Q (⟨some d, op, ty, pos, af, some (j, wt)⟩ :: rest) ((t, .bool true) :: ρ) L) (h0 : b = false → HO P n ops Q (⟨some d, op, ty, pos, af, some (j, wt)⟩ :: rest) ((t, .bool false) :: ρ) L) :
    HO P n ops Q (⟨some d, op, ty, pos, af, some (j, wt)⟩ :: rest) ρ L := ho_splitb t ht h1 h0
end rules

/-! ### the operations that read -/
section q
variable {P : Program} {ρ : Env} {L : Heap} {d : Option Tmp} {ty : TypeId} {pos : String} {af : Array Edge} {g : Option (Nat × Bool)}

theorem q_run {o : Oper} {v : Value} (h : ∀ (ρe : Operand → Value), (∀ x ∈ o.op.operands, ∀ u, ev ρ x = some u → ρe x = u) → ∀ k w, Sat k w L → (execOp ρe o).run P w = .ok (.value v) w) : QOp P o ρ L v := by
  intro k a he w hs
  unfold Oper.quietAt
  rw [h a.eval he k w hs]
  exact ⟨rfl, rfl⟩
theorem q_move {x : Operand} {v : Value} (hx : ev ρ x = some v) : QOp P ⟨d, .move x, ty, pos, af, g⟩ ρ L v :=
  q_run fun ρe he k w hs => by simp [execOp, he x (by simp [Op.operands]) v hx]
theorem q_assign {x : Operand} {v : Value} (hx : ev ρ x = some v) : QOp P ⟨d, .assign x, ty, pos, af, g⟩ ρ L v :=
  q_run fun ρe he k w hs => by simp [execOp, he x (by simp [Op.operands]) v hx]
theorem q_pickt {c x y : Operand} {v : Value} {b : Bool} (hc : ev ρ c = some (.bool b)) (hb : b = true) (hx : ev ρ x = some v) : QOp P ⟨d, .pick c x y, ty, pos, af, g⟩ ρ L v := by
  subst hb; exact q_run fun ρe he k w hs => by simp [execOp, asBool, he c (by simp [Op.operands]) _ hc, he x (by simp [Op.operands]) v hx]
theorem q_pickf {c x y : Operand} {v : Value} {b : Bool} (hc : ev ρ c = some (.bool b)) (hb : b = false) (hy : ev ρ y = some v) : QOp P ⟨d, .pick c x y, ty, pos, af, g⟩ ρ L v := by
  subst hb; exact q_run fun ρe he k w hs => by simp [execOp, asBool, he c (by simp [Op.operands]) _ hc, he y (by simp [Op.operands]) v hy]
theorem q_extract {x : Operand} {j : Nat} {vs : List Value} {v : Value} (hx : ev ρ x = some (.tuple ⟨vs⟩)) (hv : vs[j]? = some v) : QOp P ⟨d, .extract x j, ty, pos, af, g⟩ ρ L v :=
  q_run fun ρe he k w hs => by simp [execOp, Instr.extract, he x (by simp [Op.operands]) _ hx, hv]
theorem q_nilCheck {x : Operand} {p : Addr} (hx : ev ρ x = some (.pointer (some p))) : QOp P ⟨d, .nilCheck x, ty, pos, af, g⟩ ρ L (.pointer (some p)) :=
  q_run fun ρe he k w hs => by simp [execOp, he x (by simp [Op.operands]) _ hx]
theorem q_makeFunc {f : Nat} {cap : Array Operand} {vs : List Value} (hv : evs ρ cap.toList = some vs) : QOp P ⟨d, .makeFunc (.func f) #[] cap, ty, pos, af, g⟩ ρ L (.func (.func f) #[] ⟨vs⟩) := by
  refine q_run fun ρe he k w hs => ?_
  have hm : cap.map ρe = ⟨vs⟩ := by
    have key : ∀ (l : List Operand) (us : List Value), (∀ x ∈ l, ∀ u, ev ρ x = some u → ρe x = u) → evs ρ l = some us → l.map ρe = us := by
      intro l
      induction l with
      | nil => intro us _ h; simp [evs] at h; simp [← h]
      | cons x r ih =>
        intro us hl h
        simp only [evs] at h
        cases hx : ev ρ x with
        | none => simp [hx] at h
        | some u =>
          cases hr : evs ρ r with
          | none => simp [hx, hr] at h
          | some us' =>
            simp [hx, hr] at h
            rw [List.map_cons, hl x (by simp) u hx, ih us' (fun y hy => hl y (by simp [hy])) hr]
            exact h
    have := key cap.toList vs (fun x hx => he x (by simp [Op.operands]; exact Array.mem_toList_iff.1 hx)) hv
    apply Array.toList_inj.1
    simpa using this
  simp [execOp, Instr.makeFunc, hm]
end q
end Go.HL
