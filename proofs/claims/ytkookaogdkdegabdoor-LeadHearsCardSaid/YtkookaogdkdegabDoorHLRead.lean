/- The heap logic: loads, addresses, arithmetic, comparisons. No program in sight. Conditions: none. -/
import Derived.Test.YtkookaogdkdegabDoorHLOps
namespace Go.HL
open Go
set_option linter.unusedVariables false
set_option linter.unusedSimpArgs false

abbrev iv (n : Int) : Value := .int .i64 n
abbrev bs (l : List UInt8) : Value := .string ⟨⟨l⟩⟩
abbrev pt (b i : Nat) : Value := .pointer (some ⟨b, i, none⟩)
abbrev sl (b i len cap : Nat) : Value := .slice (some ⟨b, i, none⟩) len cap
abbrev nilS : Value := .slice none 0 0

theorem Gets.at0 {l vs : List Value} {i : Nat} {v : Value} (h : Gets l i vs) (hv : vs[0]? = some v) : l[i]? = some v := h 0 v hv
theorem Gets.at {l vs : List Value} {i j : Nat} {v : Value} (h : Gets l i vs) (hv : vs[j]? = some v) : l[i + j]? = some v := h j v hv
/-- a slice that reads as a list: of each element the cells -/
def Rd {α : Type} (enc : α → List Value) (sz : Nat) (L : Heap) (a : Option Addr) (xs : List α) : Prop :=
  xs = [] ∨ ∃ b i l E fr, a = some ⟨b, i, none⟩ ∧ Has L b (.cells ⟨l⟩ E fr) ∧ ∀ (k : Nat) (x : α), xs[k]? = some x → Gets l (i + k * sz) (enc x)
theorem Rd.cons {α : Type} {enc : α → List Value} {sz : Nat} {L : Heap} {a : Option Addr} {xs : List α} (h : Rd enc sz L a xs) (c : List Blk) : Rd enc sz (c :: L) a xs := by
  rcases h with h | ⟨b, i, l, E, fr, h1, h2, h3⟩
  · exact .inl h
  · exact .inr ⟨b, i, l, E, fr, h1, has_next h2, h3⟩
theorem Rd.at {α : Type} {enc : α → List Value} {sz : Nat} {L : Heap} {a : Option Addr} {xs : List α} (h : Rd enc sz L a xs) {j : Int} (h0 : 0 ≤ j) (h1 : j < xs.length) :
    ∃ b i l E fr, a = some ⟨b, i, none⟩ ∧ Has L b (.cells ⟨l⟩ E fr) ∧ Gets l (i + j.toNat * sz) (enc (xs[j.toNat]'(by omega))) := by
  rcases h with h | ⟨b, i, l, E, fr, h2, h3, h4⟩
  · subst h; simp at h1; omega
  · exact ⟨b, i, l, E, fr, h2, h3, h4 j.toNat _ (List.getElem?_eq_getElem (by omega))⟩
theorem Rd.at1 {α : Type} {enc : α → List Value} {L : Heap} {a : Option Addr} {xs : List α} (h : Rd enc 1 L a xs) {j : Int} (h0 : 0 ≤ j) (h1 : j < xs.length) :
    ∃ b i l E fr, a = some ⟨b, i, none⟩ ∧ Has L b (.cells ⟨l⟩ E fr) ∧ Gets l (i + j.toNat) (enc (xs[j.toNat]'(by omega))) := by
  obtain ⟨b, i, l, E, fr, h2, h3, h4⟩ := h.at h0 h1
  rw [Nat.mul_one] at h4
  exact ⟨b, i, l, E, fr, h2, h3, h4⟩
theorem gets_append {l : List Value} {i : Nat} {vs us : List Value} (h : Gets l i vs) (h2 : Gets l (i + vs.length) us) : Gets l i (vs ++ us) := by
  intro j v hj
  by_cases hlt : j < vs.length
  · rw [List.getElem?_append_left hlt] at hj
    exact h j v hj
  · rw [List.getElem?_append_right (by omega)] at hj
    have := h2 _ v hj
    rw [show i + j = i + vs.length + (j - vs.length) by omega]
    exact this
theorem gets_flat {α : Type} {enc : α → List Value} {sz : Nat} {l : List Value} (hsz : ∀ x, (enc x).length = sz) : ∀ (xs : List α) (i : Nat), (∀ (k : Nat) (x : α), xs[k]? = some x → Gets l (i + k * sz) (enc x)) → Gets l i (xs.map enc).flatten
  | [], i, _ => by simpa using gets_nil
  | x :: r, i, h => by
    simp only [List.map_cons, List.flatten_cons]
    refine gets_append (by simpa using h 0 x rfl) ?_
    rw [hsz]
    refine gets_flat hsz r (i + sz) fun k y hy => ?_
    have := h (k + 1) y (by simpa using hy)
    rw [Nat.add_mul, Nat.one_mul] at this
    rw [show i + sz + k * sz = i + (k * sz + sz) by omega]
    exact this
theorem take_succ {α : Type} {xs : List α} {j : Int} (h0 : 0 ≤ j) (h : j < xs.length) : xs.take (j + 1).toNat = xs.take j.toNat ++ [xs[j.toNat]'(by omega)] := by
  rw [show (j + 1).toNat = j.toNat + 1 by omega, List.take_succ_eq_append_getElem (by omega)]
theorem take_all {α : Type} {xs : List α} {j : Int} (h : ¬ j < xs.length) : xs.take j.toNat = xs := List.take_of_length_le (by omega)
theorem Rd.nil {α : Type} {enc : α → List Value} {sz : Nat} {L : Heap} {a : Option Addr} : Rd enc sz L a [] := .inl rfl

section q
variable {P : Program} (S : Tab P) {ρ : Env} {L : Heap} {d : Option Tmp} {ty : TypeId} {pos : String} {af : Array Edge} {g : Option (Nat × Bool)}

theorem q_load {t b i E : Nat} {ti : TyI} {x : Operand} {l : List Value} {fr : Nat × Nat} {v : Value} (hx : ev ρ x = some (pt b i)) (ht : lkN S.ty t = some ti)
    (h6 : Nat.beq ti.kind 6 = false) (h7 : Nat.beq ti.kind 7 = false) (hb : Has L b (.cells ⟨l⟩ E fr)) (hv : l[i]? = some v) : QOp P ⟨d, .load t x, ty, pos, af, g⟩ ρ L v :=
  q_run fun ρe he k w hs => by
    have h1 := ty_agg_no (S.tyI ht) h6 h7 w
    have h2 : w.cell? ⟨b, i, none⟩ = some v := by rw [hs.cell hb, hv]
    simp [execOp, he x (by simp [Op.operands]) _ hx, Instr.loadAt, Instr.sureAddr, loadVar, h1, h2]
theorem q_loads {t b i E : Nat} {ti : TyI} {x : Operand} {l vs : List Value} {fr : Nat × Nat} (hx : ev ρ x = some (pt b i)) (ht : lkN S.ty t = some ti)
    (h7 : (Nat.beq ti.kind 6 || Nat.beq ti.kind 7) = true) (hb : Has L b (.cells ⟨l⟩ E fr)) (hv : Gets l i vs ∧ ti.size = vs.length) : QOp P ⟨d, .load t x, ty, pos, af, g⟩ ρ L (.agg ⟨vs⟩) :=
  q_run fun ρe he k w hs => by
    obtain ⟨hv, hn⟩ := hv
    have h1 := ty_agg (S.tyI ht) h7 w
    have h2 := load_cells (P := P) hs hb hv
    have h3 := ty_size (S.tyI ht) w
    simp [execOp, he x (by simp [Op.operands]) _ hx, Instr.loadAt, Instr.sureAddr, loadVar, h1, h2, h3, hn]
theorem q_fieldAddr {s f b i o ft : Nat} {x : Operand} (hx : ev ρ x = some (pt b i)) (hf : lkN S.fl (s * 64 + f) = some (o, ft)) (hlt : Nat.blt f 64 = true) : QOp P ⟨d, .fieldAddr s x f, ty, pos, af, g⟩ ρ L (pt b (i + o)) :=
  q_run fun ρe he k w hs => by
    obtain ⟨h, -⟩ := S.fldI hf hlt
    unfold fldI at h
    split at h
    · rename_i fs hfs
      split at h
      · rename_i fd hfd
        split at h
        · rename_i inf hinf
          split at h
          · cases h
          · rename_i hsz
            cases h
            simp [execOp, he x (by simp [Op.operands]) _ hx, Instr.fieldAt, run_underlying hfs, hfd, Instr.sureAddr, fieldPlace, sizeOf, typeInfo, hinf, hsz, addr_add]
        · cases h
      · cases h
    · cases h
theorem q_indexAddr {t b i len cap e y0 s0 b0 k1 x1 y1 sz b1 : Nat} {x y : Operand} {k : IntKind} {j : Int} (hx : ev ρ x = some (sl b i len cap)) (hy : ev ρ y = some (.int k j)) (ht : lkN S.ty t = some ⟨5, e, y0, s0, b0⟩)
    (he' : lkN S.ty e = some ⟨k1, x1, y1, sz, b1⟩) (hj : 0 ≤ j ∧ j < len) : QOp P ⟨d, .indexAddr t x y, ty, pos, af, g⟩ ρ L (pt b (i + j.toNat * sz)) :=
  q_run fun ρe he k w hs => by
    have h1 := ty_slice (S.tyI ht) rfl
    have h2 := ty_size (S.tyI he') w
    simp [execOp, he x (by simp [Op.operands]) _ hx, he y (by simp [Op.operands]) _ hy, Instr.indexAt, asIntOf, run_underlying h1, hj, h2, addr_add]
theorem q_indexAddr1 {t b i len cap e y0 s0 b0 k1 x1 y1 b1 : Nat} {x y : Operand} {k : IntKind} {j : Int} (hx : ev ρ x = some (sl b i len cap)) (hy : ev ρ y = some (.int k j)) (ht : lkN S.ty t = some ⟨5, e, y0, s0, b0⟩)
    (he' : lkN S.ty e = some ⟨k1, x1, y1, 1, b1⟩) (hj : 0 ≤ j ∧ j < len) : QOp P ⟨d, .indexAddr t x y, ty, pos, af, g⟩ ρ L (pt b (i + j.toNat)) := by
  have := q_indexAddr (d := d) (ty := ty) (pos := pos) (af := af) (g := g) (L := L) S hx hy ht he' hj
  rw [Nat.mul_one] at this
  exact this
theorem q_indexAddrA {t b i len e s0 b0 k1 x1 y1 sz b1 : Nat} {x y : Operand} {k : IntKind} {j : Int} (hx : ev ρ x = some (pt b i)) (hy : ev ρ y = some (.int k j)) (ht : lkN S.ty t = some ⟨6, len, e, s0, b0⟩)
    (he' : lkN S.ty e = some ⟨k1, x1, y1, sz, b1⟩) (hj : 0 ≤ j ∧ j < len) : QOp P ⟨d, .indexAddr t x y, ty, pos, af, g⟩ ρ L (pt b (i + j.toNat * sz)) :=
  q_run fun ρe he k w hs => by
    have h1 := ty_array (S.tyI ht) rfl
    have h2 := ty_size (S.tyI he') w
    simp [execOp, he x (by simp [Op.operands]) _ hx, he y (by simp [Op.operands]) _ hy, Instr.indexAt, asIntOf, Instr.sureAddr, run_underlying h1, hj, h2, addr_add]

/-! arithmetic -/
theorem wrap64_id {a : Int} (h : -9223372036854775808 ≤ a ∧ a ≤ 9223372036854775807) : IntKind.i64.wrap a = a := IntWalk.i64_in a h
theorem eqGuard_int {op : BinOp} {t : Nat} {x y : Operand} {k k' : IntKind} {a b : Int} (w : World) : (eqGuard op t x y (.int k a) (.int k' b)).run P w = .ok () w := by
  cases op <;> simp [eqGuard]
theorem q_arith {op : BinOp} {t t' : Nat} {x y : Operand} {k : IntKind} {a b : Int} {v : Value} (hx : ev ρ x = some (.int k a)) (hy : ev ρ y = some (.int k b)) (hv : ∀ w, (binOp op t (.int k a) (.int k b)).run P w = .ok v w) :
    QOp P ⟨d, .binOp op t x y t', ty, pos, af, g⟩ ρ L v :=
  q_run fun ρe he k w hs => by simp [execOp, he x (by simp [Op.operands]) _ hx, he y (by simp [Op.operands]) _ hy, eqGuard_int, hv w]
theorem q_add {t t' : Nat} {x y : Operand} {a b : Int} (hx : ev ρ x = some (iv a)) (hy : ev ρ y = some (iv b)) (h : -9223372036854775808 ≤ a + b ∧ a + b ≤ 9223372036854775807) : QOp P ⟨d, .binOp .add t x y t', ty, pos, af, g⟩ ρ L (iv (a + b)) :=
  q_arith hx hy fun w => by simp [binOp, Op.intArith, wrap64_id h]
theorem q_sub {t t' : Nat} {x y : Operand} {a b : Int} (hx : ev ρ x = some (iv a)) (hy : ev ρ y = some (iv b)) (h : -9223372036854775808 ≤ a - b ∧ a - b ≤ 9223372036854775807) : QOp P ⟨d, .binOp .sub t x y t', ty, pos, af, g⟩ ρ L (iv (a - b)) :=
  q_arith hx hy fun w => by simp [binOp, Op.intArith, wrap64_id h]
theorem q_mul {t t' : Nat} {x y : Operand} {a b : Int} (hx : ev ρ x = some (iv a)) (hy : ev ρ y = some (iv b)) (h : -9223372036854775808 ≤ a * b ∧ a * b ≤ 9223372036854775807) : QOp P ⟨d, .binOp .mul t x y t', ty, pos, af, g⟩ ρ L (iv (a * b)) :=
  q_arith hx hy fun w => by simp [binOp, Op.intArith, wrap64_id h]
theorem q_quo {t t' : Nat} {x y : Operand} {a b : Int} (hx : ev ρ x = some (iv a)) (hy : ev ρ y = some (iv b)) (h : 0 ≤ a ∧ a ≤ 9223372036854775807 ∧ 1 ≤ b) : QOp P ⟨d, .binOp .quo t x y t', ty, pos, af, g⟩ ρ L (iv (a / b)) :=
  q_arith hx hy fun w => by
    have h2 : b ≠ 0 := by omega
    simp [binOp, Op.intDiv, IntWalk.i64_quo a b h, h2]
theorem q_rem {t t' : Nat} {x y : Operand} {a b : Int} (hx : ev ρ x = some (iv a)) (hy : ev ρ y = some (iv b)) (h : 0 ≤ a ∧ a ≤ 9223372036854775807 ∧ 1 ≤ b) : QOp P ⟨d, .binOp .rem t x y t', ty, pos, af, g⟩ ρ L (iv (a % b)) :=
  q_arith hx hy fun w => by
    have h2 : b ≠ 0 := by omega
    simp [binOp, Op.intDiv, IntWalk.rem_in a b h.1, h2]
theorem q_lss {t t' : Nat} {x y : Operand} {k : IntKind} {a b : Int} (hx : ev ρ x = some (.int k a)) (hy : ev ρ y = some (.int k b)) : QOp P ⟨d, .binOp .lss t x y t', ty, pos, af, g⟩ ρ L (.bool (decide (a < b))) :=
  q_arith hx hy fun w => by simp [binOp, Op.intCmp]
theorem q_leq {t t' : Nat} {x y : Operand} {k : IntKind} {a b : Int} (hx : ev ρ x = some (.int k a)) (hy : ev ρ y = some (.int k b)) : QOp P ⟨d, .binOp .leq t x y t', ty, pos, af, g⟩ ρ L (.bool (decide (a ≤ b))) :=
  q_arith hx hy fun w => by simp [binOp, Op.intCmp]
theorem q_gtr {t t' : Nat} {x y : Operand} {k : IntKind} {a b : Int} (hx : ev ρ x = some (.int k a)) (hy : ev ρ y = some (.int k b)) : QOp P ⟨d, .binOp .gtr t x y t', ty, pos, af, g⟩ ρ L (.bool (decide (b < a))) :=
  q_arith hx hy fun w => by simp [binOp, Op.intCmp]
theorem q_geq {t t' : Nat} {x y : Operand} {k : IntKind} {a b : Int} (hx : ev ρ x = some (.int k a)) (hy : ev ρ y = some (.int k b)) : QOp P ⟨d, .binOp .geq t x y t', ty, pos, af, g⟩ ρ L (.bool (decide (b ≤ a))) :=
  q_arith hx hy fun w => by simp [binOp, Op.intCmp]
theorem q_eql {t t' : Nat} {x y : Operand} {k : IntKind} {a b : Int} (hx : ev ρ x = some (.int k a)) (hy : ev ρ y = some (.int k b)) : QOp P ⟨d, .binOp .eql t x y t', ty, pos, af, g⟩ ρ L (.bool (decide (a = b))) :=
  q_arith hx hy fun w => by simp [binOp, Op.intCmp]; rfl
theorem q_neq {t t' : Nat} {x y : Operand} {k : IntKind} {a b : Int} (hx : ev ρ x = some (.int k a)) (hy : ev ρ y = some (.int k b)) : QOp P ⟨d, .binOp .neq t x y t', ty, pos, af, g⟩ ρ L (.bool (decide (a ≠ b))) :=
  q_arith hx hy fun w => by
    simp only [binOp, Op.intCmp, ne_eq, not_true_eq_false, if_false]
    by_cases e : a = b
    · simp [e]
    · simp [e, bne_iff_ne.2 e]
theorem q_not {t : Nat} {x : Operand} {b : Bool} (hx : ev ρ x = some (.bool b)) : QOp P ⟨d, .unOp .not t x, ty, pos, af, g⟩ ρ L (.bool (!b)) :=
  q_run fun ρe he k w hs => by simp [execOp, he x (by simp [Op.operands]) _ hx, Op.unary]
theorem q_not_t {t : Nat} {x : Operand} {b : Bool} (hx : ev ρ x = some (.bool b)) (hb : b = true) : QOp P ⟨d, .unOp .not t x, ty, pos, af, g⟩ ρ L (.bool false) := by subst hb; exact q_not hx
theorem q_not_f {t : Nat} {x : Operand} {b : Bool} (hx : ev ρ x = some (.bool b)) (hb : b = false) : QOp P ⟨d, .unOp .not t x, ty, pos, af, g⟩ ρ L (.bool true) := by subst hb; exact q_not hx
theorem q_not_d {t : Nat} {x : Operand} {p : Prop} [Decidable p] (hx : ev ρ x = some (.bool (decide p))) : QOp P ⟨d, .unOp .not t x, ty, pos, af, g⟩ ρ L (.bool (decide (¬ p))) := by
  have := q_not (P := P) (L := L) (d := d) (t := t) (ty := ty) (pos := pos) (af := af) (g := g) hx
  simpa using this

theorem q_eqlB {t t' : Nat} {ti : TyI} {x y : Operand} {a b : Bool} (hx : ev ρ x = some (.bool a)) (hy : ev ρ y = some (.bool b)) (ht : lkN S.ty t = some ti) (h1 : ti.kind = 1) : QOp P ⟨d, .binOp .eql t x y t', ty, pos, af, g⟩ ρ L (.bool (decide (a = b))) :=
  q_run fun ρe he k w hs => by
    have e : (a == b) = decide (a = b) := by cases a <;> cases b <;> rfl
    simp [execOp, he x (by simp [Op.operands]) _ hx, he y (by simp [Op.operands]) _ hy, eqGuard, run_eql_bool w t a b (ty_bool (S.tyI ht) h1), e]
theorem q_neqB {t t' : Nat} {ti : TyI} {x y : Operand} {a b : Bool} (hx : ev ρ x = some (.bool a)) (hy : ev ρ y = some (.bool b)) (ht : lkN S.ty t = some ti) (h1 : ti.kind = 1) : QOp P ⟨d, .binOp .neq t x y t', ty, pos, af, g⟩ ρ L (.bool (decide (a ≠ b))) :=
  q_run fun ρe he k w hs => by
    have e : (!(a == b)) = decide (a ≠ b) := by cases a <;> cases b <;> rfl
    simp only [execOp, he x (by simp [Op.operands]) _ hx, he y (by simp [Op.operands]) _ hy]
    simp [eqGuard, run_neq_bool w t a b (ty_bool (S.tyI ht) h1)]
    cases a <;> cases b <;> rfl
theorem ba_list (a : List UInt8) : (ByteArray.mk ⟨a⟩).toList = a := by
  exact Go.ByteArray.toList_mk a
theorem ba_size (a : List UInt8) : (ByteArray.mk ⟨a⟩).size = a.length := by simp [ByteArray.size]
theorem ba_append (a b : List UInt8) : (ByteArray.mk ⟨a⟩) ++ (ByteArray.mk ⟨b⟩) = ByteArray.mk ⟨a ++ b⟩ := by
  apply ByteArray.ext
  simp [ByteArray.data_append]
theorem q_eqlS {t t' : Nat} {x y : Operand} {a b : List UInt8} (hx : ev ρ x = some (bs a)) (hy : ev ρ y = some (bs b)) : QOp P ⟨d, .binOp .eql t x y t', ty, pos, af, g⟩ ρ L (.bool (decide (a = b))) :=
  q_run fun ρe he k w hs => by
    simp only [execOp, he x (by simp [Op.operands]) _ hx, he y (by simp [Op.operands]) _ hy]
    simp [eqGuard, binOp, Op.stringOp, ba_list]
    by_cases e : a = b <;> simp [e]
theorem q_neqS {t t' : Nat} {x y : Operand} {a b : List UInt8} (hx : ev ρ x = some (bs a)) (hy : ev ρ y = some (bs b)) : QOp P ⟨d, .binOp .neq t x y t', ty, pos, af, g⟩ ρ L (.bool (decide (a ≠ b))) :=
  q_run fun ρe he k w hs => by
    simp only [execOp, he x (by simp [Op.operands]) _ hx, he y (by simp [Op.operands]) _ hy]
    simp [eqGuard, binOp, Op.stringOp, ba_list]
    by_cases e : a = b <;> simp [e]
theorem q_addS {t t' : Nat} {x y : Operand} {a b : List UInt8} (hx : ev ρ x = some (bs a)) (hy : ev ρ y = some (bs b)) (h : a.length + b.length ≤ 9223372036854775807) : QOp P ⟨d, .binOp .add t x y t', ty, pos, af, g⟩ ρ L (bs (a ++ b)) :=
  q_run fun ρe he k w hs => by
    simp only [execOp, he x (by simp [Op.operands]) _ hx, he y (by simp [Op.operands]) _ hy]
    have h2 := run_string_add_sum (P := P) w ⟨⟨a⟩⟩ ⟨⟨b⟩⟩ (by simp only [ba_size]; exact h)
    simp [eqGuard, binOp, h2, ba_append]
/-! nil -/
theorem equal_of {t : Nat} {x y : Value} {b : Bool} {w : World} (h : ∀ dd, (Op.equalIn (dd + 1) t x y).run P w = .ok b w) : (Op.equal t x y).run P w = .ok b w := h 9999
theorem eqIn_pn {t e : Nat} {p : Option Addr} (h : P.underlying t = some (.pointer e)) (dd : Nat) (w : World) : (Op.equalIn (dd + 1) t (.pointer p) (.pointer none)).run P w = .ok p.isNone w := by
  cases p <;> simp [Op.equalIn, run_underlying h]
theorem eqIn_in {t : Nat} {ms : Array (String × TypeId)} {u : Nat} {v : Value} (h : P.underlying t = some (.interface ms)) (dd : Nat) (w : World) : (Op.equalIn (dd + 1) t (.iface u v) .nilIface).run P w = .ok false w := by
  simp [Op.equalIn, run_underlying h]
theorem eqIn_inn {t : Nat} {ms : Array (String × TypeId)} (h : P.underlying t = some (.interface ms)) (dd : Nat) (w : World) : (Op.equalIn (dd + 1) t .nilIface .nilIface).run P w = .ok true w := by
  simp [Op.equalIn, run_underlying h]
theorem eqIn_sn {t e : Nat} {p : Option Addr} {len cap : Nat} (h : P.underlying t = some (.slice e)) (dd : Nat) (w : World) : (Op.equalIn (dd + 1) t (.slice p len cap) nilS).run P w = .ok p.isNone w := by
  cases p <;> simp [Op.equalIn, run_underlying h]
theorem q_equal {t t' : Nat} {x y : Operand} {u v : Value} {b : Bool} (hx : ev ρ x = some u) (hy : ev ρ y = some v) (hg : ∀ w : World, (eqGuard .eql t x y u v).run P w = .ok () w) (hb : ∀ w, (Op.equal t u v).run P w = .ok b w)
    (hop : binOp .eql t u v = (do pure (.bool (← Op.equal t u v)))) : QOp P ⟨d, .binOp .eql t x y t', ty, pos, af, g⟩ ρ L (.bool b) :=
  q_run fun ρe he k w hs => by
    simp only [execOp, he x (by simp [Op.operands]) _ hx, he y (by simp [Op.operands]) _ hy]
    simp [hg w, hop, hb w]
theorem q_nequal {t t' : Nat} {x y : Operand} {u v : Value} {b : Bool} (hx : ev ρ x = some u) (hy : ev ρ y = some v) (hg : ∀ w : World, (eqGuard .neq t x y u v).run P w = .ok () w) (hb : ∀ w, (Op.equal t u v).run P w = .ok b w)
    (hop : binOp .neq t u v = (do pure (.bool (!(← Op.equal t u v))))) : QOp P ⟨d, .binOp .neq t x y t', ty, pos, af, g⟩ ρ L (.bool (!b)) :=
  q_run fun ρe he k w hs => by
    simp only [execOp, he x (by simp [Op.operands]) _ hx, he y (by simp [Op.operands]) _ hy]
    simp [hg w, hop, hb w]
theorem q_eqlPn {t t' : Nat} {ti : TyI} {x y : Operand} {p : Addr} (hx : ev ρ x = some (.pointer (some p))) (hy : ev ρ y = some (.pointer none)) (ht : lkN S.ty t = some ti) (h4 : ti.kind = 4) : QOp P ⟨d, .binOp .eql t x y t', ty, pos, af, g⟩ ρ L (.bool false) :=
  q_equal (b := false) hx hy (fun w => by simp [eqGuard]) (fun w => equal_of fun dd => eqIn_pn (ty_pointer (S.tyI ht) h4) dd w) rfl
theorem q_eqlPnn {t t' : Nat} {ti : TyI} {x y : Operand} (hx : ev ρ x = some (.pointer none)) (hy : ev ρ y = some (.pointer none)) (ht : lkN S.ty t = some ti) (h4 : ti.kind = 4) : QOp P ⟨d, .binOp .eql t x y t', ty, pos, af, g⟩ ρ L (.bool true) :=
  q_equal (b := true) hx hy (fun w => by simp [eqGuard]) (fun w => equal_of fun dd => eqIn_pn (ty_pointer (S.tyI ht) h4) dd w) rfl
theorem q_neqPn {t t' : Nat} {ti : TyI} {x y : Operand} {p : Addr} (hx : ev ρ x = some (.pointer (some p))) (hy : ev ρ y = some (.pointer none)) (ht : lkN S.ty t = some ti) (h4 : ti.kind = 4) : QOp P ⟨d, .binOp .neq t x y t', ty, pos, af, g⟩ ρ L (.bool true) :=
  q_nequal (b := false) hx hy (fun w => by simp [eqGuard]) (fun w => equal_of fun dd => eqIn_pn (ty_pointer (S.tyI ht) h4) dd w) rfl
theorem q_neqPnn {t t' : Nat} {ti : TyI} {x y : Operand} (hx : ev ρ x = some (.pointer none)) (hy : ev ρ y = some (.pointer none)) (ht : lkN S.ty t = some ti) (h4 : ti.kind = 4) : QOp P ⟨d, .binOp .neq t x y t', ty, pos, af, g⟩ ρ L (.bool false) :=
  q_nequal (b := true) hx hy (fun w => by simp [eqGuard]) (fun w => equal_of fun dd => eqIn_pn (ty_pointer (S.tyI ht) h4) dd w) rfl
theorem q_eqlSn {t t' b i len cap : Nat} {ti : TyI} {x y : Operand} (hx : ev ρ x = some (sl b i len cap)) (hy : ev ρ y = some nilS) (ht : lkN S.ty t = some ti) (h4 : ti.kind = 5) : QOp P ⟨d, .binOp .eql t x y t', ty, pos, af, g⟩ ρ L (.bool false) :=
  q_equal (b := false) hx hy (fun w => by simp [eqGuard]) (fun w => equal_of fun dd => eqIn_sn (ty_slice (S.tyI ht) h4) dd w) rfl
theorem q_eqlSnn {t t' : Nat} {ti : TyI} {x y : Operand} (hx : ev ρ x = some nilS) (hy : ev ρ y = some nilS) (ht : lkN S.ty t = some ti) (h4 : ti.kind = 5) : QOp P ⟨d, .binOp .eql t x y t', ty, pos, af, g⟩ ρ L (.bool true) :=
  q_equal (b := true) hx hy (fun w => by simp [eqGuard]) (fun w => equal_of fun dd => eqIn_sn (ty_slice (S.tyI ht) h4) dd w) rfl
theorem ty_iface {t : Nat} {i : TyI} (h : tyI P t = some i) (hk : i.kind = 9) : ∃ ms, P.underlying t = some (.interface ms) := by
  obtain ⟨d, j, hd, hj, he, hs, _⟩ := ty_desc h
  rw [hd]
  cases d <;> simp [descI, hk] at he
  exact ⟨_, rfl⟩
theorem q_eqlIn {t t' u : Nat} {ti : TyI} {x y : Operand} {v : Value} (hx : ev ρ x = some (.iface u v)) (hy : ev ρ y = some .nilIface) (ht : lkN S.ty t = some ti) (h9 : ti.kind = 9) : QOp P ⟨d, .binOp .eql t x y t', ty, pos, af, g⟩ ρ L (.bool false) := by
  obtain ⟨ms, hms⟩ := ty_iface (S.tyI ht) h9
  exact q_equal (b := false) hx hy (fun w => by simp [eqGuard]) (fun w => equal_of fun dd => eqIn_in hms dd w) rfl
theorem q_neqIn {t t' u : Nat} {ti : TyI} {x y : Operand} {v : Value} (hx : ev ρ x = some (.iface u v)) (hy : ev ρ y = some .nilIface) (ht : lkN S.ty t = some ti) (h9 : ti.kind = 9) : QOp P ⟨d, .binOp .neq t x y t', ty, pos, af, g⟩ ρ L (.bool true) := by
  obtain ⟨ms, hms⟩ := ty_iface (S.tyI ht) h9
  exact q_nequal (b := false) hx hy (fun w => by simp [eqGuard]) (fun w => equal_of fun dd => eqIn_in hms dd w) rfl
theorem q_eqlInn {t t' : Nat} {ti : TyI} {x : Operand} (hx : ev ρ x = some .nilIface) (ht : lkN S.ty t = some ti) (h9 : ti.kind = 9) : QOp P ⟨d, .binOp .eql t x (.const .nilIface) t', ty, pos, af, g⟩ ρ L (.bool true) := by
  obtain ⟨ms, hms⟩ := ty_iface (S.tyI ht) h9
  exact q_equal (b := true) hx rfl (fun w => by cases x <;> simp [eqGuard]) (fun w => equal_of fun dd => eqIn_inn hms dd w) rfl
theorem q_neqInn {t t' : Nat} {ti : TyI} {x : Operand} (hx : ev ρ x = some .nilIface) (ht : lkN S.ty t = some ti) (h9 : ti.kind = 9) : QOp P ⟨d, .binOp .neq t x (.const .nilIface) t', ty, pos, af, g⟩ ρ L (.bool false) := by
  obtain ⟨ms, hms⟩ := ty_iface (S.tyI ht) h9
  exact q_nequal (b := true) hx rfl (fun w => by cases x <;> simp [eqGuard]) (fun w => equal_of fun dd => eqIn_inn hms dd w) rfl

/-! lengths, parts -/
theorem goInt_iv (n : Int) : goInt n = iv n := rfl
theorem q_lenS {t : Nat} {ti : TyI} {x : Operand} {a : Option Addr} {len cap : Nat} (hx : ev ρ x = some (.slice a len cap)) (ht : lkN S.ty t = some ti) (h5 : ti.kind = 5) :
    QOp P ⟨d, .call { callee := .builtin .len, args := #[x], argTypes := #[t] }, ty, pos, af, g⟩ ρ L (iv len) :=
  q_run fun ρe he k w hs => by
    have h1 := ty_slice (S.tyI ht) h5
    simp [execOp, resolve, invoke, builtin, he x (by simp [Op.operands, Call.operands]) _ hx, Builtin.len_, run_underlying h1, goInt]
theorem q_lenT {t : Nat} {ti : TyI} {x : Operand} {l : List UInt8} (hx : ev ρ x = some (bs l)) (ht : lkN S.ty t = some ti) (h3 : ti.kind = 3) :
    QOp P ⟨d, .call { callee := .builtin .len, args := #[x], argTypes := #[t] }, ty, pos, af, g⟩ ρ L (iv l.length) :=
  q_run fun ρe he k w hs => by
    have h1 := ty_string (S.tyI ht) h3
    have h2 : (Builtin.len_ #[t] ty #[bs l]).run P w = .ok (iv l.length) w := by rw [run_len_string w t ty _ h1, ba_size]; rfl
    simp [execOp, resolve, invoke, builtin, he x (by simp [Op.operands, Call.operands]) _ hx, h2]
theorem q_lenA {t len e s0 b0 : Nat} {x : Operand} {v : Value} (hx : ev ρ x = some v) (ht : lkN S.ty t = some ⟨6, len, e, s0, b0⟩) :
    QOp P ⟨d, .call { callee := .builtin .len, args := #[x], argTypes := #[t] }, ty, pos, af, g⟩ ρ L (iv len) :=
  q_run fun ρe he k w hs => by
    have h1 := ty_array (S.tyI ht) rfl
    have h3 : (Builtin.len_ #[t] ty #[ρe x]).run P w = .ok (iv len) w := by
      simp [Builtin.len_, run_underlying h1, goInt]
    simp [execOp, resolve, invoke, builtin, h3]
theorem q_max {ts : Array TypeId} {x y : Operand} {k : IntKind} {a b : Int} (hx : ev ρ x = some (.int k a)) (hy : ev ρ y = some (.int k b)) :
    QOp P ⟨d, .call { callee := .builtin .max, args := #[x, y], argTypes := ts }, ty, pos, af, g⟩ ρ L (.int k (max a b)) :=
  q_run fun ρe he k w hs => by
    have e : (if a < b then b else a) = max a b := by simp only [Int.max_def]; split <;> split <;> omega
    simp [execOp, resolve, invoke, builtin, he x (by simp [Op.operands, Call.operands]) _ hx, he y (by simp [Op.operands, Call.operands]) _ hy, run_max_int2, e]
theorem q_min {ts : Array TypeId} {x y : Operand} {k : IntKind} {a b : Int} (hx : ev ρ x = some (.int k a)) (hy : ev ρ y = some (.int k b)) :
    QOp P ⟨d, .call { callee := .builtin .min, args := #[x, y], argTypes := ts }, ty, pos, af, g⟩ ρ L (.int k (min a b)) :=
  q_run fun ρe he k w hs => by
    have e : (if b < a then b else a) = min a b := by simp only [Int.min_def]; split <;> split <;> omega
    simp [execOp, resolve, invoke, builtin, he x (by simp [Op.operands, Call.operands]) _ hx, he y (by simp [Op.operands, Call.operands]) _ hy, run_min_int2, e]
end q
end Go.HL
