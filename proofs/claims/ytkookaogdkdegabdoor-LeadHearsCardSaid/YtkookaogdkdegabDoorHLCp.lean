/- The heap logic: copy, larger literals, larger slices made. No program in sight. Conditions: none. -/
import Derived.Test.YtkookaogdkdegabDoorHLGo
namespace Go.HL
open Go
set_option linter.unusedVariables false
set_option linter.unusedSimpArgs false
def u8 (b : UInt8) : Value := .int .u8 b.toNat
theorem u8_flat (l : List UInt8) : (l.map uc).flatten = l.map u8 := uc_flat l
theorem u8_one (l : List UInt8) : ((l.map u8).all Value.oneCell') = true := by simp [u8, Value.oneCell']
theorem madeCells_flat (zs : List Value) : ∀ n : Nat, madeCells ⟨zs⟩ (n * zs.length) = ⟨(List.replicate n zs).flatten⟩ := by
  intro n
  apply Array.ext'
  simp only [madeCells, Array.toList_map, Array.toList_range]
  induction n with
  | zero => simp
  | succ n ih =>
    rw [Nat.add_mul, Nat.one_mul, Nat.add_comm, List.range_add, List.map_append, List.replicate_succ, List.flatten_cons, ← ih, List.map_map]
    congr 1
    · apply List.ext_getElem?
      intro i
      by_cases h : i < zs.length
      · simp [h, Nat.mod_eq_of_lt h]
      · simp [h]
    · apply List.map_congr_left
      intro i hi
      simp
section o
variable {P : Program} (S : Tab P) {n : Nat} {ops : List Oper} {Q : Exit → Env → Heap → Prop} {rest : List Oper} {ρ : Env} {L : Heap} {ty : TypeId} {pos : String} {af : Array Edge}
/-- copy(b, s), s a text -/
theorem wcs {d t t2 b i E e0 y0 s0 b0 k1 x1 y1 by1 len cap : Nat} {x y : Operand} {src : List UInt8} {l l' : List Value} {L' : Heap} (h : HO P n ops Q rest ((d, iv (Nat.min src.length len)) :: ρ) L') (hp : Puts l i ((src.take (Nat.min src.length len)).map u8) l') (h00 : okv ρ = true := by exact rfl)
    (hx : ev ρ x = some (sl b i len cap) := by exact rfl) (hy : ev ρ y = some (bs src) := by exact rfl) (ht : lkN S.ty t = some ⟨5, e0, y0, s0, b0⟩ := by exact rfl) (he : lkN S.ty e0 = some ⟨k1, x1, y1, 1, by1⟩ := by exact rfl) (hn : Nat.blt d n = true := by exact rfl)
    (hu : Upd L b (.cells ⟨l⟩ E (0, 0)) (.cells ⟨l'⟩ E (0, 0)) L' := by (repeat (first | exact upd_here | apply upd_in | apply upd_next))) :
    HO P n ops Q (⟨some d, .call { callee := .builtin .copy, args := #[x, y], argTypes := #[t, t2] }, ty, pos, af, none⟩ :: rest) ρ L :=
  ho_run rfl rfl hn fun ρe he' k w hs => by
    obtain ⟨hp1, hp2⟩ := hp
    obtain ⟨w', e1, e2, e3, et, e4, e5⟩ := run_stores (P := P) (k := k) ((src.take (Nat.min src.length len)).map u8) i 0 l w (hs.heap hu.has) rfl (by simpa using hp2) (fun v hv => List.all_eq_true.1 (u8_one _) v hv)
    refine ⟨_, w', L', ?_, hs.upd hu e2 e3 et (by rw [e4, hp1, Nat.add_zero]) e5, h⟩
    have hdesc := ty_slice (S.tyI ht) rfl
    have hsize : (sizeOf e0).run P w = .ok 1 w := ty_size (S.tyI he) w
    have a1 := he' x (by simp [Op.operands, Call.operands]) _ hx
    have a2 := he' y (by simp [Op.operands, Call.operands]) _ hy
    have hc : (Array.map (fun b => Value.int .u8 b.toNat) ((ByteArray.mk ⟨src⟩).extract 0 (Nat.min src.length len)).data).toList = (src.take (Nat.min src.length len)).map u8 := by
      rw [ba_extract]
      simp [u8]
      rfl
    have hr : (Builtin.copy_ #[t, t2] ty #[sl b i len cap, bs src]).run P w = .ok (iv (Nat.min src.length len)) w' := by
      simp only [Builtin.copy_]
      simp only [List.getElem?_toArray, List.getElem?_cons_zero, List.getElem?_cons_succ, Sem.run_bind, run_underlying hdesc, Result.andThen_ok, hsize]
      simp only [Builtin.lenOf, Builtin.firstCells, Sem.run_pure, Result.andThen_ok, ba_size]
      rw [hsize]
      simp only [hc, e1, Result.andThen_ok, Sem.run_pure, goInt]
    simp [execOp, resolve, invoke, builtin, a1, a2, hr]
/-- make([]E, c) -/
theorem wM {d t E y0 s0 b0 k1 x1 y1 sz by1 : Nat} {z : Value} {zs : List Value} {x y : Operand} {kl kc : IntKind} {l c : Int} (h : ∀ b, HO P n ops Q rest ((d, sl b 0 l.toNat c.toNat) :: ρ) ([(b, .cells ⟨(List.replicate c.toNat zs).flatten⟩ E)] :: L)) (h00 : okv ρ = true := by exact rfl) (hx : ev ρ x = some (.int kl l) := by exact rfl) (hy : ev ρ y = some (.int kc c) := by exact rfl) (ht : lkN S.ty t = some ⟨5, E, y0, s0, b0⟩ := by exact rfl) (he : lkN S.ty E = some ⟨k1, x1, y1, sz, by1⟩ := by exact rfl)
    (hz : lkN S.zr E = some z := by exact rfl) (hzs : z.cells = ⟨zs⟩ := by exact rfl) (hzl : Nat.beq zs.length sz = true := by exact rfl) (hn : Nat.blt d n = true := by exact rfl) (hc : 0 ≤ l ∧ l ≤ c ∧ (by1 : Int) * c ≤ 281474976710656 ∧ c ≤ 9223372036854775807 := by omega) : HO P n ops Q (⟨some d, .makeSlice t x y, ty, pos, af, none⟩ :: rest) ρ L := by
  refine ho_run rfl rfl hn fun ρe he' k w hs => ⟨sl w.heap.size 0 l.toNat c.toNat, w.alloc (.cells ⟨(List.replicate c.toNat zs).flatten⟩ E), _, ?_, hs.new _, h _⟩
  have hdesc := ty_slice (S.tyI ht) rfl
  obtain ⟨de, i, hde, hi, -, hisz, hiby⟩ := ty_desc (S.tyI he)
  simp only at hisz hiby
  have hiz : i.zero = some z := by
    have := S.zeroI hz
    unfold zeroI at this
    simpa [hi] using this
  have hr := run_make (P := P) w t E i z hdesc hi hiz kl kc l c hc.1 hc.2.1 (by rw [hiby]; exact hc.2.2.1) hc.2.2.2
  have hl := Nat.eq_of_beq_eq_true hzl
  rw [hisz, hzs, ← hl, madeCells_flat] at hr
  simp [execOp, he' x (by simp [Op.operands]) _ hx, he' y (by simp [Op.operands]) _ hy, hr]
end o
end Go.HL
