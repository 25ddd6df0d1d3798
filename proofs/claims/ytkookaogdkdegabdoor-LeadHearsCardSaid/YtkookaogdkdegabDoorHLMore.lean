/- The heap logic: slices of slices. No program in sight. Conditions: none. -/
import Derived.Test.YtkookaogdkdegabDoorHLApp
namespace Go.HL
open Go
set_option linter.unusedVariables false
set_option linter.unusedSimpArgs false

/-- where a slice of a slice begins -/
def cut (a : Option Addr) (cap l sz : Nat) : Option Addr := if cap = l then a else a.map (·.add (l * sz))
theorem Rd.drop {α : Type} {enc : α → List Value} {sz : Nat} {L : Heap} {a : Option Addr} {xs : List α} {cap l : Nat} (h : Rd enc sz L a xs) (hc : xs.length ≤ cap) : Rd enc sz L (cut a cap l sz) (xs.drop l) := by
  by_cases hl : xs.length ≤ l
  · exact .inl (List.drop_of_length_le hl)
  · rcases h with h | ⟨b, i, c, E, fr, rfl, hb, hg⟩
    · exact .inl (by simp [h])
    · refine .inr ⟨b, i + l * sz, c, E, fr, ?_, hb, fun k x hx => ?_⟩
      · unfold cut
        rw [if_neg (by omega)]
        simp only [Option.map_some, addr_add]
      · rw [List.getElem?_drop] at hx
        have := hg _ _ hx
        rw [Nat.add_mul, ← Nat.add_assoc] at this
        exact this
theorem Rd.take {α : Type} {enc : α → List Value} {sz : Nat} {L : Heap} {a : Option Addr} {xs : List α} {n : Nat} (h : Rd enc sz L a xs) : Rd enc sz L a (xs.take n) := by
  rcases h with h | ⟨b, i, c, E, fr, rfl, hb, hg⟩
  · exact .inl (by simp [h])
  · refine .inr ⟨b, i, c, E, fr, rfl, hb, fun k x hx => ?_⟩
    rw [List.getElem?_take] at hx
    split at hx
    · exact hg _ _ hx
    · cases hx
theorem elem_of {P : Program} {t e : Nat} (h : P.underlying t = some (.slice e)) : P.elem t = e ∧ P.underlying t = some (.slice (P.elem t)) := by
  have : P.elem t = e := by simp [Program.elem, h]
  exact ⟨this, by rw [this]; exact h⟩
section q
variable {P : Program} (S : Tab P) {ρ : Env} {L : Heap} {d : Option Tmp} {ty : TypeId} {pos : String} {af : Array Edge} {g : Option (Nat × Bool)}
theorem q_sliceLo {t E y0 s0 b0 k1 x1 y1 sz b1 len cap : Nat} {a : Option Addr} {x y : Operand} {k : IntKind} {l : Int} (hx : ev ρ x = some (.slice a len cap)) (hy : ev ρ y = some (.int k l)) (ht : lkN S.ty t = some ⟨5, E, y0, s0, b0⟩)
    (he' : lkN S.ty E = some ⟨k1, x1, y1, sz, b1⟩) (h : 0 ≤ l ∧ l ≤ len) : QOp P ⟨d, .slice t x (some y) none none, ty, pos, af, g⟩ ρ L (.slice (cut a cap l.toNat sz) (len - l.toNat) (cap - l.toNat)) :=
  q_run fun ρe he k w hs => by
    obtain ⟨e1, e2⟩ := elem_of (ty_slice (S.tyI ht) rfl)
    have h2 := ty_size (S.tyI he') w
    simp [execOp, he x (by simp [Op.operands]) _ hx, he y (by simp [Op.operands]) _ hy, run_sliceAt_slice _ _ _ _ _ _ e2, run_slice_l _ _ _ _ _ e2 _ _ h.1 h.2, e1, h2, Result.andThen, sliced, cut]
theorem q_sliceHi {t E y0 s0 b0 k1 x1 y1 sz b1 len cap : Nat} {a : Option Addr} {x y : Operand} {k : IntKind} {l : Int} (hx : ev ρ x = some (.slice a len cap)) (hy : ev ρ y = some (.int k l)) (ht : lkN S.ty t = some ⟨5, E, y0, s0, b0⟩)
    (he' : lkN S.ty E = some ⟨k1, x1, y1, sz, b1⟩) (h : 0 ≤ l ∧ l ≤ cap) : QOp P ⟨d, .slice t x none (some y) none, ty, pos, af, g⟩ ρ L (.slice a l.toNat cap) :=
  q_run fun ρe he k w hs => by
    obtain ⟨e1, e2⟩ := elem_of (ty_slice (S.tyI ht) rfl)
    have h2 := ty_size (S.tyI he') w
    have : (if cap = 0 then a else a.map (·.add (0 * sz))) = a := by
      split
      · rfl
      · cases a <;> simp [Addr.add]
    simp [execOp, he x (by simp [Op.operands]) _ hx, he y (by simp [Op.operands]) _ hy, run_sliceAt_slice _ _ _ _ _ _ e2, run_slice_h _ _ _ _ _ e2 _ _ h.1 h.2, e1, h2, Result.andThen, sliced]
    simpa using this
theorem q_sliceLH {t E y0 s0 b0 k1 x1 y1 sz b1 len cap : Nat} {a : Option Addr} {x y z : Operand} {k k2 : IntKind} {l hh : Int} (hx : ev ρ x = some (.slice a len cap)) (hy : ev ρ y = some (.int k l)) (hz : ev ρ z = some (.int k2 hh)) (ht : lkN S.ty t = some ⟨5, E, y0, s0, b0⟩)
    (he' : lkN S.ty E = some ⟨k1, x1, y1, sz, b1⟩) (h : 0 ≤ l ∧ l ≤ hh ∧ hh ≤ cap) : QOp P ⟨d, .slice t x (some y) (some z) none, ty, pos, af, g⟩ ρ L (.slice (cut a cap l.toNat sz) (hh.toNat - l.toNat) (cap - l.toNat)) :=
  q_run fun ρe he k w hs => by
    obtain ⟨e1, e2⟩ := elem_of (ty_slice (S.tyI ht) rfl)
    have h2 := ty_size (S.tyI he') w
    simp [execOp, he x (by simp [Op.operands]) _ hx, he y (by simp [Op.operands]) _ hy, he z (by simp [Op.operands]) _ hz, run_sliceAt_slice _ _ _ _ _ _ e2, run_slice_lh _ _ _ _ _ e2 _ _ _ _ h.1 h.2.1 h.2.2, e1, h2, Result.andThen, sliced, cut]
end q
end Go.HL
