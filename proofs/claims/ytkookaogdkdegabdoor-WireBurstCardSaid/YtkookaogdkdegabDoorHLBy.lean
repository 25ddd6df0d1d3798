/- The heap logic: a text as bytes of one's own; a store beside a mark; the rest of an unsigned division. No program in sight. Conditions: none. -/
import Derived.Test.YtkookaogdkdegabDoorHLCp
import Derived.Laws.IdiomStrings
namespace Go.HL
open Go
set_option linter.unusedVariables false
set_option linter.unusedSimpArgs false
theorem frozen_off (w : World) (g j : Nat) (cs : Array Value) (t : TypeId) (fr : Nat × Nat) (hg : w.heap[g]? = some (.cells cs t fr)) (h : j < fr.1) : w.frozen? ⟨g, j, none⟩ = false := by
  unfold World.frozen?
  simp [hg]
  omega
section o
variable {P : Program} (S : Tab P) {n : Nat} {ops : List Oper} {Q : Exit → Env → Heap → Prop} {rest : List Oper} {ρ : Env} {L : Heap} {ty : TypeId} {pos : String} {af : Array Edge}
/-- []byte(s) -/
theorem wcB {d t t2 E y0 s0 b0 x1 y1 s1 by1 : Nat} {ti : TyI} {x : Operand} {l : List UInt8} (h : ∀ b cap sp, l.length ≤ cap → HO P n ops Q rest ((d, sl b 0 l.length cap) :: ρ) ([(b, .cells ⟨l.map u8 ++ sp⟩ E (l.length + sp.length, l.length + sp.length + 1))] :: L)) (h00 : okv ρ = true := by exact rfl)
    (hx : ev ρ x = some (bs l) := by exact rfl) (ht : lkN S.ty t = some ti := by exact rfl) (h3 : Nat.beq ti.kind 3 = true := by exact rfl) (ht2 : lkN S.ty t2 = some ⟨5, E, y0, s0, b0⟩ := by exact rfl) (he : lkN S.ty E = some ⟨2, x1, y1, s1, by1⟩ := by exact rfl) (hu : Nat.beq x1 4 = true := by exact rfl) (hn : Nat.blt d n = true := by exact rfl) :
    HO P n ops Q (⟨some d, .convert t t2 x, ty, pos, af, none⟩ :: rest) ρ L := by
  refine ho_run rfl rfl hn fun ρe he' k w hs => ?_
  have hu' := Nat.eq_of_beq_eq_true hu
  have h1 := ty_slice (S.tyI ht2) rfl
  have h2 := ty_string (S.tyI ht) (Nat.eq_of_beq_eq_true h3)
  have h4 : P.underlying E = some (.int .u8) := by
    have := ty_int (S.tyI he) rfl
    simpa [hu', kindOf] using this
  have hr := run_bytes_of_string w t t2 E (ByteArray.mk ⟨l⟩) h2 h1 h4
  have hcap : l.length ≤ grownCap w l.length 0 E := Nat.le_add_right _ _
  have hrow : bytesRow (ByteArray.mk ⟨l⟩) (grownCap w l.length 0 E) = ⟨l.map u8 ++ List.replicate (grownCap w l.length 0 E - l.length) (.int .u8 0)⟩ := by
    apply Array.ext'
    simp [bytesRow, ba_size, u8]
  refine ⟨_, _, _, ?_, (hs.drew).new (.cells ⟨l.map u8 ++ List.replicate (grownCap w l.length 0 E - l.length) (.int .u8 0)⟩ E (l.length + (List.replicate (grownCap w l.length 0 E - l.length) (Value.int .u8 0)).length, l.length + (List.replicate (grownCap w l.length 0 E - l.length) (Value.int .u8 0)).length + 1)), h w.drew.heap.size (grownCap w l.length 0 E) _ hcap⟩
  rw [ba_size, hrow] at hr
  simp [execOp, he' x (by simp [Op.operands]) _ hx, hr]
/-- one cell is stored below the mark -/
theorem wsF {t b i E : Nat} {ti : TyI} {x y : Operand} {v : Value} {fr : Nat × Nat} {l l' : List Value} {L' : Heap} (h : HO P n ops Q rest ρ L') (hp : l' = l.set i v) (hi : i < l.length) (hf : i < fr.1) (h00 : okv ρ = true := by exact rfl) (hx : ev ρ x = some (pt b i) := by exact rfl) (hy : ev ρ y = some v := by exact rfl) (ht : lkN S.ty t = some ti := by exact rfl)
    (hc : v.cells = ⟨[v]⟩ := by exact rfl) (hsz : Nat.beq ti.size 1 = true := by exact rfl) (h1 : v.oneCell' = true := by exact rfl) (hu : Upd L b (.cells ⟨l⟩ E fr) (.cells ⟨l'⟩ E fr) L' := by (repeat (first | exact upd_here | apply upd_in | apply upd_next))) : HO P n ops Q (⟨none, .store t x y, ty, pos, af, none⟩ :: rest) ρ L :=
  ho_do rfl rfl fun ρe he k w hs => by
    subst hp
    have hb := hs.heap hu.has
    have hcell : w.cell? ⟨b, i, none⟩ = some (l[i]'hi) := by
      rw [cell_of_row w b _ ⟨l⟩ E fr hb]
      simp [hi]
    have hfz := frozen_off w b i ⟨l⟩ E fr hb hf
    have hst : (store (Addr.mk b i none) v).run P w = .ok () (w.setCell ⟨b, i, none⟩ v) := by
      rw [run_store P w _ v _ h1]
      simp [hcell, hfz]
    refine ⟨w.setCell ⟨b, i, none⟩ v, L', .inl ?_, hs.upd hu rfl rfl rfl (setCell_heap hb i v) (fun j hj => heap_setCell_other w _ j v hj), h⟩
    have h2 := ty_size (S.tyI ht) w
    rw [Nat.eq_of_beq_eq_true hsz] at h2
    simp [execOp, Instr.storeAt, he x (by simp [Op.operands]) _ hx, he y (by simp [Op.operands]) _ hy, Instr.sureAddr, storeVar, h2, hc, storeCells, addr_add, hst]
end o
section q
variable {P : Program} {ρ : Env} {L : Heap} {d : Option Tmp} {ty : TypeId} {pos : String} {af : Array Edge} {g : Option (Nat × Bool)}
theorem qr32 (S : Tab P) {t t' : Nat} {x y : Operand} {a b : Int} (h00 : okv ρ = true := by exact rfl) (hx : ev ρ x = some (.int .u32 a) := by exact rfl) (hy : ev ρ y = some (.int .u32 b) := by exact rfl) (h : 0 ≤ a ∧ 1 ≤ b := by first | assumption | omega) : QOp P ⟨d, .binOp .rem t x y t', ty, pos, af, g⟩ ρ L (.int .u32 (a % b)) :=
  q_arith hx hy fun w => by
    have h2 : b ≠ 0 := by omega
    simp [binOp, Op.intDiv, Int.tmod_eq_emod_of_nonneg h.1, h2]
end q
end Go.HL
