/- Texts laid into one, without what the claim does not use. Conditions: none. -/
import Derived.Test.YtkookaogdkdegacGreatDoorMStA
import Derived.MapKept
import Derived.WideKeyRuns
import Derived.Carry
import Derived.ProofKit
import Derived.OpenShut
import Derived.Deep.Slices
import Derived.Deep.Strs
import Derived.JoinedCond
import Derived.Deep.DeepHandedRow
import Derived.Stop.LaidErr
import Derived.LaidLaws
import Derived.Lay
import Derived.MakeChecks
import Derived.LaidHandle
import Derived.ChangeMaps5
import Derived.LaidEql
import Derived.Stop.Asserts
import Derived.RowKitTokens
import Derived.Leaving
import Derived.Conc.Holds
import Derived.SevenTiedAt
import Derived.Lib.Overlaps
import Derived.DeepKeys3
/-! HLGo -/
section
namespace Go.HL
/-! short names for a walk's own simplifications -/
theorem zA {a b : Bool} : ((!a) = b) ↔ a = !b := Bool.not_eq_eq_eq_not
theorem zB : (!true) = false := rfl
theorem zC : (!false) = true := rfl
theorem zD {p : Prop} [Decidable p] : (decide p = true) = p := decide_eq_true_eq
theorem zE {p : Prop} {x : Decidable p} : decide p = false ↔ ¬ p := decide_eq_false_iff_not
theorem zF {p : Prop} [Decidable p] : ¬ ¬ p ↔ p := Decidable.not_not
theorem zG (a b : Bool) : ((a && b) = true) = (a = true ∧ b = true) := Bool.and_eq_true a b
theorem zH {α : Type} [BEq α] [LawfulBEq α] {a b : α} : (a == b) = true ↔ a = b := beq_iff_eq
theorem zI (h : Decidable True) : @decide True h = true := decide_true h
theorem zJ (b : Bool) : (b && true) = b := Bool.and_true b
theorem zK (b : Bool) : (true && b) = b := Bool.true_and b
theorem zL : (¬ True) = False := not_true_eq_false
theorem zM : (¬ False) = True := not_false_eq_true
open Go
set_option linter.unusedVariables false
set_option linter.unusedSimpArgs false

def X6 : Z3 → Bool
 | [] => true
 | _ :: _ => true
/-! ### control -/
section c
variable {P : Program} {n : Nat} {ops : List Oper} {Q : Exit → Z3 → Zb → Prop} {rest : List Oper} {ρ : Z3} {L : Zb}
theorem g_t {c : Operand} {x y : Code} {b : Bool} (h : HW P n x Q ρ L) (h00 : X6 ρ = true := by exact rfl) (hc : ev ρ c = some (.bool b) := by exact rfl) (hb : b = true := by with_reducible exact rfl) : HW P n (.cond c x y) Q ρ L := hw_true hc hb h
theorem g_f {c : Operand} {x y : Code} {b : Bool} (h : HW P n y Q ρ L) (h00 : X6 ρ = true := by exact rfl) (hc : ev ρ c = some (.bool b) := by exact rfl) (hb : b = false := by with_reducible exact rfl) : HW P n (.cond c x y) Q ρ L := hw_false hc hb h
theorem g_b {c : Operand} {x y : Code} {b : Bool} (ht : b = true → HW P n x Q ρ L) (hf : b = false → HW P n y Q ρ L) (h00 : X6 ρ = true := by exact rfl) (hc : ev ρ c = some (.bool b) := by exact rfl) : HW P n (.cond c x y) Q ρ L := hw_bool hc ht hf
theorem g_bx {id i : Nat} (h : Q (.exit i) ρ L) (h00 : X6 ρ = true := by exact rfl) (hn : Nat.beq i id = false := by exact rfl) : Z6 id Q (.exit i) ρ L := Zu5 hn h

/-! ### operations -/
variable {op : Op} {ty : TypeId} {pos : String} {af : Array Edge} {g : Option (Nat × Bool)} {d : Nat}
theorem We {v : Value} (h : QOp P ⟨some d, op, ty, pos, af, g⟩ ρ L v) (hr : HO P n ops Q rest ((d, v) :: ρ) L) (h00 : X6 ρ = true := by exact rfl) (hg : Yn ops ρ g = some true := by exact rfl) (hn : Nat.blt d n = true := by exact rfl) : HO P n ops Q (⟨some d, op, ty, pos, af, g⟩ :: rest) ρ L := ho_go hg hn h hr
theorem g_n (hr : HO P n ops Q rest ((d, undef) :: ρ) L) (h00 : X6 ρ = true := by exact rfl) (hg : Yn ops ρ g = some false := by exact rfl) (hn : Nat.blt d n = true := by exact rfl) : HO P n ops Q (⟨some d, op, ty, pos, af, g⟩ :: rest) ρ L := ho_no hg hn hr
theorem g_on {d : Option Tmp} {j : Nat} {wt : Bool} (h : HO P n ops Q (⟨d, op, ty, pos, af, none⟩ :: rest) ρ L) (h00 : X6 ρ = true := by exact rfl) (hg : Yn ops ρ (some (j, wt)) = some true := by exact rfl) : HO P n ops Q (⟨d, op, ty, pos, af, some (j, wt)⟩ :: rest) ρ L := ho_on hg h
theorem g_s {d j t : Nat} {wt : Bool} {b : Bool} (h1 : b = true → HO P n ops Q (⟨some d, op, ty, pos, af, some (j, wt)⟩ :: rest) ((t, .bool true) :: ρ) L) (h0 : b = false → HO P n ops Q (⟨some d, op, ty, pos, af, some (j, wt)⟩ :: rest) ((t, .bool false) :: ρ) L)
  (h00 : X6 ρ = true := by exact rfl) (hj : Q0 ops j = some t := by exact rfl) (ht : lk ρ t = some (.bool b) := by exact rfl) : HO P n ops Q (⟨some d, op, ty, pos, af, some (j, wt)⟩ :: rest) ρ L := Zup hj ht h1 h0
variable {K : Z3 → Prop}
theorem Qi {v : Value} (h : QOp P ⟨some d, op, ty, pos, af, g⟩ ρ L v) (hr : HQ P n ops K rest ((d, v) :: ρ) L) (h00 : X6 ρ = true := by exact rfl) (hg : Yn ops ρ g = some true := by exact rfl) (hn : Nat.blt d n = true := by exact rfl) : HQ P n ops K (⟨some d, op, ty, pos, af, g⟩ :: rest) ρ L := hq_go hg hn h hr
theorem k_n (hr : HQ P n ops K rest ((d, undef) :: ρ) L) (h00 : X6 ρ = true := by exact rfl) (hg : Yn ops ρ g = some false := by exact rfl) (hn : Nat.blt d n = true := by exact rfl) : HQ P n ops K (⟨some d, op, ty, pos, af, g⟩ :: rest) ρ L := hq_no hg hn hr
theorem k_s {d j t : Nat} {wt : Bool} {b : Bool} (h1 : b = true → HQ P n ops K (⟨some d, op, ty, pos, af, some (j, wt)⟩ :: rest) ((t, .bool true) :: ρ) L) (h0 : b = false → HQ P n ops K (⟨some d, op, ty, pos, af, some (j, wt)⟩ :: rest) ((t, .bool false) :: ρ) L)
  (h00 : X6 ρ = true := by exact rfl) (hj : Q0 ops j = some t := by exact rfl) (ht : lk ρ t = some (.bool b) := by exact rfl) : HQ P n ops K (⟨some d, op, ty, pos, af, some (j, wt)⟩ :: rest) ρ L := Zui hj ht h1 h0
def calm : List Oper → Bool
 | [] => true
 | o :: r => bif isAct o then false else calm r
theorem Z7 {id : Nat} (S : Tab P) (h : HQ P n ops (fun ρ' => Q .normal ρ' L) ops ρ L) (h00 : X6 ρ = true := by exact rfl) (hc : calm ops = true := by exact rfl) (hB : Region.lexB .any ops.toArray = true := by decide +kernel) : HW P n (.region id ops.toArray true) Q ρ L := Zpz S hB h
theorem Yc {id : Nat} (S : Tab P) {rem : List (Nat × Oper)} (h : HD P n ops Q [] rem ρ L) (h00 : X6 ρ = true := by exact rfl) (h0 : Zo7 Zru ops some = some rem := by exact rfl) : HW P n (.region id ops.toArray true) Q ρ L := Zt5 S h0 h
theorem Yt {id : Nat} (S : Tab P) {rem : List (Nat × Oper)} (h : HD P n ops Q [] rem ρ L) (h00 : X6 ρ = true := by exact rfl) (hc : calm ops = false := by exact rfl) (h0 : Zo7 Zru ops some = some rem := by exact rfl) : HW P n (.region id ops.toArray true) Q ρ L := Zt5 S h0 h
end c

/-! ### what reads -/
section q
variable {P : Program} {ρ : Z3} {L : Zb} {d : Option Tmp} {ty : TypeId} {pos : String} {af : Array Edge} {g : Option (Nat × Bool)}
theorem qe (S : Tab P) {o : Op} {v : Value} {p : Prop} (h00 : X6 ρ = true := by exact rfl) (h : opE S.ty S.fl ρ o = some (v, p) := by exact rfl) (hp : p := by first | exact trivial | omega | assumption | (simp only [List.length_append, List.length_cons, List.length_nil]; omega) | (simp only [loE, Zcc, wdE, Int.reduceToNat, Int.reducePow] at *; omega)) : QOp P ⟨d, o, ty, pos, af, g⟩ ρ L v := opE_q S h hp
theorem qg (S : Tab P) {t n : Nat} {ti : TyI} {v : Value} (h00 : X6 ρ = true := by exact rfl) (ht : Yl S.ty t = some ti := by exact rfl) (h6 : Nat.beq ti.kind 6 = false := by exact rfl) (h7 : Nat.beq ti.kind 7 = false := by exact rfl) (hg : Gl L n v := by (repeat (first | assumption | exact Errs.get (by assumption) rfl rfl | apply Gl.cons))) :
  QOp P ⟨d, .load t (.global n), ty, pos, af, g⟩ ρ L v := q_gload S ht h6 h7 hg
theorem ql (S : Tab P) {t b i E : Nat} {ti : TyI} {x : Operand} {l : List Value} {fr : Nat × Nat} {v : Value} (h00 : X6 ρ = true := by exact rfl) (hx : ev ρ x = some (pt b i) := by exact rfl) (ht : Yl S.ty t = some ti := by exact rfl) (h6 : Nat.beq ti.kind 6 = false := by exact rfl) (h7 : Nat.beq ti.kind 7 = false := by exact rfl)
  (hb : Has L b (.cells ⟨l⟩ E fr) := by (repeat (first | assumption | exact Zv | exact Yu (by assumption) | apply Vw | apply Zf))) (hv : l[i]? = some v := by (first | exact rfl | assumption | exact Gets.at (by assumption) rfl | exact Gets.at0 (by assumption) rfl)) :
  QOp P ⟨d, .load t x, ty, pos, af, g⟩ ρ L v := Znn S hx ht h6 h7 hb hv
theorem Zjm {l vs : List Value} {i n : Nat} (h : Gets l i vs) (hn : n = vs.length) : Gets l i vs ∧ n = vs.length := ⟨h, hn⟩
theorem qs (S : Tab P) {t b i E : Nat} {ti : TyI} {x : Operand} {l vs : List Value} {fr : Nat × Nat} (h00 : X6 ρ = true := by exact rfl) (hx : ev ρ x = some (pt b i) := by exact rfl) (ht : Yl S.ty t = some ti := by exact rfl) (h7 : (Nat.beq ti.kind 6 || Nat.beq ti.kind 7) = true := by exact rfl)
  (hb : Has L b (.cells ⟨l⟩ E fr) := by (repeat (first | assumption | exact Zv | exact Yu (by assumption) | apply Vw | apply Zf)))
  (hv : Gets l i vs ∧ ti.size = vs.length := by (first | (refine Zjm (by assumption) ?_; rfl) | exact ⟨Ze rfl (Ze rfl (Ze rfl Ym)), rfl⟩ | exact ⟨Ze rfl (Ze rfl Ym), rfl⟩ | exact ⟨Ze rfl (Ze rfl (Ze rfl (Ze rfl Ym))), rfl⟩ | exact ⟨Ze rfl (Ze rfl (Ze rfl (Ze rfl (Ze rfl (Ze rfl (Ze rfl (Ze rfl (Ze rfl Ym)))))))), rfl⟩)) :
  QOp P ⟨d, .load t x, ty, pos, af, g⟩ ρ L (.agg ⟨vs⟩) := Zs6 S hx ht h7 hb hv
theorem qn (S : Tab P) {t : Nat} {x : Operand} {b : Bool} (h00 : X6 ρ = true := by exact rfl) (hx : ev ρ x = some (.bool b) := by exact rfl) : QOp P ⟨d, .unOp .not t x, ty, pos, af, g⟩ ρ L (.bool (!b)) := q_not hx
theorem qb (S : Tab P) {t : Nat} {parts : Array (Nat × Operand)} {zs out : List Value} {vals : List (Nat × Value)} {fs : List (Nat × Nat × Nat)} (h00 : X6 ρ = true := by exact rfl) (hz : Yl S.zr t = some (.agg ⟨zs⟩) := by exact rfl) (hs : Yl S.st t = some fs := by exact rfl) (hp : Vr ρ parts.toList = some vals := by exact rfl)
  (hf : ((Zmq fs zs vals).bind fun l => nfL l some) = some out := by exact rfl) : QOp P ⟨d, .build t parts, ty, pos, af, g⟩ ρ L (.agg ⟨out⟩) := q_build S hz hs hp hf
theorem qSl (S : Tab P) {t : Nat} {ti : TyI} {x y : Operand} {k : IntKind} {lo : Int} {l : List UInt8} (h00 : X6 ρ = true := by exact rfl) (hx : ev ρ x = some (bs l) := by exact rfl) (hy : ev ρ y = some (.int k lo) := by exact rfl) (ht : Yl S.ty t = some ti := by exact rfl) (hk : Nat.beq ti.kind 3 = true := by exact rfl) (h : 0 ≤ lo ∧ lo ≤ l.length := by omega) :
  QOp P ⟨d, .slice t x (some y) none none, ty, pos, af, g⟩ ρ L (bs (l.drop lo.toNat)) := q_strLo S hx hy ht hk h
theorem qSh (S : Tab P) {t : Nat} {ti : TyI} {x y : Operand} {k : IntKind} {hi : Int} {l : List UInt8} (h00 : X6 ρ = true := by exact rfl) (hx : ev ρ x = some (bs l) := by exact rfl) (hy : ev ρ y = some (.int k hi) := by exact rfl) (ht : Yl S.ty t = some ti := by exact rfl) (hk : Nat.beq ti.kind 3 = true := by exact rfl) (h : 0 ≤ hi ∧ hi ≤ l.length := by omega) :
  QOp P ⟨d, .slice t x none (some y) none, ty, pos, af, g⟩ ρ L (bs (l.take hi.toNat)) := q_strHi S hx hy ht hk h
theorem qSb (S : Tab P) {t : Nat} {ti : TyI} {x y z : Operand} {k k2 : IntKind} {lo hi : Int} {l : List UInt8} (h00 : X6 ρ = true := by exact rfl) (hx : ev ρ x = some (bs l) := by exact rfl) (hy : ev ρ y = some (.int k lo) := by exact rfl) (hz : ev ρ z = some (.int k2 hi) := by exact rfl) (ht : Yl S.ty t = some ti := by exact rfl) (hk : Nat.beq ti.kind 3 = true := by exact rfl) (h : 0 ≤ lo ∧ lo ≤ hi ∧ hi ≤ l.length := by omega) :
  QOp P ⟨d, .slice t x (some y) (some z) none, ty, pos, af, g⟩ ρ L (bs ((l.take hi.toNat).drop lo.toNat)) := q_strLH S hx hy hz ht hk h
theorem qt (S : Tab P) {t t2 E y0 s0 b0 x1 y1 s1 by1 : Nat} {ti : TyI} {x : Operand} {a : Option Addr} {cap : Nat} {l : List UInt8} (h00 : X6 ρ = true := by exact rfl) (hx : ev ρ x = some (.slice a l.length cap) := by exact rfl) (ht : Yl S.ty t = some ⟨5, E, y0, s0, b0⟩ := by exact rfl) (he : Yl S.ty E = some ⟨2, x1, y1, s1, by1⟩ := by exact rfl) (hu : Nat.beq x1 4 = true := by exact rfl)
  (ht2 : Yl S.ty t2 = some ti := by exact rfl) (h3 : Nat.beq ti.kind 3 = true := by exact rfl) (hR : Rd uc 1 L a l := by (repeat (first | assumption | apply Rd.cons))) : QOp P ⟨d, .convert t t2 x, ty, pos, af, g⟩ ρ L (bs l) := Zjz S hx ht he hu ht2 h3 hR
theorem qA (S : Tab P) {t t' : Nat} {l : List Nat} {x y : Operand} {xs ys : List Value} {r : Bool} (h00 : X6 ρ = true := by exact rfl) (hx : ev ρ x = some (.agg ⟨xs⟩) := by exact rfl) (hy : ev ρ y = some (.agg ⟨ys⟩) := by exact rfl) (ht : Yl S.eq t = some l := by exact rfl) (he : Zd4 l xs ys = some r := by exact rfl) : QOp P ⟨d, .binOp .eql t x y t', ty, pos, af, g⟩ ρ L (.bool r) := q_eqA (S := S) hx hy ht he
theorem qB (S : Tab P) {t t' : Nat} {l : List Nat} {x y : Operand} {xs ys : List Value} {r : Bool} (h00 : X6 ρ = true := by exact rfl) (hx : ev ρ x = some (.agg ⟨xs⟩) := by exact rfl) (hy : ev ρ y = some (.agg ⟨ys⟩) := by exact rfl) (ht : Yl S.eq t = some l := by exact rfl) (he : Zd4 l xs ys = some r := by exact rfl) : QOp P ⟨d, .binOp .neq t x y t', ty, pos, af, g⟩ ρ L (.bool (!r)) := q_neA (S := S) hx hy ht he
theorem qtx (S : Tab P) {t t2 E y0 s0 b0 x1 y1 s1 by1 len : Nat} {ti : TyI} {x : Operand} {a : Option Addr} {cap : Nat} {l : List UInt8} (hR : Rd uc 1 L a l) (hlen : l.length = len) (h00 : X6 ρ = true := by exact rfl) (hx : ev ρ x = some (.slice a len cap) := by exact rfl) (ht : Yl S.ty t = some ⟨5, E, y0, s0, b0⟩ := by exact rfl) (he : Yl S.ty E = some ⟨2, x1, y1, s1, by1⟩ := by exact rfl) (hu : Nat.beq x1 4 = true := by exact rfl)
  (ht2 : Yl S.ty t2 = some ti := by exact rfl) (h3 : Nat.beq ti.kind 3 = true := by exact rfl) : QOp P ⟨d, .convert t t2 x, ty, pos, af, g⟩ ρ L (bs l) := by subst hlen; exact Zjz S hx ht he hu ht2 h3 hR
theorem wrap_u8 (n : Int) : IntKind.u8.wrap n = n % 256 := by simp [IntKind.wrap, IntKind.bits, IntKind.signed]
theorem Zo0 (n : Int) : IntKind.u32.wrap n = n % 4294967296 := by simp [IntKind.wrap, IntKind.bits, IntKind.signed]
theorem q_cut (S : Tab P) {src dst : Nat} {ti ts : TyI} {x : Operand} {k : IntKind} {n : Int} (hx : ev ρ x = some (.int k n)) (ht : Yl S.ty dst = some ti) (hs : Yl S.ty src = some ts) (hk : Nat.beq ti.kind 2 = true) : QOp P ⟨d, .convert src dst x, ty, pos, af, g⟩ ρ L (.int (Qk ti.x) ((Qk ti.x).wrap n)) :=
 Y5 fun ρe he k' w hsat => by
  have e1 := Zgv (S.tyI ht) (Nat.eq_of_beq_eq_true hk)
  obtain ⟨ds, hds⟩ := Option.isSome_iff_exists.1 (Zlp (S.tyI hs))
  simp [execOp, he x (by simp [Op.operands]) _ hx, convert, run_underlying e1, run_underlying hds, Conv.intToInt]
theorem qc8 (S : Tab P) {src dst : Nat} {ti ts : TyI} {x : Operand} {k : IntKind} {n : Int} (h00 : X6 ρ = true := by exact rfl) (hx : ev ρ x = some (.int k n) := by exact rfl) (ht : Yl S.ty dst = some ti := by exact rfl) (hs : Yl S.ty src = some ts := by exact rfl) (hk : Nat.beq ti.kind 2 = true := by exact rfl) (h8 : Nat.beq ti.x 4 = true := by exact rfl) :
  QOp P ⟨d, .convert src dst x, ty, pos, af, g⟩ ρ L (.int .u8 (n % 256)) := by
 have := q_cut (d := d) (ty := ty) (pos := pos) (af := af) (g := g) (L := L) S hx ht hs hk
 rw [Nat.eq_of_beq_eq_true h8] at this
 rw [← wrap_u8]
 exact this
theorem qc32 (S : Tab P) {src dst : Nat} {ti ts : TyI} {x : Operand} {k : IntKind} {n : Int} (h00 : X6 ρ = true := by exact rfl) (hx : ev ρ x = some (.int k n) := by exact rfl) (ht : Yl S.ty dst = some ti := by exact rfl) (hs : Yl S.ty src = some ts := by exact rfl) (hk : Nat.beq ti.kind 2 = true := by exact rfl) (h8 : Nat.beq ti.x 6 = true := by exact rfl) :
  QOp P ⟨d, .convert src dst x, ty, pos, af, g⟩ ρ L (.int .u32 (n % 4294967296)) := by
 have := q_cut (d := d) (ty := ty) (pos := pos) (af := af) (g := g) (L := L) S hx ht hs hk
 rw [Nat.eq_of_beq_eq_true h8] at this
 rw [← Zo0]
 exact this
theorem qx32 (S : Tab P) {t : Nat} {x : Operand} {n : Int} (h00 : X6 ρ = true := by exact rfl) (hx : ev ρ x = some (.int .u32 n) := by exact rfl) (h : 0 ≤ n ∧ n ≤ 4294967295 := by omega) : QOp P ⟨d, .unOp .xor t x, ty, pos, af, g⟩ ρ L (.int .u32 (4294967295 - n)) :=
 Y5 fun ρe he k w hs => by
  have e : IntKind.u32.wrap (BitVec.ofInt IntKind.u32.bits 4294967295 ^^^ BitVec.ofInt IntKind.u32.bits n).toNat = 4294967295 - n := by
   have h2 : IntKind.u32.bits = 32 := rfl
   rw [h2]
   have h1 : BitVec.ofInt 32 4294967295 = BitVec.allOnes 32 := by decide
   have h3 : (BitVec.allOnes 32 ^^^ BitVec.ofInt 32 n) = ~~~ BitVec.ofInt 32 n := BitVec.allOnes_xor
   have h4 : (BitVec.ofInt 32 n).toNat = n.toNat := Vs (k := .u32) h.1 h.2
   rw [h1, h3, Zo0, BitVec.toNat_not, h4]
   omega
  have e2 : (if IntKind.u32.signed = true then (-1 : Int) else IntKind.u32.max) = 4294967295 := by decide
  have e3 : (Op.intBits .xor .u32 4294967295 n).run P w = .ok (.int .u32 (4294967295 - n)) w := by
   simp only [Op.intBits]
   exact congrArg (fun z => Result.ok (Value.int .u32 z) w) e
  simp only [execOp, he x (by simp [Op.operands]) _ hx, Op.unary, e2]
  simp [e3]
theorem qC {f : Operand} {as9 : Array Operand} {ts : Array TypeId} {F : Nat} {cap args args' : List Value} {v : Value} (hc : HC P F args' L (fun u L' => u = v ∧ L' = L)) (h00 : X6 ρ = true := by exact rfl) (hf : ev ρ f = some (.func (.func F) #[] ⟨cap⟩) := by exact rfl) (ha : Zk3 ρ as9.toList = some args := by exact rfl) (he : args ++ cap = args' := by exact rfl) :
  QOp P ⟨d, .call { callee := .value f, args := as9, argTypes := ts }, ty, pos, af, g⟩ ρ L v := q_call hf ha (he ▸ hc)
end q

/-! ### what writes -/
section o
variable {P : Program} (S : Tab P) {n : Nat} {ops : List Oper} {Q : Exit → Z3 → Zb → Prop} {rest : List Oper} {ρ : Z3} {L : Zb} {ty : TypeId} {pos : String} {af : Array Edge}
theorem wa {d E : Nat} {z : Value} {zs : List Value} (h : ∀ b, HO P n ops Q rest ((d, pt b 0) :: ρ) ([(b, .cells ⟨zs⟩ E)] :: L)) (h00 : X6 ρ = true := by exact rfl) (hz : Yl S.zr E = some z := by exact rfl) (hc : z.cells = ⟨zs⟩ := by exact rfl) (hn : Nat.blt d n = true := by exact rfl) : HO P n ops Q (⟨some d, .alloc E, ty, pos, af, none⟩ :: rest) ρ L := o_alloc S hz hc hn h
theorem wb {d E : Nat} {x : Operand} {v : Value} {vs : List Value} (h : ∀ b, HO P n ops Q rest ((d, pt b 0) :: ρ) ([(b, .cells ⟨vs⟩ E)] :: L)) (h00 : X6 ρ = true := by exact rfl) (hx : ev ρ x = some v := by exact rfl) (hc : v.cells = ⟨vs⟩ := by exact rfl) (hn : Nat.blt d n = true := by exact rfl) : HO P n ops Q (⟨some d, .box E x, ty, pos, af, none⟩ :: rest) ρ L := o_box hx hc hn h
theorem ws {t b i E : Nat} {ti : TyI} {x y : Operand} {v : Value} {vs l l' : List Value} {L' : Zb} (h : HO P n ops Q rest ρ L') (h00 : X6 ρ = true := by exact rfl) (hx : ev ρ x = some (pt b i) := by exact rfl) (hy : ev ρ y = some v := by exact rfl) (ht : Yl S.ty t = some ti := by exact rfl)
  (hc : v.cells = ⟨vs⟩ := by exact rfl) (hsz : ti.size = vs.length := by exact rfl) (h1 : (vs.all Value.oneCell') = true := by exact rfl) (hu : Upd L b (.cells ⟨l⟩ E (0, 0)) (.cells ⟨l'⟩ E (0, 0)) L' := by (repeat (first | exact Vj | apply Zr6 | apply Zje)))
  (hp : Zt l i vs l' := by (first | assumption | exact Zi9 rfl | exact Uc | exact Vp Uc | exact Vp (Vp Uc) | (repeat (first | exact Uc | apply Vp)))) : HO P n ops Q (⟨none, .store t x y, ty, pos, af, none⟩ :: rest) ρ L := o_store S hx hy ht hc hsz h1 hp hu h
theorem wS {d t E y0 s0 b0 k1 x1 y1 by1 len : Nat} {z : Value} {zv : Value} {vals : List Value} {parts : Array (Nat × Operand)} (h : ∀ b, HO P n ops Q rest ((d, sl b 0 len len) :: ρ) ([(b, .cells ⟨vals⟩ E)] :: L)) (h00 : X6 ρ = true := by exact rfl) (ht : Yl S.ty t = some ⟨5, E, y0, s0, b0⟩ := by exact rfl) (he : Yl S.ty E = some ⟨k1, x1, y1, 1, by1⟩ := by exact rfl) (hz : Yl S.zr E = some z := by exact rfl) (hzs : z.cells = ⟨[zv]⟩ := by exact rfl)
  (hp : Zpx ρ 0 parts.toList = some vals := by exact rfl) (hlen : vals.length = len := by exact rfl) (hsm : Nat.ble len 16777216 = true := by exact rfl) (h1 : (vals.all Value.oneCell') = true := by exact rfl) (hn : Nat.blt d n = true := by exact rfl) : HO P n ops Q (⟨some d, .buildSlice t len parts, ty, pos, af, none⟩ :: rest) ρ L :=
 Zli S ht he hz hzs hp hlen hsm h1 hn h
theorem wm {d t E y0 s0 b0 k1 x1 y1 by1 : Nat} {z zv : Value} {x y : Operand} {kl kc : IntKind} {l c : Int} (h : ∀ b, HO P n ops Q rest ((d, sl b 0 l.toNat c.toNat) :: ρ) ([(b, .cells ⟨List.replicate c.toNat zv⟩ E)] :: L)) (h00 : X6 ρ = true := by exact rfl) (hx : ev ρ x = some (.int kl l) := by exact rfl) (hy : ev ρ y = some (.int kc c) := by exact rfl) (ht : Yl S.ty t = some ⟨5, E, y0, s0, b0⟩ := by exact rfl) (he : Yl S.ty E = some ⟨k1, x1, y1, 1, by1⟩ := by exact rfl)
  (hz : Yl S.zr E = some z := by exact rfl) (hzs : z.cells = #[zv] := by exact rfl) (hn : Nat.blt d n = true := by exact rfl) (hc : 0 ≤ l ∧ l ≤ c ∧ (by1 : Int) * c ≤ 281474976710656 ∧ c ≤ 9223372036854775807 := by omega) : HO P n ops Q (⟨some d, .makeSlice t x y, ty, pos, af, none⟩ :: rest) ρ L := Zmy S hx hy ht he hz hzs hn hc h
theorem gc {d : Nat} {f : Operand} {as9 : Array Operand} {ts : Array TypeId} {F : Nat} {cap args args' : List Value} {R : Value → Zb → Prop} (hc : HC P F args' L R) (h : ∀ v L', R v L' → HO P n ops Q rest ((d, v) :: ρ) L')
  (h00 : X6 ρ = true := by exact rfl) (hf : ev ρ f = some (.func (.func F) #[] ⟨cap⟩) := by exact rfl) (ha : Zk3 ρ as9.toList = some args := by exact rfl) (he : args ++ cap = args' := by exact rfl) (hn : Nat.blt d n = true := by exact rfl) : HO P n ops Q (⟨some d, .call { callee := .value f, args := as9, argTypes := ts }, ty, pos, af, none⟩ :: rest) ρ L :=
 o_call hf ha (he ▸ hc) hn h
def Zcb : Nat → Zb → Option (List Zq × Zb)
 | _, [] => none
 | 0, c :: r => some (c, r)
 | k + 1, c :: r => match Zcb k r with
  | some (x, r') => some (x, c :: r')
  | none => none
theorem Wy : ∀ {k : Nat} {L : Zb} {c : List Zq} {L' : Zb}, Zcb k L = some (c, L') → List.Perm L (c :: L')
 | k, [], _, _, h => by cases k <;> simp [Zcb] at h
 | 0, c :: r, _, _, h => by simp [Zcb] at h; obtain ⟨rfl, rfl⟩ := h; exact .refl _
 | k + 1, c :: r, x, _, h => by
  simp only [Zcb] at h
  split at h
  ·rename_i y r' hy
   simp at h
   obtain ⟨rfl, rfl⟩ := h
   exact ((Wy hy).cons c).trans (.swap _ _ _)
  ·cases h
theorem fo {c : List Zq} {L' : Zb} {l : List Oper} (k0 : Nat) (h : HO P n ops Q l ρ (c :: L')) (h00 : X6 ρ = true := by exact rfl) (hp : Zcb k0 L = some (c, L') := by exact rfl) : HO P n ops Q l ρ L := ho_perm h (Wy hp)
theorem fw {c : List Zq} {L' : Zb} {x : Code} (k0 : Nat) (h : HW P n x Q ρ (c :: L')) (h00 : X6 ρ = true := by exact rfl) (hp : Zcb k0 L = some (c, L') := by exact rfl) : HW P n x Q ρ L := hw_perm h (Wy hp)
theorem Has.perm {L L' : Zb} {b : Nat} {o : Obj} (h : Has L b o) (hp : List.Perm L L') : Has L' b o := by
 unfold Has at *
 exact hp.flatten.mem_iff.1 h
theorem HC.perm {F : Nat} {args : List Value} {L L' : Zb} {R : Value → Zb → Prop} (h : HC P F args L' R) (hp : List.Perm L L') : HC P F args L R := ⟨h.1, fun k w hs => h.2 k w (hs.perm hp)⟩
theorem HC.drop {F : Nat} {args : List Value} {L L' : Zb} {R : Value → Zb → Prop} (h : HC P F args L' R) (hp : List.Sublist L' L) : HC P F args L R := ⟨h.1, fun k w hs => h.2 k w (hs.sub hp)⟩
end o

section f
variable {P : Program} {n : Nat} {ops : List Oper} {Q : Exit → Z3 → Zb → Prop} {Qv : Value → Zb → Prop} {ρ : Z3} {L : Zb} {fn : Func}
theorem Sat.fl {k : Zk4} {w : World} {L L' : Zb} (h : Sat k w L) (hf : L'.flatten = L.flatten) : Sat k w L' := ⟨h.os, h.out, h.tape, fun p hp => h.has p (hf ▸ hp), hf ▸ h.nodup⟩
theorem Wi {c : Code} {L' : Zb} (h : HW P n c Q ρ L') (hf : LS L'.flatten L.flatten) : HW P n c Q ρ L := fun k w a hs ha => h k w a (hs.sp hf) ha
theorem Uk {l : List Oper} {L' : Zb} (h : HO P n ops Q l ρ L') (hf : LS L'.flatten L.flatten) : HO P n ops Q l ρ L := fun k w a hs ha => h k w a (hs.sp hf) ha
theorem HC.fl {F : Nat} {args : List Value} {L L' : Zb} {R : Value → Zb → Prop} (h : HC P F args L' R) (hf : L'.flatten = L.flatten := by exact rfl) : HC P F args L R := ⟨h.1, fun k w hs => h.2 k w (hs.fl hf)⟩
theorem HC.sp {F : Nat} {args : List Value} {L L' : Zb} {R : Value → Zb → Prop} (h : HC P F args L' R) (hf : LS L'.flatten L.flatten) : HC P F args L R := ⟨h.1, fun k w hs => h.2 k w (hs.sp hf)⟩
theorem HC.post {F : Nat} {args : List Value} {L : Zb} {R R' : Value → Zb → Prop} (h : HC P F args L R) (hr : ∀ v L', R v L' → ∃ L2, LS L2.flatten L'.flatten ∧ R' v L2) : HC P F args L R' :=
 ⟨h.1, fun k w hs => (h.2 k w hs).mono fun e w' ⟨v, L', he, hs', hq⟩ => by obtain ⟨L2, h1, h2⟩ := hr v L' hq; exact ⟨v, L2, he, hs'.sp h1, h2⟩⟩
theorem er0 {L' : Zb} (hL : L'.flatten = L.flatten) (h : Qv (.tuple #[]) L') (hr : fn.results = #[] := by rfl) : Xr P fn Qv .ret ρ L := fun k w a hs ha => ⟨_, L', by simp [results, hr], hs.fl hL, h⟩
theorem ee0 {L' : Zb} (hL : L'.flatten = L.flatten) (h : Qv (.tuple #[]) L') (hr : fn.results = #[] := by rfl) : Xr P fn Qv .normal ρ L := fun k w a hs ha => ⟨_, L', by simp [results, hr], hs.fl hL, h⟩
theorem Vx {r : ResultVar} {v : Value} {L' : Zb} (hL : L'.flatten = L.flatten) (h : Qv v L') (hr : fn.results = #[r] := by rfl) (hv : ResV P ρ L r v := by rfl) : Xr P fn Qv .ret ρ L :=
 fun k w a hs ha => ⟨v, L', by simp [V6, hr, hv.run hs ha], hs.fl hL, h⟩
theorem Znj {r s : ResultVar} {x y : Value} {L' : Zb} (hL : L'.flatten = L.flatten) (h : Qv (.tuple ⟨[x, y]⟩) L') (hr : fn.results = #[r, s] := by rfl) (hx : ResV P ρ L r x := by rfl) (hy : ResV P ρ L s y := by rfl) : Xr P fn Qv .ret ρ L :=
 fun k w a hs ha => ⟨.tuple ⟨[x, y]⟩, L', by simp [V6, hr, hx.run hs ha, hy.run hs ha], hs.fl hL, h⟩
theorem Yi {r : ResultVar} {v : Value} {L' : Zb} (hL : LS L'.flatten L.flatten) (h : Qv v L') (hr : fn.results = #[r] := by rfl) (hv : ResV P ρ L r v := by rfl) : Xr P fn Qv .ret ρ L :=
 fun k w a hs ha => ⟨v, L', by simp [V6, hr, hv.run hs ha], hs.sp hL, h⟩
theorem Qh {r s : ResultVar} {x y : Value} {L' : Zb} (hL : LS L'.flatten L.flatten) (h : Qv (.tuple ⟨[x, y]⟩) L') (hr : fn.results = #[r, s] := by rfl) (hx : ResV P ρ L r x := by rfl) (hy : ResV P ρ L s y := by rfl) : Xr P fn Qv .ret ρ L :=
 fun k w a hs ha => ⟨.tuple ⟨[x, y]⟩, L', by simp [V6, hr, hx.run hs ha, hy.run hs ha], hs.sp hL, h⟩
theorem sp3 {r s q : ResultVar} {x y z : Value} {L' : Zb} (hL : LS L'.flatten L.flatten) (h : Qv (.tuple ⟨[x, y, z]⟩) L') (hr : fn.results = #[r, s, q] := by rfl) (hx : ResV P ρ L r x := by rfl) (hy : ResV P ρ L s y := by rfl) (hz : ResV P ρ L q z := by rfl) : Xr P fn Qv .ret ρ L :=
 fun k w a hs ha => ⟨.tuple ⟨[x, y, z]⟩, L', by simp [V6, hr, hx.run hs ha, hy.run hs ha, hz.run hs ha], hs.sp hL, h⟩
theorem Wu (S : Tab P) {t T b i E : Nat} {ti : TyI} {l vs : List Value} {fr : Nat × Nat} (hp : lk ρ t = some (pt b i) := by rfl) (ht : Yl S.ty T = some ti := by rfl) (h7 : (Nat.beq ti.kind 6 || Nat.beq ti.kind 7) = true := by rfl)
  (hb : Has L b (.cells ⟨l⟩ E fr) := by (repeat (first | assumption | exact Zv | exact Yu (by assumption) | apply Vw | apply Zf))) (hg : Gets l i vs) (hn : ti.size = vs.length := by rfl) : ResV P ρ L (.cell t T) (.agg ⟨vs⟩) :=
 ⟨⟨b, i, none⟩, hp, fun k w hs => by
  have h1 := ty_agg (S.tyI ht) h7 w
  have h2 := Zem (P := P) hs hb hg
  have h3 := Xz (S.tyI ht) w
  simp [loadVar, h1, h2, h3, hn]⟩
end f

/-! ### drawn regions -/
section d
variable {P : Program} (S : Tab P) {n : Nat} {ops : List Oper} {Q : Exit → Z3 → Zb → Prop} {Ss : List (Nat × Zq)} {rem rem' : List (Nat × Oper)} {ρ : Z3} {L : Zb} {op : Op} {ty : TypeId} {pos : String} {af : Array Edge} {g : Option (Nat × Bool)} {d i : Nat}
theorem Zk2 {v : Value} (k : Nat) (hp : Vu k rem = some ((i, ⟨some d, op, ty, pos, af, g⟩), rem')) (h : ∀ L, QOp P ⟨some d, op, ty, pos, af, g⟩ ρ L v) (hr : HD P n ops Q Ss rem' ((d, v) :: ρ) L) (h00 : X6 ρ = true := by exact rfl) (hg : Yn ops ρ g = some true := by exact rfl) (hn : Nat.blt d n = true := by exact rfl)
  (hc : Zct ops rem' i ⟨some d, op, ty, pos, af, g⟩ = true := by decide +kernel) : HD P n ops Q Ss rem ρ L := hd_q (F := []) hp hc rfl hn (.inl ⟨hg, fun L _ => h L⟩) (by simp) hr
theorem d_n (k : Nat) (hr : HD P n ops Q Ss rem' ((d, undef) :: ρ) L) (h00 : X6 ρ = true := by exact rfl) (hp : Vu k rem = some ((i, ⟨some d, op, ty, pos, af, g⟩), rem') := by exact rfl) (hg : Yn ops ρ g = some false := by exact rfl) (hn : Nat.blt d n = true := by exact rfl)
  (hc : Zct ops rem' i ⟨some d, op, ty, pos, af, g⟩ = true := by decide +kernel) : HD P n ops Q Ss rem ρ L := hd_q (F := []) hp hc rfl hn (.inr ⟨hg, rfl⟩) (by simp) hr
theorem d_l {v : Value} {b : Nat} {o : Obj} (k : Nat) (h : ∀ L, Has L b o → QOp P ⟨some d, op, ty, pos, af, g⟩ ρ L v) (hb : Has L b o) (hr : HD P n ops Q ((i, (b, o)) :: Ss) rem' ((d, v) :: ρ) L) (h00 : X6 ρ = true := by exact rfl) (hp : Vu k rem = some ((i, ⟨some d, op, ty, pos, af, g⟩), rem') := by exact rfl) (hg : Yn ops ρ g = some true := by exact rfl) (hn : Nat.blt d n = true := by exact rfl)
  (hc : Zct ops rem' i ⟨some d, op, ty, pos, af, g⟩ = true := by decide +kernel) : HD P n ops Q Ss rem ρ L := hd_q (F := [(b, o)]) hp hc rfl hn (.inl ⟨hg, fun L hL => h L (hL (b, o) (by simp))⟩) (by simpa using hb) hr
theorem dl {t b a E : Nat} {ti : TyI} {x : Operand} {l : List Value} {fr : Nat × Nat} {v : Value} (k : Nat) (hr : HD P n ops Q ((i, (b, .cells ⟨l⟩ E fr)) :: Ss) rem' ((d, v) :: ρ) L) (h00 : X6 ρ = true := by exact rfl) (hp : Vu k rem = some ((i, ⟨some d, .load t x, ty, pos, af, g⟩), rem') := by exact rfl)
  (hx : ev ρ x = some (pt b a) := by exact rfl) (ht : Yl S.ty t = some ti := by exact rfl) (h6 : Nat.beq ti.kind 6 = false := by exact rfl) (h7 : Nat.beq ti.kind 7 = false := by exact rfl) (hg : Yn ops ρ g = some true := by exact rfl) (hn : Nat.blt d n = true := by exact rfl)
  (hb : Has L b (.cells ⟨l⟩ E fr) := by (repeat (first | assumption | exact Zv | exact Yu (by assumption) | apply Vw | apply Zf))) (hv : l[a]? = some v := by (first | exact rfl | assumption | exact Gets.at (by assumption) rfl | exact Gets.at0 (by assumption) rfl))
  (hc : Zct ops rem' i ⟨some d, .load t x, ty, pos, af, g⟩ = true := by decide +kernel) : HD P n ops Q Ss rem ρ L := d_l k (fun L h => Znn S hx ht h6 h7 h hv) hb hr h00 hp hg hn hc
theorem ds {t b a E : Nat} {ti : TyI} {x : Operand} {l vs : List Value} {fr : Nat × Nat} (k : Nat) (hr : HD P n ops Q ((i, (b, .cells ⟨l⟩ E fr)) :: Ss) rem' ((d, .agg ⟨vs⟩) :: ρ) L) (h00 : X6 ρ = true := by exact rfl) (hp : Vu k rem = some ((i, ⟨some d, .load t x, ty, pos, af, g⟩), rem') := by exact rfl)
  (hx : ev ρ x = some (pt b a) := by exact rfl) (ht : Yl S.ty t = some ti := by exact rfl) (h7 : (Nat.beq ti.kind 6 || Nat.beq ti.kind 7) = true := by exact rfl) (hg : Yn ops ρ g = some true := by exact rfl) (hn : Nat.blt d n = true := by exact rfl)
  (hb : Has L b (.cells ⟨l⟩ E fr) := by (repeat (first | assumption | exact Zv | exact Yu (by assumption) | apply Vw | apply Zf)))
  (hv : Gets l a vs ∧ ti.size = vs.length := by (first | (refine Zjm (by assumption) ?_; rfl) | exact ⟨Ze rfl (Ze rfl (Ze rfl Ym)), rfl⟩ | exact ⟨Ze rfl (Ze rfl Ym), rfl⟩ | exact ⟨Ze rfl (Ze rfl (Ze rfl (Ze rfl Ym))), rfl⟩ | exact ⟨Ze rfl (Ze rfl (Ze rfl (Ze rfl (Ze rfl (Ze rfl (Ze rfl (Ze rfl (Ze rfl Ym)))))))), rfl⟩))
  (hc : Zct ops rem' i ⟨some d, .load t x, ty, pos, af, g⟩ = true := by decide +kernel) : HD P n ops Q Ss rem ρ L := d_l k (fun L h => Zs6 S hx ht h7 h hv) hb hr h00 hp hg hn hc
theorem dg {t G : Nat} {ti : TyI} {v : Value} {L0 : Zb} (k : Nat) (hr : ∀ o, Has L0 G o → HD P n ops Q ((i, (G, o)) :: Ss) rem' ((d, v) :: ρ) L) (h00 : X6 ρ = true := by exact rfl) (hp : Vu k rem = some ((i, ⟨some d, .load t (.global G), ty, pos, af, g⟩), rem') := by exact rfl)
  (ht : Yl S.ty t = some ti := by exact rfl) (h6 : Nat.beq ti.kind 6 = false := by exact rfl) (h7 : Nat.beq ti.kind 7 = false := by exact rfl) (hg : Yn ops ρ g = some true := by exact rfl) (hn : Nat.blt d n = true := by exact rfl)
  (hG : Gl L0 G v := by first | assumption | exact Errs.get (by assumption) rfl rfl) (hL : ∀ o, Has L0 G o → Has L G o := by (intro o ho; repeat (first | assumption | apply Zf | apply Vw)))
  (hc : Zct ops rem' i ⟨some d, .load t (.global G), ty, pos, af, g⟩ = true := by decide +kernel) : HD P n ops Q Ss rem ρ L := by
 obtain ⟨l, E, fr, h1, h2⟩ := hG
 exact d_l k (fun L h => Znn S (x := .global G) rfl ht h6 h7 h h2) (hL _ h1) (hr _ h1) h00 hp hg hn hc
theorem da {o : Oper} (k : Nat) (h : HO P n ops (Z4 P n ops Q i Ss rem') [o] ρ L) (h00 : X6 ρ = true := by exact rfl) (hp : Vu k rem = some ((i, o), rem') := by exact rfl) (hc : chkA ops rem' i o = true := by decide +kernel) : HD P n ops Q Ss rem ρ L := hd_act hp hc h
def Zm (ops : List Oper) (i : Nat) (L : Zb) : List (Nat × Zq) → (List (Nat × Zq) → Prop) → Prop
 | [], K => K []
 | (i0, p) :: r, K => bif Zcd ops i0 i then Has L p.1 p.2 ∧ Zm ops i L r (fun l => K ((i0, p) :: l)) else Zm ops i L r K
theorem Zi1 : ∀ {Ss : List (Nat × Zq)} {K : List (Nat × Zq) → Prop}, Zm ops i L Ss K → Zoj ops i L Ss ∧ K (ssF ops i Ss)
 | [], K, h => ⟨trivial, h⟩
 | (i0, p) :: r, K, h => by
  simp only [Zm] at h
  cases hk : Zcd ops i0 i with
  | true =>
   rw [hk] at h
   obtain ⟨h1, h2⟩ := Zi1 h.2
   refine ⟨⟨.inr h.1, h1⟩, ?_⟩
   simpa [ssF, hk] using h2
  | false =>
   rw [hk] at h
   obtain ⟨h1, h2⟩ := Zi1 h
   refine ⟨⟨.inl hk, h1⟩, ?_⟩
   simpa [ssF, hk] using h2
theorem dx (h : Zm ops i L Ss fun Ss' => HD P n ops Q Ss' rem ρ L) : Z4 P n ops Q i Ss rem .normal ρ L := Zi1 h
theorem dx0 {K : List (Nat × Zq) → Prop} (h : K []) : Zm ops i L [] K := h
theorem dxk {i0 : Nat} {p : Zq} {r : List (Nat × Zq)} {K : List (Nat × Zq) → Prop} (h : Zm ops i L r (fun l => K ((i0, p) :: l))) (hk : Zcd ops i0 i = true := by exact rfl) (hb : Has L p.1 p.2 := by (repeat (first | assumption | exact Zv | exact Yu (by assumption) | apply Vw | apply Zf))) : Zm ops i L ((i0, p) :: r) K := by
 simp only [Zm, hk]; exact ⟨hb, h⟩
theorem dxd {i0 : Nat} {p : Zq} {r : List (Nat × Zq)} {K : List (Nat × Zq) → Prop} (h : Zm ops i L r K) (hk : Zcd ops i0 i = false := by exact rfl) : Zm ops i L ((i0, p) :: r) K := by
 simp only [Zm, hk]; exact h
end d
end Go.HL
end

/-! HLCp -/
section
namespace Go.HL
open Go
set_option linter.unusedVariables false
set_option linter.unusedSimpArgs false
def u8 (b : UInt8) : Value := .int .u8 b.toNat
theorem Zty (l : List UInt8) : (l.map uc).flatten = l.map u8 := Zua l
theorem u8_one (l : List UInt8) : ((l.map u8).all Value.oneCell') = true := by simp [u8, Value.oneCell']
theorem Q4 (zs : List Value) : ∀ n : Nat, madeCells ⟨zs⟩ (n * zs.length) = ⟨(List.replicate n zs).flatten⟩ := by
 intro n
 apply Array.ext'
 simp only [madeCells, Array.toList_map, Array.toList_range]
 induction n with
 | zero => simp
 | succ n ih =>
  rw [Nat.add_mul, Nat.one_mul, Nat.add_comm, List.range_add, List.map_append, List.replicate_succ, List.flatten_cons, ← ih, List.map_map]
  congr 1
  ·apply List.ext_getElem?
   intro i
   by_cases h : i < zs.length
   ·simp [h, Nat.mod_eq_of_lt h]
   ·simp [h]
  ·apply List.map_congr_left
   intro i hi
   simp
section o
variable {P : Program} (S : Tab P) {n : Nat} {ops : List Oper} {Q : Exit → Z3 → Zb → Prop} {rest : List Oper} {ρ : Z3} {L : Zb} {ty : TypeId} {pos : String} {af : Array Edge}
theorem wcs {d t t2 b i E e0 y0 s0 b0 k1 x1 y1 by1 len cap : Nat} {x y : Operand} {src : List UInt8} {l l' : List Value} {L' : Zb} (h : HO P n ops Q rest ((d, iv (Nat.min src.length len)) :: ρ) L') (hp : Zt l i ((src.take (Nat.min src.length len)).map u8) l') (h00 : X6 ρ = true := by exact rfl)
  (hx : ev ρ x = some (sl b i len cap) := by exact rfl) (hy : ev ρ y = some (bs src) := by exact rfl) (ht : Yl S.ty t = some ⟨5, e0, y0, s0, b0⟩ := by exact rfl) (he : Yl S.ty e0 = some ⟨k1, x1, y1, 1, by1⟩ := by exact rfl) (hn : Nat.blt d n = true := by exact rfl)
  (hu : Upd L b (.cells ⟨l⟩ E (0, 0)) (.cells ⟨l'⟩ E (0, 0)) L' := by (repeat (first | exact Vj | apply Zr6 | apply Zje))) :
  HO P n ops Q (⟨some d, .call { callee := .builtin .copy, args := #[x, y], argTypes := #[t, t2] }, ty, pos, af, none⟩ :: rest) ρ L :=
 U4 rfl rfl hn fun ρe he' k w hs => by
  obtain ⟨hp1, hp2⟩ := hp
  obtain ⟨w', e1, e2, e3, et, e4, e5⟩ := Zb8 (P := P) (k := k) ((src.take (Nat.min src.length len)).map u8) i 0 l w (hs.heap hu.has) rfl (by simpa using hp2) (fun v hv => List.all_eq_true.1 (u8_one _) v hv)
  refine ⟨_, w', L', ?_, hs.upd hu e2 e3 et (by rw [e4, hp1, Nat.add_zero]) e5, h⟩
  have hdesc := Yz (S.tyI ht) rfl
  have hsize : (sizeOf e0).run P w = .ok 1 w := Xz (S.tyI he) w
  have a1 := he' x (by simp [Op.operands, Call.operands]) _ hx
  have a2 := he' y (by simp [Op.operands, Call.operands]) _ hy
  have hc : (Array.map (fun b => Value.int .u8 b.toNat) ((ByteArray.mk ⟨src⟩).extract 0 (Nat.min src.length len)).data).toList = (src.take (Nat.min src.length len)).map u8 := by
   rw [Zb6]
   simp [u8]
   rfl
  have hr : (Builtin.copy_ #[t, t2] ty #[sl b i len cap, bs src]).run P w = .ok (iv (Nat.min src.length len)) w' := by
   simp only [Builtin.copy_]
   simp only [List.getElem?_toArray, List.getElem?_cons_zero, List.getElem?_cons_succ, Sem.run_bind, run_underlying hdesc, Result.andThen_ok, hsize]
   simp only [Builtin.lenOf, Builtin.firstCells, Sem.run_pure, Result.andThen_ok, Zbu]
   rw [hsize]
   simp only [hc, e1, Result.andThen_ok, Sem.run_pure, goInt]
  simp [execOp, resolve, invoke, builtin, a1, a2, hr]
theorem wM {d t E y0 s0 b0 k1 x1 y1 sz by1 : Nat} {z : Value} {zs : List Value} {x y : Operand} {kl kc : IntKind} {l c : Int} (h : ∀ b, HO P n ops Q rest ((d, sl b 0 l.toNat c.toNat) :: ρ) ([(b, .cells ⟨(List.replicate c.toNat zs).flatten⟩ E)] :: L)) (h00 : X6 ρ = true := by exact rfl) (hx : ev ρ x = some (.int kl l) := by exact rfl) (hy : ev ρ y = some (.int kc c) := by exact rfl) (ht : Yl S.ty t = some ⟨5, E, y0, s0, b0⟩ := by exact rfl) (he : Yl S.ty E = some ⟨k1, x1, y1, sz, by1⟩ := by exact rfl)
  (hz : Yl S.zr E = some z := by exact rfl) (hzs : z.cells = ⟨zs⟩ := by exact rfl) (hzl : Nat.beq zs.length sz = true := by exact rfl) (hn : Nat.blt d n = true := by exact rfl) (hc : 0 ≤ l ∧ l ≤ c ∧ (by1 : Int) * c ≤ 281474976710656 ∧ c ≤ 9223372036854775807 := by omega) : HO P n ops Q (⟨some d, .makeSlice t x y, ty, pos, af, none⟩ :: rest) ρ L := by
 refine U4 rfl rfl hn fun ρe he' k w hs => ⟨sl w.heap.size 0 l.toNat c.toNat, w.alloc (.cells ⟨(List.replicate c.toNat zs).flatten⟩ E), _, ?_, hs.new _, h _⟩
 have hdesc := Yz (S.tyI ht) rfl
 obtain ⟨de, i, hde, hi, -, hisz, hiby⟩ := X5 (S.tyI he)
 simp only at hisz hiby
 have hiz : i.zero = some z := by
  have := S.zeroI hz
  unfold zeroI at this
  simpa [hi] using this
 have hr := run_make (P := P) w t E i z hdesc hi hiz kl kc l c hc.1 hc.2.1 (by rw [hiby]; exact hc.2.2.1) hc.2.2.2
 have hl := Nat.eq_of_beq_eq_true hzl
 rw [hisz, hzs, ← hl, Q4] at hr
 simp [execOp, he' x (by simp [Op.operands]) _ hx, he' y (by simp [Op.operands]) _ hy, hr]
end o
end Go.HL
end

/-! HLVec -/
section
namespace Go.HL
open Go
set_option linter.unusedVariables false
set_option linter.unusedSimpArgs false
def Zc7 (sz : Nat) : List Value → List (Nat × Value) → Option (List Value)
 | cells, [] => some cells
 | cells, (i, v) :: r => bif Nat.beq (Xy v).length sz && Nat.ble (i * sz + (Xy v).length) cells.length then Zc7 sz (Zpg cells (i * sz) (Xy v)) r else none
theorem Zkn {sz : Nat} : ∀ (l : List (Nat × Value)) (cells out : List Value), Zc7 sz cells l = some out → Instr.fill (fun i => some (i * sz, sz)) ⟨cells⟩ l = some ⟨out⟩
 | [], cells, out, h => by simp [Zc7] at h; subst h; rfl
 | (i, v) :: r, cells, out, h => by
  simp only [Zc7] at h
  obtain ⟨hc, h2⟩ := Z0 h
  simp only [Bool.and_eq_true] at hc
  have e1 := Nat.eq_of_beq_eq_true hc.1
  have e2 := Nat.le_of_ble_eq_true hc.2
  have ih := Zkn r _ out h2
  have e3 := Zra (Xy v) cells (i * sz) 0
  simp only [Nat.add_zero] at e3
  unfold Instr.fill
  simp only [Zlu]
  have hcond : (decide ((Array.mk (Xy v)).size ≠ sz) || decide (i * sz + (Array.mk (Xy v)).size > (Array.mk cells).size)) = false := by simp; omega
  rw [hcond]
  simp only [Bool.false_eq_true, if_false]
  have e4 : (Array.zipIdx ⟨Xy v⟩ 0 : Array (Value × Nat)) = ⟨(Xy v).zipIdx 0⟩ := by simp
  rw [e4]
  simp only [List.foldl_toArray]
  rw [e3]
  exact ih
theorem Zsw : ∀ (vs pre zs : List Value), vs.length ≤ zs.length → Zpg (pre ++ zs) pre.length vs = pre ++ (vs ++ zs.drop vs.length)
 | [], pre, zs, _ => by simp [Zpg]
 | v :: r, pre, [], h => by simp at h
 | v :: r, pre, z :: zs, h => by
  have e : (pre ++ z :: zs).set pre.length v = (pre ++ [v]) ++ zs := by simp
  have ih := Zsw r (pre ++ [v]) zs (by simpa using h)
  simp only [Zpg, e]
  rw [show pre.length + 1 = (pre ++ [v]).length by simp, ih]
  simp
def Zbb (sz : Nat) : Nat → List (Nat × Value) → Option (List Value)
 | _, [] => some []
 | k, (i, v) :: r => bif Nat.beq i k && Nat.beq (Xy v).length sz then (Zbb sz (k + 1) r).bind fun l => some (Xy v ++ l) else none
theorem Zmh {sz : Nat} : ∀ (l : List (Nat × Value)) (k : Nat) (pre zs out : List Value), Zbb sz k l = some out → pre.length = k * sz → zs.length = out.length → Zc7 sz (pre ++ zs) l = some (pre ++ out)
 | [], k, pre, zs, out, h, hp, hz => by
  simp [Zbb] at h; subst h
  have : zs = [] := List.eq_nil_of_length_eq_zero hz
  subst this
  simp [Zc7]
 | (i, v) :: r, k, pre, zs, out, h, hp, hz => by
  simp only [Zbb] at h
  obtain ⟨hc, h2⟩ := Z0 h
  simp only [Bool.and_eq_true] at hc
  have e1 := Nat.eq_of_beq_eq_true hc.1
  have e2 := Nat.eq_of_beq_eq_true hc.2
  subst e1
  obtain ⟨l', hl, h3⟩ := bind_some h2
  cases h3
  simp only [List.length_append] at hz
  have hle : (Xy v).length ≤ zs.length := by omega
  simp only [Zc7]
  have hcond : (Nat.beq (Xy v).length sz && Nat.ble (i * sz + (Xy v).length) (pre ++ zs).length) = true := by
   rw [Bool.and_eq_true]
   refine ⟨hc.2, Nat.ble_eq_true_of_le ?_⟩
   simp; omega
  rw [hcond, cond_true, ← hp, Zsw _ _ _ hle, ← List.append_assoc]
  have ih := Zmh r (i + 1) (pre ++ Xy v) (zs.drop (Xy v).length) l' hl (by simp [hp, e2, Nat.add_mul]) (by simp; omega)
  rw [ih, List.append_assoc]
section v
variable {P : Program} (S : Tab P) {n : Nat} {ops : List Oper} {Q : Exit → Z3 → Zb → Prop} {rest : List Oper} {ρ : Z3} {L : Zb} {ty : TypeId} {pos : String} {af : Array Edge}
theorem wSn {d t E y0 s0 b0 k1 x1 y1 sz by1 len : Nat} {z : Value} {zs out : List Value} {vals : List (Nat × Value)} {parts : Array (Nat × Operand)} (h : ∀ b, HO P n ops Q rest ((d, sl b 0 len len) :: ρ) ([(b, .cells ⟨out⟩ E)] :: L)) (h00 : X6 ρ = true := by exact rfl) (ht : Yl S.ty t = some ⟨5, E, y0, s0, b0⟩ := by exact rfl) (he : Yl S.ty E = some ⟨k1, x1, y1, sz, by1⟩ := by exact rfl)
  (hz : Yl S.zr E = some z := by exact rfl) (hzs : z.cells = ⟨zs⟩ := by exact rfl) (hzl : Nat.beq zs.length sz = true := by exact rfl) (hp : Vr ρ parts.toList = some vals := by exact rfl) (hf : ((Zc7 sz (List.replicate len zs).flatten vals).bind fun l => nfL l some) = some out := by exact rfl)
  (hsm : Nat.ble (len * sz) 16777216 = true := by exact rfl) (h1 : Nat.ble 1 (len * sz) = true := by exact rfl) (hn : Nat.blt d n = true := by exact rfl) : HO P n ops Q (⟨some d, .buildSlice t len parts, ty, pos, af, none⟩ :: rest) ρ L := by
 refine U4 rfl rfl hn fun ρe he' k w hs => ⟨sl w.heap.size 0 len len, w.alloc (.cells ⟨out⟩ E), _, ?_, hs.new _, h _⟩
 have hdesc := Yz (S.tyI ht) rfl
 have hsize : (sizeOf E).run P w = .ok sz w := Xz (S.tyI he) w
 have hzero := Q6 (S.zeroI hz) w
 have hle : len * sz ≤ 16777216 := Nat.le_of_ble_eq_true hsm
 have hge : 1 ≤ len * sz := Nat.le_of_ble_eq_true h1
 obtain ⟨l, hl, h2⟩ := bind_some hf
 rw [Zgn] at h2
 cases h2
 have hzl' := Nat.eq_of_beq_eq_true hzl
 have hm : ((Array.range (len * sz)).map fun j => (Array.mk zs)[j % (Array.mk zs).size]!) = ⟨(List.replicate len zs).flatten⟩ := by
  have := Q4 zs len
  rw [hzl'] at this
  exact this
 have e1 : (parts.map fun p => (p.1, ρe p.2)).toList = vals := by
  rw [Array.toList_map]
  exact Zak (fun p hp' u hu => he' p.2 (by simp [Op.operands]; exact ⟨p.1, by simpa using hp'⟩) u hu) hp
 have hfill := Zkn vals _ out hl
 have hbs : (Instr.buildSlice t len (parts.map fun p => (p.1, ρe p.2))).run P w = .ok (sl w.heap.size 0 len len) (w.alloc (.cells ⟨out⟩ E)) := by
  have hl2 : ¬ (16777216 < len * sz) := by omega
  have hl3 : ¬ (len * sz = 0) := by omega
  have hm2 : ((Array.range (len * sz)).map fun j => (z.cells)[j % z.cells.size]!) = ⟨(List.replicate len zs).flatten⟩ := by rw [hzs]; exact hm
  unfold Instr.buildSlice
  simp only [Sem.run_bind, run_underlying hdesc, Result.andThen_ok, hsize, Nat.reducePow, gt_iff_lt, if_neg hl2, if_neg hl3, Sem.run_pure, hzero, hm2, e1, hfill]
  rfl
 simp only [execOp, Sem.run_bind, hbs, Result.andThen_ok, Sem.run_pure]
theorem wSa {d t E y0 s0 b0 k1 x1 y1 sz by1 len : Nat} {z : Value} {zs out : List Value} {vals : List (Nat × Value)} {parts : Array (Nat × Operand)} (h : ∀ b, HO P n ops Q rest ((d, sl b 0 len len) :: ρ) ([(b, .cells ⟨out⟩ E)] :: L)) (h00 : X6 ρ = true := by exact rfl) (ht : Yl S.ty t = some ⟨5, E, y0, s0, b0⟩ := by exact rfl) (he : Yl S.ty E = some ⟨k1, x1, y1, sz, by1⟩ := by exact rfl)
  (hz : Yl S.zr E = some z := by exact rfl) (hzs : z.cells = ⟨zs⟩ := by exact rfl) (hzl : Nat.beq zs.length sz = true := by exact rfl) (hp : Vr ρ parts.toList = some vals := by exact rfl) (hf : ((Zbb sz 0 vals).bind fun l => nfL l some) = some out := by exact rfl) (hol : Nat.beq out.length (len * sz) = true := by exact rfl)
  (hsm : Nat.ble (len * sz) 16777216 = true := by exact rfl) (h1 : Nat.ble 1 (len * sz) = true := by exact rfl) (hn : Nat.blt d n = true := by exact rfl) : HO P n ops Q (⟨some d, .buildSlice t len parts, ty, pos, af, none⟩ :: rest) ρ L := by
 obtain ⟨l, hl, h2⟩ := bind_some hf
 rw [Zgn] at h2
 cases h2
 have hlen : (List.replicate len zs).flatten.length = out.length := by
  have e1 := Nat.eq_of_beq_eq_true hol
  have e2 := Nat.eq_of_beq_eq_true hzl
  simp [e1, e2]
 have := Zmh vals 0 [] (List.replicate len zs).flatten out hl (by simp) hlen
 exact wSn S h h00 ht he hz hzs hzl hp (by simp only [List.nil_append] at this; rw [this]; simp [Zgn]) hsm h1 hn
theorem Zq9 {d : Option Tmp} {g : Option (Nat × Bool)} {t len E s0 b0 k1 x1 y1 sz by1 : Nat} {parts : Array (Nat × Operand)} {zs out : List Value} {vals : List (Nat × Value)} (hz : Yl S.zr t = some (.agg ⟨zs⟩)) (ht : Yl S.ty t = some ⟨6, len, E, s0, b0⟩) (he : Yl S.ty E = some ⟨k1, x1, y1, sz, by1⟩) (hp : Vr ρ parts.toList = some vals)
  (hf : ((Zc7 sz zs vals).bind fun l => nfL l some) = some out) : QOp P ⟨d, .build t parts, ty, pos, af, g⟩ ρ L (.agg ⟨out⟩) :=
 Y5 fun ρe he' k w hsat => by
  obtain ⟨l, hl, h1⟩ := bind_some hf
  rw [Zgn] at h1
  cases h1
  have hu := Zkr (S.tyI ht) rfl
  have hsize : (sizeOf E).run P w = .ok sz w := Xz (S.tyI he) w
  have hzero := Q6 (S.zeroI hz) w
  have e1 : (parts.map fun p => (p.1, ρe p.2)).toList = vals := by
   rw [Array.toList_map]
   exact Zak (fun p hp' u hu => he' p.2 (by simp [Op.operands]; exact ⟨p.1, by simpa using hp'⟩) u hu) hp
  have hfill := Zkn vals zs out hl
  show (Instr.build t (parts.map fun p => (p.1, ρe p.2)) >>= fun v => pure (Next.value v) : Sem Next).run P w = _
  simp only [Sem.run_bind, Instr.build, hzero, Result.andThen_ok, run_underlying hu, hsize, e1, Value.cells, hfill, Sem.run_pure]
theorem qbA {d : Option Tmp} {g : Option (Nat × Bool)} {t len E s0 b0 k1 x1 y1 sz by1 : Nat} {parts : Array (Nat × Operand)} {zs out : List Value} {vals : List (Nat × Value)} (h00 : X6 ρ = true := by exact rfl) (hz : Yl S.zr t = some (.agg ⟨zs⟩) := by exact rfl) (ht : Yl S.ty t = some ⟨6, len, E, s0, b0⟩ := by exact rfl) (he : Yl S.ty E = some ⟨k1, x1, y1, sz, by1⟩ := by exact rfl) (hp : Vr ρ parts.toList = some vals := by exact rfl)
  (hf : ((Zc7 sz zs vals).bind fun l => nfL l some) = some out := by exact rfl) : QOp P ⟨d, .build t parts, ty, pos, af, g⟩ ρ L (.agg ⟨out⟩) := Zq9 S hz ht he hp hf

/-! ### a slice of one's own -/
def Vec {α : Type} (E sz : Nat) (enc : α → List Value) (v : Value) (xs : List α) (c : List Zq) : Prop := Own E sz v xs.length (xs.map enc).flatten c
theorem Zu {α : Type} {E sz : Nat} {enc : α → List Value} : Vec E sz enc Y4 [] [] := Zt0
theorem Vec.rd {α : Type} {E sz : Nat} {enc : α → List Value} {v : Value} {xs : List α} {c : List Zq} (h : Vec E sz enc v xs c) (hsz : ∀ x, (enc x).length = sz) : ∃ a cap, v = .slice a xs.length cap ∧ xs.length ≤ cap ∧ ∀ L, Rd enc sz (c :: L) a xs := by
 have h' := h
 rcases h with ⟨rfl, h0, hcs, rfl⟩ | ⟨b, cap, sp, rfl, rfl, hcs, hle, hall⟩
 ·exact ⟨none, 0, by rw [h0], by omega, fun L => .inl (List.eq_nil_of_length_eq_zero h0)⟩
 ·refine ⟨some ⟨b, 0, none⟩, cap, rfl, hle, fun L => .inr ⟨b, 0, _, E, (0, 0), rfl, Zv, fun k x hx => ?_⟩⟩
  have := Ut hsz xs sp [] k x hx
  simpa using this
theorem X1 (l : List Value) : Gets l 0 l := fun j v h => by simpa using h
theorem Zea {α : Type} {enc : α → List Value} {d t E y0 s0 b0 k1 x1 y1 sz by1 b i cap F : Nat} {z v : Value} {zs l : List Value} {fr : Nat × Nat} {c : List Zq} {x y : Operand} {xs : List α} (e : α) (ho : Vec E sz enc v xs c) (hsz : ∀ x, (enc x).length = sz) (hone : ∀ x, (enc x).all Value.oneCell' = true)
  (h : ∀ v' c', Vec E sz enc v' (xs ++ [e]) c' → HO P n ops Q rest ((d, v') :: ρ) (c' :: L)) (h00 : X6 ρ = true := by exact rfl)
  (hx : ev ρ x = some v := by exact rfl) (hy : ev ρ y = some (sl b i 1 cap) := by exact rfl) (ht : Yl S.ty t = some ⟨5, E, y0, s0, b0⟩ := by exact rfl) (he : Yl S.ty E = some ⟨k1, x1, y1, sz, by1⟩ := by exact rfl) (hz : Yl S.zr E = some z := by exact rfl) (hzs : z.cells = ⟨zs⟩ := by exact rfl) (hzl : zs.length = sz := by exact rfl)
  (hn : Nat.blt d n = true := by exact rfl) (hb : Has L b (.cells ⟨l⟩ F fr) := by (repeat (first | assumption | exact Zv | exact Yu (by assumption) | apply Vw | apply Zf))) (hg : Gets l i (enc e) := by first | exact X1 _ | assumption) (hby : (xs.length + 1) * by1 ≤ 140737488355328 := by omega) (hmax : xs.length + 1 ≤ 9223372036854775807 := by omega) :
  HO P n ops Q (⟨some d, .call { callee := .builtin .append, args := #[x, y], argTypes := #[t, t] }, ty, pos, af, none⟩ :: rest) ρ (c :: L) :=
 Zkc S hx hy ht he hz hzs hzl hn ho (src_one (Zf hb) hg (hsz e)) (hone e) hby hmax fun v' c' ho' => h v' c' (by
  unfold Vec
  simp only [List.length_append, List.length_cons, List.length_nil, List.map_append, List.map_cons, List.map_nil, List.flatten_append, List.flatten_cons, List.flatten_nil, List.append_nil]
  exact ho')
theorem Ztl {α : Type} {enc : α → List Value} {d t E y0 s0 b0 k1 x1 y1 sz by1 cap : Nat} {z v : Value} {zs : List Value} {a : Option Addr} {c : List Zq} {x y : Operand} {xs ys : List α} (ho : Vec E sz enc v xs c) (hR : Rd enc sz (c :: L) a ys) (hsz : ∀ x, (enc x).length = sz) (hone : ∀ x, (enc x).all Value.oneCell' = true)
  (h : ∀ v' c', Vec E sz enc v' (xs ++ ys) c' → HO P n ops Q rest ((d, v') :: ρ) (c' :: L)) (h00 : X6 ρ = true := by exact rfl)
  (hx : ev ρ x = some v := by exact rfl) (hy : ev ρ y = some (.slice a ys.length cap) := by exact rfl) (ht : Yl S.ty t = some ⟨5, E, y0, s0, b0⟩ := by exact rfl) (he : Yl S.ty E = some ⟨k1, x1, y1, sz, by1⟩ := by exact rfl) (hz : Yl S.zr E = some z := by exact rfl) (hzs : z.cells = ⟨zs⟩ := by exact rfl) (hzl : zs.length = sz := by exact rfl)
  (hn : Nat.blt d n = true := by exact rfl) (hby : (xs.length + ys.length) * by1 ≤ 140737488355328 := by omega) (hmax : xs.length + ys.length ≤ 9223372036854775807 := by omega) :
  HO P n ops Q (⟨some d, .call { callee := .builtin .append, args := #[x, y], argTypes := #[t, t] }, ty, pos, af, none⟩ :: rest) ρ (c :: L) :=
 Zkc S hx hy ht he hz hzs hzl hn ho (Zf9 hsz hR) (Zb0 hone ys) hby hmax fun v' c' ho' => h v' c' (by
  unfold Vec
  simp only [List.length_append, List.map_append, List.flatten_append]
  exact ho')
end v
theorem Zcw {α : Type} {enc : α → List Value} {sz : Nat} (hsz : ∀ x, (enc x).length = sz) : ∀ (xs : List α) (sp pre : List Value) (k i : Nat) (x : α), k < xs.length → i = pre.length + k * sz → Zt (pre ++ (xs.map enc).flatten ++ sp) i (enc x) (pre ++ ((xs.set k x).map enc).flatten ++ sp)
 | [], sp, pre, k, i, x, h, _ => by simp at h
 | y :: r, sp, pre, 0, i, x, h, hi => by
  have hp : Zt ((enc y) ++ ((r.map enc).flatten ++ sp)) 0 (enc x) (enc x ++ ((r.map enc).flatten ++ sp)) := Zrj (by rw [hsz, hsz])
  have key : ∀ (p l vs l' : List Value) (j : Nat), Zt l j vs l' → Zt (p ++ l) (p.length + j) vs (p ++ l') := by
   intro p
   induction p with
   | nil => intro l vs l' j h; simpa using h
   | cons a p ih =>
    intro l vs l' j h
    have := Vp (x := a) (ih l vs l' j h)
    simpa [Nat.add_assoc, Nat.add_comm, Nat.add_left_comm] using this
  have := key pre _ _ _ 0 hp
  subst hi
  simpa using this
 | y :: r, sp, pre, k + 1, i, x, h, hi => by
  have := Zcw hsz r sp (pre ++ enc y) k i x (by simpa using h) (by rw [hi]; simp [hsz, Nat.add_mul]; omega)
  simpa using this
theorem Yx {P : Program} {F : Nat} {args : List Value} {c : List Zq} {L L1 : Zb} {V : Value} (h : ∀ L, HC P F args (c :: L) (fun v L' => v = V ∧ L' = c :: L)) (k0 : Nat) (hp : Zcb k0 L = some (c, L1) := by exact rfl) : HC P F args L (fun v L' => v = V ∧ L' = L) :=
 ⟨(h L1).1, fun k w hs => ((h L1).2 k w (hs.perm (Wy hp))).mono fun e w' ⟨v, L', he, hs', hv, hL⟩ => ⟨v, L, he, (hL ▸ hs').perm (Wy hp).symm, hv, rfl⟩⟩
theorem LS.pick {c : List Zq} {A L L1 : Zb} (k0 : Nat) (h : LS A.flatten L1.flatten) (hp : Zcb k0 L = some (c, L1) := by exact rfl) : LS (c :: A).flatten L.flatten :=
 LS.trans (LS.k h) (LS.of_perm (Wy hp).symm.flatten)
theorem LS.e {A L : Zb} (h : LS A.flatten L.flatten) : LS (([] : List Zq) :: A).flatten L.flatten := h
theorem LS.p0 {c : List Zq} {A L : Zb} (h : LS A.flatten L.flatten) : LS (c :: A).flatten (c :: L).flatten := LS.k h
theorem LS.p1 {x0 c : List Zq} {A L : Zb} (h : LS A.flatten (x0 :: L).flatten) : LS (c :: A).flatten (x0 :: c :: L).flatten := LS.pick 1 h
theorem LS.p2 {x0 x1 c : List Zq} {A L : Zb} (h : LS A.flatten (x0 :: x1 :: L).flatten) : LS (c :: A).flatten (x0 :: x1 :: c :: L).flatten := LS.pick 2 h
theorem LS.p3 {x0 x1 x2 c : List Zq} {A L : Zb} (h : LS A.flatten (x0 :: x1 :: x2 :: L).flatten) : LS (c :: A).flatten (x0 :: x1 :: x2 :: c :: L).flatten := LS.pick 3 h
theorem LS.p4 {x0 x1 x2 x3 c : List Zq} {A L : Zb} (h : LS A.flatten (x0 :: x1 :: x2 :: x3 :: L).flatten) : LS (c :: A).flatten (x0 :: x1 :: x2 :: x3 :: c :: L).flatten := LS.pick 4 h
theorem LS.p5 {x0 x1 x2 x3 x4 c : List Zq} {A L : Zb} (h : LS A.flatten (x0 :: x1 :: x2 :: x3 :: x4 :: L).flatten) : LS (c :: A).flatten (x0 :: x1 :: x2 :: x3 :: x4 :: c :: L).flatten := LS.pick 5 h
theorem LS.p6 {x0 x1 x2 x3 x4 x5 c : List Zq} {A L : Zb} (h : LS A.flatten (x0 :: x1 :: x2 :: x3 :: x4 :: x5 :: L).flatten) : LS (c :: A).flatten (x0 :: x1 :: x2 :: x3 :: x4 :: x5 :: c :: L).flatten := LS.pick 6 h
theorem LS.p7 {x0 x1 x2 x3 x4 x5 x6 c : List Zq} {A L : Zb} (h : LS A.flatten (x0 :: x1 :: x2 :: x3 :: x4 :: x5 :: x6 :: L).flatten) : LS (c :: A).flatten (x0 :: x1 :: x2 :: x3 :: x4 :: x5 :: x6 :: c :: L).flatten := LS.pick 7 h
theorem LS.p8 {x0 x1 x2 x3 x4 x5 x6 x7 c : List Zq} {A L : Zb} (h : LS A.flatten (x0 :: x1 :: x2 :: x3 :: x4 :: x5 :: x6 :: x7 :: L).flatten) : LS (c :: A).flatten (x0 :: x1 :: x2 :: x3 :: x4 :: x5 :: x6 :: x7 :: c :: L).flatten := LS.pick 8 h
theorem LS.p9 {x0 x1 x2 x3 x4 x5 x6 x7 x8 c : List Zq} {A L : Zb} (h : LS A.flatten (x0 :: x1 :: x2 :: x3 :: x4 :: x5 :: x6 :: x7 :: x8 :: L).flatten) : LS (c :: A).flatten (x0 :: x1 :: x2 :: x3 :: x4 :: x5 :: x6 :: x7 :: x8 :: c :: L).flatten := LS.pick 9 h
theorem LS.p10 {x0 x1 x2 x3 x4 x5 x6 x7 x8 x9 c : List Zq} {A L : Zb} (h : LS A.flatten (x0 :: x1 :: x2 :: x3 :: x4 :: x5 :: x6 :: x7 :: x8 :: x9 :: L).flatten) : LS (c :: A).flatten (x0 :: x1 :: x2 :: x3 :: x4 :: x5 :: x6 :: x7 :: x8 :: x9 :: c :: L).flatten := LS.pick 10 h
theorem LS.p11 {x0 x1 x2 x3 x4 x5 x6 x7 x8 x9 x10 c : List Zq} {A L : Zb} (h : LS A.flatten (x0 :: x1 :: x2 :: x3 :: x4 :: x5 :: x6 :: x7 :: x8 :: x9 :: x10 :: L).flatten) : LS (c :: A).flatten (x0 :: x1 :: x2 :: x3 :: x4 :: x5 :: x6 :: x7 :: x8 :: x9 :: x10 :: c :: L).flatten := LS.pick 11 h
theorem LS.p12 {x0 x1 x2 x3 x4 x5 x6 x7 x8 x9 x10 x11 c : List Zq} {A L : Zb} (h : LS A.flatten (x0 :: x1 :: x2 :: x3 :: x4 :: x5 :: x6 :: x7 :: x8 :: x9 :: x10 :: x11 :: L).flatten) : LS (c :: A).flatten (x0 :: x1 :: x2 :: x3 :: x4 :: x5 :: x6 :: x7 :: x8 :: x9 :: x10 :: x11 :: c :: L).flatten := LS.pick 12 h
theorem Zq7 {ι : Type} {P : Program} {n : Nat} {c : Code} {Q : Exit → Z3 → Zb → Prop} (I : ι → Prop) (ρ : ι → Z3) (L : ι → Zb) {R : Prop} (main : (∀ i, I i → HW P n c Q (ρ i) (L i)) → R) (key : ∀ i, I i → HW P n c Q (ρ i) (L i)) : R := main key
end Go.HL
end

/-! HLMap -/
section
namespace Go.HL
open Go
set_option linter.unusedVariables false
set_option linter.unusedSimpArgs false
set_option linter.unusedSectionVars false
def Zdy {α : Type} (key : α → Value) (es : List MapEntry) (l : List (α × Bool)) : Prop := es.map (fun e => (e.key, e.val)) = l.map fun p => (key p.1, Value.bool p.2)
def U0 {α : Type} [DecidableEq α] (a : α) : List (α × Bool) → Nat → Option (Nat × Value)
 | [], _ => none
 | (x, b) :: r, i => if a = x then some (i, .bool b) else U0 a r (i + 1)
def Qe {α : Type} [DecidableEq α] (a : α) : List (α × Bool) → Bool
 | [] => false
 | (x, b) :: r => if a = x then b else Qe a r
structure KeyOk {α : Type} [DecidableEq α] (P : Program) (kt : TypeId) (key : α → Value) : Prop where
 chk : ∀ (em : Bool) (w : World) (a : α), (Instr.checkKey em 10000 kt (key a)).run P w = .ok () w
 find : ∀ (w : World) (a : α) (es : List MapEntry) (l : List (α × Bool)), Zdy key es l → (Instr.findKey kt (key a) es).run P w = .ok (U0 a l 0) w
 stay : ∀ (w : World) (a : α), (Instr.keyThatStays (key a) (key a)).run P w = .ok (key a) w
def Zy {α : Type} [DecidableEq α] (key : α → Value) (es : List MapEntry) (f : α → Bool) : Prop := ∃ l : List (α × Bool), Zdy key es l ∧ ∀ a, f a = Qe a l
theorem Zkp {α : Type} [DecidableEq α] {key : α → Value} : Zy key [] (fun _ => false) := ⟨[], rfl, fun _ => rfl⟩
section k
variable {α : Type} [DecidableEq α]
theorem Zb9 {a : α} : ∀ {l : List (α × Bool)} {i j : Nat} {v : Value}, U0 a l i = some (j, v) → i ≤ j ∧ ∃ b, v = .bool b ∧ l[j - i]? = some (a, b) ∧ Qe a l = b
 | [], i, j, v, h => by simp [U0] at h
 | (x, b) :: r, i, j, v, h => by
  simp only [U0] at h
  split at h
  ·rename_i he
   subst he
   cases h
   exact ⟨Nat.le_refl _, b, rfl, by simp, by simp [Qe]⟩
  ·rename_i he
   obtain ⟨h1, b', h2, h3, h4⟩ := Zb9 h
   refine ⟨by omega, b', h2, ?_, by simp [Qe, he, h4]⟩
   rw [show j - i = (j - (i + 1)) + 1 by omega]
   simpa using h3
theorem Zeu {a : α} : ∀ {l : List (α × Bool)} {i : Nat}, U0 a l i = none → Qe a l = false ∧ ∀ p ∈ l, p.1 ≠ a
 | [], i, h => ⟨rfl, by simp⟩
 | (x, b) :: r, i, h => by
  simp only [U0] at h
  split at h
  ·cases h
  ·rename_i he
   obtain ⟨h1, h2⟩ := Zeu h
   refine ⟨by simp [Qe, he, h1], fun p hp => ?_⟩
   rcases List.mem_cons.1 hp with rfl | hp
   ·exact fun e => he e.symm
   ·exact h2 p hp
theorem Zu6 {a : α} {b0 b : Bool} : ∀ {l : List (α × Bool)} {j : Nat}, U0 a l 0 = some (j, .bool b0) → ∀ x, Qe x (l.set j (a, b)) = if x = a then b else Qe x l := by
 have key : ∀ (l : List (α × Bool)) (i j : Nat), U0 a l i = some (j, .bool b0) → ∀ x, Qe x (l.set (j - i) (a, b)) = if x = a then b else Qe x l := by
  intro l
  induction l with
  | nil => intro i j h; simp [U0] at h
  | cons p r ih =>
   intro i j h x
   obtain ⟨y, c⟩ := p
   simp only [U0] at h
   split at h
   ·rename_i he
    subst he
    cases h
    simp only [Nat.sub_self, List.set_cons_zero, Qe]
    split <;> simp_all
   ·rename_i he
    have h1 := (Zb9 h).1
    have := ih (i + 1) j h x
    rw [show j - i = (j - (i + 1)) + 1 by omega, List.set_cons_succ]
    simp only [Qe]
    rw [this]
    by_cases hxy : x = y
    ·subst hxy
     simp [Ne.symm he]
    ·simp [hxy]
 intro l j h
 exact key l 0 j h
theorem Zjj {a : α} {b : Bool} : ∀ {l : List (α × Bool)}, (∀ p ∈ l, p.1 ≠ a) → ∀ x, Qe x (l ++ [(a, b)]) = if x = a then b else Qe x l
 | [], _, x => by simp [Qe]
 | (y, c) :: r, h, x => by
  have h1 : y ≠ a := h (y, c) (List.mem_cons_self)
  have ih := Zjj (b := b) (fun p hp => h p (List.mem_cons_of_mem _ hp)) x
  simp only [List.cons_append, Qe, ih]
  by_cases hxy : x = y
  ·subst hxy
   simp [h1]
  ·simp [hxy]
theorem ents_set {key : α → Value} {es : List MapEntry} {l : List (α × Bool)} (h : Zdy key es l) {a : α} {b : Bool} {i : Nat} (hi : i < es.length) : Zdy key (es.modify i fun e => { e with key := key a, val := .bool b }) (l.set i (a, b)) := by
 unfold Zdy at *
 apply List.ext_getElem?
 intro k
 have hk := congrArg (fun z => z[k]?) h
 simp only [List.getElem?_map] at hk
 simp only [List.getElem?_map, List.getElem?_modify, List.getElem?_set]
 by_cases e : i = k
 ·subst e
  have hl : i < l.length := by
   have := congrArg List.length h
   simp at this
   omega
  simp [hi, hl]
 ·simp only [if_neg e]
  cases hes : es[k]? <;> simp_all
theorem Zut {key : α → Value} {es : List MapEntry} {l : List (α × Bool)} (h : Zdy key es l) {a : α} {b : Bool} {n : Nat} : Zdy key (es ++ [{ key := key a, val := .bool b, born := n }]) (l ++ [(a, b)]) := by
 unfold Zdy at *
 simp [h]
end k
section r
variable {α : Type} [DecidableEq α] {P : Program} (S : Tab P) {n : Nat} {ops : List Oper} {Q : Exit → Z3 → Zb → Prop} {rest : List Oper} {ρ : Z3} {L : Zb} {ty : TypeId} {pos : String} {af : Array Edge}
theorem q_mapB {d : Option Tmp} {g : Option (Nat × Bool)} {t kt et s0 b0 r : Nat} {key : α → Value} {x y : Operand} {es : List MapEntry} {ck : Nat} {f : α → Bool} {a : α} (hK : KeyOk P kt key) (hx : ev ρ x = some (.map (some r))) (hy : ev ρ y = some (key a))
  (ht : Yl S.ty t = some ⟨8, kt, et, s0, b0⟩) (hz : Yl S.zr et = some (.bool false)) (hb : Has L r (.map ⟨es⟩ ck)) (hF : Zy key es f) : QOp P ⟨d, .lookup t x y false, ty, pos, af, g⟩ ρ L (.bool (f a)) :=
 Y5 fun ρe he k w hs => by
  obtain ⟨l, hE, hf⟩ := hF
  have hm := ty_map (S.tyI ht) rfl
  have hzero := Q6 (S.zeroI hz) w
  have hh := MapKept.run_getObj_map (P := P) (hs.heap hb)
  have hfind := hK.find w a es l hE
  have hl : (Instr.lookup t (.map (some r)) (key a) false).run P w = .ok (.bool (f a)) w := by
   unfold Instr.lookup
   simp only [Sem.run_bind, run_underlying hm, Result.andThen_ok, hh, Sem.run_pure, hK.chk, hfind]
   rw [hf a]
   cases hfb : U0 a l 0 with
   | none => simp [hzero, (Zeu hfb).1]
   | some q =>
    obtain ⟨j, v⟩ := q
    obtain ⟨-, b, rfl, -, e⟩ := Zb9 hfb
    simp [e]
  simp only [execOp, he x (by simp [Op.operands]) _ hx, he y (by simp [Op.operands]) _ hy, Sem.run_bind, hl, Result.andThen_ok, Sem.run_pure]
theorem wMk {d t : Nat} (h : ∀ b, HO P n ops Q rest ((d, .map (some b)) :: ρ) ([(b, .map #[] 0)] :: L)) (h00 : X6 ρ = true := by exact rfl) (hn : Nat.blt d n = true := by exact rfl) : HO P n ops Q (⟨some d, .makeMap t none, ty, pos, af, none⟩ :: rest) ρ L :=
 U4 rfl rfl hn fun ρe he k w hs => ⟨.map (some w.heap.size), w.alloc (.map #[] 0), _, by simp [execOp, RowKit.run_makeMap], hs.new _, h _⟩
theorem o_mapB {t kt et s0 b0 r ck : Nat} {key : α → Value} {x y z : Operand} {es : List MapEntry} {f : α → Bool} {a : α} {b : Bool} (hK : KeyOk P kt key) (hx : ev ρ x = some (.map (some r))) (hy : ev ρ y = some (key a)) (hzz : ev ρ z = some (.bool b))
  (ht : Yl S.ty t = some ⟨8, kt, et, s0, b0⟩) (hF : Zy key es f) (h : ∀ es' ck', Zy key es' (fun x => if x = a then b else f x) → HO P n ops Q rest ρ ([(r, .map ⟨es'⟩ ck')] :: L)) :
  HO P n ops Q (⟨none, .mapUpdate t x y z, ty, pos, af, none⟩ :: rest) ρ ([(r, .map ⟨es⟩ ck)] :: L) := by
 refine ho_do rfl rfl fun ρe he k w hs => ?_
 obtain ⟨l, hE, hf⟩ := hF
 have hm := ty_map (S.tyI ht) rfl
 have hb0 : w.heap[r]? = some (.map ⟨es⟩ ck) := hs.heap Zv
 have hh := MapKept.run_getObj_map (P := P) hb0
 have hfind := hK.find w a es l hE
 have fin : ∀ (es' : List MapEntry) (ck' : Nat), Sat k { w with heap := w.heap.setIfInBounds r (.map ⟨es'⟩ ck') } ([(r, .map ⟨es'⟩ ck')] :: L) := fun es' ck' => by
  have hs2 := MapKept.heap_set (o' := .map ⟨es'⟩ ck') hb0
  exact hs.upd Vj rfl rfl rfl hs2.1 (fun j hj => hs2.2 j hj)
 have e1 := he x (by simp [Op.operands]) _ hx
 have e2 := he y (by simp [Op.operands]) _ hy
 have e3 := he z (by simp [Op.operands]) _ hzz
 cases hfb : U0 a l 0 with
 | none =>
  obtain ⟨h1, h2⟩ := Zeu hfb
  rw [hfb] at hfind
  refine ⟨_, _, .inl ?_, fin (es ++ [{ key := key a, val := .bool b, born := ck }]) (ck + 1), h _ _ ⟨l ++ [(a, b)], Zut hE, fun x => ?_⟩⟩
  ·have hr : (Instr.mapUpdate t (.map (some r)) (key a) (.bool b)).run P w = .ok () { w with heap := w.heap.setIfInBounds r (.map ⟨es ++ [{ key := key a, val := .bool b, born := ck }]⟩ (ck + 1)) } := by
    unfold Instr.mapUpdate
    simp only [Sem.run_bind, run_underlying hm, Result.andThen_ok, hh, hK.chk, hfind, MapKept.run_setObj_map _ hb0]
    simp
   simp [execOp, e1, e2, e3, hr]
  ·show (if x = a then b else f x) = _
   rw [Zjj h2, hf]
 | some q =>
  obtain ⟨j, v⟩ := q
  obtain ⟨-, b', rfl, hj, hb'⟩ := Zb9 hfb
  rw [hfb] at hfind
  have hlen : es.length = l.length := by have := congrArg List.length hE; simpa using this
  have hjl : j < es.length := by rw [hlen]; exact (List.getElem?_eq_some_iff.1 (by simpa using hj)).1
  have hkey : (es[j]).key = key a := by
   have h9 := congrArg (fun z => z[j]?) hE
   simp only [List.getElem?_map, Nat.sub_zero] at h9 hj
   rw [hj, List.getElem?_eq_getElem hjl] at h9
   simp at h9
   exact h9.1
  refine ⟨_, _, .inl ?_, fin (es.modify j fun e => { e with key := key a, val := .bool b }) ck, h _ _ ⟨l.set j (a, b), ents_set hE hjl, fun x => ?_⟩⟩
  ·have hr : (Instr.mapUpdate t (.map (some r)) (key a) (.bool b)).run P w = .ok () { w with heap := w.heap.setIfInBounds r (.map ⟨es.modify j fun e => { e with key := key a, val := .bool b }⟩ ck) } := by
    unfold Instr.mapUpdate
    have e9 : ((((Array.mk es)[j]?).map (·.key)).getD (key a)) = key a := by simp [hjl, hkey]
    simp only [Sem.run_bind, run_underlying hm, Result.andThen_ok, hh, hK.chk, hfind, e9, hK.stay, MapKept.run_setObj_map _ hb0]
    simp
   simp [execOp, e1, e2, e3, hr]
  ·show (if x = a then b else f x) = _
   rw [Zu6 hfb, hf]
theorem Zmp {kt s0 b0 : Nat} (hk : Yl S.ty kt = some ⟨2, 3, 0, s0, b0⟩) : KeyOk (α := Int) P kt iv := by
 have hd : P.underlying kt = some (.int .i64) := Zgv (S.tyI hk) rfl
 have hI : ∀ a : Int, MapKept.IsKey (.int .i64) (iv a) := fun a => by simp [MapKept.IsKey]
 refine ⟨fun em w a => MapKept.run_checkKey hd (hI a) em 9999, fun w a es l hE => ?_, fun w a => MapKept.run_keyThatStays (hI a)⟩
 refine MapKept.run_findKey hd ?_
 have key : ∀ (es : List MapEntry) (l : List (Int × Bool)) (i : Nat), Zdy iv es l → Instr.findNow (.int .i64) (iv a) es i = some (U0 a l i) := by
  intro es
  induction es with
  | nil =>
   intro l i h
   cases l with
   | nil => rfl
   | cons p r => simp [Zdy] at h
  | cons e es ih =>
   intro l i h
   cases l with
   | nil => simp [Zdy] at h
   | cons p r =>
    obtain ⟨x, b⟩ := p
    simp only [Zdy, List.map_cons, List.cons.injEq, Prod.mk.injEq] at h
    obtain ⟨⟨h1, h2⟩, h3⟩ := h
    simp only [Instr.findNow, h1, Instr.sameNow, if_true, U0]
    by_cases hax : a = x
    ·subst hax; simp [h2]
    ·have : (a == x) = false := by simp [hax]
     simp [this, hax, ih r (i + 1) h3]
 exact key es l 0 hE
theorem qmI {d : Option Tmp} {g : Option (Nat × Bool)} {t kt et s0 b0 s1 b1 r : Nat} {x y : Operand} {es : List MapEntry} {ck : Nat} {f : Int → Bool} {a : Int} (h00 : X6 ρ = true := by exact rfl) (hx : ev ρ x = some (.map (some r)) := by exact rfl) (hy : ev ρ y = some (iv a) := by exact rfl)
  (ht : Yl S.ty t = some ⟨8, kt, et, s0, b0⟩ := by exact rfl) (hk : Yl S.ty kt = some ⟨2, 3, 0, s1, b1⟩ := by exact rfl) (hz : Yl S.zr et = some (.bool false) := by exact rfl) (hb : Has L r (.map ⟨es⟩ ck) := by (repeat (first | assumption | exact Zv | exact Yu (by assumption) | apply Vw | apply Zf))) (hF : Zy iv es f := by assumption) :
  QOp P ⟨d, .lookup t x y false, ty, pos, af, g⟩ ρ L (.bool (f a)) := q_mapB S (Zmp S hk) hx hy ht hz hb hF
theorem wmI {t kt et s0 b0 s1 b1 r ck : Nat} {x y z : Operand} {es : List MapEntry} {f : Int → Bool} {a : Int} {b : Bool} (hF : Zy iv es f) (h : ∀ es' ck', Zy iv es' (fun x => if x = a then b else f x) → HO P n ops Q rest ρ ([(r, .map ⟨es'⟩ ck')] :: L)) (h00 : X6 ρ = true := by exact rfl) (hx : ev ρ x = some (.map (some r)) := by exact rfl) (hy : ev ρ y = some (iv a) := by exact rfl) (hzz : ev ρ z = some (.bool b) := by exact rfl)
  (ht : Yl S.ty t = some ⟨8, kt, et, s0, b0⟩ := by exact rfl) (hk : Yl S.ty kt = some ⟨2, 3, 0, s1, b1⟩ := by exact rfl) :
  HO P n ops Q (⟨none, .mapUpdate t x y z, ty, pos, af, none⟩ :: rest) ρ ([(r, .map ⟨es⟩ ck)] :: L) := o_mapB S (Zmp S hk) hx hy hzz ht hF h
end r
/-! ### a loop of so many rounds; a call within a region that draws its order -/
def Xx (P : Program) (n : Nat) (c : Code) (Q : Exit → Z3 → Zb → Prop) : Nat → Exit → Z3 → Zb → Prop
 | 0, .normal, ρ, L => False
 | k + 1, .normal, ρ, L => HW P n c (Xx P n c Q k) ρ L
 | _, e, ρ, L => Q e ρ L
theorem unQ_succ {P : Program} {n k : Nat} {c : Code} {Q : Exit → Z3 → Zb → Prop} {ρ : Z3} {L : Zb} (h : HW P n c (Xx P n c Q k) ρ L) : Xx P n c Q (k + 1) .normal ρ L := h
theorem unQ_ret {P : Program} {n k : Nat} {c : Code} {Q : Exit → Z3 → Zb → Prop} {ρ : Z3} {L : Zb} (h : Q .ret ρ L) : Xx P n c Q k .ret ρ L := by cases k <;> exact h
theorem unQ_exit {P : Program} {n k i : Nat} {c : Code} {Q : Exit → Z3 → Zb → Prop} {ρ : Z3} {L : Zb} (h : Q (.exit i) ρ L) : Xx P n c Q k (.exit i) ρ L := by cases k <;> exact h
theorem Zvx {P : Program} {n : Nat} {c : Code} {Q : Exit → Z3 → Zb → Prop} {ρ : Z3} {L : Zb} (m : Nat) (h : HW P n c (Xx P n c Q m) ρ L) : HW P n (.loop c) Q ρ L := by
 intro k w a hs ha b kk cs
 have key : ∀ m ρ L, HW P n c (Xx P n c Q m) ρ L → ∀ a w, Sat k w L → Agr n a ρ →
   ∃ e a' w', post k n Q e a' w' ∧ Arrives P (lone (b.at a (.code c :: .inLoop c :: kk)) cs w) b kk cs e a' w' := by
  intro m
  induction m with
  | zero =>
   intro ρ L h a w hs ha
   obtain ⟨e, a₁, w₁, ⟨ρ₁, L₁, ha₁, hs₁, hq⟩, harr⟩ := h k w a hs ha b (.inLoop c :: kk) cs
   cases e with
   | normal => exact hq.elim
   | exit id => exact ⟨_, a₁, w₁, ⟨ρ₁, L₁, ha₁, hs₁, hq⟩, .pass (x := .inLoop c) rfl (fun _ _ => .inl (by simp)) harr⟩
   | goto l => exact ⟨_, a₁, w₁, ⟨ρ₁, L₁, ha₁, hs₁, hq⟩, .pass (x := .inLoop c) rfl (fun _ _ => .inl (by simp)) harr⟩
   | ret => exact ⟨_, a₁, w₁, ⟨ρ₁, L₁, ha₁, hs₁, hq⟩, .pass (x := .inLoop c) rfl (fun _ _ => .inl (by simp)) harr⟩
   | panic ch => exact ⟨_, a₁, w₁, ⟨ρ₁, L₁, ha₁, hs₁, hq⟩, .pass (x := .inLoop c) rfl (fun _ _ => .inl (by simp)) harr⟩
   | outgrown => exact ⟨_, a₁, w₁, ⟨ρ₁, L₁, ha₁, hs₁, hq⟩, .pass (x := .inLoop c) rfl (fun _ _ => .inl (by simp)) harr⟩
  | succ m ih =>
   intro ρ L h a w hs ha
   obtain ⟨e, a₁, w₁, ⟨ρ₁, L₁, ha₁, hs₁, hq⟩, harr⟩ := h k w a hs ha b (.inLoop c :: kk) cs
   cases e with
   | normal =>
    obtain ⟨e₂, a₂, w₂, hq₂, harr₂⟩ := ih ρ₁ L₁ hq a₁ w₁ hs₁ ha₁
    exact ⟨e₂, a₂, w₂, hq₂, .of_steps (Steps.trans harr (.one step_inLoop)) harr₂⟩
   | exit id => exact ⟨_, a₁, w₁, ⟨ρ₁, L₁, ha₁, hs₁, hq⟩, .pass (x := .inLoop c) rfl (fun _ _ => .inl (by simp)) harr⟩
   | goto l => exact ⟨_, a₁, w₁, ⟨ρ₁, L₁, ha₁, hs₁, hq⟩, .pass (x := .inLoop c) rfl (fun _ _ => .inl (by simp)) harr⟩
   | ret => exact ⟨_, a₁, w₁, ⟨ρ₁, L₁, ha₁, hs₁, hq⟩, .pass (x := .inLoop c) rfl (fun _ _ => .inl (by simp)) harr⟩
   | panic ch => exact ⟨_, a₁, w₁, ⟨ρ₁, L₁, ha₁, hs₁, hq⟩, .pass (x := .inLoop c) rfl (fun _ _ => .inl (by simp)) harr⟩
   | outgrown => exact ⟨_, a₁, w₁, ⟨ρ₁, L₁, ha₁, hs₁, hq⟩, .pass (x := .inLoop c) rfl (fun _ _ => .inl (by simp)) harr⟩
 obtain ⟨e, a', w', hq, harr⟩ := key m ρ L h a w hs ha
 exact ⟨e, a', w', hq, .of_steps (.one step_loop) harr⟩
section df
variable {P : Program} {n : Nat} {ops : List Oper} {Q : Exit → Z3 → Zb → Prop} {Ss : List (Nat × Zq)} {rem rem' : List (Nat × Oper)} {ρ : Z3} {L : Zb} {ty : TypeId} {pos : String} {af : Array Edge} {g : Option (Nat × Bool)} {d i : Nat}
theorem dcF {f : Operand} {as9 : Array Operand} {ts : Array TypeId} {Fn : Nat} {cap args args' : List Value} {v : Value} (k : Nat) (F : List Zq) (h : ∀ L, (∀ p ∈ F, Has L p.1 p.2) → HC P Fn args' L (fun u L' => u = v ∧ L' = L)) (hF : ∀ p ∈ F, Has L p.1 p.2)
  (hr : HD P n ops Q (F.map (fun p => (i, p)) ++ Ss) rem' ((d, v) :: ρ) L) (h00 : X6 ρ = true := by exact rfl) (hp : Vu k rem = some ((i, ⟨some d, .call { callee := .value f, args := as9, argTypes := ts }, ty, pos, af, g⟩), rem') := by exact rfl) (hg : Yn ops ρ g = some true := by exact rfl) (hn : Nat.blt d n = true := by exact rfl)
  (hf : ev ρ f = some (.func (.func Fn) #[] ⟨cap⟩) := by exact rfl) (ha : Zk3 ρ as9.toList = some args := by exact rfl) (he : args ++ cap = args' := by exact rfl) (hc : Zct ops rem' i ⟨some d, .call { callee := .value f, args := as9, argTypes := ts }, ty, pos, af, g⟩ = true := by decide +kernel) : HD P n ops Q Ss rem ρ L :=
 hd_q (F := F) hp hc rfl hn (.inl ⟨hg, fun L hL => q_call hf ha (he ▸ h L hL)⟩) hF hr
end df
theorem hcHas {P : Program} {F : Nat} {args : List Value} {b : Nat} {o : Obj} {V : Value} (h : ∀ L, HC P F args ([(b, o)] :: L) (fun v L' => v = V ∧ L' = [(b, o)] :: L)) {L : Zb} (hb : Has L b o) : HC P F args L (fun v L' => v = V ∧ L' = L) := by
 obtain ⟨l1, l2, e⟩ := List.append_of_mem hb
 have hp : List.Perm L.flatten ([(b, o)] :: [l1 ++ l2]).flatten := by
  rw [e]
  simp only [List.flatten_cons, List.flatten_nil, List.append_nil, List.cons_append, List.nil_append]
  exact List.perm_middle
 have hp2 : ∀ {k : Zk4} {w : World}, Sat k w ([(b, o)] :: [l1 ++ l2]) → Sat k w L := fun hs => hs.sp (LS.of_perm hp)
 exact ⟨(h []).1, fun k w hs => ((h [l1 ++ l2]).2 k w (hs.sp (LS.of_perm hp.symm))).mono fun e w' ⟨v, L', he, hs', hv, hL⟩ => ⟨v, L, he, hp2 (hL ▸ hs'), hv, rfl⟩⟩
theorem hq2 {P : Program} {F : Nat} {args : List Value} {c1 c2 : List Zq} {L L1 L2 : Zb} {V : Value} (h : ∀ L, HC P F args (c1 :: c2 :: L) (fun v L' => v = V ∧ L' = c1 :: c2 :: L)) (k1 k2 : Nat) (hp1 : Zcb k1 L = some (c1, L1) := by exact rfl) (hp2 : Zcb k2 L1 = some (c2, L2) := by exact rfl) : HC P F args L (fun v L' => v = V ∧ L' = L) :=
 have hp : List.Perm L (c1 :: c2 :: L2) := (Wy hp1).trans ((Wy hp2).cons c1)
 ⟨(h L2).1, fun k w hs => ((h L2).2 k w (hs.perm hp)).mono fun e w' ⟨v, L', he, hs', hv, hL⟩ => ⟨v, L, he, (hL ▸ hs').perm hp.symm, hv, rfl⟩⟩
end Go.HL
end

/-! HLDs -/
section
namespace Go.HL
open Go
set_option linter.unusedVariables false
theorem Rd.all {α : Type} {enc : α → List Value} {sz : Nat} {L : Zb} {a : Option Addr} {xs : List α} (h : Rd enc sz L a xs) (h0 : 0 < xs.length) : ∃ b i c E fr, a = some ⟨b, i, none⟩ ∧ Has L b (.cells ⟨c⟩ E fr) ∧ ∀ k (hk : k < xs.length), Gets c (i + ((k : Int)).toNat * sz) (enc xs[k]) := by
 rcases h with h | ⟨b, i, c, E, fr, rfl, hb, hg⟩
 ·rw [h] at h0; simp at h0
 ·exact ⟨b, i, c, E, fr, rfl, hb, fun k hk => by simpa using hg k _ (List.getElem?_eq_getElem hk)⟩
structure Fresh (b : Bool) : Prop where
 any : True
theorem Ztm : Fresh true := ⟨trivial⟩
theorem Ztb : Fresh false := ⟨trivial⟩
theorem Zl8 (b : Bool) : Fresh b := ⟨trivial⟩
section d
variable {P : Program} {n : Nat} {ops : List Oper} {Q : Exit → Z3 → Zb → Prop} {Ss : List (Nat × Zq)} {rem rem' : List (Nat × Oper)} {ρ : Z3} {L : Zb} {i : Nat}
theorem d_sp {t j : Nat} {q : Oper} {b wt : Bool} (k : Nat) (h1 : b = true → HD P n ops Q Ss rem ((t, .bool true) :: ρ) L) (h0 : b = false → HD P n ops Q Ss rem ((t, .bool false) :: ρ) L) (h00 : X6 ρ = true := by exact rfl) (hp : Vu k rem = some ((i, q), rem') := by exact rfl) (hq : q.guard = some (j, wt) := by exact rfl) (hj : Q0 ops j = some t := by exact rfl) (ht : lk ρ t = some (.bool b) := by exact rfl)
  (hb : Fresh b := by (fail_if_success (with_reducible exact Ztm)); (fail_if_success (with_reducible exact Ztb)); exact Zl8 _) : HD P n ops Q Ss rem ρ L := hd_split ht h1 h0
end d
end Go.HL
end

/-! HLPr -/
section
namespace Go.HL
open Go
set_option linter.unusedVariables false
section
variable {P : Program} {n : Nat} {ops : List Oper} {Q : Exit → Z3 → Zb → Prop} {rest : List Oper} {ρ : Z3} {L : Zb}
theorem pg_t {c : Operand} {x y : Code} {b : Bool} (h00 : X6 ρ = true := by exact rfl) (hc : ev ρ c = some (.bool b) := by exact rfl) (hb : b = true := by with_reducible exact rfl) : (HW P n x Q ρ L) → HW P n (.cond c x y) Q ρ L := fun h => g_t h h00 hc hb
end
section
variable {P : Program} {n : Nat} {ops : List Oper} {Q : Exit → Z3 → Zb → Prop} {rest : List Oper} {ρ : Z3} {L : Zb}
theorem pg_f {c : Operand} {x y : Code} {b : Bool} (h00 : X6 ρ = true := by exact rfl) (hc : ev ρ c = some (.bool b) := by exact rfl) (hb : b = false := by with_reducible exact rfl) : (HW P n y Q ρ L) → HW P n (.cond c x y) Q ρ L := fun h => g_f h h00 hc hb
end
section
variable {P : Program} {n : Nat} {ops : List Oper} {Q : Exit → Z3 → Zb → Prop} {rest : List Oper} {ρ : Z3} {L : Zb}
theorem pg_bx {id i : Nat} (h00 : X6 ρ = true := by exact rfl) (hn : Nat.beq i id = false := by exact rfl) : (Q (.exit i) ρ L) → Z6 id Q (.exit i) ρ L := fun h => g_bx h h00 hn
end
section
variable {P : Program} {n : Nat} {ops : List Oper} {Q : Exit → Z3 → Zb → Prop} {rest : List Oper} {ρ : Z3} {L : Zb}
variable {op : Op} {ty : TypeId} {pos : String} {af : Array Edge} {g : Option (Nat × Bool)} {d : Nat}
theorem Zcf {v : Value} (h : QOp P ⟨some d, op, ty, pos, af, g⟩ ρ L v) (h00 : X6 ρ = true := by exact rfl) (hg : Yn ops ρ g = some true := by exact rfl) (hn : Nat.blt d n = true := by exact rfl) : (HO P n ops Q rest ((d, v) :: ρ) L) → HO P n ops Q (⟨some d, op, ty, pos, af, g⟩ :: rest) ρ L := fun hr => We h hr h00 hg hn
end
section
variable {P : Program} {n : Nat} {ops : List Oper} {Q : Exit → Z3 → Zb → Prop} {rest : List Oper} {ρ : Z3} {L : Zb}
variable {op : Op} {ty : TypeId} {pos : String} {af : Array Edge} {g : Option (Nat × Bool)} {d : Nat}
theorem pg_n (h00 : X6 ρ = true := by exact rfl) (hg : Yn ops ρ g = some false := by exact rfl) (hn : Nat.blt d n = true := by exact rfl) : (HO P n ops Q rest ((d, undef) :: ρ) L) → HO P n ops Q (⟨some d, op, ty, pos, af, g⟩ :: rest) ρ L := fun hr => g_n hr h00 hg hn
end
section
variable {P : Program} {n : Nat} {ops : List Oper} {Q : Exit → Z3 → Zb → Prop} {rest : List Oper} {ρ : Z3} {L : Zb}
variable {op : Op} {ty : TypeId} {pos : String} {af : Array Edge} {g : Option (Nat × Bool)} {d : Nat}
theorem pg_on {d : Option Tmp} {j : Nat} {wt : Bool} (h00 : X6 ρ = true := by exact rfl) (hg : Yn ops ρ (some (j, wt)) = some true := by exact rfl) : (HO P n ops Q (⟨d, op, ty, pos, af, none⟩ :: rest) ρ L) → HO P n ops Q (⟨d, op, ty, pos, af, some (j, wt)⟩ :: rest) ρ L := fun h => g_on h h00 hg
end
section
variable {P : Program} {n : Nat} {ops : List Oper} {Q : Exit → Z3 → Zb → Prop} {rest : List Oper} {ρ : Z3} {L : Zb}
variable {op : Op} {ty : TypeId} {pos : String} {af : Array Edge} {g : Option (Nat × Bool)} {d : Nat}
variable {K : Z3 → Prop}
theorem Zch {v : Value} (h : QOp P ⟨some d, op, ty, pos, af, g⟩ ρ L v) (h00 : X6 ρ = true := by exact rfl) (hg : Yn ops ρ g = some true := by exact rfl) (hn : Nat.blt d n = true := by exact rfl) : (HQ P n ops K rest ((d, v) :: ρ) L) → HQ P n ops K (⟨some d, op, ty, pos, af, g⟩ :: rest) ρ L := fun hr => Qi h hr h00 hg hn
end
section
variable {P : Program} {n : Nat} {ops : List Oper} {Q : Exit → Z3 → Zb → Prop} {rest : List Oper} {ρ : Z3} {L : Zb}
variable {op : Op} {ty : TypeId} {pos : String} {af : Array Edge} {g : Option (Nat × Bool)} {d : Nat}
variable {K : Z3 → Prop}
theorem pk_n (h00 : X6 ρ = true := by exact rfl) (hg : Yn ops ρ g = some false := by exact rfl) (hn : Nat.blt d n = true := by exact rfl) : (HQ P n ops K rest ((d, undef) :: ρ) L) → HQ P n ops K (⟨some d, op, ty, pos, af, g⟩ :: rest) ρ L := fun hr => k_n hr h00 hg hn
end
section
variable {P : Program} (S : Tab P) {n : Nat} {ops : List Oper} {Q : Exit → Z3 → Zb → Prop} {rest : List Oper} {ρ : Z3} {L : Zb} {ty : TypeId} {pos : String} {af : Array Edge}
theorem pwa {d E : Nat} {z : Value} {zs : List Value} (h00 : X6 ρ = true := by exact rfl) (hz : Yl S.zr E = some z := by exact rfl) (hc : z.cells = ⟨zs⟩ := by exact rfl) (hn : Nat.blt d n = true := by exact rfl) : (∀ b, HO P n ops Q rest ((d, pt b 0) :: ρ) ([(b, .cells ⟨zs⟩ E)] :: L)) → HO P n ops Q (⟨some d, .alloc E, ty, pos, af, none⟩ :: rest) ρ L := fun h => wa S h h00 hz hc hn
end
section
variable {P : Program} (S : Tab P) {n : Nat} {ops : List Oper} {Q : Exit → Z3 → Zb → Prop} {rest : List Oper} {ρ : Z3} {L : Zb} {ty : TypeId} {pos : String} {af : Array Edge}
theorem pwb {d E : Nat} {x : Operand} {v : Value} {vs : List Value} (h00 : X6 ρ = true := by exact rfl) (hx : ev ρ x = some v := by exact rfl) (hc : v.cells = ⟨vs⟩ := by exact rfl) (hn : Nat.blt d n = true := by exact rfl) : (∀ b, HO P n ops Q rest ((d, pt b 0) :: ρ) ([(b, .cells ⟨vs⟩ E)] :: L)) → HO P n ops Q (⟨some d, .box E x, ty, pos, af, none⟩ :: rest) ρ L := fun h => wb h h00 hx hc hn
end
section
variable {P : Program} (S : Tab P) {n : Nat} {ops : List Oper} {Q : Exit → Z3 → Zb → Prop} {rest : List Oper} {ρ : Z3} {L : Zb} {ty : TypeId} {pos : String} {af : Array Edge}
theorem pws {t b i E : Nat} {ti : TyI} {x y : Operand} {v : Value} {vs l l' : List Value} {L' : Zb} (h00 : X6 ρ = true := by exact rfl) (hx : ev ρ x = some (pt b i) := by exact rfl) (hy : ev ρ y = some v := by exact rfl) (ht : Yl S.ty t = some ti := by exact rfl) (hc : v.cells = ⟨vs⟩ := by exact rfl) (hsz : ti.size = vs.length := by exact rfl) (h1 : (vs.all Value.oneCell') = true := by exact rfl) (hu : Upd L b (.cells ⟨l⟩ E (0, 0)) (.cells ⟨l'⟩ E (0, 0)) L' := by (repeat (first | exact Vj | apply Zr6 | apply Zje))) (hp : Zt l i vs l' := by (first | assumption | exact Zi9 rfl | exact Uc | exact Vp Uc | exact Vp (Vp Uc) | (repeat (first | exact Uc | apply Vp)))) : (HO P n ops Q rest ρ L') → HO P n ops Q (⟨none, .store t x y, ty, pos, af, none⟩ :: rest) ρ L := fun h => ws S h h00 hx hy ht hc hsz h1 hu hp
end
section
variable {P : Program} (S : Tab P) {n : Nat} {ops : List Oper} {Q : Exit → Z3 → Zb → Prop} {rest : List Oper} {ρ : Z3} {L : Zb} {ty : TypeId} {pos : String} {af : Array Edge}
theorem pwS {d t E y0 s0 b0 k1 x1 y1 by1 len : Nat} {z : Value} {zv : Value} {vals : List Value} {parts : Array (Nat × Operand)} (h00 : X6 ρ = true := by exact rfl) (ht : Yl S.ty t = some ⟨5, E, y0, s0, b0⟩ := by exact rfl) (he : Yl S.ty E = some ⟨k1, x1, y1, 1, by1⟩ := by exact rfl) (hz : Yl S.zr E = some z := by exact rfl) (hzs : z.cells = ⟨[zv]⟩ := by exact rfl) (hp : Zpx ρ 0 parts.toList = some vals := by exact rfl) (hlen : vals.length = len := by exact rfl) (hsm : Nat.ble len 16777216 = true := by exact rfl) (h1 : (vals.all Value.oneCell') = true := by exact rfl) (hn : Nat.blt d n = true := by exact rfl) : (∀ b, HO P n ops Q rest ((d, sl b 0 len len) :: ρ) ([(b, .cells ⟨vals⟩ E)] :: L)) → HO P n ops Q (⟨some d, .buildSlice t len parts, ty, pos, af, none⟩ :: rest) ρ L := fun h => wS S h h00 ht he hz hzs hp hlen hsm h1 hn
end
section
variable {P : Program} (S : Tab P) {n : Nat} {ops : List Oper} {Q : Exit → Z3 → Zb → Prop} {rest : List Oper} {ρ : Z3} {L : Zb} {ty : TypeId} {pos : String} {af : Array Edge}
theorem pwm {d t E y0 s0 b0 k1 x1 y1 by1 : Nat} {z zv : Value} {x y : Operand} {kl kc : IntKind} {l c : Int} (h00 : X6 ρ = true := by exact rfl) (hx : ev ρ x = some (.int kl l) := by exact rfl) (hy : ev ρ y = some (.int kc c) := by exact rfl) (ht : Yl S.ty t = some ⟨5, E, y0, s0, b0⟩ := by exact rfl) (he : Yl S.ty E = some ⟨k1, x1, y1, 1, by1⟩ := by exact rfl) (hz : Yl S.zr E = some z := by exact rfl) (hzs : z.cells = #[zv] := by exact rfl) (hn : Nat.blt d n = true := by exact rfl) (hc : 0 ≤ l ∧ l ≤ c ∧ (by1 : Int) * c ≤ 281474976710656 ∧ c ≤ 9223372036854775807 := by omega) : (∀ b, HO P n ops Q rest ((d, sl b 0 l.toNat c.toNat) :: ρ) ([(b, .cells ⟨List.replicate c.toNat zv⟩ E)] :: L)) → HO P n ops Q (⟨some d, .makeSlice t x y, ty, pos, af, none⟩ :: rest) ρ L := fun h => wm S h h00 hx hy ht he hz hzs hn hc
end
section
variable {P : Program} (S : Tab P) {n : Nat} {ops : List Oper} {Q : Exit → Z3 → Zb → Prop} {Ss : List (Nat × Zq)} {rem rem' : List (Nat × Oper)} {ρ : Z3} {L : Zb} {op : Op} {ty : TypeId} {pos : String} {af : Array Edge} {g : Option (Nat × Bool)} {d i : Nat}
theorem Zf7 {v : Value} (k : Nat) (hp : Vu k rem = some ((i, ⟨some d, op, ty, pos, af, g⟩), rem')) (h : ∀ L, QOp P ⟨some d, op, ty, pos, af, g⟩ ρ L v) (h00 : X6 ρ = true := by exact rfl) (hg : Yn ops ρ g = some true := by exact rfl) (hn : Nat.blt d n = true := by exact rfl) (hc : Zct ops rem' i ⟨some d, op, ty, pos, af, g⟩ = true := by decide +kernel) : (HD P n ops Q Ss rem' ((d, v) :: ρ) L) → HD P n ops Q Ss rem ρ L := fun hr => Zk2 k hp h hr h00 hg hn hc
end
section
variable {P : Program} (S : Tab P) {n : Nat} {ops : List Oper} {Q : Exit → Z3 → Zb → Prop} {Ss : List (Nat × Zq)} {rem rem' : List (Nat × Oper)} {ρ : Z3} {L : Zb} {op : Op} {ty : TypeId} {pos : String} {af : Array Edge} {g : Option (Nat × Bool)} {d i : Nat}
theorem pd_n (k : Nat) (h00 : X6 ρ = true := by exact rfl) (hp : Vu k rem = some ((i, ⟨some d, op, ty, pos, af, g⟩), rem') := by exact rfl) (hg : Yn ops ρ g = some false := by exact rfl) (hn : Nat.blt d n = true := by exact rfl) (hc : Zct ops rem' i ⟨some d, op, ty, pos, af, g⟩ = true := by decide +kernel) : (HD P n ops Q Ss rem' ((d, undef) :: ρ) L) → HD P n ops Q Ss rem ρ L := fun hr => d_n k hr h00 hp hg hn hc
end
section
variable {P : Program} (S : Tab P) {n : Nat} {ops : List Oper} {Q : Exit → Z3 → Zb → Prop} {Ss : List (Nat × Zq)} {rem rem' : List (Nat × Oper)} {ρ : Z3} {L : Zb} {op : Op} {ty : TypeId} {pos : String} {af : Array Edge} {g : Option (Nat × Bool)} {d i : Nat}
theorem pdl {t b a E : Nat} {ti : TyI} {x : Operand} {l : List Value} {fr : Nat × Nat} {v : Value} (k : Nat) (h00 : X6 ρ = true := by exact rfl) (hp : Vu k rem = some ((i, ⟨some d, .load t x, ty, pos, af, g⟩), rem') := by exact rfl) (hx : ev ρ x = some (pt b a) := by exact rfl) (ht : Yl S.ty t = some ti := by exact rfl) (h6 : Nat.beq ti.kind 6 = false := by exact rfl) (h7 : Nat.beq ti.kind 7 = false := by exact rfl) (hg : Yn ops ρ g = some true := by exact rfl) (hn : Nat.blt d n = true := by exact rfl) (hb : Has L b (.cells ⟨l⟩ E fr) := by (repeat (first | assumption | exact Zv | exact Yu (by assumption) | apply Vw | apply Zf))) (hv : l[a]? = some v := by (first | exact rfl | assumption | exact Gets.at (by assumption) rfl | exact Gets.at0 (by assumption) rfl)) (hc : Zct ops rem' i ⟨some d, .load t x, ty, pos, af, g⟩ = true := by decide +kernel) : (HD P n ops Q ((i, (b, .cells ⟨l⟩ E fr)) :: Ss) rem' ((d, v) :: ρ) L) → HD P n ops Q Ss rem ρ L := fun hr => dl S k hr h00 hp hx ht h6 h7 hg hn hb hv hc
end
section
variable {P : Program} (S : Tab P) {n : Nat} {ops : List Oper} {Q : Exit → Z3 → Zb → Prop} {Ss : List (Nat × Zq)} {rem rem' : List (Nat × Oper)} {ρ : Z3} {L : Zb} {op : Op} {ty : TypeId} {pos : String} {af : Array Edge} {g : Option (Nat × Bool)} {d i : Nat}
theorem pds {t b a E : Nat} {ti : TyI} {x : Operand} {l vs : List Value} {fr : Nat × Nat} (k : Nat) (h00 : X6 ρ = true := by exact rfl) (hp : Vu k rem = some ((i, ⟨some d, .load t x, ty, pos, af, g⟩), rem') := by exact rfl) (hx : ev ρ x = some (pt b a) := by exact rfl) (ht : Yl S.ty t = some ti := by exact rfl) (h7 : (Nat.beq ti.kind 6 || Nat.beq ti.kind 7) = true := by exact rfl) (hg : Yn ops ρ g = some true := by exact rfl) (hn : Nat.blt d n = true := by exact rfl) (hb : Has L b (.cells ⟨l⟩ E fr) := by (repeat (first | assumption | exact Zv | exact Yu (by assumption) | apply Vw | apply Zf))) (hv : Gets l a vs ∧ ti.size = vs.length := by (first | (refine Zjm (by assumption) ?_; rfl) | exact ⟨Ze rfl (Ze rfl (Ze rfl Ym)), rfl⟩ | exact ⟨Ze rfl (Ze rfl Ym), rfl⟩ | exact ⟨Ze rfl (Ze rfl (Ze rfl (Ze rfl Ym))), rfl⟩ | exact ⟨Ze rfl (Ze rfl (Ze rfl (Ze rfl (Ze rfl (Ze rfl (Ze rfl (Ze rfl (Ze rfl Ym)))))))), rfl⟩)) (hc : Zct ops rem' i ⟨some d, .load t x, ty, pos, af, g⟩ = true := by decide +kernel) : (HD P n ops Q ((i, (b, .cells ⟨l⟩ E fr)) :: Ss) rem' ((d, .agg ⟨vs⟩) :: ρ) L) → HD P n ops Q Ss rem ρ L := fun hr => ds S k hr h00 hp hx ht h7 hg hn hb hv hc
end
section
variable {P : Program} (S : Tab P) {n : Nat} {ops : List Oper} {Q : Exit → Z3 → Zb → Prop} {Ss : List (Nat × Zq)} {rem rem' : List (Nat × Oper)} {ρ : Z3} {L : Zb} {op : Op} {ty : TypeId} {pos : String} {af : Array Edge} {g : Option (Nat × Bool)} {d i : Nat}
theorem pdxk {i0 : Nat} {p : Zq} {r : List (Nat × Zq)} {K : List (Nat × Zq) → Prop} (hk : Zcd ops i0 i = true := by exact rfl) (hb : Has L p.1 p.2 := by (repeat (first | assumption | exact Zv | exact Yu (by assumption) | apply Vw | apply Zf))) : (Zm ops i L r (fun l => K ((i0, p) :: l))) → Zm ops i L ((i0, p) :: r) K := fun h => dxk h hk hb
end
section
variable {P : Program} (S : Tab P) {n : Nat} {ops : List Oper} {Q : Exit → Z3 → Zb → Prop} {Ss : List (Nat × Zq)} {rem rem' : List (Nat × Oper)} {ρ : Z3} {L : Zb} {op : Op} {ty : TypeId} {pos : String} {af : Array Edge} {g : Option (Nat × Bool)} {d i : Nat}
theorem pdxd {i0 : Nat} {p : Zq} {r : List (Nat × Zq)} {K : List (Nat × Zq) → Prop} (hk : Zcd ops i0 i = false := by exact rfl) : (Zm ops i L r K) → Zm ops i L ((i0, p) :: r) K := fun h => dxd h hk
end
section
variable {P : Program} (S : Tab P) {n : Nat} {ops : List Oper} {Q : Exit → Z3 → Zb → Prop} {rest : List Oper} {ρ : Z3} {L : Zb} {ty : TypeId} {pos : String} {af : Array Edge}
theorem pwM {d t E y0 s0 b0 k1 x1 y1 sz by1 : Nat} {z : Value} {zs : List Value} {x y : Operand} {kl kc : IntKind} {l c : Int} (h00 : X6 ρ = true := by exact rfl) (hx : ev ρ x = some (.int kl l) := by exact rfl) (hy : ev ρ y = some (.int kc c) := by exact rfl) (ht : Yl S.ty t = some ⟨5, E, y0, s0, b0⟩ := by exact rfl) (he : Yl S.ty E = some ⟨k1, x1, y1, sz, by1⟩ := by exact rfl) (hz : Yl S.zr E = some z := by exact rfl) (hzs : z.cells = ⟨zs⟩ := by exact rfl) (hzl : Nat.beq zs.length sz = true := by exact rfl) (hn : Nat.blt d n = true := by exact rfl) (hc : 0 ≤ l ∧ l ≤ c ∧ (by1 : Int) * c ≤ 281474976710656 ∧ c ≤ 9223372036854775807 := by omega) : (∀ b, HO P n ops Q rest ((d, sl b 0 l.toNat c.toNat) :: ρ) ([(b, .cells ⟨(List.replicate c.toNat zs).flatten⟩ E)] :: L)) → HO P n ops Q (⟨some d, .makeSlice t x y, ty, pos, af, none⟩ :: rest) ρ L := fun h => wM S h h00 hx hy ht he hz hzs hzl hn hc
end
section
variable {P : Program} (S : Tab P) {n : Nat} {ops : List Oper} {Q : Exit → Z3 → Zb → Prop} {rest : List Oper} {ρ : Z3} {L : Zb} {ty : TypeId} {pos : String} {af : Array Edge}
theorem pwSa {d t E y0 s0 b0 k1 x1 y1 sz by1 len : Nat} {z : Value} {zs out : List Value} {vals : List (Nat × Value)} {parts : Array (Nat × Operand)} (h00 : X6 ρ = true := by exact rfl) (ht : Yl S.ty t = some ⟨5, E, y0, s0, b0⟩ := by exact rfl) (he : Yl S.ty E = some ⟨k1, x1, y1, sz, by1⟩ := by exact rfl) (hz : Yl S.zr E = some z := by exact rfl) (hzs : z.cells = ⟨zs⟩ := by exact rfl) (hzl : Nat.beq zs.length sz = true := by exact rfl) (hp : Vr ρ parts.toList = some vals := by exact rfl) (hf : ((Zbb sz 0 vals).bind fun l => nfL l some) = some out := by exact rfl) (hol : Nat.beq out.length (len * sz) = true := by exact rfl) (hsm : Nat.ble (len * sz) 16777216 = true := by exact rfl) (h1 : Nat.ble 1 (len * sz) = true := by exact rfl) (hn : Nat.blt d n = true := by exact rfl) : (∀ b, HO P n ops Q rest ((d, sl b 0 len len) :: ρ) ([(b, .cells ⟨out⟩ E)] :: L)) → HO P n ops Q (⟨some d, .buildSlice t len parts, ty, pos, af, none⟩ :: rest) ρ L := fun h => wSa S h h00 ht he hz hzs hzl hp hf hol hsm h1 hn
end
section
variable {P : Program} (S : Tab P) {n : Nat} {ops : List Oper} {Q : Exit → Z3 → Zb → Prop} {rest : List Oper} {ρ : Z3} {L : Zb} {ty : TypeId} {pos : String} {af : Array Edge}
theorem pwSn {d t E y0 s0 b0 k1 x1 y1 sz by1 len : Nat} {z : Value} {zs out : List Value} {vals : List (Nat × Value)} {parts : Array (Nat × Operand)} (h00 : X6 ρ = true := by exact rfl) (ht : Yl S.ty t = some ⟨5, E, y0, s0, b0⟩ := by exact rfl) (he : Yl S.ty E = some ⟨k1, x1, y1, sz, by1⟩ := by exact rfl) (hz : Yl S.zr E = some z := by exact rfl) (hzs : z.cells = ⟨zs⟩ := by exact rfl) (hzl : Nat.beq zs.length sz = true := by exact rfl) (hp : Vr ρ parts.toList = some vals := by exact rfl) (hf : ((Zc7 sz (List.replicate len zs).flatten vals).bind fun l => nfL l some) = some out := by exact rfl) (hsm : Nat.ble (len * sz) 16777216 = true := by exact rfl) (h1 : Nat.ble 1 (len * sz) = true := by exact rfl) (hn : Nat.blt d n = true := by exact rfl) : (∀ b, HO P n ops Q rest ((d, sl b 0 len len) :: ρ) ([(b, .cells ⟨out⟩ E)] :: L)) → HO P n ops Q (⟨some d, .buildSlice t len parts, ty, pos, af, none⟩ :: rest) ρ L := fun h => wSn S h h00 ht he hz hzs hzl hp hf hsm h1 hn
end
section
variable {α : Type} [DecidableEq α] {P : Program} (S : Tab P) {n : Nat} {ops : List Oper} {Q : Exit → Z3 → Zb → Prop} {rest : List Oper} {ρ : Z3} {L : Zb} {ty : TypeId} {pos : String} {af : Array Edge}
theorem pwMk {d t : Nat} (h00 : X6 ρ = true := by exact rfl) (hn : Nat.blt d n = true := by exact rfl) : (∀ b, HO P n ops Q rest ((d, .map (some b)) :: ρ) ([(b, .map #[] 0)] :: L)) → HO P n ops Q (⟨some d, .makeMap t none, ty, pos, af, none⟩ :: rest) ρ L := fun h => wMk h h00 hn
end
section
variable {P : Program} {n : Nat} {ops : List Oper} {Q : Exit → Z3 → Zb → Prop} {rest : List Oper} {ρ : Z3} {L : Zb}
theorem pg_b {c : Operand} {x y : Code} {b : Bool} (h00 : X6 ρ = true := by exact rfl) (hc : ev ρ c = some (.bool b) := by exact rfl) : (b = true → HW P n x Q ρ L) → (b = false → HW P n y Q ρ L) → HW P n (.cond c x y) Q ρ L := fun ht hf => g_b ht hf h00 hc
end
section
variable {P : Program} {n : Nat} {ops : List Oper} {Q : Exit → Z3 → Zb → Prop} {rest : List Oper} {ρ : Z3} {L : Zb}
variable {op : Op} {ty : TypeId} {pos : String} {af : Array Edge} {g : Option (Nat × Bool)} {d : Nat}
theorem pg_s {d j t : Nat} {wt : Bool} {b : Bool} (h00 : X6 ρ = true := by exact rfl) (hj : Q0 ops j = some t := by exact rfl) (ht : lk ρ t = some (.bool b) := by exact rfl) : (b = true → HO P n ops Q (⟨some d, op, ty, pos, af, some (j, wt)⟩ :: rest) ((t, .bool true) :: ρ) L) → (b = false → HO P n ops Q (⟨some d, op, ty, pos, af, some (j, wt)⟩ :: rest) ((t, .bool false) :: ρ) L) → HO P n ops Q (⟨some d, op, ty, pos, af, some (j, wt)⟩ :: rest) ρ L := fun h1 h0 => g_s h1 h0 h00 hj ht
end
section
variable {P : Program} {n : Nat} {ops : List Oper} {Q : Exit → Z3 → Zb → Prop} {rest : List Oper} {ρ : Z3} {L : Zb}
variable {op : Op} {ty : TypeId} {pos : String} {af : Array Edge} {g : Option (Nat × Bool)} {d : Nat}
variable {K : Z3 → Prop}
theorem pk_s {d j t : Nat} {wt : Bool} {b : Bool} (h00 : X6 ρ = true := by exact rfl) (hj : Q0 ops j = some t := by exact rfl) (ht : lk ρ t = some (.bool b) := by exact rfl) : (b = true → HQ P n ops K (⟨some d, op, ty, pos, af, some (j, wt)⟩ :: rest) ((t, .bool true) :: ρ) L) → (b = false → HQ P n ops K (⟨some d, op, ty, pos, af, some (j, wt)⟩ :: rest) ((t, .bool false) :: ρ) L) → HQ P n ops K (⟨some d, op, ty, pos, af, some (j, wt)⟩ :: rest) ρ L := fun h1 h0 => k_s h1 h0 h00 hj ht
end
section
variable {P : Program} {n : Nat} {ops : List Oper} {Q : Exit → Z3 → Zb → Prop} {Ss : List (Nat × Zq)} {rem rem' : List (Nat × Oper)} {ρ : Z3} {L : Zb} {i : Nat}
theorem pd_sp {t j : Nat} {q : Oper} {b wt : Bool} (k : Nat) (h00 : X6 ρ = true := by exact rfl) (hp : Vu k rem = some ((i, q), rem') := by exact rfl) (hq : q.guard = some (j, wt) := by exact rfl) (hj : Q0 ops j = some t := by exact rfl) (ht : lk ρ t = some (.bool b) := by exact rfl) (hb : Fresh b := by (fail_if_success (with_reducible exact Ztm)); (fail_if_success (with_reducible exact Ztb)); exact Zl8 _) : (b = true → HD P n ops Q Ss rem ((t, .bool true) :: ρ) L) → (b = false → HD P n ops Q Ss rem ((t, .bool false) :: ρ) L) → HD P n ops Q Ss rem ρ L := fun h1 h0 => d_sp k h1 h0 h00 hp hq hj ht hb
end
end Go.HL
end

/-! HLTop -/
section
namespace Go.HL
open Go Go.ChangeShapes Go.WideShapes Go.ChangeAt Go.RowKit
set_option linter.unusedVariables false
set_option linter.unusedSimpArgs false

def Za4 (w : World) : List Zq := (List.range w.heap.size).map fun i => (i, w.heap.getD i default)
def ctx (w : World) : Zk4 := (w.os, w.output, w.tape)
theorem Zpi {w : World} {b : Nat} {o : Obj} (h : w.heap[b]? = some o) : (b, o) ∈ Za4 w := by
 obtain ⟨hlt, he⟩ := Array.getElem?_eq_some_iff.1 h
 refine List.mem_map.2 ⟨b, List.mem_range.2 hlt, ?_⟩
 simp [h]
theorem sat_init (w : World) : Sat (ctx w) w [Za4 w] := by
 refine ⟨rfl, rfl, rfl, fun p hp => ?_, ?_⟩
 ·simp only [List.flatten_cons, List.flatten_nil, List.append_nil] at hp
  obtain ⟨i, hi, rfl⟩ := List.mem_map.1 hp
  have hlt := List.mem_range.1 hi
  simp [hlt]
 ·simp only [List.flatten_cons, List.flatten_nil, List.append_nil, Za4, List.map_map]
  have : ((fun x : Zq => x.1) ∘ fun i => (i, w.heap.getD i default)) = id := rfl
  rw [this, List.map_id]
  exact List.nodup_range
theorem Znp {w w' : World} (h : Sat (ctx w) w' [Za4 w]) : Below w.heap.size w w' := by
 have hb : ∀ k, k < w.heap.size → w'.heap[k]? = w.heap[k]? := fun k hk => by
  have := h.has (k, w.heap[k]) (by simp only [List.flatten_cons, List.flatten_nil, List.append_nil]; exact Zpi (Array.getElem?_eq_getElem hk))
  rw [this, Array.getElem?_eq_getElem hk]
 refine ⟨h.os, h.tape, h.out, ?_, hb⟩
 cases hz : w.heap.size with
 | zero => omega
 | succ m =>
  have h1 := hb m (by omega)
  have h2 : ∃ o, w'.heap[m]? = some o := ⟨_, h1.trans (Array.getElem?_eq_getElem (by omega))⟩
  obtain ⟨o, h3⟩ := h2
  obtain ⟨h4, _⟩ := Array.getElem?_eq_some_iff.1 h3
  omega
theorem Zmd {P : Program} {f : Nat} {args : List Value} {w : World} (h : HC P f args [Za4 w] (fun v L' => v = .bool true ∧ L' = [Za4 w])) :
  Calls P f ⟨args⟩ w fun e w' => e = .returned (.bool true) ∧ Below w.heap.size w w' :=
 (h.2 (ctx w) w (sat_init w)).mono fun e w' ⟨v, L', h1, h2, h3, h4⟩ => by subst h3; subst h4; exact ⟨h1, Znp h2⟩

theorem Zd6 {H : Type} {enc : TypeId × Value → H} {P : Program} (hl : laidOutB P = true) {W W' : World} (hb : Below W.heap.size W W') :
  ∀ (ts : List TypeId) (vs : List Value) (ds : List (DataW H)) (ps : List MemPlace), (∀ t ∈ ts, P.readableRec t = true ∧ t < P.types.size) → DataW.TrodAll enc P W 0 (fun _ => true) true ts vs ds ps →
   (∀ x ∈ ps, x.block < W.heap.size) → DataW.TrodAll enc P W' 0 (fun b => decide (b < W.heap.size)) true ts vs ds ps
 | [], [], [], ps, _, h, _ => h
 | t :: ts, v :: vs, d :: ds, ps, hr, h, hlt => by
  obtain ⟨p, q, h1, h2, rfl⟩ := h
  exact ⟨p, q, Below.trod hl (hr t (by simp)).1 (hr t (by simp)).2 h1 hb (fun x hx => hlt x (by simp [hx])),
   Zd6 hl hb ts vs ds q (fun t ht => hr t (by simp [ht])) h2 (fun x hx => hlt x (by simp [hx])), rfl⟩
 | [], _ :: _, _, _, _, h, _ => by simp [DataW.TrodAll] at h
 | [], [], _ :: _, _, _, h, _ => by simp [DataW.TrodAll] at h
 | _ :: _, [], _, _, _, h, _ => by simp [DataW.TrodAll] at h
 | _ :: _, _ :: _, [], _, _, h, _ => by simp [DataW.TrodAll] at h

theorem Zov {H : Type} {enc : TypeId × Value → H} {P : Program} {f : Func} {s : ChangeSpec} {apart fresh handsOn : Bool} {W W' : World} {args : Array Value} {ds gs : List (DataW H)} {before : List MemPlace} {tb : TypeId}
  (hl : laidOutB P = true) (hr : ∀ t ∈ f.params.toList, P.readableRec t = true ∧ t < P.types.size) (hW : DataW.Whole enc P f.params.toList s.vars apart W args.toList ds gs before) (hb : Below W.heap.size W W')
  (hv : s.vars = []) (hfn : s.fn H (ds ++ gs) = { results := [.lit (.bool true)], args := ds }) (hrt : f.resultTypes = #[tb]) (hbool : P.underlying tb = some .bool) :
  s.post enc P f apart fresh handsOn false W args (.bool true) W' := by
 have hlt := hW.lt
 have hW' := hW
 obtain ⟨p, q, hA, hV, rfl, hfz, hnd⟩ := hW
 rw [hv] at hV
 obtain ⟨rfl, rfl⟩ := trodVars_none hV
 refine ⟨ds, [], p ++ [], [], p, [], hW', ?_, ?_, ?_, hb.frame _, fun h => by cases h⟩
 ·rw [hfn, hrt]
  exact trodAll_mk1 (shut_bool hbool _)
 ·rw [hfn]
  exact Zd6 hl hb _ _ _ _ hr hA (fun x hx => hlt x (by simp [hx]))
 ·rw [hv, hfn]
  rfl

theorem Zlb {W : World} {b off i : Nat} {c : Array Value} {E : Nat} {fr : Nat × Nat} (hb : W.heap[b]? = some (.cells c E fr)) : W.cell? (Addr.add ⟨b, off, none⟩ i) = c[off + i]? := by
 unfold Addr.add
 by_cases h0 : i = 0
 ·subst h0; simp [World.cell?, hb]
 ·simp [World.cell?, hb, h0]
theorem Zjn {W : World} {b : Nat} {o : Obj} (h : W.heap[b]? = some o) : Has [Za4 W] b o := by
 simp only [Has, List.flatten_cons, List.flatten_nil, List.append_nil]
 exact Zpi h
theorem Zh0 {H : Type} {enc : TypeId × Value → H} {P : Program} {W : World} {base : Nat} {r : Reach} {spare : Nat → Bool} {held : Bool} {t e : TypeId} {α : Type} {encV : α → List Value} {sz : Nat} {v : Value} {d : DataW H} {ps : List MemPlace}
  (ht : P.underlying t = some (.slice e)) (hsz : P.cellsOf e = sz) (hpos : 0 < sz) (hval : Value.okWide P W r base t v) (hd : DataW.Trod enc P W 0 spare held t v d ps)
  (good : α → Prop) (one : ∀ n cs x, DataW.trod enc P W 0 spare held n e cs = some x → ∃ s, cs = encV s ∧ good s) :
  ∃ a cap, ∃ xs : List α, v = .slice a xs.length cap ∧ Rd encV sz [Za4 W] a xs ∧ (∀ x ∈ xs, good x) ∧ xs.length ≤ cap := by
 obtain ⟨a, len, cap, rfl⟩ := okWide_slice ht hval
 obtain ⟨fuel, hf⟩ := hd
 rcases Deep.open_slice ht hf with ⟨h1, -⟩ | ⟨a', len', cap', m, n, D, Pl, h1, -, hl, -, hm, -, hx⟩
 ·simp [Value.cells] at h1
  obtain ⟨rfl, rfl, rfl⟩ := h1
  exact ⟨none, 0, [], rfl, Rd.nil, by simp, by simp⟩
 ·simp [Value.cells] at h1
  obtain ⟨rfl, rfl, rfl⟩ := h1
  have hlm : len ≤ m := by rw [hm]; split <;> omega
  have : ∀ i, i < len → ∃ s, W.cells? 0 (a'.add (i * sz)) sz = some (encV s) ∧ good s := fun i hi => by
   obtain ⟨cs, h1, h2⟩ := hx i (by omega)
   obtain ⟨s, rfl, hg⟩ := one _ _ _ h2
   rw [hsz] at h1
   exact ⟨s, h1, hg⟩
  by_cases h0 : len = 0
  ·subst h0
   exact ⟨some a', cap, [], rfl, Rd.nil, by simp, by simp⟩
  ·have : ∃ V : _root_.Fin len → α, ∀ i, W.cells? 0 (a'.add (i.1 * sz)) sz = some (encV (V i)) ∧ good (V i) := ⟨fun i => (this i.1 i.2).choose, fun i => (this i.1 i.2).choose_spec⟩
   obtain ⟨V, hV⟩ := this
   obtain ⟨-, -, hc⟩ := World.cells?_some (hV ⟨0, by omega⟩).1
   have hlen := (World.cells?_some (hV ⟨0, by omega⟩).1).2.1
   have h00 := hc 0 hpos
   have hs : ∃ x, W.cell? a' = some x := by
    simp [Addr.add] at h00
    exact ⟨_, h00.trans (List.getElem?_eq_getElem (by omega))⟩
   obtain ⟨x, hx0⟩ := hs
   obtain ⟨b, off, spot⟩ := a'
   have hblk : ∃ c E fr, W.heap[b]? = some (.cells c E fr) ∧ spot = none := by
    unfold World.cell? at hx0
    simp only at hx0
    split at hx0
    ·rename_i c E fr he
     refine ⟨c, E, fr, he, ?_⟩
     cases spot with
     | none => rfl
     | some k => simp at hx0
    ·cases hx0
   obtain ⟨c, E, fr, he, rfl⟩ := hblk
   refine ⟨some ⟨b, off, none⟩, cap, List.ofFn V, by simp, .inr ⟨b, off, c.toList, E, fr, rfl, Zjn (by simpa using he), fun k x hk => ?_⟩, ?_, by simpa using hl⟩
   ·have hkl : k < len := by
     have := (List.getElem?_eq_some_iff.1 hk).1
     simpa using this
    have hx : V ⟨k, hkl⟩ = x := by
     rw [List.getElem?_ofFn] at hk
     simpa [hkl] using hk
    obtain ⟨-, hl2, hc2⟩ := World.cells?_some (hV ⟨k, hkl⟩).1
    rw [hx] at hl2 hc2
    intro j v hj
    have hjl := (List.getElem?_eq_some_iff.1 hj).1
    have := hc2 j (by omega)
    rw [hj] at this
    rw [← this]
    have e : (Addr.add ⟨b, off, none⟩ (k * sz)) = ⟨b, off + k * sz, none⟩ := by
     unfold Addr.add; split
     ·rename_i h; simp [h]
     ·rfl
    show c.toList[off + k * sz + j]? = _
    simp only [e]
    rw [Zlb he]
    simp
   ·intro x hx
    obtain ⟨i, rfl⟩ := List.mem_ofFn.1 hx
    exact (hV i).2
end Go.HL
end

/-! Seat -/
section
namespace Go.HL
open Go
set_option linter.unusedVariables false
abbrev Er (T : Nat) (E : Nat → Addr) (cs : List Nat) (L : Zb) : Prop := Errs errTab T E cs L
def ic (x : Int) : List Value := [iv x]
structure St where
 ph : Int
 pr : Int
 att : Int
 deriving DecidableEq
def sc (s : St) : List Value := [iv s.ph, iv s.pr, iv s.att]
structure Fr where
 fr : Int
 to : Int
 dl : Int
 kd : Int
 att : Int
 yes : Bool
 s : St
 deriving DecidableEq
def fc (f : Fr) : List Value := [iv f.fr, iv f.to, iv f.dl, iv f.kd, iv f.att, .bool f.yes, iv f.s.ph, iv f.s.pr, iv f.s.att]
def Ww : St := ⟨0, 0, 0⟩
def Ys : Fr := ⟨0, 0, 0, 0, 0, false, Ww⟩
/-! a walk's steps, each found by itself -/
theorem zs : (∀ {a b : Bool}, ((!a) = b) ↔ a = !b) ∧ ((!true) = false) ∧ ((!false) = true) ∧ (∀ {p : Prop} [Decidable p], (decide p = true) = p) ∧ (∀ {p : Prop} {x : Decidable p}, decide p = false ↔ ¬ p) ∧ (∀ {p : Prop} [Decidable p], ¬ ¬ p ↔ p) ∧ (∀ (a b : Bool), ((a && b) = true) = (a = true ∧ b = true)) ∧ (∀ {α : Type} [BEq α] [LawfulBEq α] {a b : α}, (a == b) = true ↔ a = b) ∧
  (∀ (h : Decidable True), @decide True h = true) ∧ (∀ b : Bool, (b && true) = b) ∧ (∀ b : Bool, (true && b) = b) ∧ ((¬ True) = False) ∧ ((¬ False) = True) := ⟨zA, zB, zC, zD, zE, zF, zG, zH, zI, zJ, zK, zL, zM⟩
theorem zx {P : Prop} (f : False := by first | omega | with_reducible contradiction) : P := f.elim
theorem uN {A B : Prop} (h : B) (f : B → A := by first | (show _ → HW _ _ _ _ _ _; first | exact Ziq | exact Zba | exact hw_block | exact hw_exit | exact pg_t | exact pg_f | exact hw_skip | exact hw_ret) | (show _ → HO _ _ _ _ _ _ _; first | exact ho_nil | exact Zcf (qe S) | exact Zcf (qg S) | exact Zcf (ql S) | exact Zcf (qs S) | exact Zcf (qt S) | exact Zcf (qc8 S) | exact Zcf (qc32 S) | exact Zcf (qn S) | exact Zcf (qb S) | exact Zcf (qbA S) | exact Zcf (qSl S) | exact Zcf (qSh S) | exact Zcf (qSb S) | exact Zcf (qmI S) | exact Zcf (qA S) | exact Zcf (qB S) | exact Zcf (qx32 S) | exact pg_n | exact pg_on | exact pws S) | (show _ → HQ _ _ _ _ _ _ _; first | exact hq_nil | exact Zch (qe S) | exact Zch (qg S) | exact Zch (ql S) | exact Zch (qs S) | exact Zch (qt S) | exact Zch (qc8 S) | exact Zch (qc32 S) | exact Zch (qn S) | exact Zch (qb S) | exact Zch (qbA S) | exact Zch (qSl S) | exact Zch (qSh S) | exact Zch (qSb S) | exact Zch (qmI S) | exact Zch (qA S) | exact Zch (qB S) | exact Zch (qx32 S) | exact pk_n) | (show _ → HD _ _ _ _ _ _ _ _; first | exact hd_nil | exact Zf7 100 (by exact rfl) (fun _ => qe S) | exact Zf7 100 (by exact rfl) (fun _ => qc8 S) | exact Zf7 100 (by exact rfl) (fun _ => qc32 S) | exact Zf7 100 (by exact rfl) (fun _ => qn S) | exact Zf7 100 (by exact rfl) (fun _ => qb S) | exact Zf7 100 (by exact rfl) (fun _ => qbA S) | exact Zf7 100 (by exact rfl) (fun _ => qSl S) | exact Zf7 100 (by exact rfl) (fun _ => qSh S) | exact Zf7 100 (by exact rfl) (fun _ => qSb S) | exact Zf7 100 (by exact rfl) (fun _ => qmI S) | exact Zf7 100 (by exact rfl) (fun _ => qA S) | exact Zf7 100 (by exact rfl) (fun _ => qB S) | exact Zf7 100 (by exact rfl) (fun _ => qx32 S) | exact pdl S 100 | exact pds S 100 | exact pd_n 100) | exact Zpv | exact seqQ_ret | exact Zwg | exact Zvg | exact pg_bx | exact blkQ_ret | exact Zo3 | exact Zvb | exact Zsg | exact unQ_ret | exact unQ_exit | exact unQ_succ | exact dx | exact dx0 | exact pdxd | exact pdxk) : A := f h
theorem uB {A B : Prop} (h : B) (f : B → A := by first | exact pwa S | exact pwb | exact pwS S | exact pwSa S | exact pwSn S | exact pwMk | exact pwm S | exact pwM S) : A := f h
theorem uP {A B C : Prop} (h : B) (h' : C) (f : B → C → A := by first | exact pg_b | exact pg_s | exact pk_s | exact pd_sp 100) : A := f h h'
theorem uC {X A B : Prop} (c : X) (h : B) (f : X → B → A := by first | exact fun c => Zcf (qC c) | exact fun c => Zch (qC c)) : A := f c h
theorem uS {a b : Z3} (h : Sub a b := by repeat (first | exact trivial | refine ⟨rfl, ?_⟩)) : Sub a b := h
theorem uL {a b : List Zq} (h : LS a b := by repeat (first | (with_reducible first | refine LS.p0 ?_ | refine LS.p1 ?_ | refine LS.p2 ?_ | refine LS.p3 ?_ | refine LS.p4 ?_ | refine LS.p5 ?_ | refine LS.p6 ?_ | refine LS.p7 ?_ | refine LS.p8 ?_ | refine LS.p9 ?_ | refine LS.p10 ?_ | refine LS.p11 ?_ | refine LS.p12 ?_ | refine LS.e ?_ | exact LS.refl _) | refine LS.p0 ?_ | refine LS.p1 ?_ | refine LS.p2 ?_ | refine LS.p3 ?_ | refine LS.p4 ?_ | refine LS.p5 ?_ | refine LS.p6 ?_ | refine LS.p7 ?_ | refine LS.p8 ?_ | refine LS.p9 ?_ | refine LS.p10 ?_ | refine LS.p11 ?_ | refine LS.p12 ?_ | (with_reducible refine LS.c ?_))) : LS a b := h
theorem uZ {a b : List Zq} (h : LS a b := by repeat (first | exact LS.refl _ | apply LS.k | apply LS.c)) : LS a b := h
section
variable {P : Program} {n : Nat} {ops : List Oper} {Q : Exit → Z3 → Zb → Prop} {Ss : List (Nat × Zq)} {rem rem' : List (Nat × Oper)} {ρ : Z3} {L : Zb} {f : Operand} {xa : Array Operand} {ts : Array TypeId} {F d i : Nat} {cap args args' : List Value} {v : Value} {ty : TypeId} {pos : String} {af : Array Edge} {g : Option (Nat × Bool)}
theorem Yd (c : ∀ L, HC P F args' L (fun u L' => u = v ∧ L' = L)) (hr : HD P n ops Q Ss rem' ((d, v) :: ρ) L) (h00 : X6 ρ = true := by exact rfl) (hp : Vu 0 rem = some ((i, ⟨some d, .call { callee := .value f, args := xa, argTypes := ts }, ty, pos, af, g⟩), rem') := by exact rfl) (hf : ev ρ f = some (.func (.func F) #[] ⟨cap⟩) := by exact rfl) (ha : Zk3 ρ xa.toList = some args := by exact rfl) (he : args ++ cap = args' := by exact rfl)
  (hg : Yn ops ρ g = some true := by exact rfl) (hn : Nat.blt d n = true := by exact rfl) (hc : Zct ops rem' i ⟨some d, .call { callee := .value f, args := xa, argTypes := ts }, ty, pos, af, g⟩ = true := by decide +kernel) : HD P n ops Q Ss rem ρ L := Zk2 0 hp (fun L => qC (c L) h00 hf ha he) hr h00 hg hn hc
theorem Yf (c : ∀ L, HC P F args' L (fun u L' => u = v ∧ L' = L)) (hr : HD P n ops Q Ss rem' ((d, v) :: ρ) L) (h00 : X6 ρ = true := by exact rfl) (hp : Vu 1 rem = some ((i, ⟨some d, .call { callee := .value f, args := xa, argTypes := ts }, ty, pos, af, g⟩), rem') := by exact rfl) (hf : ev ρ f = some (.func (.func F) #[] ⟨cap⟩) := by exact rfl) (ha : Zk3 ρ xa.toList = some args := by exact rfl) (he : args ++ cap = args' := by exact rfl)
  (hg : Yn ops ρ g = some true := by exact rfl) (hn : Nat.blt d n = true := by exact rfl) (hc : Zct ops rem' i ⟨some d, .call { callee := .value f, args := xa, argTypes := ts }, ty, pos, af, g⟩ = true := by decide +kernel) : HD P n ops Q Ss rem ρ L := Zk2 1 hp (fun L => qC (c L) h00 hf ha he) hr h00 hg hn hc
theorem Ye (c : ∀ L, HC P F args' L (fun u L' => u = v ∧ L' = L)) (hr : HD P n ops Q Ss rem' ((d, v) :: ρ) L) (h00 : X6 ρ = true := by exact rfl) (hp : Vu 2 rem = some ((i, ⟨some d, .call { callee := .value f, args := xa, argTypes := ts }, ty, pos, af, g⟩), rem') := by exact rfl) (hf : ev ρ f = some (.func (.func F) #[] ⟨cap⟩) := by exact rfl) (ha : Zk3 ρ xa.toList = some args := by exact rfl) (he : args ++ cap = args' := by exact rfl)
  (hg : Yn ops ρ g = some true := by exact rfl) (hn : Nat.blt d n = true := by exact rfl) (hc : Zct ops rem' i ⟨some d, .call { callee := .value f, args := xa, argTypes := ts }, ty, pos, af, g⟩ = true := by decide +kernel) : HD P n ops Q Ss rem ρ L := Zk2 2 hp (fun L => qC (c L) h00 hf ha he) hr h00 hg hn hc
theorem Yh (c : ∀ L, HC P F args' L (fun u L' => u = v ∧ L' = L)) (hr : HD P n ops Q Ss rem' ((d, v) :: ρ) L) (h00 : X6 ρ = true := by exact rfl) (hp : Vu 3 rem = some ((i, ⟨some d, .call { callee := .value f, args := xa, argTypes := ts }, ty, pos, af, g⟩), rem') := by exact rfl) (hf : ev ρ f = some (.func (.func F) #[] ⟨cap⟩) := by exact rfl) (ha : Zk3 ρ xa.toList = some args := by exact rfl) (he : args ++ cap = args' := by exact rfl)
  (hg : Yn ops ρ g = some true := by exact rfl) (hn : Nat.blt d n = true := by exact rfl) (hc : Zct ops rem' i ⟨some d, .call { callee := .value f, args := xa, argTypes := ts }, ty, pos, af, g⟩ = true := by decide +kernel) : HD P n ops Q Ss rem ρ L := Zk2 3 hp (fun L => qC (c L) h00 hf ha he) hr h00 hg hn hc
end
end Go.HL
end

/-! LayA -/
section
namespace Go.HL
open Go Go.Proofs Go.ChangeShapes Go.WideShapes Go.ChangeAt Go.RowKit
set_option linter.unusedVariables false
theorem Zlr {P : Program} {W : World} {n : String} {g : Nat} {v : Value} (hg : P.globalNamed n = some g) (h : W.var? P n = some #[v]) : Gl [Za4 W] g v := by
 unfold World.var? at h
 simp only [hg, Option.bind_some] at h
 split at h
 ·rename_i c E fr hh
  cases h
  exact ⟨[v], E, fr, Zjn hh, rfl⟩
 ·cases h
theorem Ztx : "*" ++ "errors.errorString" = "*errors.errorString" := by decide
theorem row_es (u : TypeId) (h : Tryz.prog.typeName? 3 u = some "*errors.errorString") : u = 394 :=
 typeName_ptr_named (nm := "errors.errorString") (by rw [Ztx]; kernel_rfl) (by kernel_rfl) (by decide) u (by rw [Ztx]; exact h)
def Znv : Nat → String
 | 1 => "threefold/api.ErrText"
 | 2 => "threefold/api.ErrBound"
 | 3 => "threefold/api.ErrShape"
 | 4 => "threefold/api.ErrNone"
 | 5 => "threefold/api.ErrFull"
 | 6 => "threefold/api.ErrOff"
 | 7 => "threefold/api.ErrSum"
 | 8 => "threefold/api.ErrHeld"
 | _ => "threefold/api.ErrSplit"
def Ze8 : List UInt8 := [116, 104, 114, 101, 101, 102, 111, 108, 100, 58, 32]
def Zdc : Nat → List UInt8
 | 1 => Ze8 ++ [116, 101, 120, 116]
 | 2 => Ze8 ++ [98, 111, 117, 110, 100]
 | 3 => Ze8 ++ [115, 104, 97, 112, 101]
 | 4 => Ze8 ++ [110, 111, 110, 101]
 | 5 => Ze8 ++ [102, 117, 108, 108]
 | 6 => Ze8 ++ [111, 102, 102]
 | 7 => Ze8 ++ [115, 117, 109]
 | 8 => Ze8 ++ [104, 101, 108, 100]
 | _ => Ze8 ++ [115, 112, 108, 105, 116]
def Zg2 (cs : List Nat) : List (String × DataW Unit) := cs.map fun c => (Znv c, .iface "*errors.errorString" (.ptr (.agg [.lit (.string (Zdc c))])))
theorem Zrm {P : Program} {n nm : String} {text : List UInt8} {r : List (String × DataW Unit)} {W : World} {g : Nat} {ti tp te ts : TypeId} {ms : Array (String × TypeId)} {f : Field}
  (h : laidMet P ((n, .iface nm (.ptr (.agg [.lit (.string text)]))) :: r) W)
  (hg : P.globalNamed n = some g) (ht : (P.globals[g]?).map (·.type) = some ti) (hi : P.underlying ti = some (.interface ms)) (hrow : ∀ u, P.typeName? 3 u = some nm → u = tp)
  (hp : P.underlying tp = some (.pointer te)) (he : P.underlying te = some (.struct #[f])) (hft : f.type = ts) (hfo : f.offset = 0) (hs : P.underlying ts = some .string) (hc : P.cellsOf te = 1) (hcs : P.cellsOf ts = 1) :
  ∃ (a : Addr) (c : Array Value) (t : TypeId), Gl [Za4 W] g (.iface tp (.pointer (some a))) ∧ W.cell? a = some (bs text) ∧ Has [Za4 W] a.block (.cells c t (0, 0)) := by
 obtain ⟨ps, ⟨g0, t0, cs0, f0, p0, q0, hg0, ht0, hv0, hd0, _, e0⟩, _, hrows⟩ := h
 obtain rfl := Option.some.inj (hg.symm.trans hg0)
 obtain rfl := Option.some.inj (ht.symm.trans ht0)
 subst e0
 obtain ⟨l0⟩ := cs0
 have ok0 : ∀ u v, l0 = [.iface u v] → Value.okWide P W .any 0 u v := fun u v e => by
  subst e
  exact (hrows g 0 (by simp [MemPlace.row])).2 u v (by simpa using World.var?_cell hg0 hv0 0)
 obtain ⟨a0, s0, rfl, hc0, hs0, hz0, rfl⟩ := errorString_of_trod hi hrow hp he hft hfo hs hc hcs hd0 ok0
 obtain ⟨c0, t0, hb0⟩ := (hrows a0.block a0.off (by simp [MemPlace.row])).1
 refine ⟨a0, c0, t0, Zlr hg hv0, ?_, Zjn hb0⟩
 rw [hc0]
 obtain ⟨⟨s0⟩⟩ := s0
 simp only at hs0
 subst hs0
 rfl
theorem Zsf {n : String} {text : List UInt8} {r : List (String × DataW Unit)} {W : World} {g : Nat}
  (h : laidMet Tryz.prog ((n, .iface "*errors.errorString" (.ptr (.agg [.lit (.string text)]))) :: r) W) (hg : Tryz.prog.globalNamed n = some g) (ht : (Tryz.prog.globals[g]?).map (·.type) = some 28) :
  ∃ (a : Addr) (c : Array Value) (t : TypeId), Gl [Za4 W] g (.iface 394 (.pointer (some a))) ∧ W.cell? a = some (bs text) ∧ Has [Za4 W] a.block (.cells c t (0, 0)) :=
 Zrm h hg ht Tryz.underlying28 row_es Tryz.underlying394 Tryz.underlying396 rfl rfl Tryz.underlying9 (by kernel_rfl) (by kernel_rfl)
def Zrh (W : World) (c : Nat) (a : Addr) : Prop := (∀ g, Tryz.prog.globalNamed (Znv c) = some g → Gl [Za4 W] g (.iface 394 (.pointer (some a)))) ∧ W.cell? a = some (bs (Zdc c)) ∧ ∃ l t, Has [Za4 W] a.block (.cells l t (0, 0))
theorem sents {W : World} : ∀ (cs : List Nat), laidMet Tryz.prog (Zg2 cs) W → (∀ c ∈ cs, ∃ g, Tryz.prog.globalNamed (Znv c) = some g ∧ (Tryz.prog.globals[g]?).map (·.type) = some 28) → ∀ c ∈ cs, ∃ a, Zrh W c a
 | [], _, _, c, hc => by cases hc
 | x :: cs, h, hn, c, hc => by
  rcases List.mem_cons.1 hc with rfl | hc
  ·obtain ⟨g, hg, ht⟩ := hn c (by simp)
   obtain ⟨a, l, t, h1, h2, h3⟩ := Zsf h hg ht
   refine ⟨a, fun g' hg' => ?_, h2, l, t, h3⟩
   obtain rfl := Option.some.inj (hg.symm.trans hg')
   exact h1
  ·exact sents cs h.tail (fun y hy => hn y (by simp [hy])) c hc
theorem Zlv : (errTab.all fun p => decide (Tryz.prog.globalNamed (Znv p.2) = some p.1) && decide ((Tryz.prog.globals[p.1]?).map (·.type) = some 28)) = true := by kernel_rfl
theorem errs_of {W : World} {cs : List Nat} (h : laidMet Tryz.prog (Zg2 cs) W) (hm : (cs.all fun c => errTab.any fun p => Nat.beq p.2 c) = true := by rfl) :
  ∃ E, Er 394 E cs [Za4 W] ∧ ∀ c ∈ cs, Zrh W c (E c) := by
 have h1 := sents cs h (fun c hc => by
  obtain ⟨p, hp, he⟩ := List.any_eq_true.1 (List.all_eq_true.1 hm c hc)
  have h2 := List.all_eq_true.1 Zlv p hp
  simp only [Bool.and_eq_true, decide_eq_true_eq] at h2
  rw [Nat.eq_of_beq_eq_true he] at h2
  exact ⟨p.1, h2.1, h2.2⟩)
 have h2 : ∀ c, ∃ a, c ∈ cs → Zrh W c a := fun c => by
  by_cases hc : c ∈ cs
  ·obtain ⟨a, ha⟩ := h1 c hc
   exact ⟨a, fun _ => ha⟩
  ·exact ⟨⟨0, 0, none⟩, fun h => absurd h hc⟩
 refine ⟨fun c => Classical.choose (h2 c), fun g c hg hc => ?_, fun c hc => Classical.choose_spec (h2 c) hc⟩
 have hcm : c ∈ cs := List.elem_iff.1 hc
 have h3 := Classical.choose_spec (h2 c) hcm
 have h4 := List.all_eq_true.1 Zlv (g, c) (Zbp hg)
 simp only [Bool.and_eq_true, decide_eq_true_eq] at h4
 exact h3.1 g h4.1
end Go.HL
end

/-! HLOpen -/
section
namespace Go.HL
open Go Go.ChangeShapes Go.WideShapes Go.ChangeAt Go.RowKit
set_option linter.unusedVariables false
set_option linter.unusedSimpArgs false

def kFs (P : Program) (g : Nat → Option (List Nat)) : List Field → Nat → Option (List Nat)
 | [], _ => some []
 | f :: r, off => match g f.type with
  | some l => if f.offset = off ∧ P.cellsOf f.type = l.length then (match kFs P g r (off + l.length) with
   | some m => some (l ++ m)
   | none => none) else none
  | none => none
def kT (P : Program) : Nat → Nat → Option (List Nat)
 | 0, _ => none
 | d + 1, t => match P.underlying t with
  | some .bool => some [8]
  | some (.int k) => some [Zcl k]
  | some .string => some [9]
  | some (.struct fs) => (match kFs P (kT P d) fs.toList 0 with
   | some l => if P.cellsOf t = l.length then some l else none
   | none => none)
  | _ => none
def fitV : Nat → Value → Prop
 | 8, .bool _ => True
 | 9, .string s => s.size ≤ 9223372036854775807
 | k, .int k' n => Zcl k' = k ∧ loE k' ≤ n ∧ n ≤ Zcc k'
 | _, _ => False
def FitK : List Nat → List Value → Prop
 | [], [] => True
 | k :: l, v :: cs => fitV k v ∧ FitK l cs
 | _, _ => False
theorem FitK.append : ∀ {a b : List Nat} {cs : List Value}, FitK a (cs.take a.length) → FitK b (cs.drop a.length) → FitK (a ++ b) cs
 | [], b, cs, _, h => by simpa using h
 | k :: a, b, [], h, _ => by simp [FitK] at h
 | k :: a, b, v :: cs, h, h2 => ⟨h.1, FitK.append h.2 (by simpa using h2)⟩
theorem lit_wf {k : IntKind} {n : Int} (h : (Lit.int k n).wf = true) : loE k ≤ n ∧ n ≤ Zcc k := by
 cases k <;> simpa [Lit.wf, IntKind.min, IntKind.max, IntKind.signed, IntKind.bits, loE, Zcc] using h
theorem Zsu {H : Type} {enc : TypeId × Value → H} {P : Program} {W : World} {base : Nat} {spare : Nat → Bool} {held : Bool} : ∀ (d t : Nat) (l : List Nat) (n : Nat) (cs : List Value) (x : DataW H × List MemPlace), kT P d t = some l → DataW.trod enc P W base spare held n t cs = some x → FitK l cs
 | 0, t, l, n, cs, x, h, _ => by simp [kT] at h
 | d + 1, t, l, n, cs, x, h, hx => by
  unfold kT at h
  split at h
  ·rename_i hu
   cases h
   obtain ⟨b, rfl, -⟩ := DataW.trod_bool hu hx
   simp [FitK, fitV]
  ·rename_i k hu
   cases h
   obtain ⟨z, rfl, -, hw⟩ := DataW.trod_int hu hx
   have := lit_wf hw
   refine ⟨?_, trivial⟩
   cases k <;> simp [fitV, Zcl, loE, Zcc] at this ⊢ <;> exact this
  ·rename_i hu
   cases h
   obtain ⟨s, rfl, -, hs⟩ := DataW.trod_string hu hx
   exact ⟨Nat.le_trans hs (by decide), trivial⟩
  ·rename_i fs hu
   split at h
   ·rename_i l' hl
    split at h
    ·rename_i hc
     cases h
     obtain ⟨xs, m, -, -, hlen, hxl, hf⟩ := DataW.trod_struct hu hx
     rw [hc] at hlen
     have key : ∀ (fl : List Field) (j off : Nat) (l2 : List Nat), (∀ i f, fl[i]? = some f → fs[j + i]? = some f) → kFs P (kT P d) fl off = some l2 → off + l2.length = cs.length → FitK l2 (cs.drop off) := by
      intro fl
      induction fl with
      | nil =>
       intro j off l2 _ h2 ho
       simp [kFs] at h2
       subst h2
       simp at ho
       rw [List.drop_of_length_le (by omega)]
       trivial
      | cons f fl ih =>
       intro j off l2 hi h2 ho
       simp only [kFs] at h2
       split at h2
       ·rename_i lf hlf
        split at h2
        ·rename_i hco
         split at h2
         ·rename_i lr hlr
          cases h2
          obtain ⟨e1, e2⟩ := hco
          have h0 := hi 0 f rfl
          have hxs : ∃ y, xs[j]? = some y := by
           have : j < fs.size := (Array.getElem?_eq_some_iff.1 (by simpa using h0)).1
           exact ⟨_, List.getElem?_eq_getElem (by omega)⟩
          obtain ⟨y, hy⟩ := hxs
          have h3 := hf j f (by simpa using h0)
          rw [hy, e2] at h3
          subst e1
          have h4 := Zsu d f.type lf m _ _ hlf h3
          refine FitK.append (by simpa using h4) ?_
          rw [List.drop_drop]
          exact ih (j + 1) _ lr (fun i g hg => by have := hi (i + 1) g (by simpa using hg); rwa [show j + 1 + i = j + (i + 1) by omega]) hlr (by simp at ho; omega)
         ·cases h2
        ·cases h2
       ·cases h2
     have := key fs.toList 0 0 l (fun i f hif => by simpa using hif) hl (by omega)
     simpa using this
    ·cases h
   ·cases h
  ·cases h
theorem Zv3 (k : IntKind) : Zcl k < 8 := by cases k <;> decide
theorem fitI {k : Nat} {l : List Nat} {cs : List Value} (h : FitK (k :: l) cs) (hk : Nat.blt k 8 = true) : ∃ n r, cs = .int (Qk k) n :: r ∧ (loE (Qk k) ≤ n ∧ n ≤ Zcc (Qk k)) ∧ FitK l r := by
 have hk := Nat.le_of_ble_eq_true hk
 match cs with
 | [] => simp [FitK] at h
 | v :: r =>
  obtain ⟨h1, h2⟩ := h
  unfold fitV at h1
  split at h1
  ·omega
  ·omega
  ·rename_i k' n
   obtain ⟨rfl, h3⟩ := h1
   exact ⟨n, r, by rw [Zbl], by rw [Zbl]; exact h3, h2⟩
  ·exact h1.elim
theorem Zr3 {l : List Nat} {cs : List Value} (h : FitK (3 :: l) cs) : ∃ n r, cs = iv n :: r ∧ (-9223372036854775808 ≤ n ∧ n ≤ 9223372036854775807) ∧ FitK l r := fitI h rfl
theorem fitT {l : List Nat} {cs : List Value} (h : FitK (9 :: l) cs) : ∃ s r, cs = bs s :: r ∧ s.length ≤ 9223372036854775807 ∧ FitK l r := by
 match cs with
 | [] => simp [FitK] at h
 | v :: r =>
  obtain ⟨h1, h2⟩ := h
  cases v <;> simp [fitV] at h1
  ·rename_i k n; have := Zv3 k; omega
  rename_i s
  obtain ⟨⟨s⟩⟩ := s
  exact ⟨s, r, rfl, by simpa [ByteArray.size] using h1, h2⟩
theorem fit0 {cs : List Value} (h : FitK [] cs) : cs = [] := by
 match cs with
 | [] => rfl
 | v :: r => simp [FitK] at h
end Go.HL
end

/-! CdFr -/
section
namespace Go.HL
open Go Go.Proofs Go.ChangeShapes Go.WideShapes Go.ChangeAt Go.RowKit
def Zwk (z : Int) : Prop := -9223372036854775808 ≤ z ∧ z ≤ 9223372036854775807
theorem Zn8 {H : Type} {enc : TypeId × Value → H} {W : World} {base : Nat} {spare : Nat → Bool} {held : Bool} (n : Nat) (cs : List Value) (x : DataW H × List MemPlace) (h : DataW.trod enc Tryz.prog W base spare held n 3 cs = some x) :
  ∃ z : Int, cs = ic z ∧ Zwk z := by
 obtain ⟨z, e, -, hw⟩ := DataW.trod_int Tryz.underlying3 h
 exact ⟨z, e, by simpa [Zwk, Lit.wf, IntKind.min, IntKind.max, IntKind.signed, IntKind.bits] using hw⟩
end Go.HL
end

/-! CdTx -/
section
namespace Go.HL
open Go Go.Proofs Go.ChangeShapes Go.WideShapes Go.ChangeAt Go.RowKit
end Go.HL
end

/-! ErA -/
section
namespace Go.HL
open Go Go.Proofs Go.RowKit Go.Extern.Stop Go.Stop Go.Extern
set_option linter.unusedVariables false
set_option linter.unusedSimpArgs false

def cmpE : Array Value → Sem Value := ReflectliteType.method fun t => do Rtype.noPackHeld "Comparable" t; pure (.bool (← typeInfo t).comparable)
theorem Zgf (v : Value) (w : World) : (Extern.ReflectliteType.typeOf #[.iface 394 v]).run Tryz.prog w = .ok (.iface 319 (.agg #[.pointer (some ⟨23, 394, none⟩)])) w := by kernel_rfl
theorem Zd8 (w : World) : (cmpE #[.agg #[.pointer (some ⟨23, 394, none⟩)]]).run Tryz.prog w = .ok (.bool true) w := by kernel_rfl
theorem Zcp (v : Value) (w : World) : (Go.method 534 319 v "Comparable").run Tryz.prog w = .ok (355, v) w := by kernel_rfl
theorem Zs1 : (Tryz.prog.info? 394).map (·.comparable) = some true := by kernel_rfl
theorem Zs4 : (Tryz.prog.info? 396).map (·.size) = some 1 := by kernel_rfl
theorem is_noIsE (v : Value) (xT : TypeId) (w : World) : (Instr.typeAssert (.iface 394 v) xT 330 true).run Tryz.prog w = .ok (.tuple #[.nilIface, .bool false]) w := run_typeAssert_lacksB Tryz.underlying330 (by kernel_rfl) (by kernel_rfl) v xT w
theorem Ze1 (v : Value) (xT : TypeId) (w : World) : (Instr.typeAssert (.iface 394 v) xT 326 true).run Tryz.prog w = .ok (.tuple #[.nilIface, .bool false]) w := run_typeAssert_lacksB Tryz.underlying326 (by kernel_rfl) (by kernel_rfl) v xT w
theorem Zd5 (v : Value) (xT : TypeId) (w : World) : (Instr.typeAssert (.iface 394 v) xT 328 true).run Tryz.prog w = .ok (.tuple #[.nilIface, .bool false]) w := run_typeAssert_lacksB Tryz.underlying328 (by kernel_rfl) (by kernel_rfl) v xT w
theorem is_same (a : Addr) (w : World) :
  Calls Tryz.prog 137 #[.iface 394 (.pointer (some a)), .iface 394 (.pointer (some a))] w fun e w' => e = .returned (.bool true) ∧ w' = w := by
 obtain ⟨i, hi, hcmp⟩ := Option.map_eq_some_iff.1 Zs1
 obtain ⟨j, hj, hjs⟩ := Option.map_eq_some_iff.1 Zs4
 have h8 := @run_callFunc_extern Tryz.prog 189 _ Extern.ReflectliteType.typeOf Tryz.func189 (by kernel_rfl) (by kernel_rfl) (by kernel_rfl) (by kernel_rfl)
 have h32 := @run_callFunc_extern Tryz.prog 355 _ cmpE Tryz.func355 (by kernel_rfl) (by kernel_rfl) (by kernel_rfl) (by kernel_rfl)
 have tT := Zgf
 have cT := Zd8
 have mR := Zcp
 have heq := run_eql_iface_ptr_same (P := Tryz.prog) w a Tryz.underlying28 Tryz.underlying394 hi hcmp hj
 go_enter Tryz.func137, Tryz.ntmps137
 go_wp2
 refine wp_loop_rounds 1 ?_
 rw [rounds_succ]
 go_wp2
 go_ret
 exact ⟨rfl, rfl⟩
theorem is_other (a b : Addr) (ca cb : Array Value) (ta tb : TypeId) (w : World) (hne : a ≠ b) (ha : w.heap[a.block]? = some (.cells ca ta (0, 0))) (hb : w.heap[b.block]? = some (.cells cb tb (0, 0))) :
  Calls Tryz.prog 137 #[.iface 394 (.pointer (some a)), .iface 394 (.pointer (some b))] w fun e w' => e = .returned (.bool false) ∧ w' = w := by
 obtain ⟨i, hi, hcmp⟩ := Option.map_eq_some_iff.1 Zs1
 obtain ⟨j, hj, hjs⟩ := Option.map_eq_some_iff.1 Zs4
 have h8 := @run_callFunc_extern Tryz.prog 189 _ Extern.ReflectliteType.typeOf Tryz.func189 (by kernel_rfl) (by kernel_rfl) (by kernel_rfl) (by kernel_rfl)
 have h32 := @run_callFunc_extern Tryz.prog 355 _ cmpE Tryz.func355 (by kernel_rfl) (by kernel_rfl) (by kernel_rfl) (by kernel_rfl)
 have tT := Zgf
 have cT := Zd8
 have mR := Zcp
 have nE := is_noIsE
 have uE := Ze1
 have vE := Zd5
 have heq := run_eql_iface_ptr_other (P := Tryz.prog) w Tryz.underlying28 Tryz.underlying394 hi hcmp hj (by rw [hjs]; decide) hne ha hb
 go_enter Tryz.func137, Tryz.ntmps137
 go_wp2
 refine wp_loop_rounds 1 ?_
 rw [rounds_succ]
 go_wp2
 go_ret
 exact ⟨rfl, rfl⟩
end Go.HL
end

/-! ErB -/
section
namespace Go.HL
open Go Go.Proofs Go.RowKit Go.Extern.Stop Go.Stop Go.Extern
set_option linter.unusedVariables false
set_option linter.unusedSimpArgs false

def valE : Array Value → Sem Value := fun args => ReflectliteValue.unpack (args.getD 0 (.tuple #[]))
def typE : Array Value → Sem Value := ReflectliteValue.methodAny (ReflectliteValue.valueError "reflectlite.Value.Type" 0) fun t _ _ _ => ReflectliteType.toType t
def rnlE : Array Value → Sem Value := ReflectliteValue.method (ReflectliteValue.valueError "reflectlite.Value.IsNil" 0) ReflectliteValue.isNil
def elmE : Array Value → Sem Value := ReflectliteValue.method (ReflectliteValue.valueError "reflectlite.Value.Elem" 0) ReflectliteValue.elem
def setE : Array Value → Sem Value := ReflectliteValue.set
def kndE : Array Value → Sem Value := ReflectliteType.abiMethod fun t => do pure (.int .u8 (← Rtype.kind t))
def telE : Array Value → Sem Value := ReflectliteType.method ReflectliteType.elem
def impE : Array Value → Sem Value := ReflectliteType.relation "Implements" ReflectliteType.implements_
def asgE : Array Value → Sem Value := ReflectliteType.relation "AssignableTo" ReflectliteType.assignableTo
def hT (t : Nat) : Value := .pointer (some ⟨23, t, none⟩)
theorem as_vF (t : Addr) (w : World) : (valE #[.iface 203 (.pointer (some t))]).run Tryz.prog w = .ok (.agg #[.pointer (some ⟨23, 203, none⟩), .pointer (some ⟨w.heap.size, 0, none⟩), .int .u64 150]) (w.alloc (.cells #[.pointer (some t)] 203)) := by kernel_rfl
theorem as_tF (a : Addr) (w : World) : (typE #[.agg #[.pointer (some ⟨23, 203, none⟩), .pointer (some a), .int .u64 150]]).run Tryz.prog w = .ok (.iface 319 (.agg #[.pointer (some ⟨23, 203, none⟩)])) w := by kernel_rfl
theorem as_mKind (h : Value) (w : World) : (Go.method 534 319 (.agg #[h]) "Kind").run Tryz.prog w = .ok (344, h) w := by kernel_rfl
theorem as_kFF (w : World) : (kndE #[.pointer (some ⟨23, 203, none⟩)]).run Tryz.prog w = .ok (.int .u8 22) w := by kernel_rfl
theorem as_kF (w : World) : (kndE #[.pointer (some ⟨23, 158, none⟩)]).run Tryz.prog w = .ok (.int .u8 22) w := by kernel_rfl
theorem rlm (z : Sem Value) (f : TypeId → Addr → Nat → Nat → Sem Value) (v : Value) :
  ReflectliteValue.method z f #[v] = (do match ← ReflectliteValue.parts v with | none => z | some (t, a, fl) => f t a fl (fl % 32)) := rfl
theorem as_pFF (a : Addr) (w : World) : (ReflectliteValue.parts (.agg #[.pointer (some ⟨23, 203, none⟩), .pointer (some a), .int .u64 150])).run Tryz.prog w = .ok (some (203, a, 150)) w := by kernel_rfl
theorem as_isNil (a p : Addr) (W : World) (ha : W.cell? a = some (.pointer (some p))) :
  (rnlE #[.agg #[.pointer (some ⟨23, 203, none⟩), .pointer (some a), .int .u64 150]]).run Tryz.prog W = .ok (.bool false) W := by
 unfold rnlE
 rw [rlm]
 simp only [Sem.run_bind, as_pFF, Result.andThen]
 simp [ReflectliteValue.isNil, loadVar, isAgg, underlying, Tryz.underlying203, ha, Result.andThen]
theorem as_mElem (h : Value) (w : World) : (Go.method 534 319 (.agg #[h]) "Elem").run Tryz.prog w = .ok (356, .agg #[h]) w := by kernel_rfl
theorem as_mImpl (h : Value) (w : World) : (Go.method 534 319 (.agg #[h]) "Implements").run Tryz.prog w = .ok (357, .agg #[h]) w := by kernel_rfl
theorem as_mAsgn (h : Value) (w : World) : (Go.method 534 319 (.agg #[h]) "AssignableTo").run Tryz.prog w = .ok (354, .agg #[h]) w := by kernel_rfl
theorem as_elem (w : World) : (telE #[.agg #[.pointer (some ⟨23, 203, none⟩)]]).run Tryz.prog w = .ok (.iface 319 (.agg #[.pointer (some ⟨23, 158, none⟩)])) w := by kernel_rfl
theorem as_impl (w : World) : (impE #[.agg #[.pointer (some ⟨23, 158, none⟩)], .iface 319 (.agg #[.pointer (some ⟨23, 28, none⟩)])]).run Tryz.prog w = .ok (.bool true) w := by kernel_rfl
theorem as_typeF (v : Value) (w : World) : (ReflectliteType.typeOf #[.iface 158 v]).run Tryz.prog w = .ok (.iface 319 (.agg #[.pointer (some ⟨23, 158, none⟩)])) w := by kernel_rfl
theorem as_asgnF (w : World) : (asgE #[.agg #[.pointer (some ⟨23, 158, none⟩)], .iface 319 (.agg #[.pointer (some ⟨23, 158, none⟩)])]).run Tryz.prog w = .ok (.bool true) w := by kernel_rfl
theorem as_asgnE (w : World) : (asgE #[.agg #[.pointer (some ⟨23, 394, none⟩)], .iface 319 (.agg #[.pointer (some ⟨23, 158, none⟩)])]).run Tryz.prog w = .ok (.bool false) w := by kernel_rfl
theorem as_valF (e : Addr) (w : World) : (valE #[.iface 158 (.pointer (some e))]).run Tryz.prog w
  = .ok (.agg #[.pointer (some ⟨23, 158, none⟩), .pointer (some ⟨w.heap.size, 0, none⟩), .int .u64 150]) (w.alloc (.cells #[.pointer (some e)] 158)) := by kernel_rfl
theorem as_noAsE (v : Value) (xT : TypeId) (w : World) : (Instr.typeAssert (.iface 394 v) xT 323 true).run Tryz.prog w = .ok (.tuple #[.nilIface, .bool false]) w := run_typeAssert_lacksB Tryz.underlying323 (by kernel_rfl) (by kernel_rfl) v xT w
abbrev asV (w : World) (t : Addr) : World := (w.alloc (.cells #[.pointer (some t)] 203)).alloc (.cells #[.pointer (some ⟨23, 203, none⟩), .pointer (some ⟨w.heap.size, 0, none⟩), .int .u64 150] 273)

set_option maxHeartbeats 4000000 in
theorem as_miss (e t : Addr) (w : World) (hg : w.cell? ⟨9, 0, none⟩ = some (.iface 319 (.agg #[.pointer (some ⟨23, 28, none⟩)]))) :
  Calls Tryz.prog 136 #[.iface 394 (.pointer (some e)), .iface 203 (.pointer (some t))] w fun ev w' => ev = .returned (.bool false) ∧ w' = (asV w t).alloc (.cells #[.pointer (some ⟨23, 203, none⟩), .pointer (some ⟨w.heap.size, 0, none⟩), .int .u64 150] 273) := by
 have x0 := @run_callFunc_extern Tryz.prog 185 _ valE Tryz.func185 (by kernel_rfl) (by kernel_rfl) (by kernel_rfl) (by kernel_rfl)
 have x1 := @run_callFunc_extern Tryz.prog 186 _ typE Tryz.func186 (by kernel_rfl) (by kernel_rfl) (by kernel_rfl) (by kernel_rfl)
 have x2 := @run_callFunc_extern Tryz.prog 187 _ rnlE Tryz.func187 (by kernel_rfl) (by kernel_rfl) (by kernel_rfl) (by kernel_rfl)
 have x3 := @run_callFunc_extern Tryz.prog 344 _ kndE Tryz.func344 (by kernel_rfl) (by kernel_rfl) (by kernel_rfl) (by kernel_rfl)
 have x4 := @run_callFunc_extern Tryz.prog 356 _ telE Tryz.func356 (by kernel_rfl) (by kernel_rfl) (by kernel_rfl) (by kernel_rfl)
 have x5 := @run_callFunc_extern Tryz.prog 357 _ impE Tryz.func357 (by kernel_rfl) (by kernel_rfl) (by kernel_rfl) (by kernel_rfl)
 have x6 := @run_callFunc_extern Tryz.prog 189 _ ReflectliteType.typeOf Tryz.func189 (by kernel_rfl) (by kernel_rfl) (by kernel_rfl) (by kernel_rfl)
 have x7 := @run_callFunc_extern Tryz.prog 354 _ asgE Tryz.func354 (by kernel_rfl) (by kernel_rfl) (by kernel_rfl) (by kernel_rfl)
 have x8 := @run_callFunc_extern Tryz.prog 256 _ elmE Tryz.func256 (by kernel_rfl) (by kernel_rfl) (by kernel_rfl) (by kernel_rfl)
 have x9 := @run_callFunc_extern Tryz.prog 257 _ setE Tryz.func257 (by kernel_rfl) (by kernel_rfl) (by kernel_rfl) (by kernel_rfl)
 have f_as_vF := as_vF
 have f_as_tF := as_tF
 have f_as_mKind := as_mKind
 have f_as_kFF := as_kFF
 have f_as_kF := as_kF
 have f_as_mElem := as_mElem
 have f_as_mImpl := as_mImpl
 have f_as_mAsgn := as_mAsgn
 have f_as_elem := as_elem
 have f_as_impl := as_impl
 have f_as_typeF := as_typeF
 have f_as_asgnF := as_asgnF
 have f_as_asgnE := as_asgnE
 have f_as_valF := as_valF
 have f_is_typeOf := Zgf
 have f_as_noAsE := as_noAsE
 have f_is_noUnwrapE := Ze1
 have f_is_noUnwrapsE := Zd5
 have n8 := as_isNil ⟨w.heap.size, 0, none⟩ t (asV w t) (by simp [asV])
 have hlt : 9 < w.heap.size := by
  rcases Nat.lt_or_ge 9 w.heap.size with h | h
  ·exact h
  ·simp [World.cell?, Array.getElem?_eq_none h] at hg
 have hg2 : (asV w t).cell? ⟨9, 0, none⟩ = some (.iface 319 (.agg #[.pointer (some ⟨23, 28, none⟩)])) := by
  unfold asV
  rw [World.cell?_alloc_lt _ _ ⟨9, 0, none⟩ (by simp; omega), World.cell?_alloc_lt _ _ ⟨9, 0, none⟩ hlt]; exact hg
 go_enter Tryz.func136, Tryz.ntmps136
 go_wp2
 refine wp_loop_rounds 1 ?_
 rw [rounds_succ]
 go_wp2
 go_ret
 exact ⟨rfl, rfl⟩
end Go.HL
end

/-! ErC -/
section
namespace Go.HL
open Go Go.Proofs
set_option linter.unusedVariables false
set_option linter.unusedSimpArgs false
def all9 : List Nat := [1, 2, 3, 4, 5, 6, 7, 8, 9]
structure Ez (T : Nat) (E : Nat → Addr) (L : Zb) : Prop where
 ty : T = 394
 errs : Er T E all9 L
 blk : ∀ c, List.elem c all9 = true → ∃ ca ta, Has L (E c).block (.cells ca ta (0, 0))
 one : ∀ c c', List.elem c all9 = true → List.elem c' all9 = true → E c = E c' → c = c'
 et : Gl L 9 (.iface 319 (.agg #[.pointer (some ⟨23, 28, none⟩)]))
theorem Ez.cons {T : Nat} {E : Nat → Addr} {L : Zb} (h : Ez T E L) (c : List Zq) : Ez T E (c :: L) :=
 ⟨h.ty, h.errs.cons c, fun k hk => let ⟨ca, ta, hb⟩ := h.blk k hk; ⟨ca, ta, Zf hb⟩, h.one, h.et.cons⟩
theorem Ez.mono {T : Nat} {E : Nat → Addr} {L L' : Zb} (h : Ez T E L) (hl : ∀ b o, Has L b o → Has L' b o) : Ez T E L' :=
 ⟨h.ty, h.errs.mono hl, fun k hk => let ⟨ca, ta, hb⟩ := h.blk k hk; ⟨ca, ta, hl _ _ hb⟩, h.one, h.et.mono hl⟩
theorem Ez.er {T : Nat} {E : Nat → Addr} {L : Zb} (h : Ez T E L) (cs : List Nat) (hm : (cs.all fun g => all9.elem g) = true := by rfl) : Er T E cs L := h.errs.sub hm
theorem is_calls (a b : Addr) (L : Zb) (h : a = b ∨ (a ≠ b ∧ (∃ ca ta, Has L a.block (.cells ca ta (0, 0))) ∧ ∃ cb tb, Has L b.block (.cells cb tb (0, 0)))) :
  HC Tryz.prog 137 [.iface 394 (.pointer (some a)), .iface 394 (.pointer (some b))] L (fun v L' => v = .bool (decide (a = b)) ∧ L' = L) := by
 refine ⟨fun args w => Tryz.call137 args w, fun k w hs => ?_⟩
 rcases h with rfl | ⟨hne, ⟨ca, ta, ha⟩, cb, tb, hb⟩
 ·exact (is_same a w).mono fun e w' ⟨he, hw⟩ => ⟨_, L, he, hw ▸ hs, by simp, rfl⟩
 ·exact (is_other a b ca cb ta tb w hne (hs.heap ha) (hs.heap hb)).mono fun e w' ⟨he, hw⟩ => ⟨_, L, he, hw ▸ hs, by simp [hne], rfl⟩
theorem Sat.news {k : Zk4} {w : World} {L : Zb} (h : Sat k w L) (o : Obj) : Sat k (w.alloc o) L := (h.new o).sub ((List.Sublist.refl _).cons _)
theorem Gl.cell {k : Zk4} {w : World} {L : Zb} {g : Nat} {v : Value} (hs : Sat k w L) (h : Gl L g v) : w.cell? ⟨g, 0, none⟩ = some v := by
 obtain ⟨l, E, fr, h1, h2⟩ := h
 rw [hs.cell h1]; exact h2
theorem Zll (e : Addr) (t : Addr) (L : Zb) (hg : Gl L 9 (.iface 319 (.agg #[.pointer (some ⟨23, 28, none⟩)]))) :
  HC Tryz.prog 136 [.iface 394 (.pointer (some e)), .iface 203 (.pointer (some t))] L (fun v L' => v = .bool false ∧ L' = L) := by
 refine ⟨fun args w => Tryz.call136 args w, fun k w hs => ?_⟩
 refine (as_miss e t w (hg.cell hs)).mono fun ev w' ⟨he, hw⟩ => ⟨_, L, he, ?_, rfl, rfl⟩
 rw [hw]
 exact ((hs.news _).news _).news _
def faC (pb : Nat) (at_ : Int) (T : Nat) (E : Nat → Addr) (c : Option Nat) : List Zq := [(pb, .cells ⟨[iv at_, eV T E c]⟩ 160)]
set_option maxHeartbeats 2000000 attribute [local irreducible] HW HO HQ HD HC QOp Has Upd Zt Gets Yb Z6 Zr Xr Z4 Zm Xx Zy
theorem code_nil (L : Zb) : HC Tryz.prog 79 [.nilIface] L (fun v L' => v = .tuple ⟨[iv 0, iv (-1)]⟩ ∧ L' = L) := by
 refine Za (fun _ _ => Tryz.call79 _ _) Tryz.func79 rfl Tryz.ntmps79 (Nat.le_of_ble_eq_true rfl) ?_; simp only [Zc, Nat.reduceAdd]
 repeat' (first | refine uN ?_ | (refine uB ?_; intro b) | (refine uP ?_ ?_ <;> (intro h; ((try simp only [zs, ne_eq, and_true, true_and, eq_self, reduceCtorEq] at h); try exact zx))) | fail)
 exact Qh (LS.refl _) ⟨rfl, rfl⟩
def eL (T : Nat) (E : Nat → Addr) : List Value := all9.map fun c => eV T E (some c)
theorem eL_get {T : Nat} {E : Nat → Addr} {i : Nat} (h : i < 9) : (eL T E)[0 + (i : Int).toNat]? = some (errV T E (i + 1)) := by
 have : ∀ i, i < 9 → (all9.map fun c => eV T E (some c))[i]? = some (errV T E (i + 1)) := by
  intro i h
  match i, h with
  | 0, _ => rfl
  | 1, _ => rfl
  | 2, _ => rfl
  | 3, _ => rfl
  | 4, _ => rfl
  | 5, _ => rfl
  | 6, _ => rfl
  | 7, _ => rfl
  | 8, _ => rfl
 simpa [eL] using this i h
theorem elem9 {i : Nat} (h : i < 9) : List.elem (i + 1) all9 = true := by
 have : ∀ i, i < 9 → List.elem (i + 1) all9 = true := by decide
 exact this i h
theorem Zsk (T : Nat) (E : Nat → Addr) (c : Nat) (L : Zb) (hE : Ez T E L) (hc : List.elem c all9 = true) : HC Tryz.prog 79 [eV T E (some c)] L (fun v L' => v = .tuple ⟨[iv c, iv (-1)]⟩ ∧ L' = L) := by
 have hT := hE.ty
 have hG := hE.errs
 have hA := Zll (E c)
 have hI : ∀ i L', Ez T E L' → i < 9 → HC Tryz.prog 137 [eV T E (some c), errV T E (i + 1)] L' (fun v L2 => v = .bool (decide (E c = E (i + 1))) ∧ L2 = L') := fun i L' h9 hi => by
  subst hT
  refine is_calls (E c) (E (i + 1)) L' ?_
  by_cases he : E c = E (i + 1)
  ·exact .inl he
  ·exact .inr ⟨he, h9.blk c hc, h9.blk (i + 1) (elem9 hi)⟩
 subst hT
 refine Za (fun _ _ => Tryz.call79 _ _) Tryz.func79 rfl Tryz.ntmps79 (Nat.le_of_ble_eq_true rfl) ?_; simp only [Zc, Nat.reduceAdd]
 repeat' (first | refine uN ?_ | (refine uB ?_; intro b) | (refine uP ?_ ?_ <;> (intro h; ((try simp only [zs, ne_eq, and_true, true_and, eq_self, reduceCtorEq] at h); try exact zx))) | fail)
 refine gc (hA ⟨b, 0, none⟩ _ hE.et.cons) ?_
 rintro v L' ⟨rfl, rfl⟩
 have hG2 := hG.cons [(b, .cells ⟨[.pointer none]⟩ 158)]
 repeat' (first | refine uN ?_ | (refine uB ?_; intro b) | (refine uP ?_ ?_ <;> (intro h; ((try simp only [zs, ne_eq, and_true, true_and, eq_self, reduceCtorEq] at h); try exact zx))) | fail)
 rename_i b0
 refine Zn (σ := Nat) (fun i => [(0, eV 394 E (some c)), (3, iv (-1)), (25, sl b 0 9 9), (26, iv 9), (27, iv i)]) (fun _ => [(b, .cells ⟨eL 394 E⟩ 28)] :: [(b0, .cells ⟨[.pointer none]⟩ 158)] :: L) (fun i => i ≤ 8 ∧ i < c) (fun i => 9 - i) 0 uS (List.Sublist.refl _) ⟨by omega, ?_⟩ ?_
 ·cases c with
  | zero => exact absurd hc (by decide)
  | succ c => omega
 rintro i ⟨h8, hlt⟩
 have g := eL_get (T := 394) (E := E) (show i < 9 by omega)
 have hz := hI i _ ((hE.cons [(b0, .cells ⟨[.pointer none]⟩ 158)]).cons [(b, .cells ⟨eL 394 E⟩ 28)]) (by omega)
 repeat' (first | refine uN ?_ | refine uC (hz) ?_ | (refine uB ?_; intro b) | (refine uP ?_ ?_ <;> (intro h; ((try simp only [zs, ne_eq, and_true, true_and, eq_self, reduceCtorEq] at h); try exact zx))) | fail)
 ·obtain rfl := hE.one c (i + 1) hc (elem9 (by omega)) h
  exact Qh uZ ⟨rfl, rfl⟩
 ·have hne : c ≠ i + 1 := fun e => h (congrArg E e)
  have h10 : c < 10 := by
   have := List.elem_iff.1 hc
   simp [all9] at this
   omega
  exact Zk (i + 1) uS (List.Sublist.refl _) ⟨by omega, by omega⟩ (by omega)
def cdN : Option Nat → Int
 | none => 0
 | some c => c
def okE : Option Nat → Prop
 | none => True
 | some c => List.elem c all9 = true
theorem Zo2 (T : Nat) (E : Nat → Addr) (e : Option Nat) (L : Zb) (hE : Ez T E L) (he : okE e) : HC Tryz.prog 79 [eV T E e] L (fun v L' => v = .tuple ⟨[iv (cdN e), iv (-1)]⟩ ∧ L' = L) := by
 cases e with
 | none => exact code_nil L
 | some c => exact Zsk T E c L hE he
end Go.HL
end

/-! LayB -/
section
namespace Go.HL
open Go Go.Proofs Go.ChangeShapes Go.WideShapes Go.ChangeAt Go.RowKit
set_option linter.unusedVariables false
def Zt1 : List (String × DataW Unit) := [("errors.errorType", .iface "internal/reflectlite.rtype" (.agg [.ptr (.lit (.string [101, 114, 114, 111, 114]))]))]
theorem hd_et : Tryz.prog.globalNamed "errors.errorType" = some 9 := by kernel_rfl
theorem hd_rt : (Tryz.prog.cutTypes.find? (·.1 == "internal/reflectlite.rtype")).map (·.2) = some 319 := by kernel_rfl
theorem hd_row : ((List.range 434).filter fun t => Tryz.prog.rowNamed t [101, 114, 114, 111, 114]) = [28] := by kernel_rfl
theorem hd_size : Tryz.prog.types.size = 434 := by kernel_rfl
theorem Zu2 : typeHandle Tryz.prog 28 = .pointer (some ⟨23, 28, none⟩) := by kernel_rfl
theorem Zwb {W : World} (h : handlesMet Tryz.prog Zt1 W) : Gl [Za4 W] 9 (.iface 319 (.agg #[.pointer (some ⟨23, 28, none⟩)])) := by
 obtain ⟨name, u, ty, e1, e2, e3, e4, e5⟩ := h _ (List.mem_singleton.2 rfl)
 have en : name = [101, 114, 114, 111, 114] := (Option.some.inj e1).symm
 subst en
 obtain rfl := Option.some.inj (hd_rt.symm.trans e2)
 have hm : ty ∈ (List.range 434).filter fun t => Tryz.prog.rowNamed t [101, 114, 114, 111, 114] := List.mem_filter.2 ⟨List.mem_range.2 (by rw [← hd_size]; exact e3), e4⟩
 rw [hd_row] at hm
 obtain rfl := List.mem_singleton.1 hm
 rw [Zu2] at e5
 exact Zlr hd_et e5
theorem text_inj {c c' : Nat} (h : List.elem c all9 = true) (h' : List.elem c' all9 = true) (e : Zdc c = Zdc c') : c = c' := by
 have key : (all9.all fun c => all9.all fun c' => decide (Zdc c = Zdc c' → c = c')) = true := by decide +kernel
 have h1 := List.all_eq_true.1 (List.all_eq_true.1 key c (List.elem_iff.1 h)) c' (List.elem_iff.1 h')
 exact of_decide_eq_true h1 e
theorem ez_of {W : World} {l : List Nat} (hs : laidMet Tryz.prog (Zg2 l) W) (hh : handlesMet Tryz.prog Zt1 W) (hl : (all9.all fun c => l.elem c) = true := by rfl) (hm : (l.all fun c => errTab.any fun p => Nat.beq p.2 c) = true := by rfl) : ∃ E, Ez 394 E [Za4 W] := by
 obtain ⟨E, hG, hE⟩ := errs_of hs hm
 have hmem : ∀ c, List.elem c all9 = true → c ∈ l := fun c hc => List.elem_iff.1 (List.all_eq_true.1 hl c (List.elem_iff.1 hc))
 refine ⟨E, rfl, hG.sub hl, fun c hc => (hE c (hmem c hc)).2.2, fun c c' hc hc' e => ?_, Zwb hh⟩
 have h1 := (hE c (hmem c hc)).2.1
 have h2 := (hE c' (hmem c' hc')).2.1
 rw [e, h2] at h1
 have h3 : Zdc c' = Zdc c := by
  have := Option.some.inj h1
  simp only [Value.string.injEq, ByteArray.mk.injEq, Array.mk.injEq] at this
  exact this
 exact text_inj hc hc' h3.symm
theorem Zfa {P : Program} {w0 : World} {laid : List (String × DataW Unit)} (args : Array Value) (hf : w0.layFits P laid [] = true) (hi : w0.layIfaces P laid (w0.layVars P laid) = true) :
  laidMet P laid ((w0.layVars P laid).forCall (fun _ _ => 0) ⟨#[], args, []⟩).memory := by
 have e1 : (laid.filter fun x => (laid.map (·.1)).contains x.1) = laid := List.filter_eq_self.2 fun x hx => List.contains_iff_mem.2 (List.mem_map.2 ⟨x, hx, rfl⟩)
 have e2 : (laid.filter fun x => !(laid.map (·.1)).contains x.1) = [] := List.filter_eq_nil_iff.2 fun x hx => by rw [List.contains_iff_mem.2 (List.mem_map.2 ⟨x, hx, rfl⟩)]; simp
 have h : laidMet P laid (w0.layVars P laid) := laidMet_layVars (w0 := w0) (laid.map (·.1)) [] (by rw [e1]) (by rw [e1]; exact hf) (by rw [e1]; exact hi) (by rw [e2]; exact LaidIn.none)
 exact h.of_heap (by simp [World.memory, World.forCall, Input.heap])
noncomputable def w0H (os : Os) : World :=
 let w := World.holding Tryz.prog os ⟨#[], #[], []⟩
 { w with heap := w.heap.modify 9 fun
   | .cells _ t frozen => .cells #[.iface 319 (.agg #[.pointer (some ⟨23, 28, none⟩)])] t frozen
   | o => o }
noncomputable def layH (os : Os) (l : List Nat) : World := (w0H os).layVars Tryz.prog (Zg2 l)
theorem Zth (os : Os) (l : List Nat) : (layH os l).os = os := World.layVars_os _ _ _
end Go.HL
end

/-! CdLv -/
section
namespace Go.HL
open Go
theorem and_mk {a b : Bool} (ha : a = true) (hb : b = true) : (a && b) = true := by rw [ha, hb]; rfl
theorem Zan {a : Assume} {C : Checked} {os : Os} {f : FuncId} {r : Reach} {Pre : World → Array Value → Prop} {Post : World → Array Value → Value → World → Prop} (h : ReturnsInHanded a C os f r Pre Post) : ReturnsInLeavingWide a C os f r Pre Post := fun enter => by
 obtain ⟨h0, h1, h2, h3, h4⟩ := h enter
 refine ⟨h0, h1, h2, h3, fun w tape i hi => ?_⟩
 obtain ⟨n, v, w', e1, e2, e3, e4, ⟨j, last, e5, e6, e7, e8, e9⟩, e10⟩ := h4 w tape i hi
 exact ⟨n, v, w', e1, e2, e3, e4, ⟨j, last, e5, e6, e8, onlyLeaving_of_quiet e7, e9⟩, e10⟩
theorem Zce (Lk : Looks) {p : Pinned} {s : OpenSpec} {c : OpenClaim} (al : List (List PathCond)) (kinds : List LaidKind) (tests : Bool) (har : Bool × String) (lk : Bool) (g : Bool)
  (hc : c.holds p s) (hal : ∀ D ∈ al, (c.withDomain D).holds p s) (hw : c.wfByText s = true) (hwal : ∀ D ∈ al, (c.withDomain D).wfByText s = true)
  (htie : c.laidByTextAt Lk p kinds tests)
  (hst : c.start = .entering) (hnb : c.noBlocks = false ∧ c.again = false) (hm : p.checked.prog.mainIs = some (har.1, har.2.toList)) (hn : (!har.1 && har.2.isEmpty && !lk) = false)
  (hl : ∀ f fn, p.checked.prog.funcNamed c.func = some f → p.checked.prog.funcs[f]? = some fn → lk = p.checked.prog.looks [] ∧ ∀ (j : Nat) t, fn.params[j]? = some t → p.checked.prog.wantsStandIn t = false)
  (hg : g = c.goesBy p.checked.prog) :
  Claim7.holds p (.plain s) { stood := { row := c, standIns := [], harness := har, looks := lk }, kinds := [], alts := al, laidByText := true, laidKinds := kinds, laidTests := tests, laidLooks := Lk, goes := g } := by
 have h6 : ∀ r : OpenClaim, Claim7.isSixth { stood := { row := r, standIns := [], harness := har, looks := lk }, kinds := [] } = false := fun r => by simpa [Claim7.isSixth] using hn
 refine ⟨Claim7.tied_new_at Lk kinds tests (Claim7.new_of_sixth hc har lk hst hnb hm (h6 c) hl) hw, fun D hD => ?_, htie, (fun h => by cases h), hg⟩
 exact Claim7.tied_new_at Lk kinds tests (Claim7.new_of_sixth (hal D hD) har lk hst hnb hm (h6 _) hl) (hwal D hD)
end Go.HL
end

/-! CdFa -/
section
namespace Go.HL
set_option maxRecDepth 100000
open Go Go.Proofs Go.ChangeShapes Go.WideShapes Go.ChangeAt Go.RowKit
end Go.HL
end

/-! LdA -/
section
namespace Go.HL
open Go Go.Proofs
set_option linter.unusedVariables false
set_option linter.unusedSimpArgs false
abbrev Zx (v : Value) (xs : List Fr) (c : List Zq) : Prop := Vec 131 9 fc v xs c
theorem Zi (f : Fr) : (fc f).length = 9 := rfl
theorem Wb (f : Fr) : (fc f).all Value.oneCell' = true := rfl
theorem Q3 (s : St) : (sc s).length = 3 := rfl
theorem Zn3 (s : St) : (sc s).all Value.oneCell' = true := rfl
theorem Xu (x : Int) : (ic x).length = 1 := rfl
theorem Zgq (x : Int) : (ic x).all Value.oneCell' = true := rfl
structure Ld where
 id : Int
 deal : Int
 att : Int
 w : List Int
 state : List UInt8
 wait : Int
 heard : Nat
 told : List St
 phase : Int
 seen : Int
def Zm2 : List UInt8 := [97, 115, 107, 105, 110, 103]
def Zf0 : List UInt8 := [112, 114, 101, 112, 97, 114, 105, 110, 103]
def Zsy : List UInt8 := [100, 111, 110, 101]
def Qg : List UInt8 := [114, 101, 102, 117, 115, 101, 100]
def Zou (wv : Value) (m : Ld) : List Value := [iv m.id, iv m.deal, iv m.att, wv, bs m.state, iv m.wait, iv m.heard]
def Xw (wv : Value) (m : Ld) : List Value := Zou wv m ++ (m.told.map sc).flatten ++ [iv m.phase, iv m.seen]
def Ql (lp : Nat) (wv : Value) (wc : List Zq) (m : Ld) : List Zq := (lp, .cells ⟨Xw wv m⟩ 193) :: wc
structure LdOk (wv : Value) (wc : List Zq) (m : Ld) : Prop where
 vec : Vec 3 1 ic wv m.w wc
 told : m.told.length = 7
 len : m.w.length ≤ 7
theorem Xp {wv : Value} {m : Ld} {k : Nat} {v : Value} (h : (Zou wv m)[k]? = some v) : (Xw wv m)[0 + k]? = some v := by
 have hlt : k < (Zou wv m).length := (List.getElem?_eq_some_iff.1 h).1
 rw [Nat.zero_add, Xw, List.append_assoc, List.getElem?_append_left hlt, h]
theorem ld_len {wv : Value} {m : Ld} (h : m.told.length = 7) : (Xw wv m).length = 30 := by
 simp [Xw, Zou, Yy Q3, h]
theorem Zhg {wv : Value} {m : Ld} (h : m.told.length = 7) : (Zou wv m ++ (m.told.map sc).flatten).length = 28 := by
 simp [Zou, Yy Q3, h]
theorem ld_phase {wv : Value} {m : Ld} (h : m.told.length = 7) : (Xw wv m)[0 + 28]? = some (iv m.phase) := by
 rw [Xw, List.getElem?_append_right (by rw [Zhg h]; omega), Zhg h]; rfl
theorem Zn6 {wv : Value} {m : Ld} (h : m.told.length = 7) : (Xw wv m)[0 + 29]? = some (iv m.seen) := by
 rw [Xw, List.getElem?_append_right (by rw [Zhg h]; omega), Zhg h]; rfl
theorem ld_told {wv : Value} {m : Ld} {i : Nat} {s : St} (h : m.told[i]? = some s) : Gets (Xw wv m) (0 + 7 + (i : Int).toNat * 3) (sc s) := by
 have := Ut (enc := sc) (sz := 3) Q3 m.told [iv m.phase, iv m.seen] (Zou wv m) i s h
 simpa [Xw, Zou] using this
theorem Qp {wv : Value} {m m' : Ld} {k : Nat} {v : Value} (h : Zou wv m' = (Zou wv m).set k v) (hk : k < 7) (e1 : m'.told = m.told) (e2 : m'.phase = m.phase) (e3 : m'.seen = m.seen) : Zt (Xw wv m) (0 + k) [v] (Xw wv m') := by
 have hlt : k < (Zou wv m).length := hk
 have e : Xw wv m' = (Xw wv m).set (0 + k) v := by
  rw [Nat.zero_add, Xw, Xw, h, e1, e2, e3, List.append_assoc, List.append_assoc, List.set_append_left _ _ hlt]
 rw [e]
 exact W4 (by rw [Xw, List.append_assoc, List.length_append]; omega)
theorem ld_put28 {wv : Value} {m : Ld} (h : m.told.length = 7) (p : Int) : Zt (Xw wv m) (0 + 28) [iv p] (Xw wv { m with phase := p }) := by
 have e : Xw wv { m with phase := p } = (Xw wv m).set (0 + 28) (iv p) := by
  show Zou wv m ++ (m.told.map sc).flatten ++ [iv p, iv m.seen] = (Zou wv m ++ (m.told.map sc).flatten ++ [iv m.phase, iv m.seen]).set (0 + 28) (iv p)
  rw [List.set_append_right _ _ (by rw [Zhg h]; omega), Zhg h]; rfl
 rw [e]
 exact W4 (by rw [ld_len h]; omega)
theorem Zp5 {wv : Value} {m : Ld} (h : m.told.length = 7) (p : Int) : Zt (Xw wv m) (0 + 29) [iv p] (Xw wv { m with seen := p }) := by
 have e : Xw wv { m with seen := p } = (Xw wv m).set (0 + 29) (iv p) := by
  show Zou wv m ++ (m.told.map sc).flatten ++ [iv m.phase, iv p] = (Zou wv m ++ (m.told.map sc).flatten ++ [iv m.phase, iv m.seen]).set (0 + 29) (iv p)
  rw [List.set_append_right _ _ (by rw [Zhg h]; omega), Zhg h]; rfl
 rw [e]
 exact W4 (by rw [ld_len h]; omega)
theorem Zsz {wv : Value} {m : Ld} {i : Nat} (s : St) (h : i < m.told.length) : Zt (Xw wv m) (0 + 7 + (i : Int).toNat * 3) (sc s) (Xw wv { m with told := m.told.set i s }) := by
 have := Zcw (enc := sc) (sz := 3) Q3 m.told [iv m.phase, iv m.seen] (Zou wv m) i (0 + 7 + (i : Int).toNat * 3) s h (by simp [Zou])
 exact this
def Za0 (m : Ld) (kind phase : Int) (i : Nat) : List Fr := if kind ≠ 3 ∨ (i : Int) ≠ m.id then [⟨m.id, i, m.deal, kind, m.att, false, ⟨phase, 0, 0⟩⟩] else []
def Zbr (m : Ld) (kind phase : Int) : List Fr := (List.range m.w.length).flatMap (Za0 m kind phase)
def Xd (m : Ld) : List Fr := if m.att = 0 then Zbr m 1 0 else Zbr m 3 0
def U3 (m : Ld) (phase : Int) : Ld := { m with state := Zf0, wait := 6, heard := 0, phase := phase }
def Vh (m : Ld) : Ld := { m with state := Zsy, wait := 0 }
def Zwh (m : Ld) : Ld × List Fr := if m.wait = 2 then (Vh m, Zbr (Vh m) 7 3) else ({ m with state := Qg, wait := 0 }, [])
theorem Zew (f : Nat → List Fr) (i : Nat) : (List.range (i + 1)).flatMap f = (List.range i).flatMap f ++ f i := by
 rw [List.range_succ, List.flatMap_append]; simp
theorem Uf (f : Nat → List Fr) (hf : ∀ i, (f i).length ≤ 1) : ∀ i, ((List.range i).flatMap f).length ≤ i
 | 0 => by simp
 | i + 1 => by rw [Zew, List.length_append]; have := Uf f hf i; have := hf i; omega
theorem Zfe (m : Ld) (kind phase : Int) (i : Nat) : (Za0 m kind phase i).length ≤ 1 := by unfold Za0; split <;> simp
set_option maxHeartbeats 2000000 attribute [local irreducible] HW HO HQ HD HC QOp Has Upd Zt Gets Yb Z6 Zr Xr Z4 Zm Xx Zy
attribute [local irreducible] Xw
theorem Zdo (lp : Nat) (wv : Value) (wc : List Zq) (m : Ld) (kind phase : Int) (L : Zb) (hm : LdOk wv wc m) : HC Tryz.prog 125 [pt lp 0, iv kind, iv phase] (Ql lp wv wc m :: L)
  (fun v L' => ∃ c, Zx v (Zbr m kind phase) c ∧ L' = c :: Ql lp wv wc m :: L) := by
 obtain ⟨a, cap, rfl, hcap, hR⟩ := hm.vec.rd Xu
 have hlen := hm.len
 generalize hwv : Value.slice a m.w.length cap = wv
 have g0 : (Xw wv m)[0 + 0]? = some (iv m.id) := Xp rfl
 have g1 : (Xw wv m)[0 + 1]? = some (iv m.deal) := Xp rfl
 have g2 : (Xw wv m)[0 + 2]? = some (iv m.att) := Xp rfl
 have g3 : (Xw wv m)[0 + 3]? = some (.slice a m.w.length cap) := by rw [hwv]; exact Xp rfl
 refine Za (fun _ _ => Tryz.call125 _ _) Tryz.func125 rfl Tryz.ntmps125 (Nat.le_of_ble_eq_true rfl) ?_; simp only [Zc, Nat.reduceAdd]
 repeat' (first | refine uN ?_ | refine Z7 S ?_ | refine Yt S ?_ | (refine uB ?_; intro b) | (refine uP ?_ ?_ <;> (intro h; ((try simp only [zs, ne_eq, and_true, true_and, eq_self, reduceCtorEq] at h); try exact zx))) | refine da 101 ?_ | fail)
 refine Zie ?_
 refine Zn (σ := Nat × Value × List Zq) (fun q => [(0, pt lp 0), (1, iv kind), (2, iv phase), (7, q.2.1), (13, iv m.w.length), (14, iv q.1)]) (fun q => q.2.2 :: Ql lp wv wc m :: L) (fun q => q.1 ≤ m.w.length ∧ Zx q.2.1 ((List.range q.1).flatMap (Za0 m kind phase)) q.2.2) (fun q => m.w.length - q.1) (0, Y4, []) uS (List.Sublist.refl _) ⟨by simp, Zu⟩ ?_
 rintro ⟨i, v, c⟩ ⟨hi, hv⟩
 simp only at hi hv ⊢
 have hle := Uf (Za0 m kind phase) (Zfe m kind phase) i
 have step : ∀ x, Za0 m kind phase i = x → (List.range (i + 1)).flatMap (Za0 m kind phase) = (List.range i).flatMap (Za0 m kind phase) ++ x := fun x hx => by rw [Zew, hx]
 by_cases hlt : i < m.w.length
 ·by_cases hid : kind = 3 ∧ (i : Int) = m.id
  ·have e : Za0 m kind phase i = [] := if_neg (by omega)
   repeat' (first | refine uN ?_ | refine Yc S ?_ | (refine uB ?_; intro b) | (refine uP ?_ ?_ <;> (intro h; ((try simp only [zs, ne_eq, and_true, true_and, eq_self, reduceCtorEq] at h); try exact zx))) | refine da 101 ?_ | fail)
   refine Zk (i + 1, v, c) uS (List.Sublist.refl _) ⟨by simp only; omega, ?_⟩ (by simp only; omega)
   simp only
   rw [step _ e, List.append_nil]
   exact hv
  ·have e : Za0 m kind phase i = [⟨m.id, i, m.deal, kind, m.att, false, ⟨phase, 0, 0⟩⟩] := if_pos (by omega)
   repeat' (first | refine uN ?_ | refine Yc S ?_ | (refine uB ?_; intro b) | (refine uP ?_ ?_ <;> (intro h; ((try simp only [zs, ne_eq, and_true, true_and, eq_self, reduceCtorEq] at h); try exact zx))) | refine da 101 ?_ | fail)
   all_goals refine fo 1 ?_
   all_goals refine Zea S ⟨m.id, i, m.deal, kind, m.att, false, ⟨phase, 0, 0⟩⟩ hv Zi Wb ?_
   all_goals intro v' c' hv'
   all_goals repeat' (first | refine uN ?_ | refine Yc S ?_ | (refine uB ?_; intro b) | (refine uP ?_ ?_ <;> (intro h; ((try simp only [zs, ne_eq, and_true, true_and, eq_self, reduceCtorEq] at h); try exact zx))) | refine da 101 ?_ | fail)
   all_goals refine Zk (i + 1, v', c') uS (.cons_cons _ (.cons _ (.refl _))) ⟨by simp only; omega, ?_⟩ (by simp only; omega)
   all_goals simp only
   all_goals rw [step _ e]
   all_goals exact hv'
 ·repeat' (first | refine uN ?_ | refine Yc S ?_ | (refine uB ?_; intro b) | (refine uP ?_ ?_ <;> (intro h; ((try simp only [zs, ne_eq, and_true, true_and, eq_self, reduceCtorEq] at h); try exact zx))) | refine da 101 ?_ | fail)
  have hi2 : i = m.w.length := by omega
  subst hi2
  exact Yi (LS.refl _) ⟨c, hv, rfl⟩
theorem Zhp (lp : Nat) (wv : Value) (wc : List Zq) (m : Ld) (L : Zb) (hm : LdOk wv wc m) : HC Tryz.prog 70 [pt lp 0] (Ql lp wv wc m :: L)
  (fun v L' => ∃ c, Zx v (Xd m) c ∧ L' = c :: Ql lp wv wc m :: L) := by
 have g2 : (Xw wv m)[0 + 2]? = some (iv m.att) := Xp rfl
 unfold Xd
 refine Za (fun _ _ => Tryz.call70 _ _) Tryz.func70 rfl Tryz.ntmps70 (Nat.le_of_ble_eq_true rfl) ?_; simp only [Zc, Nat.reduceAdd]
 repeat' (first | refine uN ?_ | (refine uP ?_ ?_ <;> (intro h; ((try simp only [zs, ne_eq, and_true, true_and, eq_self, reduceCtorEq] at h); try exact zx))) | fail)
 ·refine gc (Zdo lp wv wc m 1 0 L hm) ?_
  rintro v L' ⟨c, hv, rfl⟩
  repeat' (first | refine uN ?_ | (refine uP ?_ ?_ <;> (intro h; ((try simp only [zs, ne_eq, and_true, true_and, eq_self, reduceCtorEq] at h); try exact zx))) | fail)
  exact Yi (LS.refl _) ⟨c, by rw [if_pos h]; exact hv, rfl⟩
 ·refine gc (Zdo lp wv wc m 3 0 L hm) ?_
  rintro v L' ⟨c, hv, rfl⟩
  repeat' (first | refine uN ?_ | (refine uP ?_ ?_ <;> (intro h; ((try simp only [zs, ne_eq, and_true, true_and, eq_self, reduceCtorEq] at h); try exact zx))) | fail)
  exact Yi (LS.refl _) ⟨c, by rw [if_neg h]; exact hv, rfl⟩
theorem LdOk.of {wv : Value} {wc : List Zq} {m m' : Ld} (h : LdOk wv wc m) (e1 : m'.w = m.w) (e2 : m'.told.length = m.told.length) : LdOk wv wc m' := ⟨e1 ▸ h.vec, e2 ▸ h.told, e1 ▸ h.len⟩
theorem Zd7 (lp : Nat) (wv : Value) (wc : List Zq) (m : Ld) (phase : Int) (L : Zb) (hm : LdOk wv wc m) : HC Tryz.prog 129 [pt lp 0, iv phase] (Ql lp wv wc m :: L)
  (fun v L' => ∃ c, Zx v (Zbr (U3 m phase) 5 phase) c ∧ L' = c :: Ql lp wv wc (U3 m phase) :: L) := by
 have p1 : Zt (Xw wv m) (0 + 4) [bs Zf0] (Xw wv { m with state := Zf0 }) := Qp rfl (by decide) rfl rfl rfl
 have p2 : Zt (Xw wv { m with state := Zf0 }) (0 + 5) [iv 6] (Xw wv { m with state := Zf0, wait := 6 }) := Qp rfl (by decide) rfl rfl rfl
 have p3 : Zt (Xw wv { m with state := Zf0, wait := 6 }) (0 + 6) [iv 0] (Xw wv { m with state := Zf0, wait := 6, heard := 0 }) := Qp rfl (by decide) rfl rfl rfl
 have p4 : Zt (Xw wv { m with state := Zf0, wait := 6, heard := 0 }) (0 + 28) [iv phase] (Xw wv (U3 m phase)) := ld_put28 (m := { m with state := Zf0, wait := 6, heard := 0 }) hm.told phase
 have k := Zdo lp wv wc (U3 m phase) 5 phase L (hm.of rfl rfl)
 refine Za (fun _ _ => Tryz.call129 _ _) Tryz.func129 rfl Tryz.ntmps129 (Nat.le_of_ble_eq_true rfl) ?_; simp only [Zc, Nat.reduceAdd]
 repeat' (first | refine uN ?_)
 refine gc k ?_
 rintro v L' ⟨c, hv, rfl⟩
 repeat' (first | refine uN ?_)
 exact Yi (LS.refl _) ⟨c, hv, rfl⟩
theorem Zb2 (lp : Nat) (wv : Value) (wc : List Zq) (m : Ld) (phase : Int) (L : Zb) (hm : LdOk wv wc m) : HC Tryz.prog 130 [pt lp 0, iv phase] (Ql lp wv wc m :: L)
  (fun v L' => ∃ c, Zx v (Zbr (Vh m) 7 phase) c ∧ L' = c :: Ql lp wv wc (Vh m) :: L) := by
 have p1 : Zt (Xw wv m) (0 + 4) [bs Zsy] (Xw wv { m with state := Zsy }) := Qp rfl (by decide) rfl rfl rfl
 have p2 : Zt (Xw wv { m with state := Zsy }) (0 + 5) [iv 0] (Xw wv (Vh m)) := Qp rfl (by decide) rfl rfl rfl
 have k := Zdo lp wv wc (Vh m) 7 phase L (hm.of rfl rfl)
 refine Za (fun _ _ => Tryz.call130 _ _) Tryz.func130 rfl Tryz.ntmps130 (Nat.le_of_ble_eq_true rfl) ?_; simp only [Zc, Nat.reduceAdd]
 repeat' (first | refine uN ?_)
 refine gc k ?_
 rintro v L' ⟨c, hv, rfl⟩
 repeat' (first | refine uN ?_)
 exact Yi (LS.refl _) ⟨c, hv, rfl⟩
theorem no_calls (lp : Nat) (wv : Value) (wc : List Zq) (m : Ld) (L : Zb) (hm : LdOk wv wc m) : HC Tryz.prog 127 [pt lp 0] (Ql lp wv wc m :: L)
  (fun v L' => ∃ c, Zx v (Zwh m).2 c ∧ L' = c :: Ql lp wv wc (Zwh m).1 :: L) := by
 have g5 : (Xw wv m)[0 + 5]? = some (iv m.wait) := Xp rfl
 have p1 : Zt (Xw wv m) (0 + 4) [bs Qg] (Xw wv { m with state := Qg }) := Qp rfl (by decide) rfl rfl rfl
 have p2 : Zt (Xw wv { m with state := Qg }) (0 + 5) [iv 0] (Xw wv { m with state := Qg, wait := 0 }) := Qp rfl (by decide) rfl rfl rfl
 have k := Zb2 lp wv wc m 3 L hm
 unfold Zwh
 refine Za (fun _ _ => Tryz.call127 _ _) Tryz.func127 rfl Tryz.ntmps127 (Nat.le_of_ble_eq_true rfl) ?_; simp only [Zc, Nat.reduceAdd]
 repeat' (first | refine uN ?_ | (refine uP ?_ ?_ <;> (intro h; ((try simp only [zs, ne_eq, and_true, true_and, eq_self, reduceCtorEq] at h); try exact zx))) | fail)
 ·refine gc k ?_
  rintro v L' ⟨c, hv, rfl⟩
  repeat' (first | refine uN ?_ | (refine uP ?_ ?_ <;> (intro h; ((try simp only [zs, ne_eq, and_true, true_and, eq_self, reduceCtorEq] at h); try exact zx))) | fail)
  exact Yi (LS.refl _) ⟨c, by rw [if_pos h]; exact hv, by rw [if_pos h]⟩
 ·refine Yi (L' := [] :: Ql lp wv wc { m with state := Qg, wait := 0 } :: L) (LS.refl _) ⟨[], by rw [if_neg h]; exact Zu, by rw [if_neg h]⟩
theorem Znu (lp : Nat) (wv : Value) (wc : List Zq) (m : Ld) (L : Zb) : HC Tryz.prog 77 [pt lp 0] (Ql lp wv wc m :: L) (fun v L' => v = bs m.state ∧ L' = Ql lp wv wc m :: L) := by
 have g4 : (Xw wv m)[0 + 4]? = some (bs m.state) := Xp rfl
 refine Za (fun _ _ => Tryz.call77 _ _) Tryz.func77 rfl Tryz.ntmps77 (Nat.le_of_ble_eq_true rfl) ?_; simp only [Zc, Nat.reduceAdd]
 repeat' (first | refine uN ?_)
 exact Yi (LS.refl _) ⟨rfl, rfl⟩
theorem Zp3 (lp : Nat) (wv : Value) (wc : List Zq) (m : Ld) (L : Zb) (h : m.told.length = 7) : HC Tryz.prog 191 [pt lp 0] (Ql lp wv wc m :: L) (fun v L' => v = iv m.seen ∧ L' = Ql lp wv wc m :: L) := by
 have g4 := Zn6 (wv := wv) h
 refine Za (fun _ _ => Tryz.call191 _ _) Tryz.func191 rfl Tryz.ntmps191 (Nat.le_of_ble_eq_true rfl) ?_; simp only [Zc, Nat.reduceAdd]
 repeat' (first | refine uN ?_)
 exact Yi (LS.refl _) ⟨rfl, rfl⟩
end Go.HL
end

/-! HLKk -/
section
namespace Go.HL
open Go
set_option linter.unusedVariables false
def calmK : List Oper → Bool
 | [] => true
 | o :: r => bif Zrw o then false else calmK r
section c
variable {P : Program} {n : Nat} {ops : List Oper} {Q : Exit → Z3 → Zb → Prop} {ρ : Z3} {L : Zb}
theorem g_kk {id : Nat} (S : Tab P) (h : HQ P n ops (fun ρ' => Q .normal ρ' L) ops ρ L) (h00 : X6 ρ = true := by exact rfl) (hc : calmK ops = true := by decide +kernel) (hB : Region.lexB .any ops.toArray = true := by decide +kernel) : HW P n (.region id ops.toArray true) Q ρ L := Zpz S hB h
def Znd {α : Type} : List α → List (α × List α)
 | [] => []
 | x :: r => (x, r) :: (Znd r).map fun p => (p.1, x :: p.2)
theorem Zkb {α : Type} : ∀ {a b : List α} {x : α}, (x, a ++ b) ∈ Znd (a ++ x :: b)
 | [], b, x => .head _
 | y :: a, b, x => .tail _ (List.mem_map.2 ⟨(x, a ++ b), Zkb, rfl⟩)
def Zqs (ops : List Oper) (rem : List (Nat × Oper)) : List ((Nat × Oper) × List (Nat × Oper)) := (Znd rem).filter fun p => Zbw ops.length rem p.1.2
theorem hd_all {Ss : List (Nat × Zq)} {rem : List (Nat × Oper)} (h0 : Zqs ops rem ≠ []) (h : ∀ x ∈ Zqs ops rem, HO P n ops (Z4 P n ops Q x.1.1 Ss x.2) [x.1.2] ρ L) : HD P n ops Q Ss rem ρ L := fun hS l hu => by
 obtain ⟨x0, hx0⟩ := List.exists_mem_of_ne_nil _ h0
 have hx1 := List.mem_filter.1 hx0
 have mem_of : ∀ {rem : List (Nat × Oper)} {x : (Nat × Oper) × List (Nat × Oper)}, x ∈ Znd rem → x.1 ∈ rem := by
  intro rem
  induction rem with
  | nil => intro x hx; cases hx
  | cons y r ih =>
   intro x hx
   rcases List.mem_cons.1 hx with rfl | hx
   ·exact .head _
   ·obtain ⟨z, hz, rfl⟩ := List.mem_map.1 hx
    have h8 := ih hz
    exact .tail _ h8
 have hne : rem.length ≠ 0 := fun e => by
  rw [List.eq_nil_of_length_eq_zero e] at hx1
  cases hx1.1
 obtain ⟨m, hm⟩ := Nat.exists_eq_succ_of_ne_zero hne
 rw [hm]
 have hrd := hu.ready (show (x0.1.1, x0.1.2) ∈ rem from mem_of hx1.1) hx1.2
 refine ⟨fun h0 => (by rw [h0] at hrd; cases hrd), fun j hj => ?_⟩
 obtain ⟨o, hmj, hrj⟩ := hu.readyR_of hj
 obtain ⟨a, b, rfl⟩ := List.append_of_mem hmj
 have hx : ((j, o), a ++ b) ∈ Zqs ops (a ++ (j, o) :: b) := List.mem_filter.2 ⟨Zkb, hrj⟩
 have h9 := h _ hx
 simp only at h9
 have hlen : m = (a ++ b).length := by simp at hm ⊢; omega
 subst hlen
 obtain ⟨h1, h2⟩ := (hu.iff j o).1 hmj
 intro kk w ac hs ha
 have h3 := h9 kk w ac hs ha
 unfold wpList at h3
 have hnorm : ∀ e a1 w1, post kk n (Z4 P n ops Q j Ss (a ++ b)) e a1 w1 → e = .normal := fun e a1 w1 hx => by
  obtain ⟨_, _, _, _, hx⟩ := hx
  cases e <;> first | rfl | exact hx.elim
 have fin : ∀ a1 w1, wpList P ops.toArray (post kk n (Z4 P n ops Q j Ss (a ++ b))) [] a1 w1 → ∃ ρ' L', Agr n a1 ρ' ∧ Sat kk w1 L' ∧ Zoj ops j L' Ss ∧ HAny P n ops Q (a ++ b).length (ssF ops j Ss) (l.setIfInBounds j true) ρ' L' := fun a1 w1 hx => by
  obtain ⟨ρ', L', e1, e2, e3, e4⟩ := hx
  refine ⟨ρ', L', e1, e2, e3, e4 (fun s hs => ?_) _ hu.drop⟩
  have := List.mem_filter.1 hs
  exact ssOk_all.1 e3 s this.1 this.2
 unfold wpOp
 rw [show ops.toArray[j]? = some o by simpa using h1]
 simp only
 split
 ·rename_i hw
  rw [if_pos hw] at h3
  rcases h3 with h3 | ⟨_, a1, w1, h3⟩
  ·exact .inl (Oper.wp_mono fin (Zf1 hnorm h3))
  ·cases hnorm _ _ _ h3
 ·rename_i hw
  rw [if_neg hw] at h3
  exact fin _ _ h3
theorem Zne {Ss : List (Nat × Zq)} {rem r1 r2 : List (Nat × Oper)} {i j : Nat} {o p : Oper} (h1 : HO P n ops (Z4 P n ops Q i Ss r1) [o] ρ L) (h2 : HO P n ops (Z4 P n ops Q j Ss r2) [p] ρ L) (hn : Zqs ops rem = [((i, o), r1), ((j, p), r2)] := by exact rfl) : HD P n ops Q Ss rem ρ L := by
 refine hd_all (by rw [hn]; simp) fun x hx => ?_
 rw [hn] at hx
 rcases List.mem_cons.1 hx with rfl | hx
 ·exact h1
 ·rcases List.mem_cons.1 hx with rfl | hx
  ·exact h2
  ·cases hx
end c
end Go.HL
end

/-! HLSl -/
section
namespace Go.HL
open Go
set_option linter.unusedVariables false
set_option linter.unusedSimpArgs false
theorem Zwe (vs : List Value) : ∀ (pre old post : List Value), old.length = vs.length → Zab (pre ++ old ++ post) pre.length vs = pre ++ vs ++ post := by
 intro pre
 induction pre with
 | nil => intro old post h; simpa using Zfr vs old post h
 | cons x r ih => intro old post h; simp only [List.cons_append, List.length_cons, Zbx, ih old post h]
theorem Zka {l vs : List Value} {i : Nat} (h : i + vs.length ≤ l.length) : Zt l i vs (l.take i ++ vs ++ l.drop (i + vs.length)) := by
 refine ⟨?_, h⟩
 have hl : l = l.take i ++ (l.drop i).take vs.length ++ l.drop (i + vs.length) := by
  rw [List.append_assoc, ← List.drop_drop, List.take_append_drop, List.take_append_drop]
 have e : (l.take i).length = i := by simp; omega
 have := Zwe vs (l.take i) ((l.drop i).take vs.length) (l.drop (i + vs.length)) (by simp; omega)
 rw [← hl, e] at this
 exact this.symm
theorem Zrc (pre new rest : List Value) : Gets (pre ++ new ++ rest) pre.length new := fun j v h => by
 have hlt : j < new.length := (List.getElem?_eq_some_iff.1 h).1
 rw [List.append_assoc, List.getElem?_append_right (by omega), Nat.add_sub_cancel_left, List.getElem?_append_left hlt]
 exact h
section q
variable {P : Program} (S : Tab P) {n : Nat} {ops : List Oper} {Q : Exit → Z3 → Zb → Prop} {rest : List Oper} {ρ : Z3} {L : Zb} {ty : TypeId} {pos : String} {af : Array Edge}
theorem qS3 {d : Option Tmp} {g : Option (Nat × Bool)} {t E y0 s0 b0 k1 x1 y1 sz b1 len cap : Nat} {a : Option Addr} {x y z u : Operand} {k k2 k3 : IntKind} {l hh m : Int} (h00 : X6 ρ = true := by exact rfl) (hx : ev ρ x = some (.slice a len cap) := by exact rfl) (hy : ev ρ y = some (.int k l) := by exact rfl) (hz : ev ρ z = some (.int k2 hh) := by exact rfl) (hu : ev ρ u = some (.int k3 m) := by exact rfl)
  (ht : Yl S.ty t = some ⟨5, E, y0, s0, b0⟩ := by exact rfl) (he : Yl S.ty E = some ⟨k1, x1, y1, sz, b1⟩ := by exact rfl) (h : 0 ≤ l ∧ l ≤ hh ∧ hh ≤ m ∧ m ≤ cap := by first | assumption | omega) :
  QOp P ⟨d, .slice t x (some y) (some z) (some u), ty, pos, af, g⟩ ρ L (.slice (cut a m.toNat l.toNat sz) (hh.toNat - l.toNat) (m.toNat - l.toNat)) :=
 Y5 fun ρe he' kc w hs => by
  have hsl := Yz (S.tyI ht) rfl
  have hsize : (sizeOf E).run P w = .ok sz w := Xz (S.tyI he) w
  have e1 := he' x (by simp [Op.operands]) _ hx
  have e2 := he' y (by simp [Op.operands]) _ hy
  have e3 := he' z (by simp [Op.operands]) _ hz
  have e4 := he' u (by simp [Op.operands]) _ hu
  have h1 : (0 : Int) ≤ hh := by omega
  have h2 : (0 : Int) ≤ m := by omega
  have h3 : hh ≤ (m.toNat : Int) := by omega
  have h4 : l ≤ (hh.toNat : Int) := by omega
  have hat : (Instr.sliceAt t (.slice a len cap) (some (.int k l)) (some (.int k2 hh)) (some (.int k3 m))).run P w = .ok (.slice (cut a m.toNat l.toNat sz) (hh.toNat - l.toNat) (m.toNat - l.toNat)) w := by
   unfold Instr.sliceAt
   simp only [Sem.run_bind, run_underlying hsl, Result.andThen_ok]
   unfold Instr.slice
   have g1 : (0 : Int) ≤ m ∧ m ≤ (cap : Int) := ⟨h2, h.2.2.2⟩
   have g2 : (0 : Int) ≤ hh ∧ hh ≤ (m.toNat : Int) := ⟨h1, h3⟩
   have g3 : (0 : Int) ≤ l ∧ l ≤ (hh.toNat : Int) := ⟨h.1, h4⟩
   simp only [Sem.run_bind, run_underlying hsl, Result.andThen_ok, Instr.sliceBounds, Instr.sliceBound, asIntOf, Sem.run_pure, if_pos g1, if_pos g2, if_pos g3, hsize, cut, Option.isSome, if_true]
  simp [execOp, e1, e2, e3, e4, hat]
theorem qCap {d : Option Tmp} {g : Option (Nat × Bool)} {t : Nat} {ti : TyI} {x : Operand} {a : Option Addr} {len cap : Nat} (h00 : X6 ρ = true := by exact rfl) (hx : ev ρ x = some (.slice a len cap) := by exact rfl) (ht : Yl S.ty t = some ti := by exact rfl) (h5 : ti.kind = 5 := by exact rfl) :
  QOp P ⟨d, .call { callee := .builtin .cap, args := #[x], argTypes := #[t] }, ty, pos, af, g⟩ ρ L (iv cap) :=
 Y5 fun ρe he k w hs => by
  have h1 := Yz (S.tyI ht) h5
  simp [execOp, resolve, invoke, builtin, he x (by simp [Op.operands, Call.operands]) _ hx, Builtin.cap_, run_underlying h1, goInt]
theorem Zrn {d t E y0 s0 b0 k1 x1 y1 sz by1 m nn b cap : Nat} {u : Value} {l new : List Value} {x y : Operand}
  (hx : ev ρ x = some (sl b 0 nn cap)) (hy : ev ρ y = some u) (ht : Yl S.ty t = some ⟨5, E, y0, s0, b0⟩) (he : Yl S.ty E = some ⟨k1, x1, y1, sz, by1⟩)
  (hn : Nat.blt d n = true) (hs : Src sz ([(b, .cells ⟨l⟩ E)] :: L) u m new) (h1 : (new.all Value.oneCell') = true) (hroom : nn + m ≤ cap) (hlen : l.length = cap * sz)
  (h : HO P n ops Q rest ((d, sl b 0 (nn + m) cap) :: ρ) ([(b, .cells ⟨l.take (nn * sz) ++ new ++ l.drop (nn * sz + new.length)⟩ E)] :: L)) :
  HO P n ops Q (⟨some d, .call { callee := .builtin .append, args := #[x, y], argTypes := #[t, t] }, ty, pos, af, none⟩ :: rest) ρ ([(b, .cells ⟨l⟩ E)] :: L) := by
 refine U4 rfl rfl hn fun ρe he' k w hsat => ?_
 have hdesc := Yz (S.tyI ht) rfl
 obtain ⟨de, i, hde, hi, -, hisz, hiby⟩ := X5 (S.tyI he)
 simp only at hisz hiby
 have hsize : (sizeOf E).run P w = .ok sz w := Xz (S.tyI he) w
 have hone : ∀ u ∈ new, u.oneCell' = true := fun u hu => List.all_eq_true.1 h1 u hu
 have e1 := he' x (by simp [Op.operands, Call.operands]) _ hx
 have e2 := he' y (by simp [Op.operands, Call.operands]) _ hy
 have hb' : w.heap[b]? = some (.cells ⟨l⟩ E) := hsat.heap Zv
 suffices ∃ w', (Builtin.append_ #[t, t] ty #[sl b 0 nn cap, u]).run P w = .ok (sl b 0 (nn + m) cap) w' ∧ Sat k w' ([(b, .cells ⟨l.take (nn * sz) ++ new ++ l.drop (nn * sz + new.length)⟩ E)] :: L) by
  obtain ⟨w', hr, hs'⟩ := this
  refine ⟨_, w', _, ?_, hs', h⟩
  simp [execOp, resolve, invoke, builtin, e1, e2, hr]
 rcases hs with ⟨a, cap', rfl, rfl, rfl⟩ | ⟨b2, j, cap', l2, F, fr, hm, rfl, hb, hg, hlen2⟩
 ·refine ⟨w, ?_, by simpa using hsat⟩
  have : nn ≤ cap := by omega
  cases a <;> simp [Builtin.append_, run_underlying hdesc, hsize, Builtin.lenOf, Builtin.firstCells, loadCells, loadCellsFrom, this, storeCells]
 ·have hnews : ∀ (q : Nat) (v : Value), new[q]? = some v → w.cell? ((Addr.mk b2 j none).add q) = some v := fun q v hq => by
   rw [W3, hsat.cell hb]; exact hg q v hq
  have hsplit : nn * sz + new.length ≤ l.length := by
   rw [hlen2, hlen, ← Nat.add_mul]
   exact Nat.mul_le_mul_right _ hroom
  have hr := run_append_room (P := P) w t ty E i hdesc hi b nn cap ⟨l⟩ hb' ⟨b2, j, none⟩ m cap' new (by rw [hisz]; exact hlen2) hnews hone hroom (by rw [hisz]; simpa using hsplit)
  rw [hisz] at hr
  refine ⟨_, hr, hsat.upd (o := .cells ⟨l⟩ E) (o' := .cells ⟨l.take (nn * sz) ++ new ++ l.drop (nn * sz + new.length)⟩ E) Vj rfl rfl rfl (setRow_heap w b _ _ E _ hb') (fun q hq => ?_)⟩
  simp only [World.setRow, Array.getElem?_modify]
  rw [if_neg (fun e => hq e.symm)]
theorem Zla (zs : List Value) (m : Nat) (h : (zs.all Value.oneCell') = true) : ∀ v ∈ (List.replicate m zs).flatten, v.oneCell' = true := by
 intro v hv
 obtain ⟨l, hl, hv⟩ := List.mem_flatten.1 hv
 rw [List.eq_of_mem_replicate hl] at hv
 exact List.all_eq_true.1 h v hv
theorem Uj (zs : List Value) (m : Nat) : (Builtin.zeroCells ⟨zs⟩ m).toList = (List.replicate m zs).flatten := by
 have := Q4 zs m
 have e : Builtin.zeroCells ⟨zs⟩ m = madeCells ⟨zs⟩ (m * zs.length) := rfl
 rw [e, this]
theorem o_clear {t E y0 s0 b0 b i m cap : Nat} {z : Value} {zs l : List Value} {x : Operand} {L' : Zb} (hx : ev ρ x = some (sl b i m cap)) (ht : Yl S.ty t = some ⟨5, E, y0, s0, b0⟩) (hz : Yl S.zr E = some z) (hzs : z.cells = ⟨zs⟩) (h1 : (zs.all Value.oneCell') = true)
  (hfit : i + m * zs.length ≤ l.length) (hu : Upd L b (.cells ⟨l⟩ E) (.cells ⟨l.take i ++ (List.replicate m zs).flatten ++ l.drop (i + m * zs.length)⟩ E) L')
  (h : HO P n ops Q rest ρ L') :
  HO P n ops Q (⟨none, .call { callee := .builtin .clear, args := #[x], argTypes := #[t] }, ty, pos, af, none⟩ :: rest) ρ L := by
 refine ho_do rfl rfl fun ρe he k w hs => ?_
 have hdesc := Yz (S.tyI ht) rfl
 have hzero := Q6 (S.zeroI hz) w
 have e1 := he x (by simp [Op.operands, Call.operands]) _ hx
 have hfl : ((List.replicate m zs).flatten).length = m * zs.length := by simp [List.length_flatten, List.map_replicate, List.sum_replicate_nat]
 have hp : Zt l i (List.replicate m zs).flatten (l.take i ++ (List.replicate m zs).flatten ++ l.drop (i + m * zs.length)) := by
  have := Zka (l := l) (i := i) (vs := (List.replicate m zs).flatten) (by rw [hfl]; exact hfit)
  rw [hfl] at this
  exact this
 obtain ⟨hp1, hp2⟩ := hp
 obtain ⟨w', e3, e4, e5, et, e6, e7⟩ := Zb8 (P := P) (k := k) ((List.replicate m zs).flatten) i 0 l w (hs.heap hu.has) rfl (by simpa using hp2) (Zla zs m h1)
 by_cases hm : m = 0
 ·subst hm
  refine ⟨w, L', .inr ⟨.tuple #[], ?_⟩, ?_, h⟩
  ·simp [execOp, resolve, invoke, builtin, e1, Builtin.clear_, run_underlying hdesc]
  ·refine hs.upd hu rfl rfl rfl ?_ (fun _ _ => rfl)
   simpa using hs.heap hu.has
 ·refine ⟨w', L', .inr ⟨.tuple #[], ?_⟩, hs.upd hu e4 e5 et (by rw [e6, hp1, Nat.add_zero]) e7, h⟩
  ·obtain ⟨m', rfl⟩ : ∃ m', m = m' + 1 := ⟨m - 1, by omega⟩
   have hr : (Builtin.clear_ #[t] ty #[sl b i (m' + 1) cap]).run P w = .ok (.tuple #[]) w' := by
    simp only [Builtin.clear_]
    simp only [List.getElem?_toArray, List.getElem?_cons_zero, Sem.run_bind, run_underlying hdesc, Result.andThen_ok]
    simp only [hzero, Result.andThen_ok, hzs, Uj, e3, Sem.run_pure, Sem.run_bind]
   simp [execOp, resolve, invoke, builtin, e1, hr]
theorem Zh2 {d t t2 E y0 s0 b0 k1 x1 y1 sz by1 b i len cap ns cap2 k0 : Nat} {a : Option Addr} {l new : List Value} {x y : Operand} {L' : Zb} (hx : ev ρ x = some (sl b i len cap)) (hy : ev ρ y = some (.slice a ns cap2)) (ht : Yl S.ty t = some ⟨5, E, y0, s0, b0⟩) (he : Yl S.ty E = some ⟨k1, x1, y1, sz, by1⟩) (hn : Nat.blt d n = true)
  (hk : k0 = Nat.min ns len) (hlen : new.length = k0 * sz) (h1 : (new.all Value.oneCell') = true) (hs : k0 = 0 ∨ ∃ b2 j l2 F fr, a = some ⟨b2, j, none⟩ ∧ Has L b2 (.cells ⟨l2⟩ F fr) ∧ Gets l2 j new)
  (hfit : i + new.length ≤ l.length) (hu : Upd L b (.cells ⟨l⟩ E) (.cells ⟨l.take i ++ new ++ l.drop (i + new.length)⟩ E) L')
  (h : HO P n ops Q rest ((d, iv k0) :: ρ) L') :
  HO P n ops Q (⟨some d, .call { callee := .builtin .copy, args := #[x, y], argTypes := #[t, t2] }, ty, pos, af, none⟩ :: rest) ρ L :=
 U4 rfl rfl hn fun ρe he' kc w hsat => by
  have hdesc := Yz (S.tyI ht) rfl
  have hsize : (sizeOf E).run P w = .ok sz w := Xz (S.tyI he) w
  have e1 := he' x (by simp [Op.operands, Call.operands]) _ hx
  have e2 := he' y (by simp [Op.operands, Call.operands]) _ hy
  obtain ⟨hp1, hp2⟩ := Zka (l := l) (i := i) (vs := new) hfit
  obtain ⟨w', e3, e4, e5, et, e6, e7⟩ := Zb8 (P := P) (k := kc) new i 0 l w (hsat.heap hu.has) rfl (by simpa using hp2) (fun v hv => List.all_eq_true.1 h1 v hv)
  have hcells : (Builtin.firstCells sz k0 (.slice a ns cap2)).run P w = .ok ⟨new⟩ w := by
   rcases hs with h0 | ⟨b2, j, l2, F, fr, rfl, hb, hg⟩
   ·subst h0
    have : new = [] := List.eq_nil_of_length_eq_zero (by simpa using hlen)
    subst this
    cases a <;> simp [Builtin.firstCells, loadCells, loadCellsFrom]
   ·have hnews : ∀ (q : Nat) (v : Value), new[q]? = some v → w.cell? ((Addr.mk b2 j none).add q) = some v := fun q v hq => by
     rw [W3, hsat.cell hb]; exact hg q v hq
    have := run_firstCells_some (P := P) w sz k0 ⟨b2, j, none⟩ ns cap2 new hlen hnews
    simpa using this
  refine ⟨_, w', L', ?_, hsat.upd hu e4 e5 et (by rw [e6, hp1, Nat.add_zero]) e7, h⟩
  have hr : (Builtin.copy_ #[t, t2] ty #[sl b i len cap, .slice a ns cap2]).run P w = .ok (iv k0) w' := by
   simp only [Builtin.copy_]
   simp only [List.getElem?_toArray, List.getElem?_cons_zero, List.getElem?_cons_succ, Sem.run_bind, run_underlying hdesc, Result.andThen_ok]
   simp only [Builtin.lenOf, Sem.run_pure, Result.andThen_ok, hsize, ← hk, hcells, e3, goInt]
  simp [execOp, resolve, invoke, builtin, e1, e2, hr]
theorem Zp8 {d t E y0 s0 b0 k1 x1 y1 sz by1 : Nat} (ht : Yl S.ty t = some ⟨5, E, y0, s0, b0⟩) (he : Yl S.ty E = some ⟨k1, x1, y1, sz, by1⟩) (hn : Nat.blt d n = true)
  (h : ∀ b, HO P n ops Q rest ((d, sl b 0 0 0) :: ρ) ([(b, .cells ⟨[]⟩ E)] :: L)) : HO P n ops Q (⟨some d, .buildSlice t 0 #[], ty, pos, af, none⟩ :: rest) ρ L := by
 refine U4 rfl rfl hn fun ρe he' k w hs => ⟨sl w.heap.size 0 0 0, w.alloc (.cells ⟨[]⟩ E), _, ?_, hs.new _, h _⟩
 have hdesc := Yz (S.tyI ht) rfl
 have hsize : (sizeOf E).run P w = .ok sz w := Xz (S.tyI he) w
 have hbs : (Instr.buildSlice t 0 #[]).run P w = .ok (sl w.heap.size 0 0 0) (w.alloc (.cells ⟨[]⟩ E)) := by
  simp only [Instr.buildSlice]
  have e0 : Array.range 0 = #[] := rfl
  simp [run_underlying hdesc, hsize, Instr.fill, newRow, e0]
 simp [execOp, hbs]
theorem Zse {d t t2 E y0 s0 b0 k1 x1 y1 sz by1 nn m b cap : Nat} {ti2 : TyI} {z : Value} {zs l : List Value} {x y : Operand}
  (hx : ev ρ x = some (sl b 0 nn cap)) (hy : ev ρ y = some (iv m)) (ht : Yl S.ty t = some ⟨5, E, y0, s0, b0⟩) (he : Yl S.ty E = some ⟨k1, x1, y1, sz, by1⟩) (ht2 : Yl S.ty t2 = some ti2) (hi2 : ti2.kind = 2) (hu2 : ti2.x = 3) (hz : Yl S.zr E = some z) (hzs : z.cells = ⟨zs⟩) (hzl : zs.length = sz)
  (hn : Nat.blt d n = true) (hb : Has L b (.cells ⟨l⟩ E)) (hnn : nn * sz ≤ l.length) (hgrow : cap < nn + m) (hby : (nn + m) * by1 ≤ 140737488355328) (hmax : nn + m ≤ 9223372036854775807)
  (h : ∀ b' cap', nn + m ≤ cap' → HO P n ops Q rest ((d, sl b' 0 (nn + m) cap') :: ρ) ([(b', .cells ⟨l.take (nn * sz) ++ (List.replicate (cap' - nn) zs).flatten⟩ E)] :: L)) :
  HO P n ops Q (⟨some d, .call { callee := .builtin .append, args := #[x, y], argTypes := #[t, t2] }, ty, pos, af, none⟩ :: rest) ρ L := by
 refine U4 rfl rfl hn fun ρe he' k w hsat => ?_
 have hdesc := Yz (S.tyI ht) rfl
 have hint : P.underlying t2 = some (.int .i64) := by
  obtain ⟨a1, a2, a3, a4, a5⟩ := ti2
  subst hi2; subst hu2
  exact Zgv (S.tyI ht2) rfl
 obtain ⟨de, i, hde, hi, -, hisz, hiby⟩ := X5 (S.tyI he)
 simp only at hisz hiby
 have hiz : i.zero = some z := by
  have := S.zeroI hz
  unfold zeroI at this
  simpa [hi] using this
 have e1 := he' x (by simp [Op.operands, Call.operands]) _ hx
 have e2 := he' y (by simp [Op.operands, Call.operands]) _ hy
 have hcap := Zcx w (nn + m) cap E
 have holds : ∀ (q : Nat) (v : Value), (l.take (nn * sz))[q]? = some v → w.cell? ((Addr.mk b 0 none).add q) = some v := fun q v hq => by
  rw [W3, hsat.cell hb, Nat.zero_add]
  rw [List.getElem?_take] at hq
  split at hq
  ·exact hq
  ·cases hq
 have hfo := run_firstCells_some (P := P) w.drew sz nn ⟨b, 0, none⟩ nn cap (l.take (nn * sz)) (by simp; omega) (by simpa using holds)
 have hm1 : IntKind.i64.wrap (m : Int) = m := Zdq (by omega)
 have hm2 : ¬ ((m : Int) < 0) := by omega
 have hfit : ¬ (281474976710656 < Builtin.nextslicecap (nn + m) cap * i.bytes) := by
  rw [hiby]
  have := growslice_fits (need := nn + m) (old := cap) (by omega) hby
  omega
 have hmby : ¬ (281474976710656 < (m : Int) * (i.bytes : Int)) := by
  rw [hiby]
  have : m * by1 ≤ (nn + m) * by1 := Nat.mul_le_mul_right _ (by omega)
  have h3 : ((m * by1 : Nat) : Int) = (m : Int) * (by1 : Int) := by push_cast; rfl
  omega
 have hn2 : ¬ (nn + m ≤ cap) := by omega
 have h63 : ¬ (9223372036854775807 < ((nn : Int) + (m : Int))) := by omega
 have hnew : (Builtin.zeroCells ⟨zs⟩ m).toList ++ (Builtin.zeroCells ⟨zs⟩ (grownCap w (nn + m) cap E - (nn + m))).toList = (List.replicate (grownCap w (nn + m) cap E - nn) zs).flatten := by
  rw [Uj, Uj, ← List.flatten_append, List.replicate_append_replicate]
  congr 2
  omega
 refine ⟨sl w.heap.size 0 (nn + m) (grownCap w (nn + m) cap E), w.drew.alloc (.cells ⟨l.take (nn * sz) ++ (List.replicate (grownCap w (nn + m) cap E - nn) zs).flatten⟩ E), _, ?_, hsat.drew.new _, h _ _ hcap⟩
 have hm0 : m * sz = 0 → (Builtin.zeroCells ⟨zs⟩ m) = #[] := fun h0 => by
  apply Array.ext'
  rw [Uj]
  apply List.eq_nil_of_length_eq_zero
  simp [List.length_flatten, List.map_replicate, List.sum_replicate_nat, hzl, h0]
 have hr : (Builtin.append_ #[t, t2] ty #[sl b 0 nn cap, iv m]).run P w = .ok (sl w.heap.size 0 (nn + m) (grownCap w (nn + m) cap E)) (w.drew.alloc (.cells ⟨l.take (nn * sz) ++ (List.replicate (grownCap w (nn + m) cap E - nn) zs).flatten⟩ E)) := by
  rw [← hnew]
  by_cases h0 : m * i.size = 0
  ·have hz0 := hm0 (by rw [← hisz]; exact h0)
   simp [Builtin.append_, run_underlying hdesc, run_underlying hint, sizeOf, typeInfo, zeroValue, hi, hiz, hn2, h63, hfit, hmby, hm1, hm2, Question.forced, hisz, hfo, newRow, grownCap, asInt, asIntOf, iv, hzs, hisz ▸ h0, hz0]
   congr 2
   apply Array.ext'
   simp [List.append_assoc]
  ·simp [Builtin.append_, run_underlying hdesc, run_underlying hint, sizeOf, typeInfo, zeroValue, hi, hiz, hn2, h63, hfit, hmby, hm1, hm2, Question.forced, hisz, hfo, newRow, grownCap, asInt, asIntOf, iv, hzs, hisz ▸ h0]
   congr 2
   apply Array.ext'
   simp [List.append_assoc]
 simp [execOp, resolve, invoke, builtin, e1, e2, hr]
end q
end Go.HL
end

/-! WoA -/
section
namespace Go.HL
open Go Go.Proofs
set_option linter.unusedVariables false
set_option linter.unusedSimpArgs false
structure Evt where
 site : Int
 deal : Int
 ph : Int
deriving DecidableEq
def ec (e : Evt) : List Value := [iv e.site, iv e.deal, iv e.ph]
theorem Vg (e : Evt) : (ec e).length = 3 := rfl
theorem Zoi (e : Evt) : (ec e).all Value.oneCell' = true := rfl
theorem Zvy {E sz b : Nat} : Own E sz (sl b 0 0 0) 0 [] [(b, .cells ⟨[]⟩ E)] := .inr ⟨b, 0, [], rfl, rfl, by simp, by omega, by simp⟩
theorem Zgj {α : Type} {E sz b : Nat} {enc : α → List Value} : Vec E sz enc (sl b 0 0 0) [] [(b, .cells ⟨[]⟩ E)] := Zvy
set_option maxHeartbeats 2000000 attribute [local irreducible] HW HO HQ HD HC QOp Has Upd Zt Gets Yb Z6 Zr Xr Z4 Zm Xx Zy
theorem Zmx (v : Value) (xs : List Fr) (c : List Zq) (L : Zb) (hv : Zx v xs c) (hl : xs.length ≤ 100000000) : HC Tryz.prog 71 [v] (c :: L)
  (fun u L' => ∃ c', Zx u xs c' ∧ L' = c' :: c :: L) := by
 have hv0 := hv
 obtain ⟨a, cap, rfl, hcap, hR⟩ := hv.rd Zi
 rcases hv with ⟨he, h0, h1, rfl⟩ | ⟨b, cap2, sp, he, rfl, hcs, hle, hall⟩
 ·obtain rfl : xs = [] := List.eq_nil_of_length_eq_zero (by assumption)
  obtain ⟨rfl, -, rfl⟩ := Value.slice.inj he
  simp only [List.length_nil] at hv0 ⊢
  refine Za (fun _ _ => Tryz.call71 _ _) Tryz.func71 rfl Tryz.ntmps71 (Nat.le_of_ble_eq_true rfl) ?_; simp only [Zc, Nat.reduceAdd]
  repeat' (first | refine uN ?_ | (refine uB ?_; intro b) | (refine uP ?_ ?_ <;> (intro h; ((try simp only [zs, ne_eq, and_true, true_and, eq_self, reduceCtorEq] at h); try exact zx))) | fail)
  exact Yi (L' := [] :: [] :: L) (LS.of_eq rfl) ⟨[], Zu, rfl⟩
 ·have hpos : b = b := rfl
  obtain ⟨rfl, -, rfl⟩ := Value.slice.inj he
  refine Za (fun _ _ => Tryz.call71 _ _) Tryz.func71 rfl Tryz.ntmps71 (Nat.le_of_ble_eq_true rfl) ?_; simp only [Zc, Nat.reduceAdd]
  repeat' (first | refine uN ?_ | (refine uB ?_; intro b) | (refine uP ?_ ?_ <;> (intro h; ((try simp only [zs, ne_eq, and_true, true_and, eq_self, reduceCtorEq] at h); try exact zx))) | fail)
  refine Zp8 S rfl rfl rfl (fun nb => ?_)
  repeat' (first | refine uN ?_ | (refine uB ?_; intro b) | (refine uP ?_ ?_ <;> (intro h; ((try simp only [zs, ne_eq, and_true, true_and, eq_self, reduceCtorEq] at h); try exact zx))) | fail)
  refine Ztl S (ys := xs) Zgj (Rd.cons (hR L) _) Zi Wb ?_ (hby := by simp only [List.length_nil]; omega) (hmax := by simp only [List.length_nil]; omega)
  intro v' c' hv'
  repeat' (first | refine uN ?_ | (refine uB ?_; intro b) | (refine uP ?_ ?_ <;> (intro h; ((try simp only [zs, ne_eq, and_true, true_and, eq_self, reduceCtorEq] at h); try exact zx))) | fail)
  exact Yi (LS.refl _) ⟨c', by simpa using hv', rfl⟩
theorem Zm3 (v : Value) (xs : List Evt) (c : List Zq) (L : Zb) (hv : Vec 81 3 ec v xs c) (hl : xs.length ≤ 100000000) : HC Tryz.prog 78 [v] (c :: L)
  (fun u L' => ∃ c', Vec 81 3 ec u xs c' ∧ L' = c' :: c :: L) := by
 have hv0 := hv
 obtain ⟨a, cap, rfl, hcap, hR⟩ := hv.rd Vg
 rcases hv with ⟨he, h0, h1, rfl⟩ | ⟨b, cap2, sp, he, rfl, hcs, hle, hall⟩
 ·obtain rfl : xs = [] := List.eq_nil_of_length_eq_zero (by assumption)
  obtain ⟨rfl, -, rfl⟩ := Value.slice.inj he
  simp only [List.length_nil] at hv0 ⊢
  refine Za (fun _ _ => Tryz.call78 _ _) Tryz.func78 rfl Tryz.ntmps78 (Nat.le_of_ble_eq_true rfl) ?_; simp only [Zc, Nat.reduceAdd]
  repeat' (first | refine uN ?_ | (refine uB ?_; intro b) | (refine uP ?_ ?_ <;> (intro h; ((try simp only [zs, ne_eq, and_true, true_and, eq_self, reduceCtorEq] at h); try exact zx))) | fail)
  exact Yi (L' := [] :: [] :: L) (LS.of_eq rfl) ⟨[], Zu, rfl⟩
 ·have hpos : b = b := rfl
  obtain ⟨rfl, -, rfl⟩ := Value.slice.inj he
  refine Za (fun _ _ => Tryz.call78 _ _) Tryz.func78 rfl Tryz.ntmps78 (Nat.le_of_ble_eq_true rfl) ?_; simp only [Zc, Nat.reduceAdd]
  repeat' (first | refine uN ?_ | (refine uB ?_; intro b) | (refine uP ?_ ?_ <;> (intro h; ((try simp only [zs, ne_eq, and_true, true_and, eq_self, reduceCtorEq] at h); try exact zx))) | fail)
  refine Zp8 S rfl rfl rfl (fun nb => ?_)
  repeat' (first | refine uN ?_ | (refine uB ?_; intro b) | (refine uP ?_ ?_ <;> (intro h; ((try simp only [zs, ne_eq, and_true, true_and, eq_self, reduceCtorEq] at h); try exact zx))) | fail)
  refine Ztl S (ys := xs) Zgj (Rd.cons (hR L) _) Vg Zoi ?_ (hby := by simp only [List.length_nil]; omega) (hmax := by simp only [List.length_nil]; omega)
  intro v' c' hv'
  repeat' (first | refine uN ?_ | (refine uB ?_; intro b) | (refine uP ?_ ?_ <;> (intro h; ((try simp only [zs, ne_eq, and_true, true_and, eq_self, reduceCtorEq] at h); try exact zx))) | fail)
  exact Yi (LS.refl _) ⟨c', by simpa using hv', rfl⟩
theorem Zsj (v : Value) (xs : List Int) (c : List Zq) (L : Zb) (hv : Vec 3 1 ic v xs c) (hl : xs.length ≤ 100000000) : HC Tryz.prog 63 [v] (c :: L)
  (fun u L' => ∃ c', Vec 3 1 ic u xs c' ∧ L' = c' :: c :: L) := by
 have hv0 := hv
 obtain ⟨a, cap, rfl, hcap, hR⟩ := hv.rd Xu
 rcases hv with ⟨he, h0, h1, rfl⟩ | ⟨b, cap2, sp, he, rfl, hcs, hle, hall⟩
 ·obtain rfl : xs = [] := List.eq_nil_of_length_eq_zero (by assumption)
  obtain ⟨rfl, -, rfl⟩ := Value.slice.inj he
  simp only [List.length_nil] at hv0 ⊢
  refine Za (fun _ _ => Tryz.call63 _ _) Tryz.func63 rfl Tryz.ntmps63 (Nat.le_of_ble_eq_true rfl) ?_; simp only [Zc, Nat.reduceAdd]
  repeat' (first | refine uN ?_ | (refine uB ?_; intro b) | (refine uP ?_ ?_ <;> (intro h; ((try simp only [zs, ne_eq, and_true, true_and, eq_self, reduceCtorEq] at h); try exact zx))) | fail)
  exact Yi (L' := [] :: [] :: L) (LS.of_eq rfl) ⟨[], Zu, rfl⟩
 ·have hpos : b = b := rfl
  obtain ⟨rfl, -, rfl⟩ := Value.slice.inj he
  refine Za (fun _ _ => Tryz.call63 _ _) Tryz.func63 rfl Tryz.ntmps63 (Nat.le_of_ble_eq_true rfl) ?_; simp only [Zc, Nat.reduceAdd]
  repeat' (first | refine uN ?_ | (refine uB ?_; intro b) | (refine uP ?_ ?_ <;> (intro h; ((try simp only [zs, ne_eq, and_true, true_and, eq_self, reduceCtorEq] at h); try exact zx))) | fail)
  refine Ztl S (ys := xs) Zgj (Rd.cons (hR L) _) Xu Zgq ?_ (hby := by simp only [List.length_nil]; omega) (hmax := by simp only [List.length_nil]; omega)
  intro v' c' hv'
  repeat' (first | refine uN ?_ | (refine uB ?_; intro b) | (refine uP ?_ ?_ <;> (intro h; ((try simp only [zs, ne_eq, and_true, true_and, eq_self, reduceCtorEq] at h); try exact zx))) | fail)
  exact Yi (LS.refl _) ⟨c', by simpa using hv', rfl⟩
def fzero : List Value := [iv 0, iv 0, iv 0, iv 0, iv 0, .bool false, iv 0, iv 0, iv 0]
theorem Zpc {α : Type} {enc : α → List Value} {sz : Nat} (hsz : ∀ x, (enc x).length = sz) (xs : List α) (sp : List Value) (i : Nat) (h : i ≤ xs.length) : ((xs.map enc).flatten ++ sp).take (i * sz) = ((xs.take i).map enc).flatten := by
 have e : (xs.map enc).flatten = ((xs.take i).map enc).flatten ++ ((xs.drop i).map enc).flatten := by rw [← List.flatten_append, ← List.map_append, List.take_append_drop]
 rw [e, List.append_assoc]
 exact take_left (by rw [Yy hsz, List.length_take, Nat.min_eq_left h])
theorem Zgs {b i cap l sz : Nat} (h : l < cap) : cut (some ⟨b, i, none⟩) cap l sz = some ⟨b, i + l * sz, none⟩ := by
 unfold cut
 rw [if_neg (by omega)]
 simp [W3]
theorem Zfd (v : Value) (xs : List Fr) (c : List Zq) (i j : Int) (L : Zb) (hv : Zx v xs c) (hl : xs.length ≤ 100000000) (h0 : 0 ≤ i) (h1 : i < xs.length) (hj : j = i + 1) : HC Tryz.prog 73 [v, iv i, iv j] (c :: L)
  (fun u L' => ∃ c', Zx u (xs.eraseIdx i.toNat) c' ∧ L' = c' :: L) := by
 subst hj
 obtain ⟨a, cap, rfl, hcap, hR⟩ := hv.rd Zi
 rcases hv with ⟨he, he0, -, rfl⟩ | ⟨b, cap2, sp, he, rfl, hcs, hle, hall⟩
 ·omega
 obtain ⟨rfl, -, rfl⟩ := Value.slice.inj he
 have hsrc := fun M => Zf9 (enc := fc) (sz := 9) Zi (cap := cap - (i + 1).toNat) ((hR M).drop (l := (i + 1).toNat) hcap)
 rw [List.length_drop] at hsrc
 have hone := Zb0 (enc := fc) Wb (xs.drop (i + 1).toNat)
 have hcut := Zpc Zi xs sp i.toNat (by omega)
 have hlen : ((xs.map fc).flatten ++ sp).length = cap * 9 := hall
 generalize hm : xs.length - (i + 1).toNat = m at hsrc
 have hm2 : i.toNat + m + 1 = xs.length := by omega
 have hnl : (((xs.drop (i + 1).toNat).map fc).flatten).length = m * 9 := by rw [Yy Zi, List.length_drop, hm]
 have hE : ((xs.take i.toNat).map fc).flatten ++ ((xs.drop (i + 1).toNat).map fc).flatten = ((xs.eraseIdx i.toNat).map fc).flatten := by
  rw [List.eraseIdx_eq_take_drop_succ, List.map_append, List.flatten_append]
  congr 4
  omega
 have hel : (xs.eraseIdx i.toNat).length = i.toNat + m := by rw [List.length_eraseIdx]; split <;> omega
 refine Za (fun _ _ => Tryz.call73 _ _) Tryz.func73 rfl Tryz.ntmps73 (Nat.le_of_ble_eq_true rfl) ?_; simp only [Zc, Nat.reduceAdd]
 repeat' (first | refine uN ?_ | refine Yc S ?_ | (refine uP ?_ ?_ <;> (intro h; ((try simp only [zs, ne_eq, and_true, true_and, eq_self, reduceCtorEq] at h); try exact zx))) | refine da 101 ?_ | fail)
 refine We (qS3 S) ?_
 repeat' (first | refine uN ?_ | refine Yc S ?_ | (refine uP ?_ ?_ <;> (intro h; ((try simp only [zs, ne_eq, and_true, true_and, eq_self, reduceCtorEq] at h); try exact zx))) | refine da 101 ?_ | fail)
 have e1 : xs.length - (i + 1).toNat = m := hm
 rw [e1]
 refine Zrn S rfl rfl rfl rfl rfl (hsrc L) hone (by omega) hlen ?_
 rw [hcut, hE]
 generalize hsp : List.drop (i.toNat * 9 + (((xs.drop (i + 1).toNat).map fc).flatten).length) ((xs.map fc).flatten ++ sp) = spa
 have hsl : spa.length = (cap - (i.toNat + m)) * 9 := by rw [← hsp, List.length_drop, hlen, hnl]; omega
 repeat' (first | refine uN ?_ | refine Yc S ?_ | (refine uP ?_ ?_ <;> (intro h; ((try simp only [zs, ne_eq, and_true, true_and, eq_self, reduceCtorEq] at h); try exact zx))) | refine da 101 ?_ | fail)
 have e2 : cut (some ⟨b, 0, none⟩) cap (((i.toNat + m : Nat) : Int)).toNat 9 = some ⟨b, (i.toNat + m) * 9, none⟩ := by rw [Int.toNat_natCast]; simpa using Zgs (b := b) (i := 0) (cap := cap) (l := i.toNat + m) (sz := 9) (by omega)
 have e3 : ((xs.length : Nat) : Int).toNat - (((i.toNat + m : Nat) : Int)).toNat = 1 := by omega
 have hfl : ((xs.eraseIdx i.toNat).map fc).flatten.length = (i.toNat + m) * 9 := by rw [Yy Zi, hel]
 have hfit : (i.toNat + m) * 9 + 1 * fzero.length ≤ (((xs.eraseIdx i.toNat).map fc).flatten ++ spa).length := by
  rw [List.length_append, hfl, hsl]
  show _ + 1 * 9 ≤ _
  omega
 refine o_clear S (b := b) (i := (i.toNat + m) * 9) (m := 1) (cap := cap - (((i.toNat + m : Nat) : Int)).toNat) (zs := fzero) ?_ rfl rfl rfl rfl hfit Vj ?_
 ·show some (Value.slice (cut _ _ _ 9) _ _) = _
  rw [e2, e3]
 have e4 : (((xs.eraseIdx i.toNat).map fc).flatten ++ spa).take ((i.toNat + m) * 9) = ((xs.eraseIdx i.toNat).map fc).flatten := take_left hfl
 rw [e4]
 generalize hsp2 : List.drop ((i.toNat + m) * 9 + 1 * fzero.length) (((xs.eraseIdx i.toNat).map fc).flatten ++ spa) = spb
 have hs2 : spb.length + 9 = (cap - (i.toNat + m)) * 9 := by
  rw [← hsp2, List.length_drop, List.length_append, hfl, hsl]
  show _ - (_ + 1 * 9) + 9 = _
  omega
 repeat' (first | refine uN ?_ | refine Yc S ?_ | (refine uP ?_ ?_ <;> (intro h; ((try simp only [zs, ne_eq, and_true, true_and, eq_self, reduceCtorEq] at h); try exact zx))) | refine da 101 ?_ | fail)
 have hfz : ((List.replicate 1 fzero).flatten).length = 9 := rfl
 refine Yi (LS.refl _) ⟨_, .inr ⟨b, cap, (List.replicate 1 fzero).flatten ++ spb, by rw [hel], by rw [List.append_assoc], by rw [hfl, hel], by omega, ?_⟩, rfl⟩
 rw [List.length_append, List.length_append, hfl, hfz]
 omega
theorem Zr1 {ρ : Z3} {L : Zb} {d : Option Tmp} {g : Option (Nat × Bool)} {ty : TypeId} {pos : String} {af : Array Edge} {x y : Operand} {la ca lb cb a b i : Nat} {l l2 : List Value} {ts : Array TypeId} (hx : ev ρ x = some (sl a 0 la ca)) (hy : ev ρ y = some (sl b i lb cb)) (ha : Has L a (.cells ⟨l⟩ 131 (0, 0))) (hb : Has L b (.cells ⟨l2⟩ 131 (0, 0))) (hne : a ≠ b) (hl2 : l2.length ≠ 0) :
  QOp Tryz.prog ⟨d, .call { callee := .value (.func 199), args := #[x, y], argTypes := ts }, ty, pos, af, g⟩ ρ L (.bool false) :=
 Y5 fun ρe he k w hs => by
  have h1 := hs.heap ha
  have h2 := hs.heap hb
  have e1 := he x (by simp [Op.operands, Call.operands]) _ hx
  have e2 := he y (by simp [Op.operands, Call.operands]) _ hy
  have hT := Yz (S.tyI (t := 34) rfl) rfl
  have hz : ∀ w, (Go.sizeOf 131).run Tryz.prog w = .ok 9 w := fun w => Xz (S.tyI (t := 131) rfl) w
  have hr : (callFunc 199 #[sl a 0 la ca, sl b i lb cb]).run Tryz.prog w = .ok (.value (.bool false)) w := by
   rw [run_callFunc_extern Tryz.func199 (by kernel_rfl) (by kernel_rfl) (by kernel_rfl) (e := Extern.SlicesOverlaps.overlaps #[34, 34] #[4]) (by kernel_rfl),
    Lib.run_overlaps_apart w 34 4 131 hT 9 hz ⟨a, 0, none⟩ ⟨b, i, none⟩ la ca lb cb hne 131 131 l.length l2.length (by simp [World.shape?, h1]) (by simp [World.shape?, h2]) hl2 (frozen_of_row w a _ ⟨l⟩ _ h1) (frozen_of_row w a _ ⟨l⟩ _ h1)]
   rfl
  have e3 := he (.func 199) (by simp [Op.operands, Call.operands]) (.func (.func 199) #[] #[]) rfl
  simp [execOp, resolve, invoke, Deferred.ofValue, e1, e2, e3, hr]
theorem Zt7 {xs : List Fr} {e : Fr} {b cap k : Nat} {R : List Value} (hk : k ≤ xs.length) (hc : xs.length + 1 ≤ cap) (hR : R.length + (xs.length + 1) * 9 = cap * 9) :
  Zx (sl b 0 (xs.length + 1) cap) (xs.take k ++ e :: xs.drop k) [(b, .cells ⟨((xs.take k).map fc).flatten ++ fc e ++ ((xs.drop k).map fc).flatten ++ R⟩ 131)] := by
 have hl : (xs.take k ++ e :: xs.drop k).length = xs.length + 1 := by simp; omega
 have hf : (((xs.take k ++ e :: xs.drop k).map fc).flatten) = ((xs.take k).map fc).flatten ++ fc e ++ ((xs.drop k).map fc).flatten := by simp [List.append_assoc]
 refine .inr ⟨b, cap, R, by rw [hl], by rw [hf], by rw [Yy Zi], by omega, ?_⟩
 rw [List.length_append, Yy Zi, hl]
 omega
theorem Znt (v : Value) (xs : List Fr) (c : List Zq) (i : Int) (e : Fr) (eb : Nat) (L : Zb) (hv : Zx v xs c) (hl : xs.length ≤ 100000000) (h0 : 1 ≤ i) (h1 : i ≤ xs.length) (hne : ∀ b o, (b, o) ∈ c → eb ≠ b) : HC Tryz.prog 152 [v, iv i, sl eb 0 1 1] (c :: [(eb, .cells ⟨fc e⟩ 131)] :: L)
  (fun u L' => ∃ c', Zx u (xs.take i.toNat ++ e :: xs.drop i.toNat) c' ∧ L' = c' :: [(eb, .cells ⟨fc e⟩ 131)] :: L) := by
 have hv0 := hv
 obtain ⟨a, cap, rfl, hcap, hR⟩ := hv.rd Zi
 rcases hv with ⟨he, he0, -, rfl⟩ | ⟨b, cap2, sp, he, rfl, hcs, hle, hall⟩
 ·omega
 obtain ⟨rfl, -, rfl⟩ := Value.slice.inj he
 have hlen : ((xs.map fc).flatten ++ sp).length = cap * 9 := hall
 by_cases hin : i = xs.length
 ·have e9 : xs.take i.toNat ++ e :: xs.drop i.toNat = xs ++ [e] := by
   rw [List.take_of_length_le (by omega), List.drop_of_length_le (by omega)]
  rw [e9]
  refine Za (fun _ _ => Tryz.call152 _ _) Tryz.func152 rfl Tryz.ntmps152 (Nat.le_of_ble_eq_true rfl) ?_; simp only [Zc, Nat.reduceAdd]
  repeat' (first | refine uN ?_ | refine Yc S ?_ | (refine uP ?_ ?_ <;> (intro h; ((try simp only [zs, ne_eq, and_true, true_and, eq_self, reduceCtorEq] at h); try exact zx))) | refine da 101 ?_ | fail)
  refine Zea S e hv0 Zi Wb ?_
  intro v' c' hv'
  repeat' (first | refine uN ?_ | refine Yc S ?_ | (refine uP ?_ ?_ <;> (intro h; ((try simp only [zs, ne_eq, and_true, true_and, eq_self, reduceCtorEq] at h); try exact zx))) | refine da 101 ?_ | fail)
  exact Yi (LS.refl _) ⟨c', hv', rfl⟩
 ·have hne' : eb ≠ b := hne b _ (List.mem_cons_self)
  have hk : i.toNat < xs.length := by omega
  generalize hkk : i.toNat = k at hk ⊢
  have hik : i = k := by omega
  subst hik
  have hA := Zpc Zi xs sp k (by omega)
  have hAl : ((xs.take k).map fc).flatten.length = k * 9 := by rw [Yy Zi, List.length_take, Nat.min_eq_left (by omega)]
  have hFl : ((xs.drop k).map fc).flatten.length = (xs.length - k) * 9 := by rw [Yy Zi, List.length_drop]
  have hfe : (fc e).length = 9 := rfl
  have hsplit : (xs.map fc).flatten ++ sp = ((xs.take k).map fc).flatten ++ ((xs.drop k).map fc).flatten ++ sp := by rw [← List.flatten_append, ← List.map_append, List.take_append_drop]
  have hF1 := Zb0 (enc := fc) Wb (xs.drop k)
  have hg : Gets ((xs.map fc).flatten ++ sp) (k * 9) ((xs.drop k).map fc).flatten := by
   rw [hsplit, ← hAl]
   exact Zrc _ _ _
  by_cases hroom : xs.length + 1 ≤ cap
  ·have c1 : cut (some ⟨b, 0, none⟩) cap (((k : Nat) : Int) + ((1 : Nat) : Int)).toNat 9 = some ⟨b, (k + 1) * 9, none⟩ := by
    rw [show (((k : Nat) : Int) + ((1 : Nat) : Int)).toNat = k + 1 by omega]; simpa using Zgs (b := b) (i := 0) (cap := cap) (l := k + 1) (sz := 9) (by omega)
   have c2 : cut (some ⟨b, 0, none⟩) cap (((k : Nat) : Int)).toNat 9 = some ⟨b, k * 9, none⟩ := by
    rw [Int.toNat_natCast]; simpa using Zgs (b := b) (i := 0) (cap := cap) (l := k) (sz := 9) (by omega)
   refine Za (fun _ _ => Tryz.call152 _ _) Tryz.func152 rfl Tryz.ntmps152 (Nat.le_of_ble_eq_true rfl) ?_; simp only [Zc, Nat.reduceAdd]
   repeat' (first | refine uN ?_ | refine Yc S ?_ | (refine uP ?_ ?_ <;> (intro h; ((try simp only [zs, ne_eq, and_true, true_and, eq_self, reduceCtorEq] at h); try exact zx))) | refine da 101 ?_ | fail)
   refine We (qCap S) ?_
   repeat' (first | refine uN ?_ | refine Yc S ?_ | (refine uP ?_ ?_ <;> (intro h; ((try simp only [zs, ne_eq, and_true, true_and, eq_self, reduceCtorEq] at h); try exact zx))) | refine da 101 ?_ | fail)
   refine We (Zr1 rfl (y := .tmp 66) (b := b) (i := (k + 1) * 9) (lb := ((xs.length : Int) + ((1 : Nat) : Int)).toNat - (((k : Nat) : Int) + ((1 : Nat) : Int)).toNat) (cb := cap - (((k : Nat) : Int) + ((1 : Nat) : Int)).toNat) ?_ (Zf Zv) Zv hne' ?_) ?_
   ·show some (Value.slice (cut _ _ _ 9) _ _) = _
    rw [c1]
   ·rw [hlen]; omega
   repeat' (first | refine uN ?_ | refine Yc S ?_ | (refine uP ?_ ?_ <;> (intro h; ((try simp only [zs, ne_eq, and_true, true_and, eq_self, reduceCtorEq] at h); try exact zx))) | refine da 101 ?_ | fail)
   refine Zh2 S (b := b) (i := (k + 1) * 9) (len := ((xs.length : Int) + ((1 : Nat) : Int)).toNat - (((k : Nat) : Int) + ((1 : Nat) : Int)).toNat) (cap := cap - (((k : Nat) : Int) + ((1 : Nat) : Int)).toNat) (a := some ⟨b, k * 9, none⟩) (ns := ((xs.length : Int) + ((1 : Nat) : Int)).toNat - (((k : Nat) : Int)).toNat) (cap2 := cap - (((k : Nat) : Int)).toNat) (k0 := xs.length - k) (new := ((xs.drop k).map fc).flatten) ?_ ?_ rfl rfl rfl ?_ hFl hF1 (.inr ⟨b, k * 9, _, _, _, rfl, Zv, hg⟩) ?_ Vj ?_
   ·show some (Value.slice (cut _ _ _ 9) _ _) = _
    rw [c1]
   ·show some (Value.slice (cut _ _ _ 9) _ _) = _
    rw [c2]
   ·show (xs.length - k : Nat) = min _ _; omega
   ·rw [hFl, hlen]; omega
   repeat' (first | refine uN ?_ | refine Yc S ?_ | (refine uP ?_ ?_ <;> (intro h; ((try simp only [zs, ne_eq, and_true, true_and, eq_self, reduceCtorEq] at h); try exact zx))) | refine da 101 ?_ | fail)
   have hT : ((xs.map fc).flatten ++ sp).take ((k + 1) * 9) = ((xs.take k).map fc).flatten ++ (((xs.map fc).flatten ++ sp).drop (k * 9)).take 9 := by
    rw [← hA, show (k + 1) * 9 = k * 9 + 9 by omega, List.take_add]
   generalize hR2 : ((xs.map fc).flatten ++ sp).drop ((k + 1) * 9 + ((xs.drop k).map fc).flatten.length) = R2
   have hR2l : R2.length + (xs.length + 1) * 9 = cap * 9 := by rw [← hR2, List.length_drop, hlen, hFl]; omega
   generalize hB9 : (((xs.map fc).flatten ++ sp).drop (k * 9)).take 9 = B9 at hT
   have hB9l : B9.length = 9 := by rw [← hB9, List.length_take, List.length_drop, hlen]; omega
   rw [hT]
   refine Zh2 S (b := b) (i := k * 9) (len := ((xs.length : Int) + ((1 : Nat) : Int)).toNat - (((k : Nat) : Int)).toNat) (cap := cap - (((k : Nat) : Int)).toNat) (a := some ⟨eb, 0, none⟩) (ns := 1) (cap2 := 1) (k0 := 1) (new := fc e) ?_ rfl rfl rfl rfl ?_ rfl rfl (.inr ⟨eb, 0, _, _, _, rfl, Zf Zv, X1 _⟩) ?_ Vj ?_
   ·show some (Value.slice (cut _ _ _ 9) _ _) = _
    rw [c2]
   ·show (1 : Nat) = min _ _; omega
   ·simp only [List.length_append, hAl, hB9l, hFl, hfe]; omega
   have hfin : (((xs.take k).map fc).flatten ++ B9 ++ ((xs.drop k).map fc).flatten ++ R2).take (k * 9) ++ fc e ++ (((xs.take k).map fc).flatten ++ B9 ++ ((xs.drop k).map fc).flatten ++ R2).drop (k * 9 + (fc e).length) = ((xs.take k).map fc).flatten ++ fc e ++ ((xs.drop k).map fc).flatten ++ R2 := by
    simp only [List.append_assoc]
    rw [take_left hAl, hfe, ← hAl, ← List.drop_drop, List.drop_left, ← hB9l, List.drop_left]
   rw [hfin]
   repeat' (first | refine uN ?_ | refine Yc S ?_ | (refine uP ?_ ?_ <;> (intro h; ((try simp only [zs, ne_eq, and_true, true_and, eq_self, reduceCtorEq] at h); try exact zx))) | refine da 101 ?_ | fail)
   have hn1 : ((xs.length : Int) + ((1 : Nat) : Int)).toNat = xs.length + 1 := by omega
   rw [hn1]
   exact Yi (LS.refl _) ⟨_, Zt7 (by omega) hroom hR2l, rfl⟩
  ·refine Za (fun _ _ => Tryz.call152 _ _) Tryz.func152 rfl Tryz.ntmps152 (Nat.le_of_ble_eq_true rfl) ?_; simp only [Zc, Nat.reduceAdd]
   repeat' (first | refine uN ?_ | refine Yc S ?_ | (refine uP ?_ ?_ <;> (intro h; ((try simp only [zs, ne_eq, and_true, true_and, eq_self, reduceCtorEq] at h); try exact zx))) | refine da 101 ?_ | fail)
   refine We (qCap S) ?_
   repeat' (first | refine uN ?_ | refine Yc S ?_ | (refine uP ?_ ?_ <;> (intro h; ((try simp only [zs, ne_eq, and_true, true_and, eq_self, reduceCtorEq] at h); try exact zx))) | refine da 101 ?_ | fail)
   refine Zse S (m := xs.length + 1 - k) (zs := fzero) (l := (xs.map fc).flatten ++ sp) rfl ?_ rfl rfl rfl rfl rfl rfl rfl rfl rfl Zv ?_ ?_ ?_ ?_ ?_
   ·show some (Value.int .i64 _) = some (Value.int .i64 _)
    congr 2
    omega
   ·rw [hlen]; show (((k : Nat) : Int)).toNat * 9 ≤ _; omega
   ·show _ < (((k : Nat) : Int)).toNat + _; omega
   ·show ((((k : Nat) : Int)).toNat + _) * 72 ≤ _; omega
   ·show (((k : Nat) : Int)).toNat + _ ≤ _; omega
   intro nb cap' hcap'
   repeat' (first | refine uN ?_ | refine Yc S ?_ | (refine uP ?_ ?_ <;> (intro h; ((try simp only [zs, ne_eq, and_true, true_and, eq_self, reduceCtorEq] at h); try exact zx))) | refine da 101 ?_ | fail)
   have d1 : cut (some ⟨nb, 0, none⟩) cap' (((k : Nat) : Int)).toNat 9 = some ⟨nb, k * 9, none⟩ := by
    rw [Int.toNat_natCast]; simpa using Zgs (b := nb) (i := 0) (cap := cap') (l := k) (sz := 9) (by omega)
   have d2 : cut (some ⟨nb, 0, none⟩) cap' (((k : Nat) : Int) + ((1 : Nat) : Int)).toNat 9 = some ⟨nb, (k + 1) * 9, none⟩ := by
    rw [show (((k : Nat) : Int) + ((1 : Nat) : Int)).toNat = k + 1 by omega]; simpa using Zgs (b := nb) (i := 0) (cap := cap') (l := k + 1) (sz := 9) (by omega)
   have c2 : cut (some ⟨b, 0, none⟩) cap (((k : Nat) : Int)).toNat 9 = some ⟨b, k * 9, none⟩ := by
    rw [Int.toNat_natCast]; simpa using Zgs (b := b) (i := 0) (cap := cap) (l := k) (sz := 9) (by omega)
   have hA' : ((xs.map fc).flatten ++ sp).take ((((k : Nat) : Int)).toNat * 9) = ((xs.take k).map fc).flatten := hA
   rw [hA']
   have hZl : ((List.replicate (cap' - (((k : Nat) : Int)).toNat) fzero).flatten).length = (cap' - k) * 9 := by
    rw [Int.toNat_natCast]
    simp [List.length_flatten, List.map_replicate, List.sum_replicate_nat, fzero]
   generalize (List.replicate (cap' - (((k : Nat) : Int)).toNat) fzero).flatten = Z at hZl
   refine Zh2 S (b := nb) (i := k * 9) (len := (((k : Nat) : Int)).toNat + (xs.length + 1 - k) - (((k : Nat) : Int)).toNat) (cap := cap' - (((k : Nat) : Int)).toNat) (a := some ⟨eb, 0, none⟩) (ns := 1) (cap2 := 1) (k0 := 1) (new := fc e) ?_ rfl rfl rfl rfl ?_ rfl rfl (.inr ⟨eb, 0, _, _, _, rfl, Zf (Zf Zv), X1 _⟩) ?_ Vj ?_
   ·show some (Value.slice (cut _ _ _ 9) _ _) = _
    rw [d1]
   ·show (1 : Nat) = min _ _; omega
   ·simp only [List.length_append, hAl, hZl, hfe]; omega
   rw [take_left hAl]
   have hz1 : (((xs.take k).map fc).flatten ++ Z).drop (k * 9 + (fc e).length) = Z.drop 9 := by
    rw [hfe, ← hAl, ← List.drop_drop, List.drop_left]
   rw [hz1]
   have hZ1 : (Z.drop 9).length + (k + 1) * 9 = cap' * 9 := by rw [List.length_drop, hZl]; omega
   generalize Z.drop 9 = Z1 at hZ1
   repeat' (first | refine uN ?_ | refine Yc S ?_ | (refine uP ?_ ?_ <;> (intro h; ((try simp only [zs, ne_eq, and_true, true_and, eq_self, reduceCtorEq] at h); try exact zx))) | refine da 101 ?_ | fail)
   refine Zh2 S (b := nb) (i := (k + 1) * 9) (len := (((k : Nat) : Int)).toNat + (xs.length + 1 - k) - (((k : Nat) : Int) + ((1 : Nat) : Int)).toNat) (cap := cap' - (((k : Nat) : Int) + ((1 : Nat) : Int)).toNat) (a := some ⟨b, k * 9, none⟩) (ns := xs.length - (((k : Nat) : Int)).toNat) (cap2 := cap - (((k : Nat) : Int)).toNat) (k0 := xs.length - k) (new := ((xs.drop k).map fc).flatten) ?_ ?_ rfl rfl rfl ?_ hFl hF1 (.inr ⟨b, k * 9, _, _, _, rfl, Zf Zv, hg⟩) ?_ Vj ?_
   ·show some (Value.slice (cut _ _ _ 9) _ _) = _
    rw [d2]
   ·show some (Value.slice (cut _ _ _ 9) _ _) = _
    rw [c2]
   ·show (xs.length - k : Nat) = min _ _; omega
   ·simp only [List.length_append, hAl, hfe, hFl]; omega
   have hAe : (((xs.take k).map fc).flatten ++ fc e).length = (k + 1) * 9 := by rw [List.length_append, hAl, hfe]; omega
   rw [take_left hAe]
   generalize hR2 : (((xs.take k).map fc).flatten ++ fc e ++ Z1).drop ((k + 1) * 9 + ((xs.drop k).map fc).flatten.length) = R2
   have hR2l : R2.length + (xs.length + 1) * 9 = cap' * 9 := by rw [← hR2, List.length_drop, List.length_append, hAe, hFl]; omega
   repeat' (first | refine uN ?_ | refine Yc S ?_ | (refine uP ?_ ?_ <;> (intro h; ((try simp only [zs, ne_eq, and_true, true_and, eq_self, reduceCtorEq] at h); try exact zx))) | refine da 101 ?_ | fail)
   have hn1 : (((k : Nat) : Int)).toNat + (xs.length + 1 - k) = xs.length + 1 := by omega
   rw [hn1]
   exact Yi (LS.p0 (LS.c (LS.refl _))) ⟨_, Zt7 (by omega) (by omega) hR2l, rfl⟩
end Go.HL
end

/-! WoB -/
section
namespace Go.HL
open Go Go.Proofs
set_option linter.unusedVariables false
set_option linter.unusedSimpArgs false
def pk (p : Int × Int) : Value := .agg ⟨[iv p.1, iv p.2]⟩
theorem fl_pair : Zal Tryz.prog 8 133 = some [2, 2] := by kernel_rfl
theorem Zqi : Zlg Tryz.prog 133 = true := by kernel_rfl
theorem pl_int : Tryz.prog.plainKey 3 = true := by kernel_rfl
theorem Zkx : KeyOk (α := Int × Int) Tryz.prog 133 pk := by
 have hu : Tryz.prog.underlying 133 = some (.array 2 3) := by kernel_rfl
 have hi := Zgv (S.tyI (t := 3) rfl) rfl
 have hz : ∀ w, (Go.sizeOf 3).run Tryz.prog w = .ok 1 w := fun w => Xz (S.tyI (t := 3) rfl) w
 have heq : ∀ (w : World) (a b : Int × Int), (Op.equal 133 (pk a) (pk b)).run Tryz.prog w = .ok (decide (a = b)) w := fun w a b => by
  have := Zpl 8 9992 133 [2, 2] [iv a.1, iv a.2] [iv b.1, iv b.2] (pk a) (pk b) (decide (a = b)) w fl_pair (.inl ⟨Zqi, rfl⟩) (.inl ⟨Zqi, rfl⟩) (by
   obtain ⟨a1, a2⟩ := a
   obtain ⟨b1, b2⟩ := b
   simp [Zd4, iv, Zo1, Prod.mk.injEq])
  exact this
 refine ⟨fun em w a => ?_, fun w a es l hE => ?_, fun w a => ?_⟩
 ·have hp : ∀ i, i < 2 → ∃ v, (part 3 ⟨[iv a.1, iv a.2]⟩ i).run Tryz.prog w = .ok (iv v) w := fun i h => by
   match i, h with
   | 0, _ => exact ⟨a.1, run_part_plain w pl_int rfl⟩
   | 1, _ => exact ⟨a.2, run_part_plain w pl_int rfl⟩
  have hc : ∀ v : Int, (Instr.checkKey em 9999 3 (iv v)).run Tryz.prog w = .ok () w := fun v => MapKept.run_checkKey hi (by simp only [MapKept.IsKey, iv]; rfl) em 9998
  obtain ⟨v0, h0⟩ := hp 0 (by omega)
  obtain ⟨v1, h1⟩ := hp 1 (by omega)
  show (Instr.checkKey em (9999 + 1) _ _).run _ w = _
  rw [Instr.checkKey]
  simp only [pk, Sem.run_bind, run_underlying hu, Result.andThen_ok]
  simp only [Std.Legacy.Range.forIn_eq_forIn_range', Std.Legacy.Range.size, Nat.sub_zero, Nat.add_one_sub_one, Nat.div_one]
  simp only [List.range', List.forIn_cons, List.forIn_nil, Sem.run_bind, hz, Result.andThen_ok, Nat.zero_mul, Nat.zero_add, Nat.one_mul, Nat.mul_one, h0, h1, hc, Sem.run_pure]
 ·rw [run_findKey_eq w (by rw [hu]) (pk a) es]
  have key : ∀ (es : List MapEntry) (l : List ((Int × Int) × Bool)) (i : Nat), Zdy pk es l → (Instr.findAsking 133 (pk a) es i).run Tryz.prog w = .ok (U0 a l i) w := by
   intro es
   induction es with
   | nil =>
    intro l i h
    cases l with
    | nil => simp [Instr.findAsking, U0]
    | cons p r => simp [Zdy] at h
   | cons e es ih =>
    intro l i h
    cases l with
    | nil => simp [Zdy] at h
    | cons p r =>
     obtain ⟨x, b⟩ := p
     simp only [Zdy, List.map_cons, List.cons.injEq, Prod.mk.injEq] at h
     obtain ⟨⟨h1, h2⟩, h3⟩ := h
     simp only [Instr.findAsking, h1, Sem.run_bind, heq, Result.andThen_ok, U0]
     by_cases hax : a = x
     ·subst hax; simp [h2]
     ·simp [hax, ih r (i + 1) h3]
  exact key es l 0 hE
 ·have hs : Instr.sameBits 10000 (pk a) (pk a) = true := by
   show Instr.sameBits (9999 + 1) (.agg _) (.agg _) = true
   rw [Instr.sameBits]
   simp [pk, Instr.sameBits, iv]
  simp [Instr.keyThatStays, hs]
set_option maxRecDepth 100000
section r
variable {n : Nat} {ops : List Oper} {Q : Exit → Z3 → Zb → Prop} {rest : List Oper} {ρ : Z3} {L : Zb} {ty : TypeId} {pos : String} {af : Array Edge}
theorem qmP {d : Option Tmp} {g : Option (Nat × Bool)} {r : Nat} {x y : Operand} {es : List MapEntry} {ck : Nat} {f : Int × Int → Bool} {a b : Int} (h00 : X6 ρ = true := by exact rfl) (hx : ev ρ x = some (.map (some r)) := by exact rfl) (hy : ev ρ y = some (.agg ⟨[iv a, iv b]⟩) := by exact rfl)
  {s0 b0 : Nat} (ht : Yl S.ty 107 = some ⟨8, 133, 4, s0, b0⟩ := by exact rfl) (hz : Yl S.zr 4 = some (.bool false) := by exact rfl) (hb : Has L r (.map ⟨es⟩ ck) := by (repeat (first | assumption | exact Zv | exact Yu (by assumption) | apply Vw | apply Zf))) (hF : Zy pk es f := by assumption) :
  QOp Tryz.prog ⟨d, .lookup 107 x y false, ty, pos, af, g⟩ ρ L (.bool (f (a, b))) := by
 have hy' : ev ρ y = some (pk (a, b)) := hy
 exact q_mapB S (α := Int × Int) (key := pk) (a := (a, b)) Zkx hx hy' ht hz hb hF
theorem wmP {r ck : Nat} {x y z : Operand} {es : List MapEntry} {f : Int × Int → Bool} {a b : Int} {v : Bool} (hF : Zy pk es f) (h : ∀ es' ck', Zy pk es' (fun x => if x = (a, b) then v else f x) → HO Tryz.prog n ops Q rest ρ ([(r, .map ⟨es'⟩ ck')] :: L)) (h00 : X6 ρ = true := by exact rfl) (hx : ev ρ x = some (.map (some r)) := by exact rfl) (hy : ev ρ y = some (.agg ⟨[iv a, iv b]⟩) := by exact rfl) (hzz : ev ρ z = some (.bool v) := by exact rfl) {s0 b0 : Nat} (ht : Yl S.ty 107 = some ⟨8, 133, 4, s0, b0⟩ := by exact rfl) :
  HO Tryz.prog n ops Q (⟨none, .mapUpdate 107 x y z, ty, pos, af, none⟩ :: rest) ρ ([(r, .map ⟨es⟩ ck)] :: L) := by
 have hy' : ev ρ y = some (pk (a, b)) := hy
 exact o_mapB S (α := Int × Int) (key := pk) (a := (a, b)) (b := v) Zkx hx hy' hzz ht hF h
end r
end Go.HL
end

/-! PlA -/
section
namespace Go.HL
open Go Go.Proofs
set_option linter.unusedVariables false
set_option linter.unusedSimpArgs false

structure Pl where
 b : List UInt8
 off : Bool
 cut : Int
def Xl (bp ba : Nat) (m : Pl) : List Zq := [(bp, .cells ⟨[sl ba 0 m.b.length m.b.length, .bool m.off, iv m.cut]⟩ 181), (ba, .cells ⟨m.b.map u8⟩ 5)]
def Yj (n : Nat) : List UInt8 := List.replicate n 0
def Zpo (n : Int) : Option Pl := if 0 ≤ n ∧ n ≤ 512 then some ⟨Yj n.toNat, false, -1⟩ else none
theorem Zkf (n : Nat) : (Yj n).map u8 = List.replicate n (.int .u8 0) := by simp [Yj, u8]
theorem Zqn (bp ba : Nat) (m : Pl) (L : Zb) : Rd uc 1 (Xl bp ba m :: L) (some ⟨ba, 0, none⟩) m.b := by
 refine .inr ⟨ba, 0, m.b.map u8, 5, (0, 0), rfl, Vw Zv, fun k x hx => ?_⟩
 have := Ut (enc := uc) (sz := 1) (fun _ => rfl) m.b [] [] k x hx
 simpa [Zty] using this
def X8 (m : Pl) (at_ n : Int) : Option Nat := if at_ < 0 ∨ n < 0 ∨ at_ > m.b.length ∨ n > m.b.length - at_ then some 2 else if m.off then some 6 else none
set_option maxHeartbeats 2000000 attribute [local irreducible] HW HO HQ HD HC QOp Has Upd Zt Gets Yb Z6 Zr Xr Z4 Zm Xx Zy
theorem Zms (T : Nat) (E : Nat → Addr) (n : Int) (L : Zb) (hG : Er T E [2] L) : HC Tryz.prog 64 [iv n] L (fun v L' => match Zpo n with
  | some m => ∃ bp ba, v = .tuple ⟨[pt bp 0, .nilIface]⟩ ∧ L' = Xl bp ba m :: L
  | none => v = .tuple ⟨[.pointer none, eV T E (some 2)]⟩ ∧ L' = L) := by
 refine Za (fun _ _ => Tryz.call64 _ _) Tryz.func64 rfl Tryz.ntmps64 (Nat.le_of_ble_eq_true rfl) ?_; simp only [Zc, Nat.reduceAdd]
 repeat' (first | refine uN ?_ | refine Z7 S ?_ | (refine uB ?_; intro b) | (refine uP ?_ ?_ <;> (intro h; ((try simp only [zs, ne_eq, and_true, true_and, eq_self, reduceCtorEq] at h); try exact zx))) | fail)
 ·refine X2 rfl rfl rfl (List.Sublist.refl _) ?_
  rw [show Zpo n = none from if_neg (by omega)]
  exact ⟨rfl, rfl⟩
 ·refine X2 rfl rfl rfl (List.Sublist.refl _) ?_
  rw [show Zpo n = none from if_neg (by omega)]
  exact ⟨rfl, rfl⟩
 ·rename_i b1
  refine Znj (L' := Xl b b1 ⟨Yj n.toNat, false, -1⟩ :: L) ?_ ?_
  ·simp [Xl, Zkf]
   simp [Yj]
  ·rw [show Zpo n = some ⟨Yj n.toNat, false, -1⟩ from if_pos (by omega)]
   exact ⟨_, _, rfl, rfl⟩
theorem Ziy (T : Nat) (E : Nat → Addr) (bp ba : Nat) (m : Pl) (at_ n : Int) (L : Zb) (hG : Er T E [2, 6] L) (hl : m.b.length ≤ 1000000) : HC Tryz.prog 251 [pt bp 0, iv at_, iv n] (Xl bp ba m :: L) (fun v L' => v = eV T E (X8 m at_ n) ∧ L' = Xl bp ba m :: L) := by
 have hG' := hG.cons (Xl bp ba m)
 refine Za (fun _ _ => Tryz.call251 _ _) Tryz.func251 rfl Tryz.ntmps251 (Nat.le_of_ble_eq_true rfl) ?_; simp only [Zc, Nat.reduceAdd]
 unfold X8
 repeat' (first | refine uN ?_ | (refine uP ?_ ?_ <;> (intro h; ((try simp only [zs, ne_eq, and_true, true_and, eq_self, reduceCtorEq] at h); try exact zx))) | fail)
 all_goals (refine Y8 rfl rfl ?_ ⟨?_, rfl⟩; (next => (repeat (first | exact List.Sublist.refl _ | apply List.Sublist.cons))))
 all_goals first | (rw [if_pos (by omega)]; rfl) | (rw [if_neg (by omega), if_pos (by assumption)]; rfl) | (rw [if_neg (by omega), if_neg (by simp_all)]; rfl)
theorem Zhn (bp ba : Nat) (m : Pl) (L : Zb) : HC Tryz.prog 123 [pt bp 0] (Xl bp ba m :: L) (fun v L' => v = bs m.b ∧ L' = Xl bp ba m :: L) := by
 have hR := Zqn bp ba m L
 refine Za (fun _ _ => Tryz.call123 _ _) Tryz.func123 rfl Tryz.ntmps123 (Nat.le_of_ble_eq_true rfl) ?_; simp only [Zc, Nat.reduceAdd]
 repeat' (first | refine uN ?_)
 (refine Y8 rfl rfl ?_ ⟨?_, rfl⟩; (next => (repeat (first | exact List.Sublist.refl _ | apply List.Sublist.cons))))
 rfl
theorem Zht (bp ba : Nat) (m : Pl) (L : Zb) : HC Tryz.prog 135 [pt bp 0] (Xl bp ba m :: L) (fun v L' => v = .bool (!m.off) ∧ L' = Xl bp ba m :: L) := by
 refine Za (fun _ _ => Tryz.call135 _ _) Tryz.func135 rfl Tryz.ntmps135 (Nat.le_of_ble_eq_true rfl) ?_; simp only [Zc, Nat.reduceAdd]
 repeat' (first | refine uN ?_)
 all_goals (refine Y8 rfl rfl ?_ ⟨?_, rfl⟩; (next => (repeat (first | exact List.Sublist.refl _ | apply List.Sublist.cons))))
 all_goals rfl
def Wl (b : List UInt8) (at_ : Nat) (s : List UInt8) : List UInt8 := b.take at_ ++ s ++ b.drop (at_ + s.length)
theorem Zi4 {b : List UInt8} {at_ : Nat} {s : List UInt8} (h : at_ + s.length ≤ b.length) : (Wl b at_ s).length = b.length := by
 simp [Wl]; omega
theorem Zeg (b : List UInt8) (at_ : Nat) : Wl b at_ [] = b := by simp [Wl]
theorem Zon {b : List UInt8} {at_ : Nat} {s : List UInt8} {x : UInt8} (h : at_ + s.length < b.length) : Wl b at_ (s ++ [x]) = (Wl b at_ s).set (at_ + s.length) x := by
 have h1 : (b.take at_ ++ s).length = at_ + s.length := by simp; omega
 have h2 : b.drop (at_ + s.length) = b[at_ + s.length] :: b.drop (at_ + s.length + 1) := List.drop_eq_getElem_cons h
 simp only [Wl, List.length_append, List.length_cons, List.length_nil, Nat.zero_add]
 rw [h2, List.set_append_right _ _ (by omega), h1, Nat.sub_self, List.set_cons_zero]
 simp [Nat.add_assoc]
def Uz (m : Pl) (at_ n : Int) : List UInt8 × Option Nat := match X8 m at_ n with
 | some e => ([], some e)
 | none => ((m.b.drop at_.toNat).take n.toNat, none)
def kM (m : Pl) (n : Nat) : Nat := if m.cut = -1 then n else min n m.cut.toNat
def Zbe (m : Pl) (at_ : Nat) (s : List UInt8) : Pl × Option Nat :=
 (⟨Wl m.b at_ (s.take (kM m s.length)), m.off || decide (kM m s.length < s.length), if m.cut = -1 then -1 else m.cut - kM m s.length⟩, if kM m s.length < s.length then some 6 else none)
def Ya (m : Pl) (at_ : Int) (s : List UInt8) : Pl × Option Nat := match X8 m at_ s.length with
 | some e => (m, some e)
 | none => Zbe m at_.toNat s
theorem Zio (T : Nat) (E : Nat → Addr) (bp ba : Nat) (m : Pl) (at_ n : Int) (L : Zb) (hG : Er T E [2, 6] L) (hl : m.b.length ≤ 1000000) : HC Tryz.prog 176 [pt bp 0, iv at_, iv n] (Xl bp ba m :: L) (fun v L' => v = .tuple ⟨[bs (Uz m at_ n).1, eV T E (Uz m at_ n).2]⟩ ∧ L' = Xl bp ba m :: L) := by
 have hR := Zqn bp ba m L
 have hk := Ziy T E bp ba m at_ n L hG hl
 refine Za (fun _ _ => Tryz.call176 _ _) Tryz.func176 rfl Tryz.ntmps176 (Nat.le_of_ble_eq_true rfl) ?_; simp only [Zc, Nat.reduceAdd]
 unfold Uz
 cases hm : X8 m at_ n with
 | some e =>
  rw [hm] at hk
  repeat' (first | refine uN ?_ | refine uC (hk) ?_ | (refine uP ?_ ?_ <;> (intro h; ((try simp only [zs, ne_eq, and_true, true_and, eq_self, reduceCtorEq] at h); try exact zx))) | fail)
  (refine X2 rfl rfl rfl ?_ ⟨?_, rfl⟩; (next => (repeat (first | exact List.Sublist.refl _ | apply List.Sublist.cons))))
  rfl
 | none =>
  rw [hm] at hk
  have h0 : 0 ≤ at_ ∧ 0 ≤ n ∧ at_ + n ≤ m.b.length := by
   unfold X8 at hm
   split at hm
   ·cases hm
   ·omega
  repeat' (first | refine uN ?_ | refine uC (hk) ?_ | (refine uP ?_ ?_ <;> (intro h; ((try simp only [zs, ne_eq, and_true, true_and, eq_self, reduceCtorEq] at h); try exact zx))) | fail)
  refine We (qtx S (l := (m.b.drop at_.toNat).take n.toNat) (Rd.take (hR.drop (Nat.le_refl _))) ?_) ?_
  ·simp; omega
  repeat' (first | refine uN ?_ | (refine uP ?_ ?_ <;> (intro h; ((try simp only [zs, ne_eq, and_true, true_and, eq_self, reduceCtorEq] at h); try exact zx))) | fail)
  (refine X2 rfl rfl rfl ?_ ⟨?_, rfl⟩; (next => (repeat (first | exact List.Sublist.refl _ | apply List.Sublist.cons))))
  rfl
theorem Zul (T : Nat) (E : Nat → Addr) (bp ba : Nat) (m : Pl) (n : Int) (L : Zb) (hG : Er T E [2, 6] L) : HC Tryz.prog 153 [pt bp 0, iv n] (Xl bp ba m :: L)
  (fun v L' => if n < 0 then v = eV T E (some 2) ∧ L' = Xl bp ba m :: L else if m.off then v = eV T E (some 6) ∧ L' = Xl bp ba m :: L else v = .nilIface ∧ L' = Xl bp ba { m with cut := n } :: L) := by
 have hG' := hG.cons (Xl bp ba m)
 refine Za (fun _ _ => Tryz.call153 _ _) Tryz.func153 rfl Tryz.ntmps153 (Nat.le_of_ble_eq_true rfl) ?_; simp only [Zc, Nat.reduceAdd]
 repeat' (first | refine uN ?_ | (refine uP ?_ ?_ <;> (intro h; ((try simp only [zs, ne_eq, and_true, true_and, eq_self, reduceCtorEq] at h); try exact zx))) | fail)
 ·refine Vx (L' := Xl bp ba m :: L) rfl ?_
  simp [h, eV]
 ·rename_i h1
  refine Vx (L' := Xl bp ba m :: L) rfl ?_
  simp [h, h1, eV]
 ·rename_i h1
  refine Vx (L' := Xl bp ba { m with cut := n } :: L) rfl ?_
  simp [h, h1]
theorem on_calls (bp ba : Nat) (m : Pl) (L : Zb) : HC Tryz.prog 100 [pt bp 0] (Xl bp ba m :: L) (fun v L' => v = .tuple #[] ∧ L' = Xl bp ba { m with off := false, cut := -1 } :: L) := by
 refine Za (fun _ _ => Tryz.call100 _ _) Tryz.func100 rfl Tryz.ntmps100 (Nat.le_of_ble_eq_true rfl) ?_; simp only [Zc, Nat.reduceAdd]
 repeat' (first | refine uN ?_)
 exact ee0 rfl ⟨rfl, rfl⟩
theorem Zvi (bp ba : Nat) (m : Pl) (L : Zb) : HC Tryz.prog 98 [pt bp 0] (Xl bp ba m :: L) (fun v L' => v = .tuple #[] ∧ L' = Xl bp ba { m with off := true } :: L) := by
 refine Za (fun _ _ => Tryz.call98 _ _) Tryz.func98 rfl Tryz.ntmps98 (Nat.le_of_ble_eq_true rfl) ?_; simp only [Zc, Nat.reduceAdd]
 repeat' (first | refine uN ?_)
 exact ee0 rfl ⟨rfl, rfl⟩
theorem Zrf (T : Nat) (E : Nat → Addr) (s : List UInt8) (L : Zb) (hG : Er T E [2] L) (hl : s.length ≤ 1000000) : HC Tryz.prog 122 [bs s] L (fun v L' => if s.length ≤ 512
  then ∃ bp ba, v = .tuple ⟨[pt bp 0, .nilIface]⟩ ∧ L' = Xl bp ba ⟨s, false, -1⟩ :: L else v = .tuple ⟨[.pointer none, eV T E (some 2)]⟩ ∧ L' = L) := by
 have hk := Zms T E s.length L hG
 by_cases h : s.length ≤ 512
 ·rw [show Zpo s.length = some ⟨Yj s.length, false, -1⟩ from by unfold Zpo; rw [if_pos (by omega)]; simp] at hk
  simp only [if_pos h]
  refine Za (fun _ _ => Tryz.call122 _ _) Tryz.func122 rfl Tryz.ntmps122 (Nat.le_of_ble_eq_true rfl) ?_; simp only [Zc, Nat.reduceAdd]
  repeat' (first | refine uN ?_ | (refine uP ?_ ?_ <;> (intro h; ((try simp only [zs, ne_eq, and_true, true_and, eq_self, reduceCtorEq] at h); try exact zx))) | fail)
  refine gc hk ?_
  rintro v L' ⟨bp, ba, rfl, rfl⟩
  repeat' (first | refine uN ?_ | (refine uP ?_ ?_ <;> (intro h; ((try simp only [zs, ne_eq, and_true, true_and, eq_self, reduceCtorEq] at h); try exact zx))) | fail)
  refine wcs S (l' := s.map u8) (i := 0) ?_ ?_
  ·repeat' (first | refine uN ?_ | (refine uP ?_ ?_ <;> (intro h; ((try simp only [zs, ne_eq, and_true, true_and, eq_self, reduceCtorEq] at h); try exact zx))) | fail)
   refine Znj (L' := Xl bp ba ⟨s, false, -1⟩ :: L) ?_ ⟨bp, ba, rfl, rfl⟩
   simp [Xl, Yj]
  ·have e : s.take (Nat.min s.length (Yj s.length).length) = s := by simp [Yj]
   rw [e]
   exact Zi9 (by simp [Yj])
 ·rw [show Zpo s.length = none from if_neg (by omega)] at hk
  simp only [if_neg h]
  refine Za (fun _ _ => Tryz.call122 _ _) Tryz.func122 rfl Tryz.ntmps122 (Nat.le_of_ble_eq_true rfl) ?_; simp only [Zc, Nat.reduceAdd]
  repeat' (first | refine uN ?_ | (refine uP ?_ ?_ <;> (intro h; ((try simp only [zs, ne_eq, and_true, true_and, eq_self, reduceCtorEq] at h); try exact zx))) | fail)
  refine gc hk ?_
  rintro v L' ⟨rfl, rfl⟩
  repeat' (first | refine uN ?_ | (refine uP ?_ ?_ <;> (intro h; ((try simp only [zs, ne_eq, and_true, true_and, eq_self, reduceCtorEq] at h); try exact zx))) | fail)
  exact Znj rfl ⟨rfl, rfl⟩
end Go.HL
end

/-! PlB -/
section
namespace Go.HL
open Go Go.Proofs
set_option linter.unusedVariables false
set_option linter.unusedSimpArgs false

def Ux (m : Pl) (a : Nat) (s : List UInt8) (i : Nat) : Pl := ⟨Wl m.b a (s.take i), false, if m.cut = -1 then -1 else m.cut - i⟩
theorem Zuq {m : Pl} {a : Nat} {s : List UInt8} {i : Nat} (ha : a + s.length ≤ m.b.length) (hi : i < s.length) : (Ux m a s (i + 1)).b = (Ux m a s i).b.set (a + i) (s.getD i 0) := by
 show Wl m.b a (s.take (i + 1)) = (Wl m.b a (s.take i)).set (a + i) (s.getD i 0)
 rw [List.take_succ_eq_append_getElem hi, Zon (by simp; omega)]
 simp [List.getD, hi, Nat.min_eq_left (Nat.le_of_lt hi)]
theorem Zk0 {m : Pl} {a : Nat} {s : List UInt8} {i : Nat} (ha : a + s.length ≤ m.b.length) : (Ux m a s i).b.length = m.b.length := Zi4 (by simp; omega)
set_option maxHeartbeats 2000000 attribute [local irreducible] HW HO HQ HD HC QOp Has Upd Zt Gets Yb Z6 Zr Xr Z4 Zm Xx Zy
theorem Zcq (T : Nat) (E : Nat → Addr) (bp ba : Nat) (m : Pl) (at_ : Int) (s : List UInt8) (L : Zb) (hG : Er T E [2, 6] L) (hl : m.b.length ≤ 1000000) (hs : s.length ≤ 1000000) (hc : -1 ≤ m.cut ∧ m.cut ≤ 9223372036854775807) :
  HC Tryz.prog 287 [pt bp 0, iv at_, bs s] (Xl bp ba m :: L) (fun v L' => v = eV T E (Ya m at_ s).2 ∧ L' = Xl bp ba (Ya m at_ s).1 :: L) := by
 have hk := Ziy T E bp ba m at_ s.length L hG hl
 have hG' : ∀ m', Er T E [2, 6] (Xl bp ba m' :: L) := fun m' => hG.cons _
 refine Za (fun _ _ => Tryz.call287 _ _) Tryz.func287 rfl Tryz.ntmps287 (Nat.le_of_ble_eq_true rfl) ?_; simp only [Zc, Nat.reduceAdd]
 unfold Ya
 cases hm : X8 m at_ s.length with
 | some e =>
  rw [hm] at hk
  repeat' (first | refine uN ?_ | refine Z7 S ?_ | refine Yt S ?_ | refine uC (hk) ?_ | refine Yd (fun _ => hk) ?_ | refine Yf (fun _ => hk) ?_ | refine Ye (fun _ => hk) ?_ | refine Yh (fun _ => hk) ?_ | refine dg S 100 (fun _ _ => ?_) | (refine uP ?_ ?_ <;> (intro h; ((try simp only [zs, ne_eq, and_true, true_and, eq_self, reduceCtorEq] at h); try exact zx))) | refine da 101 ?_ | fail)
  exact Vx rfl ⟨rfl, rfl⟩
 | none =>
  rw [hm] at hk
  have h0 : 0 ≤ at_ ∧ at_ + s.length ≤ m.b.length ∧ m.off = false := by
   unfold X8 at hm
   split at hm
   ·cases hm
   ·split at hm
    ·cases hm
    ·exact ⟨by omega, by omega, by simp_all⟩
  obtain ⟨a, rfl⟩ := Int.eq_ofNat_of_zero_le h0.1
  obtain ⟨-, h1, hoff⟩ := h0
  have h2 : a + s.length ≤ m.b.length := by omega
  clear hm
  repeat' (first | refine uN ?_ | refine Z7 S ?_ | refine Yt S ?_ | refine uC (hk) ?_ | refine Yd (fun _ => hk) ?_ | refine Yf (fun _ => hk) ?_ | refine Ye (fun _ => hk) ?_ | refine Yh (fun _ => hk) ?_ | refine dg S 100 (fun _ _ => ?_) | (refine uP ?_ ?_ <;> (intro h; ((try simp only [zs, ne_eq, and_true, true_and, eq_self, reduceCtorEq] at h); try exact zx))) | refine da 101 ?_ | fail)
  have hst : Xl bp ba m = Xl bp ba (Ux m a s 0) := by
   obtain ⟨mb, mo, mc⟩ := m
   simp only at hoff
   subst hoff
   simp only [Ux, List.take_zero, Zeg]
   by_cases h : mc = -1 <;> simp [h, Xl]
  rw [hst]
  refine Zn (σ := Nat) (fun i => [(0, pt bp 0), (1, iv a), (2, bs s), (18, iv s.length), (19, iv i)]) (fun i => Xl bp ba (Ux m a s i) :: L) (fun i => i ≤ s.length ∧ (m.cut = -1 ∨ (i : Int) ≤ m.cut)) (fun i => s.length - i) 0 uS (List.Sublist.refl _) ⟨by omega, by omega⟩ ?_
  rintro i ⟨i1, i2⟩
  have hG2 := hG' (Ux m a s i)
  have hlen := Zk0 (i := i) h2
  have hcut : (m.cut = -1 ∧ (Ux m a s i).cut = -1) ∨ (m.cut ≠ -1 ∧ (Ux m a s i).cut = m.cut - i) := by
   unfold Ux
   by_cases h : m.cut = -1
   ·exact .inl ⟨h, by simp [h]⟩
   ·exact .inr ⟨h, by simp [h]⟩
  by_cases hlt : i < s.length
  ·have hP : Zt ((Ux m a s i).b.map u8) (0 + ((a : Int) + (i : Int)).toNat) [.int .u8 (((s.getD (i : Int).toNat 0).toNat : Nat) : Int)] ((Ux m a s (i + 1)).b.map u8) := by
    rw [Zuq h2 hlt, List.map_set]
    have e : 0 + ((a : Int) + (i : Int)).toNat = a + i := by omega
    rw [e]
    exact W4 (by simp; omega)
   have hnext : Xl bp ba (Ux m a s (i + 1)) = [(bp, .cells ⟨[sl ba 0 (Ux m a s i).b.length (Ux m a s i).b.length, .bool (Ux m a s i).off, iv (max (-1) ((Ux m a s i).cut - 1))]⟩ 181), (ba, .cells ⟨(Ux m a s (i + 1)).b.map u8⟩ 5)] := by
    have e1 : (Ux m a s (i + 1)).b.length = (Ux m a s i).b.length := by rw [Zk0 h2, Zk0 h2]
    have e2 : (Ux m a s (i + 1)).cut = max (-1) ((Ux m a s i).cut - 1) := by
     have e3 : (Ux m a s (i + 1)).cut = if m.cut = -1 then -1 else m.cut - ((i + 1 : Nat) : Int) := rfl
     rw [e3]
     rcases hcut with hcut | hcut
     ·rw [if_pos hcut.1]; omega
     ·rw [if_neg hcut.1]; omega
    have e4 : (Ux m a s (i + 1)).off = (Ux m a s i).off := rfl
    unfold Xl
    rw [e1, e2, e4]
   repeat' (first | refine uN ?_ | refine Z7 S ?_ | refine Yt S ?_ | refine dg S 100 (fun _ _ => ?_) | (refine uP ?_ ?_ <;> (intro h; ((try simp only [zs, ne_eq, and_true, true_and, eq_self, reduceCtorEq] at h); try exact zx))) | refine da 101 ?_ | fail)
   ·have hk0 : kM m s.length = i := by
     unfold kM
     rcases hcut with hcut | hcut
     ·omega
     ·rw [if_neg hcut.1]
      omega
    refine Vx (L' := Xl bp ba (Zbe m a s).1 :: L) ?_ ?_
    ·simp only [Zbe, hk0, hoff, decide_eq_true hlt, Bool.or_true, List.flatten_cons]
     have e : Xl bp ba (Ux m a s i) = Xl bp ba ⟨Wl m.b a (s.take i), false, if m.cut = -1 then -1 else m.cut - i⟩ := rfl
     simp [Xl, Ux]
    ·simp [Zbe, hk0, hlt, eV]
   ·refine Zk (i + 1) uS ?_ ⟨by omega, by omega⟩ (by omega)
    rw [hnext]
    exact List.Sublist.refl _
  ·repeat' (first | refine uN ?_ | refine Z7 S ?_ | refine Yt S ?_ | refine dg S 100 (fun _ _ => ?_) | (refine uP ?_ ?_ <;> (intro h; ((try simp only [zs, ne_eq, and_true, true_and, eq_self, reduceCtorEq] at h); try exact zx))) | refine da 101 ?_ | fail)
   have hi : i = s.length := by omega
   subst hi
   have hk0 : kM m s.length = s.length := by
    unfold kM
    split
    ·rfl
    ·omega
   refine Vx (L' := Xl bp ba (Zbe m a s).1 :: L) ?_ ?_
   ·simp [Xl, Ux, Zbe, hk0, hoff]
   ·simp [Zbe, hk0, eV]
end Go.HL
end

/-! JnA -/
section
namespace Go.HL
open Go Go.Proofs
set_option linter.unusedVariables false
set_option linter.unusedSimpArgs false

theorem Zqf {α : Type} {p : List α → Prop} (h0 : p []) (h1 : ∀ l a, p l → p (l ++ [a])) (l : List α) : p l := by
 have h : ∀ l : List α, p l.reverse := fun l => by
  induction l with
  | nil => exact h0
  | cons a l ih => rw [List.reverse_cons]; exact h1 _ _ ih
 have := h l.reverse
 rwa [List.reverse_reverse] at this
def bt (n : Int) (k : Nat) : UInt8 := UInt8.ofNat (n / 2 ^ (8 * k) % 256).toNat
theorem Zso (n : Int) (k : Nat) : ((bt n k).toNat : Int) = n / 2 ^ (8 * k) % 256 := by
 unfold bt
 have h1 : 0 ≤ n / 2 ^ (8 * k) % 256 := Int.emod_nonneg _ (by decide)
 have h2 : n / 2 ^ (8 * k) % 256 < 256 := Int.emod_lt_of_pos _ (by decide)
 rw [UInt8.toNat_ofNat', Nat.mod_eq_of_lt (by omega)]
 omega
def Xm (n : Int) : Nat → List UInt8
 | 0 => []
 | k + 1 => bt n k :: Xm n k
theorem Y3 (n : Int) (k : Nat) : (Xm n k).length = k := by
 induction k with
 | zero => rfl
 | succ k ih => simp [Xm, ih]
def Zai (s : List UInt8) : Nat := s.foldl (fun n b => n * 256 + b.toNat) 0
theorem Zjc (s : List UInt8) (b : UInt8) : Zai (s ++ [b]) = Zai s * 256 + b.toNat := by simp [Zai]
theorem Znw (s : List UInt8) : Zai s < 256 ^ s.length := by
 refine Zqf (p := fun s => Zai s < 256 ^ s.length) (by simp [Zai]) (fun s b ih => ?_) s
 ·rw [Zjc]
  have := b.toNat_lt
  simp only [List.length_append, List.length_cons, List.length_nil, Nat.zero_add, Nat.pow_succ]
  omega
def Zq3 (c : Nat) : Nat := (c / 2) ^^^ (3988292384 * (c % 2))
def Zeq : Nat → Nat → Nat
 | 0, c => c
 | k + 1, c => Zeq k (Zq3 c)
theorem Zln (k c : Nat) : Zeq (k + 1) c = Zq3 (Zeq k c) := by
 induction k generalizing c with
 | zero => rfl
 | succ k ih => exact ih (Zq3 c)
def Zsb (c : Nat) (b : UInt8) : Nat := Zeq 8 (c ^^^ b.toNat)
def V5 (s : List UInt8) : Nat := s.foldl Zsb 4294967295
def Zom (s : List UInt8) : Nat := 4294967295 - V5 s
theorem crc1_lt {c : Nat} (h : c < 4294967296) : Zq3 c < 4294967296 := by
 unfold Zq3
 exact Nat.xor_lt_two_pow (n := 32) (by omega) (by omega)
theorem Zng {k c : Nat} (h : c < 4294967296) : Zeq k c < 4294967296 := by
 induction k generalizing c with
 | zero => exact h
 | succ k ih => exact ih (crc1_lt h)
theorem Zo6 {c : Nat} (b : UInt8) (h : c < 4294967296) : c ^^^ b.toNat < 4294967296 := Nat.xor_lt_two_pow (n := 32) h (by have := b.toNat_lt; omega)
theorem crcB_lt {c : Nat} {b : UInt8} (h : c < 4294967296) : Zsb c b < 4294967296 := Zng (Zo6 b h)
theorem Zt6 (s : List UInt8) : V5 s < 4294967296 := by
 refine Zqf (p := fun s => V5 s < 4294967296) (by decide) (fun s b ih => ?_) s
 rw [show V5 (s ++ [b]) = Zsb (V5 s) b by simp [V5]]; exact crcB_lt ih
theorem crc_val (c : Nat) (h : c < 4294967296) : ((((c : Int) / 2 ^ (1 : Int).toNat).toNat ^^^ ((3988292384 * (((c : Int).toNat &&& (1 : Int).toNat : Nat) : Int)) % 4294967296).toNat : Nat) : Int) = ((Zq3 c : Nat) : Int) := by
 have e1 : ((c : Int) / 2 ^ (1 : Int).toNat).toNat = c / 2 := by simp; omega
 have e2 : ((c : Int).toNat &&& (1 : Int).toNat : Nat) = c % 2 := by simp [Nat.and_one_is_mod]
 have e3 : ((3988292384 * ((c % 2 : Nat) : Int)) % 4294967296).toNat = 3988292384 * (c % 2) := by omega
 rw [e1, e2, e3]
 rfl
set_option maxHeartbeats 2000000 attribute [local irreducible] HW HO HQ HD HC QOp Has Upd Zt Gets Yb Z6 Zr Xr Z4 Zm Xx Zy
theorem Zri (s : List UInt8) (L : Zb) (hs : s.length ≤ 1000000) : HC Tryz.prog 204 [bs s] L (fun v L' => v = iv (Zom s) ∧ L' = L) := by
 refine Za (fun _ _ => Tryz.call204 _ _) Tryz.func204 rfl Tryz.ntmps204 (Nat.le_of_ble_eq_true rfl) ?_; simp only [Zc, Nat.reduceAdd]
 repeat' (first | refine uN ?_ | (refine uP ?_ ?_ <;> (intro h; ((try simp only [zs, ne_eq, and_true, true_and, eq_self, reduceCtorEq] at h); try exact zx))) | fail)
 refine Zn (σ := Nat) (fun i => [(0, bs s), (6, iv s.length), (7, iv i), (3, .int .u32 (V5 (s.take i)))]) (fun _ => L) (fun i => i ≤ s.length) (fun i => s.length - i) 0 uS (List.Sublist.refl _) (by omega) ?_
 intro i i1
 have hc := Zt6 (s.take i)
 by_cases hlt : i < s.length
 ·have hb := (s.getD (i : Int).toNat 0).toNat_lt
  repeat' (first | refine uN ?_ | (refine uP ?_ ?_ <;> (intro h; ((try simp only [zs, ne_eq, and_true, true_and, eq_self, reduceCtorEq] at h); try exact zx))) | fail)
  have e0 : (((V5 (s.take i) : Nat) : Int).toNat ^^^ (((s.getD (i : Int).toNat 0).toNat : Nat) : Int).toNat : Nat) = V5 (s.take i) ^^^ (s.getD i 0).toNat := by simp
  rw [e0]
  have hx := Zo6 (s.getD i 0) hc
  refine Zn (σ := Nat) (fun j => [(0, bs s), (6, iv s.length), (7, iv i), (16, iv j), (3, .int .u32 (Zeq j (V5 (s.take i) ^^^ (s.getD i 0).toNat)))]) (fun _ => L) (fun j => j ≤ 8) (fun j => 8 - j) 0 uS (List.Sublist.refl _) (by omega) ?_
  intro j j1
  have hcj := Zng (k := j) hx
  by_cases hlt2 : j < 8
  ·repeat' (first | refine uN ?_ | (refine uP ?_ ?_ <;> (intro h; ((try simp only [zs, ne_eq, and_true, true_and, eq_self, reduceCtorEq] at h); try exact zx))) | fail)
   refine Zk (j + 1) ?_ (List.Sublist.refl _) (by omega) (by omega)
   rw [Zln, ← crc_val _ hcj]
   repeat (first | exact trivial | refine ⟨rfl, ?_⟩)
  ·have hj : j = 8 := by omega
   subst hj
   repeat' (first | refine uN ?_ | (refine uP ?_ ?_ <;> (intro h; ((try simp only [zs, ne_eq, and_true, true_and, eq_self, reduceCtorEq] at h); try exact zx))) | fail)
   refine Zk (i + 1) ?_ (List.Sublist.refl _) (by omega) (by omega)
   have e : V5 (s.take (i + 1)) = Zeq 8 (V5 (s.take i) ^^^ (s.getD i 0).toNat) := by
    rw [List.take_succ_eq_append_getElem hlt]
    rw [show ∀ l b, V5 (l ++ [b]) = Zsb (V5 l) b from fun l b => by simp [V5]]
    simp [Zsb, List.getD, hlt]
   rw [e]
   repeat (first | exact trivial | refine ⟨rfl, ?_⟩)
 ·repeat' (first | refine uN ?_ | (refine uP ?_ ?_ <;> (intro h; ((try simp only [zs, ne_eq, and_true, true_and, eq_self, reduceCtorEq] at h); try exact zx))) | fail)
  have hi : i = s.length := by omega
  subst hi
  (refine Y8 rfl rfl ?_ ⟨?_, rfl⟩; (next => (repeat (first | exact List.Sublist.refl _ | apply List.Sublist.cons))))
  rw [List.take_length] at hc ⊢
  exact congrArg iv (by unfold Zom; omega)
end Go.HL
end

/-! JnB -/
section
namespace Go.HL
open Go Go.Proofs
set_option linter.unusedVariables false
set_option linter.unusedSimpArgs false

theorem Zkz (b E : Nat) (l : List UInt8) (L : Zb) : Rd uc 1 ([(b, .cells ⟨l.map u8⟩ E)] :: L) (some ⟨b, 0, none⟩) l := by
 refine .inr ⟨b, 0, l.map u8, E, (0, 0), rfl, Zv, fun k x hx => ?_⟩
 have := Ut (enc := uc) (sz := 1) (fun _ => rfl) l [] [] k x hx
 simpa [Zty] using this
theorem Zux (n i : Nat) (x : Int) (h : i < n) : (Yj (n - i) ++ Xm x i).set (n - 1 - i) (bt x i) = Yj (n - (i + 1)) ++ Xm x (i + 1) := by
 have e : Yj (n - i) = Yj (n - (i + 1)) ++ [0] := by
  rw [show n - i = (n - (i + 1)) + 1 by omega]
  simp [Yj, List.replicate_succ']
 rw [e, List.append_assoc, List.set_append_right _ _ (by simp [Yj]; omega)]
 simp [Yj, Xm, show n - 1 - i - (n - (i + 1)) = 0 by omega]
structure Ent where
 n : Int
 s : St
def Zwj (e : Ent) : List Value := [iv e.n, iv e.s.ph, iv e.s.pr, iv e.s.att]
def head (e : Ent) : List UInt8 := Xm e.n 4 ++ Xm e.s.ph 1 ++ Xm e.s.pr 4 ++ Xm e.s.att 4
def Y1 (e : Ent) : List UInt8 := head e ++ Xm (Zom (head e)) 4
set_option maxHeartbeats 2000000 attribute [local irreducible] HW HO HQ HD HC QOp Has Upd Zt Gets Yb Z6 Zr Xr Z4 Zm Xx Zy
theorem Us (n : Int) (many : Nat) (L : Zb) (hm : many ≤ 8) : HC Tryz.prog 284 [iv n, iv many] L (fun v L' => v = bs (Xm n many) ∧ L' = L) := by
 refine Za (fun _ _ => Tryz.call284 _ _) Tryz.func284 rfl Tryz.ntmps284 (Nat.le_of_ble_eq_true rfl) ?_; simp only [Zc, Nat.reduceAdd]
 repeat' (first | refine uN ?_ | (refine uB ?_; intro b) | (refine uP ?_ ?_ <;> (intro h; ((try simp only [zs, ne_eq, and_true, true_and, eq_self, reduceCtorEq] at h); try exact zx))) | fail)
 refine Zn (σ := Nat) (fun i => [(0, iv n), (1, iv many), (5, sl b 0 many many), (9, iv many), (10, iv i)]) (fun i => [(b, .cells ⟨(Yj (many - i) ++ Xm n i).map u8⟩ 5)] :: L) (fun i => i ≤ many) (fun i => many - i) 0 uS ?_ (by omega) ?_
 ·simp [Xm, Zkf, Yj, u8]
 ·intro i i1
  by_cases hlt : i < many
  ·have hP : Zt ((Yj (many - i) ++ Xm n i).map u8) (0 + ((many : Int) - 1 - (i : Int)).toNat) [.int .u8 (n / 2 ^ (8 * (i : Int)).toNat % 256)] ((Yj (many - (i + 1)) ++ Xm n (i + 1)).map u8) := by
    rw [← Zux many i n hlt, List.map_set]
    have e : 0 + ((many : Int) - 1 - (i : Int)).toNat = many - 1 - i := by omega
    have e2 : (8 * (i : Int)).toNat = 8 * i := by omega
    have e3 : Value.int .u8 (n / 2 ^ (8 * (i : Int)).toNat % 256) = u8 (bt n i) := by unfold u8; rw [Zso, e2]
    rw [e, e3]
    exact W4 (by simp [Yj, Y3]; omega)
   repeat' (first | refine uN ?_ | (refine uB ?_; intro b) | (refine uP ?_ ?_ <;> (intro h; ((try simp only [zs, ne_eq, and_true, true_and, eq_self, reduceCtorEq] at h); try exact zx))) | fail)
   refine Zk (i + 1) uS (List.Sublist.refl _) (by omega) (by omega)
  ·have hi : i = many := by omega
   subst hi
   repeat' (first | refine uN ?_ | (refine uB ?_; intro b) | (refine uP ?_ ?_ <;> (intro h; ((try simp only [zs, ne_eq, and_true, true_and, eq_self, reduceCtorEq] at h); try exact zx))) | fail)
   refine We (qtx S (Zkz _ _ _ _) ?_) ?_
   ·simp [Yj, Y3]
   ·repeat' (first | refine uN ?_ | (refine uB ?_; intro b) | (refine uP ?_ ?_ <;> (intro h; ((try simp only [zs, ne_eq, and_true, true_and, eq_self, reduceCtorEq] at h); try exact zx))) | fail)
    refine Y8 rfl rfl (List.sublist_cons_self _ _) ⟨?_, rfl⟩
    simp [Yj]
theorem Zam (s : List UInt8) (L : Zb) (hs : s.length ≤ 7) : HC Tryz.prog 206 [bs s] L (fun v L' => v = iv (Zai s) ∧ L' = L) := by
 refine Za (fun _ _ => Tryz.call206 _ _) Tryz.func206 rfl Tryz.ntmps206 (Nat.le_of_ble_eq_true rfl) ?_; simp only [Zc, Nat.reduceAdd]
 repeat' (first | refine uN ?_ | (refine uP ?_ ?_ <;> (intro h; ((try simp only [zs, ne_eq, and_true, true_and, eq_self, reduceCtorEq] at h); try exact zx))) | fail)
 refine Zn (σ := Nat) (fun i => [(0, bs s), (6, iv s.length), (7, iv i), (3, iv (Zai (s.take i)))]) (fun _ => L) (fun i => i ≤ s.length) (fun i => s.length - i) 0 uS (List.Sublist.refl _) (by omega) ?_
 intro i i1
 by_cases hlt : i < s.length
 ·have hb := (s.getD (i : Int).toNat 0).toNat_lt
  have hr := Znw (s.take i)
  have hr2 : Zai (s.take i) < 281474976710656 := by
   have : 256 ^ (s.take i).length ≤ 256 ^ 6 := Nat.pow_le_pow_right (by decide) (by simp; omega)
   omega
  repeat' (first | refine uN ?_ | (refine uP ?_ ?_ <;> (intro h; ((try simp only [zs, ne_eq, and_true, true_and, eq_self, reduceCtorEq] at h); try exact zx))) | fail)
  refine Zk (i + 1) ?_ (List.Sublist.refl _) (by omega) (by omega)
  have e : ((((Zai (s.take i) : Nat) : Int) * 2 ^ Int.toNat 8).toNat ||| (((s.getD (i : Int).toNat 0).toNat : Nat) : Int).toNat : Nat) = Zai (s.take (i + 1)) := by
   rw [List.take_succ_eq_append_getElem hlt, Zjc]
   have e1 : (((Zai (s.take i) : Nat) : Int) * 2 ^ Int.toNat 8).toNat = (Zai (s.take i)) <<< 8 := by rw [Nat.shiftLeft_eq]; simp; omega
   have e2 : (((s.getD (i : Int).toNat 0).toNat : Nat) : Int).toNat = (s[i]).toNat := by simp [List.getD, hlt]
   rw [e1, e2, ← Nat.shiftLeft_add_eq_or_of_lt (s[i]).toNat_lt, Nat.shiftLeft_eq]
  rw [← e]
  repeat (first | exact trivial | refine ⟨rfl, ?_⟩)
 ·repeat' (first | refine uN ?_ | (refine uP ?_ ?_ <;> (intro h; ((try simp only [zs, ne_eq, and_true, true_and, eq_self, reduceCtorEq] at h); try exact zx))) | fail)
  have hi : i = s.length := by omega
  subst hi
  (refine Y8 rfl rfl ?_ ⟨?_, rfl⟩; (next => (repeat (first | exact List.Sublist.refl _ | apply List.Sublist.cons))))
  rw [List.take_length]
theorem Zjw (e : Ent) (L : Zb) : HC Tryz.prog 252 [.agg ⟨Zwj e⟩] L (fun v L' => v = bs (Y1 e) ∧ L' = L) := by
 have k1 : ∀ L, HC Tryz.prog 284 [iv e.n, iv 4] L (fun v L' => v = bs (Xm e.n 4) ∧ L' = L) := fun L => Us e.n 4 L (by decide)
 have k2 : ∀ L, HC Tryz.prog 284 [iv e.s.ph, iv 1] L (fun v L' => v = bs (Xm e.s.ph 1) ∧ L' = L) := fun L => Us e.s.ph 1 L (by decide)
 have k3 : ∀ L, HC Tryz.prog 284 [iv e.s.pr, iv 4] L (fun v L' => v = bs (Xm e.s.pr 4) ∧ L' = L) := fun L => Us e.s.pr 4 L (by decide)
 have k4 : ∀ L, HC Tryz.prog 284 [iv e.s.att, iv 4] L (fun v L' => v = bs (Xm e.s.att 4) ∧ L' = L) := fun L => Us e.s.att 4 L (by decide)
 have k5 : ∀ L, HC Tryz.prog 284 [iv (Zom (head e)), iv 4] L (fun v L' => v = bs (Xm (Zom (head e)) 4) ∧ L' = L) := fun L => Us _ 4 L (by decide)
 have k6 : ∀ L, HC Tryz.prog 204 [bs (head e)] L (fun v L' => v = iv (Zom (head e)) ∧ L' = L) := fun L => Zri _ L (by simp [head, Y3])
 have n1 := Y3 e.n 4
 have n2 := Y3 e.s.ph 1
 have n3 := Y3 e.s.pr 4
 have n4 := Y3 e.s.att 4
 have n5 := Y3 (Zom (head e)) 4
 refine Za (fun _ _ => Tryz.call252 _ _) Tryz.func252 rfl Tryz.ntmps252 (Nat.le_of_ble_eq_true rfl) ?_; simp only [Zc, Nat.reduceAdd]
 repeat' (first | refine uN ?_ | refine Z7 S ?_ | refine uC (k1 _) ?_ | refine uC (k2 _) ?_ | refine uC (k3 _) ?_ | refine uC (k4 _) ?_ | refine uC (k5 _) ?_ | refine uC (k6 _) ?_ | (refine uB ?_; intro b) | fail)
 refine Y8 rfl rfl (List.sublist_cons_self _ _) ⟨?_, rfl⟩
 simp [Y1, head]
def Y9 : List UInt8 := [165]
def Y2 (k : Int) (s : List UInt8) : Ent :=
 let e : Ent := ⟨Zai (s.take 4), Zai ((s.take 5).drop 4), Zai ((s.take 9).drop 5), Zai ((s.take 13).drop 9)⟩
 if e.n < 1 ∨ e.n % 2 ≠ k ∨ Y1 e ++ Y9 ≠ s then ⟨0, 0, 0, 0⟩ else e
def Zco (s : List UInt8) : Ent := ⟨Zai (s.take 4), Zai ((s.take 5).drop 4), Zai ((s.take 9).drop 5), Zai ((s.take 13).drop 9)⟩
theorem Qd (k : Int) (s : List UInt8) : Y2 k s = if (Zco s).n < 1 ∨ (Zco s).n % 2 ≠ k ∨ Y1 (Zco s) ++ Y9 ≠ s then ⟨0, 0, 0, 0⟩ else Zco s := rfl
theorem Zrd (k : Int) (s : List UInt8) (L : Zb) (hs : s.length = 18) : HC Tryz.prog 177 [iv k, bs s] L (fun v L' => v = .agg ⟨Zwj (Y2 k s)⟩ ∧ L' = L) := by
 have k1 : ∀ L, HC Tryz.prog 206 [bs (s.take 4)] L (fun v L' => v = iv (Zai (s.take 4)) ∧ L' = L) := fun L => Zam _ L (by simp; omega)
 have k2 : ∀ L, HC Tryz.prog 206 [bs ((s.take 5).drop 4)] L (fun v L' => v = iv (Zai ((s.take 5).drop 4)) ∧ L' = L) := fun L => Zam _ L (by simp; omega)
 have k3 : ∀ L, HC Tryz.prog 206 [bs ((s.take 9).drop 5)] L (fun v L' => v = iv (Zai ((s.take 9).drop 5)) ∧ L' = L) := fun L => Zam _ L (by simp; omega)
 have k4 : ∀ L, HC Tryz.prog 206 [bs ((s.take 13).drop 9)] L (fun v L' => v = iv (Zai ((s.take 13).drop 9)) ∧ L' = L) := fun L => Zam _ L (by simp; omega)
 have k5 : ∀ L, HC Tryz.prog 252 [.agg ⟨[iv (Zai (s.take 4)), iv (Zai ((s.take 5).drop 4)), iv (Zai ((s.take 9).drop 5)), iv (Zai ((s.take 13).drop 9))]⟩] L (fun v L' => v = bs (Y1 (Zco s)) ∧ L' = L) := fun L => Zjw (Zco s) L
 have hn : Zai (s.take 4) < 4294967296 := by
  have := Znw (s.take 4)
  rwa [show (s.take 4).length = 4 by simp; omega] at this
 have hb : (Y1 (Zco s)).length = 17 := by simp [Y1, head, Y3]
 rw [Qd]
 refine Za (fun _ _ => Tryz.call177 _ _) Tryz.func177 rfl Tryz.ntmps177 (Nat.le_of_ble_eq_true rfl) ?_; simp only [Zc, Nat.reduceAdd]
 repeat' (first | refine uN ?_ | refine Z7 S ?_ | refine Yt S ?_ | refine uC (k1 _) ?_ | refine uC (k2 _) ?_ | refine uC (k3 _) ?_ | refine uC (k4 _) ?_ | refine uC (k5 _) ?_ | refine Yd (fun _ => k1 _) ?_ | refine Yf (fun _ => k1 _) ?_ | refine Ye (fun _ => k1 _) ?_ | refine Yh (fun _ => k1 _) ?_ | refine Yd (fun _ => k2 _) ?_ | refine Yf (fun _ => k2 _) ?_ | refine Ye (fun _ => k2 _) ?_ | refine Yh (fun _ => k2 _) ?_ | refine Yd (fun _ => k3 _) ?_ | refine Yf (fun _ => k3 _) ?_ | refine Ye (fun _ => k3 _) ?_ | refine Yh (fun _ => k3 _) ?_ | refine Yd (fun _ => k4 _) ?_ | refine Yf (fun _ => k4 _) ?_ | refine Ye (fun _ => k4 _) ?_ | refine Yh (fun _ => k4 _) ?_ | refine Yd (fun _ => k5 _) ?_ | refine Yf (fun _ => k5 _) ?_ | refine Ye (fun _ => k5 _) ?_ | refine Yh (fun _ => k5 _) ?_ | (refine uB ?_; intro b) | (refine uP ?_ ?_ <;> (intro h; ((try simp only [zs, ne_eq, and_true, true_and, eq_self, reduceCtorEq] at h); try exact zx))) | refine da 101 ?_ | fail)
 all_goals refine Yi (LS.skip _ (LS.skip _ (LS.refl _))) ⟨?_, rfl⟩ (hv := Wu S (hg := Ze rfl (Ze rfl (Ze rfl (Ze rfl Ym)))))
 ·rw [if_pos (.inl h)]; rfl
 ·rw [if_pos (.inr (.inl h))]; rfl
 ·rw [if_pos (.inr (.inr h))]; rfl
 ·rename_i h1 h2
  rw [if_neg (fun h0 => h0.elim h1 (fun h0 => h0.elim (fun h0 => h0 h2) (fun h0 => h0 h)))]; rfl
end Go.HL
end

/-! JnC -/
section
namespace Go.HL
open Go Go.Proofs
set_option linter.unusedVariables false
set_option linter.unusedSimpArgs false

structure Jn where
 l : List Ent
 dead : Bool
def Yr (bp : Nat) (j : Jn) : List Value := [pt bp 0] ++ (j.l.map Zwj).flatten ++ [.bool j.dead]
def jC (bj bp : Nat) (j : Jn) : List Zq := [(bj, .cells ⟨Yr bp j⟩ 261)]
def Zl : Ent := ⟨0, 0, 0, 0⟩
def V7 (e0 e : Ent) : Ent := if e0.n < e.n then e else e0
def Xf (b : List UInt8) (i : Nat) : List UInt8 := (b.drop (i * 18)).take 18
def W8 (b : List UInt8) (d : Nat) : Nat → Ent
 | 0 => Zl
 | k + 1 => V7 (W8 b d k) (Y2 k (Xf b (2 * d + k)))
def Xa (b : List UInt8) (d : Nat) : Ent := W8 b d 2
def Zo (b : List UInt8) : List Ent := (List.range 6).map (Xa b)
def Zhx (b : List UInt8) (d k : Nat) : List Ent := (List.range d).map (Xa b) ++ W8 b d k :: List.replicate (5 - d) Zl
theorem lAt_len (b : List UInt8) (d k : Nat) (h : d ≤ 5) : (Zhx b d k).length = 6 := by simp [Zhx]; omega
theorem lAt_get (b : List UInt8) (d k : Nat) : (Zhx b d k)[d]? = some (W8 b d k) := by
 rw [Zhx, List.getElem?_append_right (by simp)]
 simp
theorem lAt_set (b : List UInt8) (d k : Nat) (e : Ent) (h : e = W8 b d (k + 1)) : (Zhx b d k).set d e = Zhx b d (k + 1) := by
 subst h
 rw [Zhx, List.set_append_right _ _ (by simp)]
 simp [Zhx]
theorem lAt_next (b : List UInt8) (d : Nat) (h : d < 5) : Zhx b d 2 = Zhx b (d + 1) 0 := by
 simp only [Zhx, List.range_succ, List.map_append, List.map_cons, List.map_nil, List.append_assoc, List.cons_append, List.nil_append, W8]
 rw [show 5 - d = (5 - (d + 1)) + 1 by omega, List.replicate_succ]
 rfl
theorem lAt_last (b : List UInt8) : Zhx b 5 2 = Zo b := by
 simp [Zhx, Zo, List.range_succ, Xa]
theorem Zbo (e : Ent) : (Zwj e).length = 4 := rfl
theorem Zp7 {bp : Nat} {j : Jn} {d : Nat} {e : Ent} (h : j.l[d]? = some e) : Gets (Yr bp j) (0 + 1 + (d : Int).toNat * 4) (Zwj e) := by
 have := Ut (enc := Zwj) (sz := 4) Zbo j.l [.bool j.dead] [pt bp 0] d e h
 simpa [Yr] using this
theorem Zrs {bp : Nat} {j : Jn} {d : Nat} {e : Ent} (h : j.l[d]? = some e) : Gets (Yr bp j) (0 + 1 + (d : Int).toNat * 4 + 1) (sc e.s) := fun k v hk => by
 have := Zp7 (bp := bp) h (k + 1) v (by simpa [Zwj, sc] using hk)
 rw [show 0 + 1 + (d : Int).toNat * 4 + 1 + k = 0 + 1 + (d : Int).toNat * 4 + (k + 1) by omega]
 exact this
theorem jputs {bp : Nat} {j : Jn} {d : Nat} (e : Ent) (h : d < j.l.length) : Zt (Yr bp j) (0 + 1 + (d : Int).toNat * 4) (Zwj e) (Yr bp ⟨j.l.set d e, j.dead⟩) := by
 have := Zcw (enc := Zwj) (sz := 4) Zbo j.l [.bool j.dead] [pt bp 0] d (0 + 1 + (d : Int).toNat * 4) e h (by simp)
 exact this
theorem jdead {bp : Nat} {j : Jn} (h : j.l.length = 6) : (Yr bp j)[0 + 25]? = some (.bool j.dead) := by
 unfold Yr
 rw [List.getElem?_append_right (by simp [Yy Zbo, h])]
 simp [Yy Zbo, h]
theorem jputsD {bp : Nat} {j : Jn} (h : j.l.length = 6) (b : Bool) : Zt (Yr bp j) (0 + 25) [.bool b] (Yr bp ⟨j.l, b⟩) := by
 have e : Yr bp ⟨j.l, b⟩ = (Yr bp j).set (0 + 25) (.bool b) := by
  unfold Yr
  rw [List.set_append_right _ _ (by simp [Yy Zbo, h])]
  simp [Yy Zbo, h]
 rw [e]
 exact W4 (by simp [Yr, Yy Zbo, h])
set_option maxHeartbeats 2000000 attribute [local irreducible] HW HO HQ HD HC QOp Has Upd Zt Gets Yb Z6 Zr Xr Z4 Zm Xx Zy
attribute [local irreducible] Yr
theorem Zl0 (T : Nat) (E : Nat → Addr) (bj bp : Nat) (j : Jn) (d : Int) (L : Zb) (hG : Er T E [2] L) (hl : j.l.length = 6) : HC Tryz.prog 121 [pt bj 0, iv d] (jC bj bp j :: L) (fun v L' => L' = jC bj bp j :: L ∧
  if d < 0 ∨ 6 ≤ d then v = .tuple ⟨[.agg ⟨[iv 0, iv 0, iv 0]⟩, eV T E (some 2)]⟩ else v = .tuple ⟨[.agg ⟨sc (j.l.getD d.toNat Zl).s⟩, .nilIface]⟩) := by
 by_cases h0 : d < 0 ∨ 6 ≤ d
 ·simp only [if_pos h0]
  refine Za (fun _ _ => Tryz.call121 _ _) Tryz.func121 rfl Tryz.ntmps121 (Nat.le_of_ble_eq_true rfl) ?_; simp only [Zc, Nat.reduceAdd]
  repeat' (first | refine uN ?_ | refine Z7 S ?_ | refine Yt S ?_ | (refine uB ?_; intro b) | refine dg S 100 (fun _ _ => ?_) | (refine uP ?_ ?_ <;> (intro h; ((try simp only [zs, ne_eq, and_true, true_and, eq_self, reduceCtorEq] at h); try exact zx))) | refine da 101 ?_ | fail)
  ·exact Qh (LS.skip _ (LS.refl _)) ⟨rfl, rfl⟩ (hx := Wu S (hg := Ze rfl (Ze rfl (Ze rfl Ym))))
  ·exact Qh (LS.skip _ (LS.refl _)) ⟨rfl, rfl⟩ (hx := Wu S (hg := Ze rfl (Ze rfl (Ze rfl Ym))))
 ·simp only [if_neg h0]
  obtain ⟨d, rfl⟩ := Int.eq_ofNat_of_zero_le (show 0 ≤ d by omega)
  have he : j.l[d]? = some (j.l.getD d Zl) := by
   rw [List.getD, List.getElem?_eq_getElem (by omega)]; rfl
  have g1 := Zp7 (bp := bp) he
  have g2 := Zrs (bp := bp) he
  refine Za (fun _ _ => Tryz.call121 _ _) Tryz.func121 rfl Tryz.ntmps121 (Nat.le_of_ble_eq_true rfl) ?_; simp only [Zc, Nat.reduceAdd]
  repeat' (first | refine uN ?_ | refine Z7 S ?_ | refine Yt S ?_ | (refine uB ?_; intro b) | refine dg S 100 (fun _ _ => ?_) | (refine uP ?_ ?_ <;> (intro h; ((try simp only [zs, ne_eq, and_true, true_and, eq_self, reduceCtorEq] at h); try exact zx))) | refine da 101 ?_ | fail)
  refine Qh (LS.skip _ (LS.refl _)) ⟨rfl, ?_⟩ (hx := Wu S (hg := Ze rfl (Ze rfl (Ze rfl Ym))))
  simp [sc]
end Go.HL
end
