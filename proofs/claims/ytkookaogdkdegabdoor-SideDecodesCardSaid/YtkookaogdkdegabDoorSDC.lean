/- Texts laid into one, without what the claim does not use. Conditions: none. -/
import Derived.Test.YtkookaogdkdegabDoorSDB
import Derived.MapKept
import Derived.WideKeyRuns
import Derived.Carry
import Derived.ProofKit
import Derived.OpenShut
import Derived.Deep.Slices
import Derived.Deep.Strs
import Derived.JoinedCond
import Derived.Conc.WgGenN
import Derived.Conc.EntryLaws
import Derived.Conc.Own2
import Derived.Conc.TokenWalk
import Derived.Conc.DeferLaws
import Derived.Conc.MarkLaws
/-! QHLGo -/
section
namespace Go.HL
set_option linter.unusedSectionVars false
variable [Tasks]
/-! short names for a walk's own simplifications -/
theorem zA {a b : Bool} : ((!a) = b) ↔ a = !b := Bool.not_eq_eq_eq_not
theorem zB : (!true) = false := rfl
theorem zC : (!false) = true := rfl
theorem zD {p : Prop} [Decidable p] : (decide p = true) = p := decide_eq_true_eq
theorem zE {p : Prop} {x : Decidable p} : decide p = false ↔ ¬ p := decide_eq_false_iff_not
theorem zF {p : Prop} [Decidable p] : ¬ ¬ p ↔ p := Decidable.not_not
theorem zG (a b : Bool) : ((a && b) = true) = (a = true ∧ b = true) := Bool.and_eq_true a b
theorem zH {α : Type} [BEq α] [LawfulBEq α] {a b : α} : (a == b) = true ↔ a = b := beq_iff_eq
theorem zI (h : Decidable True) : @decide True h = true := decide_true h
theorem zJ (b : Bool) : (b && true) = b := Bool.and_true b
theorem zK (b : Bool) : (true && b) = b := Bool.true_and b
theorem zL : (¬ True) = False := not_true_eq_false
theorem zM : (¬ False) = True := not_false_eq_true
open Go
set_option linter.unusedVariables false
set_option linter.unusedSimpArgs false

def okv : Env → Bool
  | [] => true
  | _ :: _ => true
/-! ### control -/
section c
variable {P : Program} {n : Nat} {ops : List Oper} {Q : Exit → Env → Heap → Prop} {rest : List Oper} {ρ : Env} {L : Heap}
theorem g_t {c : Operand} {x y : Code} {b : Bool} (h : HW P n x Q ρ L) (h00 : okv ρ = true := by exact rfl) (hc : ev ρ c = some (.bool b) := by exact rfl) (hb : b = true := by with_reducible exact rfl) : HW P n (.cond c x y) Q ρ L := hw_true hc hb h
theorem g_f {c : Operand} {x y : Code} {b : Bool} (h : HW P n y Q ρ L) (h00 : okv ρ = true := by exact rfl) (hc : ev ρ c = some (.bool b) := by exact rfl) (hb : b = false := by with_reducible exact rfl) : HW P n (.cond c x y) Q ρ L := hw_false hc hb h
theorem g_b {c : Operand} {x y : Code} {b : Bool} (ht : b = true → HW P n x Q ρ L) (hf : b = false → HW P n y Q ρ L) (h00 : okv ρ = true := by exact rfl) (hc : ev ρ c = some (.bool b) := by exact rfl) : HW P n (.cond c x y) Q ρ L := hw_bool hc ht hf
theorem g_bx {id i : Nat} (h : Q (.exit i) ρ L) (h00 : okv ρ = true := by exact rfl) (hn : Nat.beq i id = false := by exact rfl) : blkQ id Q (.exit i) ρ L := blkQ_exit hn h

/-! ### operations -/
variable {op : Op} {ty : TypeId} {pos : String} {af : Array Edge} {g : Option (Nat × Bool)} {d : Nat}
theorem g_q {v : Value} (h : QOp P ⟨some d, op, ty, pos, af, g⟩ ρ L v) (hr : HO P n ops Q rest ((d, v) :: ρ) L) (h00 : okv ρ = true := by exact rfl) (hg : guardE ops ρ g = some true := by exact rfl) (hn : Nat.blt d n = true := by exact rfl) : HO P n ops Q (⟨some d, op, ty, pos, af, g⟩ :: rest) ρ L := ho_go hg hn h hr
theorem g_n (hr : HO P n ops Q rest ((d, undef) :: ρ) L) (h00 : okv ρ = true := by exact rfl) (hg : guardE ops ρ g = some false := by exact rfl) (hn : Nat.blt d n = true := by exact rfl) : HO P n ops Q (⟨some d, op, ty, pos, af, g⟩ :: rest) ρ L := ho_no hg hn hr
theorem g_on {d : Option Tmp} {j : Nat} {wt : Bool} (h : HO P n ops Q (⟨d, op, ty, pos, af, none⟩ :: rest) ρ L) (h00 : okv ρ = true := by exact rfl) (hg : guardE ops ρ (some (j, wt)) = some true := by exact rfl) : HO P n ops Q (⟨d, op, ty, pos, af, some (j, wt)⟩ :: rest) ρ L := ho_on hg h
theorem g_s {d j t : Nat} {wt : Bool} {b : Bool} (h1 : b = true → HO P n ops Q (⟨some d, op, ty, pos, af, some (j, wt)⟩ :: rest) ((t, .bool true) :: ρ) L) (h0 : b = false → HO P n ops Q (⟨some d, op, ty, pos, af, some (j, wt)⟩ :: rest) ((t, .bool false) :: ρ) L)
    (h00 : okv ρ = true := by exact rfl) (hj : gdst ops j = some t := by exact rfl) (ht : lk ρ t = some (.bool b) := by exact rfl) : HO P n ops Q (⟨some d, op, ty, pos, af, some (j, wt)⟩ :: rest) ρ L := ho_gsplit hj ht h1 h0
variable {K : Env → Prop}
theorem k_q {v : Value} (h : QOp P ⟨some d, op, ty, pos, af, g⟩ ρ L v) (hr : HQ P n ops K rest ((d, v) :: ρ) L) (h00 : okv ρ = true := by exact rfl) (hg : guardE ops ρ g = some true := by exact rfl) (hn : Nat.blt d n = true := by exact rfl) : HQ P n ops K (⟨some d, op, ty, pos, af, g⟩ :: rest) ρ L := hq_go hg hn h hr
theorem k_n (hr : HQ P n ops K rest ((d, undef) :: ρ) L) (h00 : okv ρ = true := by exact rfl) (hg : guardE ops ρ g = some false := by exact rfl) (hn : Nat.blt d n = true := by exact rfl) : HQ P n ops K (⟨some d, op, ty, pos, af, g⟩ :: rest) ρ L := hq_no hg hn hr
theorem k_s {d j t : Nat} {wt : Bool} {b : Bool} (h1 : b = true → HQ P n ops K (⟨some d, op, ty, pos, af, some (j, wt)⟩ :: rest) ((t, .bool true) :: ρ) L) (h0 : b = false → HQ P n ops K (⟨some d, op, ty, pos, af, some (j, wt)⟩ :: rest) ((t, .bool false) :: ρ) L)
    (h00 : okv ρ = true := by exact rfl) (hj : gdst ops j = some t := by exact rfl) (ht : lk ρ t = some (.bool b) := by exact rfl) : HQ P n ops K (⟨some d, op, ty, pos, af, some (j, wt)⟩ :: rest) ρ L := hq_gsplit hj ht h1 h0
def calm : List Oper → Bool
  | [] => true
  | o :: r => bif isAct o then false else calm r
/-- a drawn region of reads alone -/
theorem g_k {id : Nat} (S : Tab P) (h : HQ P n ops (fun ρ' => Q .normal ρ' L) ops ρ L) (h00 : okv ρ = true := by exact rfl) (hc : calm ops = true := by exact rfl) (hB : Region.lexB .any ops.toArray = true := by decide +kernel) : HW P n (.region id ops.toArray true) Q ρ L := hw_quiet S hB h
/-- any drawn region -/
theorem g_d {id : Nat} (S : Tab P) {rem : List (Nat × Oper)} (h : HD P n ops Q [] rem ρ L) (h00 : okv ρ = true := by exact rfl) (h0 : numE nums ops some = some rem := by exact rfl) : HW P n (.region id ops.toArray true) Q ρ L := hw_draw S h0 h
theorem g_w {id : Nat} (S : Tab P) {rem : List (Nat × Oper)} (h : HD P n ops Q [] rem ρ L) (h00 : okv ρ = true := by exact rfl) (hc : calm ops = false := by exact rfl) (h0 : numE nums ops some = some rem := by exact rfl) : HW P n (.region id ops.toArray true) Q ρ L := hw_draw S h0 h
end c

/-! ### what reads -/
section q
variable {P : Program} {ρ : Env} {L : Heap} {d : Option Tmp} {ty : TypeId} {pos : String} {af : Array Edge} {g : Option (Nat × Bool)}
theorem qe (S : Tab P) {o : Op} {v : Value} {p : Prop} (h00 : okv ρ = true := by exact rfl) (h : opE S.ty S.fl ρ o = some (v, p) := by exact rfl) (hp : p := by first | exact trivial | omega | assumption | (simp only [List.length_append, List.length_cons, List.length_nil]; omega) | (simp only [loE, hiE, wdE, Int.reduceToNat, Int.reducePow] at *; omega)) : QOp P ⟨d, o, ty, pos, af, g⟩ ρ L v := opE_q S h hp
theorem qg (S : Tab P) {t n : Nat} {ti : TyI} {v : Value} (h00 : okv ρ = true := by exact rfl) (ht : lkN S.ty t = some ti := by exact rfl) (h6 : Nat.beq ti.kind 6 = false := by exact rfl) (h7 : Nat.beq ti.kind 7 = false := by exact rfl) (hg : Gl L n v := by (repeat (first | assumption | exact Errs.get (by assumption) rfl rfl | apply Gl.cons))) :
    QOp P ⟨d, .load t (.global n), ty, pos, af, g⟩ ρ L v := q_gload S ht h6 h7 hg
theorem ql (S : Tab P) {t b i E : Nat} {ti : TyI} {x : Operand} {l : List Value} {fr : Nat × Nat} {v : Value} (h00 : okv ρ = true := by exact rfl) (hx : ev ρ x = some (pt b i) := by exact rfl) (ht : lkN S.ty t = some ti := by exact rfl) (h6 : Nat.beq ti.kind 6 = false := by exact rfl) (h7 : Nat.beq ti.kind 7 = false := by exact rfl)
    (hb : Has L b (.cells ⟨l⟩ E fr) := by (repeat (first | assumption | exact has_here | exact has_mem (by assumption) | apply has_in | apply has_next))) (hv : l[i]? = some v := by (first | exact rfl | assumption | exact Gets.at (by assumption) rfl | exact Gets.at0 (by assumption) rfl)) :
    QOp P ⟨d, .load t x, ty, pos, af, g⟩ ρ L v := q_load S hx ht h6 h7 hb hv
theorem gets_len {l vs : List Value} {i n : Nat} (h : Gets l i vs) (hn : n = vs.length) : Gets l i vs ∧ n = vs.length := ⟨h, hn⟩
theorem qs (S : Tab P) {t b i E : Nat} {ti : TyI} {x : Operand} {l vs : List Value} {fr : Nat × Nat} (h00 : okv ρ = true := by exact rfl) (hx : ev ρ x = some (pt b i) := by exact rfl) (ht : lkN S.ty t = some ti := by exact rfl) (h7 : (Nat.beq ti.kind 6 || Nat.beq ti.kind 7) = true := by exact rfl)
    (hb : Has L b (.cells ⟨l⟩ E fr) := by (repeat (first | assumption | exact has_here | exact has_mem (by assumption) | apply has_in | apply has_next)))
    (hv : Gets l i vs ∧ ti.size = vs.length := by (first | (refine gets_len (by assumption) ?_; rfl) | exact ⟨Za rfl (Za rfl (Za rfl gets_nil)), rfl⟩ | exact ⟨Za rfl (Za rfl gets_nil), rfl⟩ | exact ⟨Za rfl (Za rfl (Za rfl (Za rfl gets_nil))), rfl⟩ | exact ⟨Za rfl (Za rfl (Za rfl (Za rfl (Za rfl (Za rfl (Za rfl (Za rfl (Za rfl gets_nil)))))))), rfl⟩)) :
    QOp P ⟨d, .load t x, ty, pos, af, g⟩ ρ L (.agg ⟨vs⟩) := q_loads S hx ht h7 hb hv
theorem qn (S : Tab P) {t : Nat} {x : Operand} {b : Bool} (h00 : okv ρ = true := by exact rfl) (hx : ev ρ x = some (.bool b) := by exact rfl) : QOp P ⟨d, .unOp .not t x, ty, pos, af, g⟩ ρ L (.bool (!b)) := q_not hx
theorem qb (S : Tab P) {t : Nat} {parts : Array (Nat × Operand)} {zs out : List Value} {vals : List (Nat × Value)} {fs : List (Nat × Nat × Nat)} (h00 : okv ρ = true := by exact rfl) (hz : lkN S.zr t = some (.agg ⟨zs⟩) := by exact rfl) (hs : lkN S.st t = some fs := by exact rfl) (hp : evParts ρ parts.toList = some vals := by exact rfl)
    (hf : ((fillS fs zs vals).bind fun l => nfL l some) = some out := by exact rfl) : QOp P ⟨d, .build t parts, ty, pos, af, g⟩ ρ L (.agg ⟨out⟩) := q_build S hz hs hp hf
theorem qSl (S : Tab P) {t : Nat} {ti : TyI} {x y : Operand} {k : IntKind} {lo : Int} {l : List UInt8} (h00 : okv ρ = true := by exact rfl) (hx : ev ρ x = some (bs l) := by exact rfl) (hy : ev ρ y = some (.int k lo) := by exact rfl) (ht : lkN S.ty t = some ti := by exact rfl) (hk : Nat.beq ti.kind 3 = true := by exact rfl) (h : 0 ≤ lo ∧ lo ≤ l.length := by omega) :
    QOp P ⟨d, .slice t x (some y) none none, ty, pos, af, g⟩ ρ L (bs (l.drop lo.toNat)) := q_strLo S hx hy ht hk h
theorem qSh (S : Tab P) {t : Nat} {ti : TyI} {x y : Operand} {k : IntKind} {hi : Int} {l : List UInt8} (h00 : okv ρ = true := by exact rfl) (hx : ev ρ x = some (bs l) := by exact rfl) (hy : ev ρ y = some (.int k hi) := by exact rfl) (ht : lkN S.ty t = some ti := by exact rfl) (hk : Nat.beq ti.kind 3 = true := by exact rfl) (h : 0 ≤ hi ∧ hi ≤ l.length := by omega) :
    QOp P ⟨d, .slice t x none (some y) none, ty, pos, af, g⟩ ρ L (bs (l.take hi.toNat)) := q_strHi S hx hy ht hk h
theorem qSb (S : Tab P) {t : Nat} {ti : TyI} {x y z : Operand} {k k2 : IntKind} {lo hi : Int} {l : List UInt8} (h00 : okv ρ = true := by exact rfl) (hx : ev ρ x = some (bs l) := by exact rfl) (hy : ev ρ y = some (.int k lo) := by exact rfl) (hz : ev ρ z = some (.int k2 hi) := by exact rfl) (ht : lkN S.ty t = some ti := by exact rfl) (hk : Nat.beq ti.kind 3 = true := by exact rfl) (h : 0 ≤ lo ∧ lo ≤ hi ∧ hi ≤ l.length := by omega) :
    QOp P ⟨d, .slice t x (some y) (some z) none, ty, pos, af, g⟩ ρ L (bs ((l.take hi.toNat).drop lo.toNat)) := q_strLH S hx hy hz ht hk h
theorem qt (S : Tab P) {t t2 E y0 s0 b0 x1 y1 s1 by1 : Nat} {ti : TyI} {x : Operand} {a : Option Addr} {cap : Nat} {l : List UInt8} (h00 : okv ρ = true := by exact rfl) (hx : ev ρ x = some (.slice a l.length cap) := by exact rfl) (ht : lkN S.ty t = some ⟨5, E, y0, s0, b0⟩ := by exact rfl) (he : lkN S.ty E = some ⟨2, x1, y1, s1, by1⟩ := by exact rfl) (hu : Nat.beq x1 4 = true := by exact rfl)
    (ht2 : lkN S.ty t2 = some ti := by exact rfl) (h3 : Nat.beq ti.kind 3 = true := by exact rfl) (hR : Rd uc 1 L a l := by (repeat (first | assumption | apply Rd.cons))) : QOp P ⟨d, .convert t t2 x, ty, pos, af, g⟩ ρ L (bs l) := q_toString S hx ht he hu ht2 h3 hR
theorem qA (S : Tab P) {t t' : Nat} {l : List Nat} {x y : Operand} {xs ys : List Value} {r : Bool} (h00 : okv ρ = true := by exact rfl) (hx : ev ρ x = some (.agg ⟨xs⟩) := by exact rfl) (hy : ev ρ y = some (.agg ⟨ys⟩) := by exact rfl) (ht : lkN S.eq t = some l := by exact rfl) (he : eqF l xs ys = some r := by exact rfl) : QOp P ⟨d, .binOp .eql t x y t', ty, pos, af, g⟩ ρ L (.bool r) := q_eqA (S := S) hx hy ht he
theorem qB (S : Tab P) {t t' : Nat} {l : List Nat} {x y : Operand} {xs ys : List Value} {r : Bool} (h00 : okv ρ = true := by exact rfl) (hx : ev ρ x = some (.agg ⟨xs⟩) := by exact rfl) (hy : ev ρ y = some (.agg ⟨ys⟩) := by exact rfl) (ht : lkN S.eq t = some l := by exact rfl) (he : eqF l xs ys = some r := by exact rfl) : QOp P ⟨d, .binOp .neq t x y t', ty, pos, af, g⟩ ρ L (.bool (!r)) := q_neA (S := S) hx hy ht he
/-- bytes as9 text, the length told -/
theorem qtx (S : Tab P) {t t2 E y0 s0 b0 x1 y1 s1 by1 len : Nat} {ti : TyI} {x : Operand} {a : Option Addr} {cap : Nat} {l : List UInt8} (hR : Rd uc 1 L a l) (hlen : l.length = len) (h00 : okv ρ = true := by exact rfl) (hx : ev ρ x = some (.slice a len cap) := by exact rfl) (ht : lkN S.ty t = some ⟨5, E, y0, s0, b0⟩ := by exact rfl) (he : lkN S.ty E = some ⟨2, x1, y1, s1, by1⟩ := by exact rfl) (hu : Nat.beq x1 4 = true := by exact rfl)
    (ht2 : lkN S.ty t2 = some ti := by exact rfl) (h3 : Nat.beq ti.kind 3 = true := by exact rfl) : QOp P ⟨d, .convert t t2 x, ty, pos, af, g⟩ ρ L (bs l) := by subst hlen; exact q_toString S hx ht he hu ht2 h3 hR
theorem wrap_u8 (n : Int) : IntKind.u8.wrap n = n % 256 := by simp [IntKind.wrap, IntKind.bits, IntKind.signed]
theorem wrap_u32 (n : Int) : IntKind.u32.wrap n = n % 4294967296 := by simp [IntKind.wrap, IntKind.bits, IntKind.signed]
theorem q_cut (S : Tab P) {src dst : Nat} {ti ts : TyI} {x : Operand} {k : IntKind} {n : Int} (hx : ev ρ x = some (.int k n)) (ht : lkN S.ty dst = some ti) (hs : lkN S.ty src = some ts) (hk : Nat.beq ti.kind 2 = true) : QOp P ⟨d, .convert src dst x, ty, pos, af, g⟩ ρ L (.int (kindOf ti.x) ((kindOf ti.x).wrap n)) :=
  q_runp (fun ρe he N => by
    simp only [execOp, he x (by simp [Op.operands]) _ hx]
    exact Plo.bind (pl_convInt (ty_int (S.tyI ht) (Nat.eq_of_beq_eq_true hk))) fun _ => trivial) fun ρe he k' w hsat => by
    have e1 := ty_int (S.tyI ht) (Nat.eq_of_beq_eq_true hk)
    obtain ⟨ds, hds⟩ := Option.isSome_iff_exists.1 (ty_isSome (S.tyI hs))
    simp [execOp, he x (by simp [Op.operands]) _ hx, convert, run_underlying e1, run_underlying hds, Conv.intToInt]
/-- a number's lowest byte; its lowest 32 bits -/
theorem qc8 (S : Tab P) {src dst : Nat} {ti ts : TyI} {x : Operand} {k : IntKind} {n : Int} (h00 : okv ρ = true := by exact rfl) (hx : ev ρ x = some (.int k n) := by exact rfl) (ht : lkN S.ty dst = some ti := by exact rfl) (hs : lkN S.ty src = some ts := by exact rfl) (hk : Nat.beq ti.kind 2 = true := by exact rfl) (h8 : Nat.beq ti.x 4 = true := by exact rfl) :
    QOp P ⟨d, .convert src dst x, ty, pos, af, g⟩ ρ L (.int .u8 (n % 256)) := by
  have := q_cut (d := d) (ty := ty) (pos := pos) (af := af) (g := g) (L := L) S hx ht hs hk
  rw [Nat.eq_of_beq_eq_true h8] at this
  rw [← wrap_u8]
  exact this
theorem qc32 (S : Tab P) {src dst : Nat} {ti ts : TyI} {x : Operand} {k : IntKind} {n : Int} (h00 : okv ρ = true := by exact rfl) (hx : ev ρ x = some (.int k n) := by exact rfl) (ht : lkN S.ty dst = some ti := by exact rfl) (hs : lkN S.ty src = some ts := by exact rfl) (hk : Nat.beq ti.kind 2 = true := by exact rfl) (h8 : Nat.beq ti.x 6 = true := by exact rfl) :
    QOp P ⟨d, .convert src dst x, ty, pos, af, g⟩ ρ L (.int .u32 (n % 4294967296)) := by
  have := q_cut (d := d) (ty := ty) (pos := pos) (af := af) (g := g) (L := L) S hx ht hs hk
  rw [Nat.eq_of_beq_eq_true h8] at this
  rw [← wrap_u32]
  exact this
/-- ^c -/
theorem qx32 (S : Tab P) {t : Nat} {x : Operand} {n : Int} (h00 : okv ρ = true := by exact rfl) (hx : ev ρ x = some (.int .u32 n) := by exact rfl) (h : 0 ≤ n ∧ n ≤ 4294967295 := by omega) : QOp P ⟨d, .unOp .xor t x, ty, pos, af, g⟩ ρ L (.int .u32 (4294967295 - n)) :=
  q_run fun ρe he k w hs => by
    have e : IntKind.u32.wrap (BitVec.ofInt IntKind.u32.bits 4294967295 ^^^ BitVec.ofInt IntKind.u32.bits n).toNat = 4294967295 - n := by
      have h2 : IntKind.u32.bits = 32 := rfl
      rw [h2]
      have h1 : BitVec.ofInt 32 4294967295 = BitVec.allOnes 32 := by decide
      have h3 : (BitVec.allOnes 32 ^^^ BitVec.ofInt 32 n) = ~~~ BitVec.ofInt 32 n := BitVec.allOnes_xor
      have h4 : (BitVec.ofInt 32 n).toNat = n.toNat := ofInt_nat (k := .u32) h.1 h.2
      rw [h1, h3, wrap_u32, BitVec.toNat_not, h4]
      omega
    have e2 : (if IntKind.u32.signed = true then (-1 : Int) else IntKind.u32.max) = 4294967295 := by decide
    have e3 : (Op.intBits .xor .u32 4294967295 n).run P w = .ok (.int .u32 (4294967295 - n)) w := by
      simp only [Op.intBits]
      exact congrArg (fun z => Result.ok (Value.int .u32 z) w) e
    simp only [execOp, he x (by simp [Op.operands]) _ hx, Op.unary, e2]
    simp [e3]
/-- a call that changes nothing -/
theorem qC {f : Operand} {as9 : Array Operand} {ts : Array TypeId} {F : Nat} {cap args args' : List Value} {v : Value} (hc : HC P F args' L (fun u L' => u = v ∧ L' = L)) (h00 : okv ρ = true := by exact rfl) (hf : ev ρ f = some (.func (.func F) #[] ⟨cap⟩) := by exact rfl) (ha : evs ρ as9.toList = some args := by exact rfl) (he : args ++ cap = args' := by exact rfl) :
    QOp P ⟨d, .call { callee := .value f, args := as9, argTypes := ts }, ty, pos, af, g⟩ ρ L v := q_call hf ha (he ▸ hc)
end q

/-! ### what writes -/
section o
variable {P : Program} (S : Tab P) {n : Nat} {ops : List Oper} {Q : Exit → Env → Heap → Prop} {rest : List Oper} {ρ : Env} {L : Heap} {ty : TypeId} {pos : String} {af : Array Edge}
theorem wa {d E : Nat} {z : Value} {zs : List Value} (h : ∀ b, HO P n ops Q rest ((d, pt b 0) :: ρ) ([(b, .cells ⟨zs⟩ E)] :: L)) (h00 : okv ρ = true := by exact rfl) (hz : lkN S.zr E = some z := by exact rfl) (hc : z.cells = ⟨zs⟩ := by exact rfl) (hn : Nat.blt d n = true := by exact rfl) : HO P n ops Q (⟨some d, .alloc E, ty, pos, af, none⟩ :: rest) ρ L := o_alloc S hz hc hn h
theorem wb {d E : Nat} {x : Operand} {v : Value} {vs : List Value} (h : ∀ b, HO P n ops Q rest ((d, pt b 0) :: ρ) ([(b, .cells ⟨vs⟩ E)] :: L)) (h00 : okv ρ = true := by exact rfl) (hx : ev ρ x = some v := by exact rfl) (hc : v.cells = ⟨vs⟩ := by exact rfl) (hn : Nat.blt d n = true := by exact rfl) : HO P n ops Q (⟨some d, .box E x, ty, pos, af, none⟩ :: rest) ρ L := o_box hx hc hn h
theorem ws {t b i E : Nat} {ti : TyI} {x y : Operand} {v : Value} {vs l l' : List Value} {L' : Heap} (h : HO P n ops Q rest ρ L') (h00 : okv ρ = true := by exact rfl) (hx : ev ρ x = some (pt b i) := by exact rfl) (hy : ev ρ y = some v := by exact rfl) (ht : lkN S.ty t = some ti := by exact rfl)
    (hc : v.cells = ⟨vs⟩ := by exact rfl) (hsz : ti.size = vs.length := by exact rfl) (h1 : (vs.all Value.oneCell') = true := by exact rfl) (hu : Upd L b (.cells ⟨l⟩ E (0, 0)) (.cells ⟨l'⟩ E (0, 0)) L' := by (repeat (first | exact upd_here | apply upd_in | apply upd_next)))
    (hp : Puts l i vs l' := by (first | assumption | exact puts_all rfl | exact puts_zero | exact puts_succ puts_zero | exact puts_succ (puts_succ puts_zero) | (repeat (first | exact puts_zero | apply puts_succ)))) : HO P n ops Q (⟨none, .store t x y, ty, pos, af, none⟩ :: rest) ρ L := o_store S hx hy ht hc hsz h1 hp hu h
theorem wS {d t E y0 s0 b0 k1 x1 y1 by1 len : Nat} {z : Value} {zv : Value} {vals : List Value} {parts : Array (Nat × Operand)} (h : ∀ b, HO P n ops Q rest ((d, sl b 0 len len) :: ρ) ([(b, .cells ⟨vals⟩ E)] :: L)) (h00 : okv ρ = true := by exact rfl) (ht : lkN S.ty t = some ⟨5, E, y0, s0, b0⟩ := by exact rfl) (he : lkN S.ty E = some ⟨k1, x1, y1, 1, by1⟩ := by exact rfl) (hz : lkN S.zr E = some z := by exact rfl) (hzs : z.cells = ⟨[zv]⟩ := by exact rfl)
    (hp : evIx ρ 0 parts.toList = some vals := by exact rfl) (hlen : vals.length = len := by exact rfl) (hsm : Nat.ble len 16777216 = true := by exact rfl) (h1 : (vals.all Value.oneCell') = true := by exact rfl) (hn : Nat.blt d n = true := by exact rfl) : HO P n ops Q (⟨some d, .buildSlice t len parts, ty, pos, af, none⟩ :: rest) ρ L :=
  o_buildSlice1 S ht he hz hzs hp hlen hsm h1 hn h
theorem wm {d t E y0 s0 b0 k1 x1 y1 by1 : Nat} {z zv : Value} {x y : Operand} {kl kc : IntKind} {l c : Int} (h : ∀ b, HO P n ops Q rest ((d, sl b 0 l.toNat c.toNat) :: ρ) ([(b, .cells ⟨List.replicate c.toNat zv⟩ E)] :: L)) (h00 : okv ρ = true := by exact rfl) (hx : ev ρ x = some (.int kl l) := by exact rfl) (hy : ev ρ y = some (.int kc c) := by exact rfl) (ht : lkN S.ty t = some ⟨5, E, y0, s0, b0⟩ := by exact rfl) (he : lkN S.ty E = some ⟨k1, x1, y1, 1, by1⟩ := by exact rfl)
    (hz : lkN S.zr E = some z := by exact rfl) (hzs : z.cells = #[zv] := by exact rfl) (hn : Nat.blt d n = true := by exact rfl) (hc : 0 ≤ l ∧ l ≤ c ∧ (by1 : Int) * c ≤ 281474976710656 ∧ c ≤ 9223372036854775807 := by omega) : HO P n ops Q (⟨some d, .makeSlice t x y, ty, pos, af, none⟩ :: rest) ρ L := o_makeSlice1 S hx hy ht he hz hzs hn hc h
/-- a call by its contract -/
theorem gc {d : Nat} {f : Operand} {as9 : Array Operand} {ts : Array TypeId} {F : Nat} {cap args args' : List Value} {R : Value → Heap → Prop} (hc : HC P F args' L R) (h : ∀ v L', R v L' → HO P n ops Q rest ((d, v) :: ρ) L')
    (h00 : okv ρ = true := by exact rfl) (hf : ev ρ f = some (.func (.func F) #[] ⟨cap⟩) := by exact rfl) (ha : evs ρ as9.toList = some args := by exact rfl) (he : args ++ cap = args' := by exact rfl) (hn : Nat.blt d n = true := by exact rfl) : HO P n ops Q (⟨some d, .call { callee := .value f, args := as9, argTypes := ts }, ty, pos, af, none⟩ :: rest) ρ L :=
  o_call hf ha (he ▸ hc) hn h
/-- one component comes first -/
def pickL : Nat → Heap → Option (List Blk × Heap)
  | _, [] => none
  | 0, c :: r => some (c, r)
  | k + 1, c :: r => match pickL k r with
    | some (x, r') => some (x, c :: r')
    | none => none
theorem pickL_perm : ∀ {k : Nat} {L : Heap} {c : List Blk} {L' : Heap}, pickL k L = some (c, L') → List.Perm L (c :: L')
  | k, [], _, _, h => by cases k <;> simp [pickL] at h
  | 0, c :: r, _, _, h => by simp [pickL] at h; obtain ⟨rfl, rfl⟩ := h; exact .refl _
  | k + 1, c :: r, x, _, h => by
    simp only [pickL] at h
    split at h
    · rename_i y r' hy
      simp at h
      obtain ⟨rfl, rfl⟩ := h
      exact ((pickL_perm hy).cons c).trans (.swap _ _ _)
    · cases h
theorem fo {c : List Blk} {L' : Heap} {l : List Oper} (k0 : Nat) (h : HO P n ops Q l ρ (c :: L')) (h00 : okv ρ = true := by exact rfl) (hp : pickL k0 L = some (c, L') := by exact rfl) : HO P n ops Q l ρ L := ho_perm h (pickL_perm hp)
theorem fw {c : List Blk} {L' : Heap} {x : Code} (k0 : Nat) (h : HW P n x Q ρ (c :: L')) (h00 : okv ρ = true := by exact rfl) (hp : pickL k0 L = some (c, L') := by exact rfl) : HW P n x Q ρ L := hw_perm h (pickL_perm hp)
theorem HC.drop {F : Nat} {args : List Value} {L L' : Heap} {R : Value → Heap → Prop} (h : HC P F args L' R) (hp : List.Sublist L' L) : HC P F args L R := h.wk (.ls (.of_sub (sublist_flatten hp)))
end o

section f
variable {P : Program} {n : Nat} {ops : List Oper} {Q : Exit → Env → Heap → Prop} {Qv : Value → Heap → Prop} {ρ : Env} {L : Heap} {fn : Func}
theorem Sat.fl {k : Ctx} {w : World} {L L' : Heap} (h : Sat k w L) (hf : L'.flatten = L.flatten) : Sat k w L' := h.sp (.of_eq hf)
theorem hw_fl {c : Code} {L' : Heap} (h : HW P n c Q ρ L') (hf : L'.flatten = L.flatten := by exact rfl) : HW P n c Q ρ L := hw_sp0 h (.of_eq hf)
theorem hw_sp {c : Code} {L' : Heap} (h : HW P n c Q ρ L') (hf : LS L'.flatten L.flatten) : HW P n c Q ρ L := hw_sp0 h hf
theorem ho_sp {l : List Oper} {L' : Heap} (h : HO P n ops Q l ρ L') (hf : LS L'.flatten L.flatten) : HO P n ops Q l ρ L := ho_ls h hf
theorem HC.fl {F : Nat} {args : List Value} {L L' : Heap} {R : Value → Heap → Prop} (h : HC P F args L' R) (hf : L'.flatten = L.flatten := by exact rfl) : HC P F args L R := h.wk (.ls (.of_eq hf))
theorem HC.sp {F : Nat} {args : List Value} {L L' : Heap} {R : Value → Heap → Prop} (h : HC P F args L' R) (hf : LS L'.flatten L.flatten) : HC P F args L R := h.wk (.ls hf)
/-- the post on other cuts -/
theorem HC.post {F : Nat} {args : List Value} {L : Heap} {R R' : Value → Heap → Prop} (h : HC P F args L R) (hr : ∀ v L', R v L' → ∃ L2, LS L2.flatten L'.flatten ∧ R' v L2) : HC P F args L R' :=
  h.wkQ fun v L' q => let ⟨L2, h1, h2⟩ := hr v L' q; ⟨L2, .ls h1, h2⟩
theorem er0 {L' : Heap} (hL : L'.flatten = L.flatten) (h : Qv (.tuple #[]) L') (hr : fn.results = #[] := by rfl) : fnQ P fn Qv .ret ρ L := fun k w a hs ha => ⟨_, L', by simp [results, hr], .ls (.of_eq hL), h⟩
theorem ee0 {L' : Heap} (hL : L'.flatten = L.flatten) (h : Qv (.tuple #[]) L') (hr : fn.results = #[] := by rfl) : fnQ P fn Qv .normal ρ L := fun k w a hs ha => ⟨_, L', by simp [results, hr], .ls (.of_eq hL), h⟩
theorem sp1 {r : ResultVar} {v : Value} {L' : Heap} (hL : LS L'.flatten L.flatten) (h : Qv v L') (hr : fn.results = #[r] := by rfl) (hv : ResV P ρ L r v := by rfl) : fnQ P fn Qv .ret ρ L :=
  fun k w a hs ha => ⟨v, L', by simp [results_rv, hr, hv.run hs ha], .ls hL, h⟩
theorem sp2 {r s : ResultVar} {x y : Value} {L' : Heap} (hL : LS L'.flatten L.flatten) (h : Qv (.tuple ⟨[x, y]⟩) L') (hr : fn.results = #[r, s] := by rfl) (hx : ResV P ρ L r x := by rfl) (hy : ResV P ρ L s y := by rfl) : fnQ P fn Qv .ret ρ L :=
  fun k w a hs ha => ⟨.tuple ⟨[x, y]⟩, L', by simp [results_rv, hr, hx.run hs ha, hy.run hs ha], .ls hL, h⟩
/-- a result that lies in a cell -/
theorem rcell (S : Tab P) {t T b i E : Nat} {ti : TyI} {l vs : List Value} {fr : Nat × Nat} (hp : lk ρ t = some (pt b i) := by rfl) (ht : lkN S.ty T = some ti := by rfl) (h7 : (Nat.beq ti.kind 6 || Nat.beq ti.kind 7) = true := by rfl)
    (hb : Has L b (.cells ⟨l⟩ E fr) := by (repeat (first | assumption | exact has_here | exact has_mem (by assumption) | apply has_in | apply has_next))) (hg : Gets l i vs) (hn : ti.size = vs.length := by rfl) : ResV P ρ L (.cell t T) (.agg ⟨vs⟩) :=
  ⟨⟨b, i, none⟩, hp, fun k w hs => by
    have h1 := ty_agg (S.tyI ht) h7 w
    have h2 := load_cells (P := P) hs hb hg
    have h3 := ty_size (S.tyI ht) w
    simp [loadVar, h1, h2, h3, hn]⟩
end f

/-! ### drawn regions -/
section d
variable {P : Program} (S : Tab P) {n : Nat} {ops : List Oper} {Q : Exit → Env → Heap → Prop} {Ss : List (Nat × Blk)} {rem rem' : List (Nat × Oper)} {ρ : Env} {L : Heap} {op : Op} {ty : TypeId} {pos : String} {af : Array Edge} {g : Option (Nat × Bool)} {d i : Nat}
/-- what hangs on no memory -/
theorem d_q {v : Value} (k : Nat) (hp : pickS k rem = some ((i, ⟨some d, op, ty, pos, af, g⟩), rem')) (h : ∀ L, QOp P ⟨some d, op, ty, pos, af, g⟩ ρ L v) (hr : HD P n ops Q Ss rem' ((d, v) :: ρ) L) (h00 : okv ρ = true := by exact rfl) (hg : guardE ops ρ g = some true := by exact rfl) (hn : Nat.blt d n = true := by exact rfl)
    (hc : chkQ ops rem' i ⟨some d, op, ty, pos, af, g⟩ = true := by decide +kernel) : HD P n ops Q Ss rem ρ L := hd_q (F := []) hp hc rfl hn (.inl ⟨hg, fun L _ => h L⟩) (by simp) hr
theorem d_n (k : Nat) (hr : HD P n ops Q Ss rem' ((d, undef) :: ρ) L) (h00 : okv ρ = true := by exact rfl) (hp : pickS k rem = some ((i, ⟨some d, op, ty, pos, af, g⟩), rem') := by exact rfl) (hg : guardE ops ρ g = some false := by exact rfl) (hn : Nat.blt d n = true := by exact rfl)
    (hc : chkQ ops rem' i ⟨some d, op, ty, pos, af, g⟩ = true := by decide +kernel) : HD P n ops Q Ss rem ρ L := hd_q (F := []) hp hc rfl hn (.inr ⟨hg, rfl⟩) (by simp) hr
/-- what hangs on one block -/
theorem d_l {v : Value} {b : Nat} {o : Obj} (k : Nat) (h : ∀ L, Has L b o → QOp P ⟨some d, op, ty, pos, af, g⟩ ρ L v) (hb : Has L b o) (hr : HD P n ops Q ((i, (b, o)) :: Ss) rem' ((d, v) :: ρ) L) (h00 : okv ρ = true := by exact rfl) (hp : pickS k rem = some ((i, ⟨some d, op, ty, pos, af, g⟩), rem') := by exact rfl) (hg : guardE ops ρ g = some true := by exact rfl) (hn : Nat.blt d n = true := by exact rfl)
    (hc : chkQ ops rem' i ⟨some d, op, ty, pos, af, g⟩ = true := by decide +kernel) : HD P n ops Q Ss rem ρ L := hd_q (F := [(b, o)]) hp hc rfl hn (.inl ⟨hg, fun L hL => h L (hL (b, o) (by simp))⟩) (by simpa using hb) hr
theorem dl {t b a E : Nat} {ti : TyI} {x : Operand} {l : List Value} {fr : Nat × Nat} {v : Value} (k : Nat) (hr : HD P n ops Q ((i, (b, .cells ⟨l⟩ E fr)) :: Ss) rem' ((d, v) :: ρ) L) (h00 : okv ρ = true := by exact rfl) (hp : pickS k rem = some ((i, ⟨some d, .load t x, ty, pos, af, g⟩), rem') := by exact rfl)
    (hx : ev ρ x = some (pt b a) := by exact rfl) (ht : lkN S.ty t = some ti := by exact rfl) (h6 : Nat.beq ti.kind 6 = false := by exact rfl) (h7 : Nat.beq ti.kind 7 = false := by exact rfl) (hg : guardE ops ρ g = some true := by exact rfl) (hn : Nat.blt d n = true := by exact rfl)
    (hb : Has L b (.cells ⟨l⟩ E fr) := by (repeat (first | assumption | exact has_here | exact has_mem (by assumption) | apply has_in | apply has_next))) (hv : l[a]? = some v := by (first | exact rfl | assumption | exact Gets.at (by assumption) rfl | exact Gets.at0 (by assumption) rfl))
    (hc : chkQ ops rem' i ⟨some d, .load t x, ty, pos, af, g⟩ = true := by decide +kernel) : HD P n ops Q Ss rem ρ L := d_l k (fun L h => q_load S hx ht h6 h7 h hv) hb hr h00 hp hg hn hc
theorem ds {t b a E : Nat} {ti : TyI} {x : Operand} {l vs : List Value} {fr : Nat × Nat} (k : Nat) (hr : HD P n ops Q ((i, (b, .cells ⟨l⟩ E fr)) :: Ss) rem' ((d, .agg ⟨vs⟩) :: ρ) L) (h00 : okv ρ = true := by exact rfl) (hp : pickS k rem = some ((i, ⟨some d, .load t x, ty, pos, af, g⟩), rem') := by exact rfl)
    (hx : ev ρ x = some (pt b a) := by exact rfl) (ht : lkN S.ty t = some ti := by exact rfl) (h7 : (Nat.beq ti.kind 6 || Nat.beq ti.kind 7) = true := by exact rfl) (hg : guardE ops ρ g = some true := by exact rfl) (hn : Nat.blt d n = true := by exact rfl)
    (hb : Has L b (.cells ⟨l⟩ E fr) := by (repeat (first | assumption | exact has_here | exact has_mem (by assumption) | apply has_in | apply has_next)))
    (hv : Gets l a vs ∧ ti.size = vs.length := by (first | (refine gets_len (by assumption) ?_; rfl) | exact ⟨Za rfl (Za rfl (Za rfl gets_nil)), rfl⟩ | exact ⟨Za rfl (Za rfl gets_nil), rfl⟩ | exact ⟨Za rfl (Za rfl (Za rfl (Za rfl gets_nil))), rfl⟩ | exact ⟨Za rfl (Za rfl (Za rfl (Za rfl (Za rfl (Za rfl (Za rfl (Za rfl (Za rfl gets_nil)))))))), rfl⟩))
    (hc : chkQ ops rem' i ⟨some d, .load t x, ty, pos, af, g⟩ = true := by decide +kernel) : HD P n ops Q Ss rem ρ L := d_l k (fun L h => q_loads S hx ht h7 h hv) hb hr h00 hp hg hn hc
theorem dg {t G : Nat} {ti : TyI} {v : Value} {L0 : Heap} (k : Nat) (hr : ∀ o, Has L0 G o → HD P n ops Q ((i, (G, o)) :: Ss) rem' ((d, v) :: ρ) L) (h00 : okv ρ = true := by exact rfl) (hp : pickS k rem = some ((i, ⟨some d, .load t (.global G), ty, pos, af, g⟩), rem') := by exact rfl)
    (ht : lkN S.ty t = some ti := by exact rfl) (h6 : Nat.beq ti.kind 6 = false := by exact rfl) (h7 : Nat.beq ti.kind 7 = false := by exact rfl) (hg : guardE ops ρ g = some true := by exact rfl) (hn : Nat.blt d n = true := by exact rfl)
    (hG : Gl L0 G v := by first | assumption | exact Errs.get (by assumption) rfl rfl) (hL : ∀ o, Has L0 G o → Has L G o := by (intro o ho; repeat (first | assumption | apply has_next | apply has_in)))
    (hc : chkQ ops rem' i ⟨some d, .load t (.global G), ty, pos, af, g⟩ = true := by decide +kernel) : HD P n ops Q Ss rem ρ L := by
  obtain ⟨l, E, fr, h1, h2⟩ := hG
  exact d_l k (fun L h => q_load S (x := .global G) rfl ht h6 h7 h h2) (hL _ h1) (hr _ h1) h00 hp hg hn hc
theorem da {o : Oper} (k : Nat) (h : HO P n ops (actQ P n ops Q i Ss rem') [o] ρ L) (h00 : okv ρ = true := by exact rfl) (hp : pickS k rem = some ((i, o), rem') := by exact rfl) (hc : chkA ops rem' i o = true := by decide +kernel) : HD P n ops Q Ss rem ρ L := hd_act hp hc h
def nextP (ops : List Oper) (i : Nat) (L : Heap) : List (Nat × Blk) → (List (Nat × Blk) → Prop) → Prop
  | [], K => K []
  | (i0, p) :: r, K => bif keepE ops i0 i then Has L p.1 p.2 ∧ nextP ops i L r (fun l => K ((i0, p) :: l)) else nextP ops i L r K
theorem nextP_eq : ∀ {Ss : List (Nat × Blk)} {K : List (Nat × Blk) → Prop}, nextP ops i L Ss K → ssOk ops i L Ss ∧ K (ssF ops i Ss)
  | [], K, h => ⟨trivial, h⟩
  | (i0, p) :: r, K, h => by
    simp only [nextP] at h
    cases hk : keepE ops i0 i with
    | true =>
      rw [hk] at h
      obtain ⟨h1, h2⟩ := nextP_eq h.2
      refine ⟨⟨.inr h.1, h1⟩, ?_⟩
      simpa [ssF, hk] using h2
    | false =>
      rw [hk] at h
      obtain ⟨h1, h2⟩ := nextP_eq h
      refine ⟨⟨.inl hk, h1⟩, ?_⟩
      simpa [ssF, hk] using h2
theorem dx (h : nextP ops i L Ss fun Ss' => HD P n ops Q Ss' rem ρ L) : actQ P n ops Q i Ss rem .normal ρ L := nextP_eq h
theorem dx0 {K : List (Nat × Blk) → Prop} (h : K []) : nextP ops i L [] K := h
theorem dxk {i0 : Nat} {p : Blk} {r : List (Nat × Blk)} {K : List (Nat × Blk) → Prop} (h : nextP ops i L r (fun l => K ((i0, p) :: l))) (hk : keepE ops i0 i = true := by exact rfl) (hb : Has L p.1 p.2 := by (repeat (first | assumption | exact has_here | exact has_mem (by assumption) | apply has_in | apply has_next))) : nextP ops i L ((i0, p) :: r) K := by
  simp only [nextP, hk]; exact ⟨hb, h⟩
theorem dxd {i0 : Nat} {p : Blk} {r : List (Nat × Blk)} {K : List (Nat × Blk) → Prop} (h : nextP ops i L r K) (hk : keepE ops i0 i = false := by exact rfl) : nextP ops i L ((i0, p) :: r) K := by
  simp only [nextP, hk]; exact h
end d
end Go.HL
end

/-! QHLCp -/
section
namespace Go.HL
set_option linter.unusedSectionVars false
variable [Tasks]
open Go
set_option linter.unusedVariables false
set_option linter.unusedSimpArgs false
def u8 (b : UInt8) : Value := .int .u8 b.toNat
theorem u8_flat (l : List UInt8) : (l.map uc).flatten = l.map u8 := uc_flat l
theorem madeCells_flat (zs : List Value) : ∀ n : Nat, madeCells ⟨zs⟩ (n * zs.length) = ⟨(List.replicate n zs).flatten⟩ := by
  intro n
  apply Array.ext'
  simp only [madeCells, Array.toList_map, Array.toList_range]
  induction n with
  | zero => simp
  | succ n ih =>
    rw [Nat.add_mul, Nat.one_mul, Nat.add_comm, List.range_add, List.map_append, List.replicate_succ, List.flatten_cons, ← ih, List.map_map]
    congr 1
    · apply List.ext_getElem?
      intro i
      by_cases h : i < zs.length
      · simp [h, Nat.mod_eq_of_lt h]
      · simp [h]
    · apply List.map_congr_left
      intro i hi
      simp
section o
variable {P : Program} (S : Tab P) {n : Nat} {ops : List Oper} {Q : Exit → Env → Heap → Prop} {rest : List Oper} {ρ : Env} {L : Heap} {ty : TypeId} {pos : String} {af : Array Edge}
/-- make([]E, c) -/
theorem wM {d t E y0 s0 b0 k1 x1 y1 sz by1 : Nat} {z : Value} {zs : List Value} {x y : Operand} {kl kc : IntKind} {l c : Int} (h : ∀ b, HO P n ops Q rest ((d, sl b 0 l.toNat c.toNat) :: ρ) ([(b, .cells ⟨(List.replicate c.toNat zs).flatten⟩ E)] :: L)) (h00 : okv ρ = true := by exact rfl) (hx : ev ρ x = some (.int kl l) := by exact rfl) (hy : ev ρ y = some (.int kc c) := by exact rfl) (ht : lkN S.ty t = some ⟨5, E, y0, s0, b0⟩ := by exact rfl) (he : lkN S.ty E = some ⟨k1, x1, y1, sz, by1⟩ := by exact rfl)
    (hz : lkN S.zr E = some z := by exact rfl) (hzs : z.cells = ⟨zs⟩ := by exact rfl) (hzl : Nat.beq zs.length sz = true := by exact rfl) (hn : Nat.blt d n = true := by exact rfl) (hc : 0 ≤ l ∧ l ≤ c ∧ (by1 : Int) * c ≤ 281474976710656 ∧ c ≤ 9223372036854775807 := by omega) : HO P n ops Q (⟨some d, .makeSlice t x y, ty, pos, af, none⟩ :: rest) ρ L := by
  refine ho_run rfl rfl hn fun ρe he' k w hs => ⟨sl w.heap.size 0 l.toNat c.toNat, w.alloc (.cells ⟨(List.replicate c.toNat zs).flatten⟩ E), _, ?_, hs.new _, h _⟩
  have hdesc := ty_slice (S.tyI ht) rfl
  obtain ⟨de, i, hde, hi, -, hisz, hiby⟩ := ty_desc (S.tyI he)
  simp only at hisz hiby
  have hiz : i.zero = some z := by
    have := S.zeroI hz
    unfold zeroI at this
    simpa [hi] using this
  have hr := run_make (P := P) w t E i z hdesc hi hiz kl kc l c hc.1 hc.2.1 (by rw [hiby]; exact hc.2.2.1) hc.2.2.2
  have hl := Nat.eq_of_beq_eq_true hzl
  rw [hisz, hzs, ← hl, madeCells_flat] at hr
  simp [execOp, he' x (by simp [Op.operands]) _ hx, he' y (by simp [Op.operands]) _ hy, hr]
end o
end Go.HL
end

/-! QHLVec -/
section
namespace Go.HL
set_option linter.unusedSectionVars false
variable [Tasks]
open Go
set_option linter.unusedVariables false
set_option linter.unusedSimpArgs false
def fillN (sz : Nat) : List Value → List (Nat × Value) → Option (List Value)
  | cells, [] => some cells
  | cells, (i, v) :: r => bif Nat.beq (cellsL v).length sz && Nat.ble (i * sz + (cellsL v).length) cells.length then fillN sz (putL cells (i * sz) (cellsL v)) r else none
theorem fillN_eq {sz : Nat} : ∀ (l : List (Nat × Value)) (cells out : List Value), fillN sz cells l = some out → Instr.fill (fun i => some (i * sz, sz)) ⟨cells⟩ l = some ⟨out⟩
  | [], cells, out, h => by simp [fillN] at h; subst h; rfl
  | (i, v) :: r, cells, out, h => by
    simp only [fillN] at h
    obtain ⟨hc, h2⟩ := bif_some h
    simp only [Bool.and_eq_true] at hc
    have e1 := Nat.eq_of_beq_eq_true hc.1
    have e2 := Nat.le_of_ble_eq_true hc.2
    have ih := fillN_eq r _ out h2
    have e3 := put_eq (cellsL v) cells (i * sz) 0
    simp only [Nat.add_zero] at e3
    unfold Instr.fill
    simp only [cellsL_eq]
    have hcond : (decide ((Array.mk (cellsL v)).size ≠ sz) || decide (i * sz + (Array.mk (cellsL v)).size > (Array.mk cells).size)) = false := by simp; omega
    rw [hcond]
    simp only [Bool.false_eq_true, if_false]
    have e4 : (Array.zipIdx ⟨cellsL v⟩ 0 : Array (Value × Nat)) = ⟨(cellsL v).zipIdx 0⟩ := by simp
    rw [e4]
    simp only [List.foldl_toArray]
    rw [e3]
    exact ih
theorem putL_at : ∀ (vs pre zs : List Value), vs.length ≤ zs.length → putL (pre ++ zs) pre.length vs = pre ++ (vs ++ zs.drop vs.length)
  | [], pre, zs, _ => by simp [putL]
  | v :: r, pre, [], h => by simp at h
  | v :: r, pre, z :: zs, h => by
    have e : (pre ++ z :: zs).set pre.length v = (pre ++ [v]) ++ zs := by simp
    have ih := putL_at r (pre ++ [v]) zs (by simpa using h)
    simp only [putL, e]
    rw [show pre.length + 1 = (pre ++ [v]).length by simp, ih]
    simp
/-- the cells of a literal that names all its parts, in order -/
def allCells (sz : Nat) : Nat → List (Nat × Value) → Option (List Value)
  | _, [] => some []
  | k, (i, v) :: r => bif Nat.beq i k && Nat.beq (cellsL v).length sz then (allCells sz (k + 1) r).bind fun l => some (cellsL v ++ l) else none
theorem fillN_all {sz : Nat} : ∀ (l : List (Nat × Value)) (k : Nat) (pre zs out : List Value), allCells sz k l = some out → pre.length = k * sz → zs.length = out.length → fillN sz (pre ++ zs) l = some (pre ++ out)
  | [], k, pre, zs, out, h, hp, hz => by
    simp [allCells] at h; subst h
    have : zs = [] := List.eq_nil_of_length_eq_zero hz
    subst this
    simp [fillN]
  | (i, v) :: r, k, pre, zs, out, h, hp, hz => by
    simp only [allCells] at h
    obtain ⟨hc, h2⟩ := bif_some h
    simp only [Bool.and_eq_true] at hc
    have e1 := Nat.eq_of_beq_eq_true hc.1
    have e2 := Nat.eq_of_beq_eq_true hc.2
    subst e1
    obtain ⟨l', hl, h3⟩ := bind_some h2
    cases h3
    simp only [List.length_append] at hz
    have hle : (cellsL v).length ≤ zs.length := by omega
    simp only [fillN]
    have hcond : (Nat.beq (cellsL v).length sz && Nat.ble (i * sz + (cellsL v).length) (pre ++ zs).length) = true := by
      rw [Bool.and_eq_true]
      refine ⟨hc.2, Nat.ble_eq_true_of_le ?_⟩
      simp; omega
    rw [hcond, cond_true, ← hp, putL_at _ _ _ hle, ← List.append_assoc]
    have ih := fillN_all r (i + 1) (pre ++ cellsL v) (zs.drop (cellsL v).length) l' hl (by simp [hp, e2, Nat.add_mul]) (by simp; omega)
    rw [ih, List.append_assoc]
section v
variable {P : Program} (S : Tab P) {n : Nat} {ops : List Oper} {Q : Exit → Env → Heap → Prop} {rest : List Oper} {ρ : Env} {L : Heap} {ty : TypeId} {pos : String} {af : Array Edge}
/-- []E{..}, E of any size -/
theorem wSn {d t E y0 s0 b0 k1 x1 y1 sz by1 len : Nat} {z : Value} {zs out : List Value} {vals : List (Nat × Value)} {parts : Array (Nat × Operand)} (h : ∀ b, HO P n ops Q rest ((d, sl b 0 len len) :: ρ) ([(b, .cells ⟨out⟩ E)] :: L)) (h00 : okv ρ = true := by exact rfl) (ht : lkN S.ty t = some ⟨5, E, y0, s0, b0⟩ := by exact rfl) (he : lkN S.ty E = some ⟨k1, x1, y1, sz, by1⟩ := by exact rfl)
    (hz : lkN S.zr E = some z := by exact rfl) (hzs : z.cells = ⟨zs⟩ := by exact rfl) (hzl : Nat.beq zs.length sz = true := by exact rfl) (hp : evParts ρ parts.toList = some vals := by exact rfl) (hf : ((fillN sz (List.replicate len zs).flatten vals).bind fun l => nfL l some) = some out := by exact rfl)
    (hsm : Nat.ble (len * sz) 16777216 = true := by exact rfl) (h1 : Nat.ble 1 (len * sz) = true := by exact rfl) (hn : Nat.blt d n = true := by exact rfl) : HO P n ops Q (⟨some d, .buildSlice t len parts, ty, pos, af, none⟩ :: rest) ρ L := by
  refine ho_run rfl rfl hn fun ρe he' k w hs => ⟨sl w.heap.size 0 len len, w.alloc (.cells ⟨out⟩ E), _, ?_, hs.new _, h _⟩
  have hdesc := ty_slice (S.tyI ht) rfl
  have hsize : (sizeOf E).run P w = .ok sz w := ty_size (S.tyI he) w
  have hzero := zero_run (S.zeroI hz) w
  have hle : len * sz ≤ 16777216 := Nat.le_of_ble_eq_true hsm
  have hge : 1 ≤ len * sz := Nat.le_of_ble_eq_true h1
  obtain ⟨l, hl, h2⟩ := bind_some hf
  rw [nfL_eq] at h2
  cases h2
  have hzl' := Nat.eq_of_beq_eq_true hzl
  have hm : ((Array.range (len * sz)).map fun j => (Array.mk zs)[j % (Array.mk zs).size]!) = ⟨(List.replicate len zs).flatten⟩ := by
    have := madeCells_flat zs len
    rw [hzl'] at this
    exact this
  have e1 : (parts.map fun p => (p.1, ρe p.2)).toList = vals := by
    rw [Array.toList_map]
    exact evParts_map (fun p hp' u hu => he' p.2 (by simp [Op.operands]; exact ⟨p.1, by simpa using hp'⟩) u hu) hp
  have hfill := fillN_eq vals _ out hl
  have hbs : (Instr.buildSlice t len (parts.map fun p => (p.1, ρe p.2))).run P w = .ok (sl w.heap.size 0 len len) (w.alloc (.cells ⟨out⟩ E)) := by
    have hl2 : ¬ (16777216 < len * sz) := by omega
    have hl3 : ¬ (len * sz = 0) := by omega
    have hm2 : ((Array.range (len * sz)).map fun j => (z.cells)[j % z.cells.size]!) = ⟨(List.replicate len zs).flatten⟩ := by rw [hzs]; exact hm
    unfold Instr.buildSlice
    simp only [Sem.run_bind, run_underlying hdesc, Result.andThen_ok, hsize, Nat.reducePow, gt_iff_lt, if_neg hl2, if_neg hl3, Sem.run_pure, hzero, hm2, e1, hfill]
    rfl
  simp only [execOp, Sem.run_bind, hbs, Result.andThen_ok, Sem.run_pure]
theorem wSa {d t E y0 s0 b0 k1 x1 y1 sz by1 len : Nat} {z : Value} {zs out : List Value} {vals : List (Nat × Value)} {parts : Array (Nat × Operand)} (h : ∀ b, HO P n ops Q rest ((d, sl b 0 len len) :: ρ) ([(b, .cells ⟨out⟩ E)] :: L)) (h00 : okv ρ = true := by exact rfl) (ht : lkN S.ty t = some ⟨5, E, y0, s0, b0⟩ := by exact rfl) (he : lkN S.ty E = some ⟨k1, x1, y1, sz, by1⟩ := by exact rfl)
    (hz : lkN S.zr E = some z := by exact rfl) (hzs : z.cells = ⟨zs⟩ := by exact rfl) (hzl : Nat.beq zs.length sz = true := by exact rfl) (hp : evParts ρ parts.toList = some vals := by exact rfl) (hf : ((allCells sz 0 vals).bind fun l => nfL l some) = some out := by exact rfl) (hol : Nat.beq out.length (len * sz) = true := by exact rfl)
    (hsm : Nat.ble (len * sz) 16777216 = true := by exact rfl) (h1 : Nat.ble 1 (len * sz) = true := by exact rfl) (hn : Nat.blt d n = true := by exact rfl) : HO P n ops Q (⟨some d, .buildSlice t len parts, ty, pos, af, none⟩ :: rest) ρ L := by
  obtain ⟨l, hl, h2⟩ := bind_some hf
  rw [nfL_eq] at h2
  cases h2
  have hlen : (List.replicate len zs).flatten.length = out.length := by
    have e1 := Nat.eq_of_beq_eq_true hol
    have e2 := Nat.eq_of_beq_eq_true hzl
    simp [e1, e2]
  have := fillN_all vals 0 [] (List.replicate len zs).flatten out hl (by simp) hlen
  exact wSn S h h00 ht he hz hzs hzl hp (by simp only [List.nil_append] at this; rw [this]; simp [nfL_eq]) hsm h1 hn
/-- [n]E{..} -/
theorem q_buildArr {d : Option Tmp} {g : Option (Nat × Bool)} {t len E s0 b0 k1 x1 y1 sz by1 : Nat} {parts : Array (Nat × Operand)} {zs out : List Value} {vals : List (Nat × Value)} (hz : lkN S.zr t = some (.agg ⟨zs⟩)) (ht : lkN S.ty t = some ⟨6, len, E, s0, b0⟩) (he : lkN S.ty E = some ⟨k1, x1, y1, sz, by1⟩) (hp : evParts ρ parts.toList = some vals)
    (hf : ((fillN sz zs vals).bind fun l => nfL l some) = some out) : QOp P ⟨d, .build t parts, ty, pos, af, g⟩ ρ L (.agg ⟨out⟩) :=
  q_run fun ρe he' k w hsat => by
    obtain ⟨l, hl, h1⟩ := bind_some hf
    rw [nfL_eq] at h1
    cases h1
    have hu := ty_array (S.tyI ht) rfl
    have hsize : (sizeOf E).run P w = .ok sz w := ty_size (S.tyI he) w
    have hzero := zero_run (S.zeroI hz) w
    have e1 : (parts.map fun p => (p.1, ρe p.2)).toList = vals := by
      rw [Array.toList_map]
      exact evParts_map (fun p hp' u hu => he' p.2 (by simp [Op.operands]; exact ⟨p.1, by simpa using hp'⟩) u hu) hp
    have hfill := fillN_eq vals zs out hl
    show (Instr.build t (parts.map fun p => (p.1, ρe p.2)) >>= fun v => pure (Next.value v) : Sem Next).run P w = _
    simp only [Sem.run_bind, Instr.build, hzero, Result.andThen_ok, run_underlying hu, hsize, e1, Value.cells, hfill, Sem.run_pure]
theorem qbA {d : Option Tmp} {g : Option (Nat × Bool)} {t len E s0 b0 k1 x1 y1 sz by1 : Nat} {parts : Array (Nat × Operand)} {zs out : List Value} {vals : List (Nat × Value)} (h00 : okv ρ = true := by exact rfl) (hz : lkN S.zr t = some (.agg ⟨zs⟩) := by exact rfl) (ht : lkN S.ty t = some ⟨6, len, E, s0, b0⟩ := by exact rfl) (he : lkN S.ty E = some ⟨k1, x1, y1, sz, by1⟩ := by exact rfl) (hp : evParts ρ parts.toList = some vals := by exact rfl)
    (hf : ((fillN sz zs vals).bind fun l => nfL l some) = some out := by exact rfl) : QOp P ⟨d, .build t parts, ty, pos, af, g⟩ ρ L (.agg ⟨out⟩) := q_buildArr S hz ht he hp hf

/-! ### a slice of one's own -/
/-- a slice of one's own, its elements xs -/
def Vec {α : Type} (E sz : Nat) (enc : α → List Value) (v : Value) (xs : List α) (c : List Blk) : Prop := Own E sz v xs.length (xs.map enc).flatten c
theorem vec_nil {α : Type} {E sz : Nat} {enc : α → List Value} : Vec E sz enc nilS [] [] := own_nil
theorem Vec.rd {α : Type} {E sz : Nat} {enc : α → List Value} {v : Value} {xs : List α} {c : List Blk} (h : Vec E sz enc v xs c) (hsz : ∀ x, (enc x).length = sz) : ∃ a cap, v = .slice a xs.length cap ∧ xs.length ≤ cap ∧ ∀ L, Rd enc sz (c :: L) a xs := by
  have h' := h
  rcases h with ⟨rfl, h0, hcs, rfl⟩ | ⟨b, cap, sp, rfl, rfl, hcs, hle, hall⟩
  · exact ⟨none, 0, by rw [h0], by omega, fun L => .inl (List.eq_nil_of_length_eq_zero h0)⟩
  · refine ⟨some ⟨b, 0, none⟩, cap, rfl, hle, fun L => .inr ⟨b, 0, _, E, (0, 0), rfl, has_here, fun k x hx => ?_⟩⟩
    have := gets_row hsz xs sp [] k x hx
    simpa using this
theorem gets_self (l : List Value) : Gets l 0 l := fun j v h => by simpa using h
/-- append(s, x) -/
theorem wp1 {α : Type} {enc : α → List Value} {d t E y0 s0 b0 k1 x1 y1 sz by1 b i cap F : Nat} {z v : Value} {zs l : List Value} {fr : Nat × Nat} {c : List Blk} {x y : Operand} {xs : List α} (e : α) (ho : Vec E sz enc v xs c) (hsz : ∀ x, (enc x).length = sz) (hone : ∀ x, (enc x).all Value.oneCell' = true)
    (h : ∀ v' c', Vec E sz enc v' (xs ++ [e]) c' → HO P n ops Q rest ((d, v') :: ρ) (c' :: L)) (h00 : okv ρ = true := by exact rfl)
    (hx : ev ρ x = some v := by exact rfl) (hy : ev ρ y = some (sl b i 1 cap) := by exact rfl) (ht : lkN S.ty t = some ⟨5, E, y0, s0, b0⟩ := by exact rfl) (he : lkN S.ty E = some ⟨k1, x1, y1, sz, by1⟩ := by exact rfl) (hz : lkN S.zr E = some z := by exact rfl) (hzs : z.cells = ⟨zs⟩ := by exact rfl) (hzl : zs.length = sz := by exact rfl)
    (hn : Nat.blt d n = true := by exact rfl) (hb : Has L b (.cells ⟨l⟩ F fr) := by (repeat (first | assumption | exact has_here | exact has_mem (by assumption) | apply has_in | apply has_next))) (hg : Gets l i (enc e) := by first | exact gets_self _ | assumption) (hby : (xs.length + 1) * by1 ≤ 140737488355328 := by omega) (hmax : xs.length + 1 ≤ 9223372036854775807 := by omega) :
    HO P n ops Q (⟨some d, .call { callee := .builtin .append, args := #[x, y], argTypes := #[t, t] }, ty, pos, af, none⟩ :: rest) ρ (c :: L) :=
  o_append S hx hy ht he hz hzs hzl hn ho (src_one (has_next hb) hg (hsz e)) (hone e) hby hmax fun v' c' ho' => h v' c' (by
    unfold Vec
    simp only [List.length_append, List.length_cons, List.length_nil, List.map_append, List.map_cons, List.map_nil, List.flatten_append, List.flatten_cons, List.flatten_nil, List.append_nil]
    exact ho')
end v
theorem puts_row {α : Type} {enc : α → List Value} {sz : Nat} (hsz : ∀ x, (enc x).length = sz) : ∀ (xs : List α) (sp pre : List Value) (k i : Nat) (x : α), k < xs.length → i = pre.length + k * sz → Puts (pre ++ (xs.map enc).flatten ++ sp) i (enc x) (pre ++ ((xs.set k x).map enc).flatten ++ sp)
  | [], sp, pre, k, i, x, h, _ => by simp at h
  | y :: r, sp, pre, 0, i, x, h, hi => by
    have hp : Puts ((enc y) ++ ((r.map enc).flatten ++ sp)) 0 (enc x) (enc x ++ ((r.map enc).flatten ++ sp)) := puts_front (by rw [hsz, hsz])
    have key : ∀ (p l vs l' : List Value) (j : Nat), Puts l j vs l' → Puts (p ++ l) (p.length + j) vs (p ++ l') := by
      intro p
      induction p with
      | nil => intro l vs l' j h; simpa using h
      | cons a p ih =>
        intro l vs l' j h
        have := puts_succ (x := a) (ih l vs l' j h)
        simpa [Nat.add_assoc, Nat.add_comm, Nat.add_left_comm] using this
    have := key pre _ _ _ 0 hp
    subst hi
    simpa using this
  | y :: r, sp, pre, k + 1, i, x, h, hi => by
    have := puts_row hsz r sp (pre ++ enc y) k i x (by simpa using h) (by rw [hi]; simp [hsz, Nat.add_mul]; omega)
    simpa using this
/-- a call that changes nothing, and asks for one component -/
theorem hq1 {P : Program} {F : Nat} {args : List Value} {c : List Blk} {L L1 : Heap} {V : Value} (h : ∀ L, HC P F args (c :: L) (fun v L' => v = V ∧ L' = c :: L)) (k0 : Nat) (hp : pickL k0 L = some (c, L1) := by exact rfl) : HC P F args L (fun v L' => v = V ∧ L' = L) :=
  ((h L1).wk (.ls (.of_perm (pickL_perm hp).symm.flatten))).wkQ fun v L' ⟨hv, hL⟩ => ⟨L, .ls (hL ▸ .of_perm (pickL_perm hp).flatten), hv, rfl⟩
theorem LS.pick {c : List Blk} {A L L1 : Heap} (k0 : Nat) (h : LS A.flatten L1.flatten) (hp : pickL k0 L = some (c, L1) := by exact rfl) : LS (c :: A).flatten L.flatten :=
  LS.trans (LS.k h) (LS.of_perm (pickL_perm hp).symm.flatten)
theorem LS.e {A L : Heap} (h : LS A.flatten L.flatten) : LS (([] : List Blk) :: A).flatten L.flatten := h
theorem LS.p0 {c : List Blk} {A L : Heap} (h : LS A.flatten L.flatten) : LS (c :: A).flatten (c :: L).flatten := LS.k h
theorem LS.p1 {x0 c : List Blk} {A L : Heap} (h : LS A.flatten (x0 :: L).flatten) : LS (c :: A).flatten (x0 :: c :: L).flatten := LS.pick 1 h
theorem LS.p2 {x0 x1 c : List Blk} {A L : Heap} (h : LS A.flatten (x0 :: x1 :: L).flatten) : LS (c :: A).flatten (x0 :: x1 :: c :: L).flatten := LS.pick 2 h
theorem LS.p3 {x0 x1 x2 c : List Blk} {A L : Heap} (h : LS A.flatten (x0 :: x1 :: x2 :: L).flatten) : LS (c :: A).flatten (x0 :: x1 :: x2 :: c :: L).flatten := LS.pick 3 h
theorem LS.p4 {x0 x1 x2 x3 c : List Blk} {A L : Heap} (h : LS A.flatten (x0 :: x1 :: x2 :: x3 :: L).flatten) : LS (c :: A).flatten (x0 :: x1 :: x2 :: x3 :: c :: L).flatten := LS.pick 4 h
theorem LS.p5 {x0 x1 x2 x3 x4 c : List Blk} {A L : Heap} (h : LS A.flatten (x0 :: x1 :: x2 :: x3 :: x4 :: L).flatten) : LS (c :: A).flatten (x0 :: x1 :: x2 :: x3 :: x4 :: c :: L).flatten := LS.pick 5 h
theorem LS.p6 {x0 x1 x2 x3 x4 x5 c : List Blk} {A L : Heap} (h : LS A.flatten (x0 :: x1 :: x2 :: x3 :: x4 :: x5 :: L).flatten) : LS (c :: A).flatten (x0 :: x1 :: x2 :: x3 :: x4 :: x5 :: c :: L).flatten := LS.pick 6 h
theorem LS.p7 {x0 x1 x2 x3 x4 x5 x6 c : List Blk} {A L : Heap} (h : LS A.flatten (x0 :: x1 :: x2 :: x3 :: x4 :: x5 :: x6 :: L).flatten) : LS (c :: A).flatten (x0 :: x1 :: x2 :: x3 :: x4 :: x5 :: x6 :: c :: L).flatten := LS.pick 7 h
theorem LS.p8 {x0 x1 x2 x3 x4 x5 x6 x7 c : List Blk} {A L : Heap} (h : LS A.flatten (x0 :: x1 :: x2 :: x3 :: x4 :: x5 :: x6 :: x7 :: L).flatten) : LS (c :: A).flatten (x0 :: x1 :: x2 :: x3 :: x4 :: x5 :: x6 :: x7 :: c :: L).flatten := LS.pick 8 h
theorem LS.p9 {x0 x1 x2 x3 x4 x5 x6 x7 x8 c : List Blk} {A L : Heap} (h : LS A.flatten (x0 :: x1 :: x2 :: x3 :: x4 :: x5 :: x6 :: x7 :: x8 :: L).flatten) : LS (c :: A).flatten (x0 :: x1 :: x2 :: x3 :: x4 :: x5 :: x6 :: x7 :: x8 :: c :: L).flatten := LS.pick 9 h
theorem LS.p10 {x0 x1 x2 x3 x4 x5 x6 x7 x8 x9 c : List Blk} {A L : Heap} (h : LS A.flatten (x0 :: x1 :: x2 :: x3 :: x4 :: x5 :: x6 :: x7 :: x8 :: x9 :: L).flatten) : LS (c :: A).flatten (x0 :: x1 :: x2 :: x3 :: x4 :: x5 :: x6 :: x7 :: x8 :: x9 :: c :: L).flatten := LS.pick 10 h
theorem LS.p11 {x0 x1 x2 x3 x4 x5 x6 x7 x8 x9 x10 c : List Blk} {A L : Heap} (h : LS A.flatten (x0 :: x1 :: x2 :: x3 :: x4 :: x5 :: x6 :: x7 :: x8 :: x9 :: x10 :: L).flatten) : LS (c :: A).flatten (x0 :: x1 :: x2 :: x3 :: x4 :: x5 :: x6 :: x7 :: x8 :: x9 :: x10 :: c :: L).flatten := LS.pick 11 h
theorem LS.p12 {x0 x1 x2 x3 x4 x5 x6 x7 x8 x9 x10 x11 c : List Blk} {A L : Heap} (h : LS A.flatten (x0 :: x1 :: x2 :: x3 :: x4 :: x5 :: x6 :: x7 :: x8 :: x9 :: x10 :: x11 :: L).flatten) : LS (c :: A).flatten (x0 :: x1 :: x2 :: x3 :: x4 :: x5 :: x6 :: x7 :: x8 :: x9 :: x10 :: x11 :: c :: L).flatten := LS.pick 12 h
/-- what several branches come to, walked once -/
theorem once_w {ι : Type} {P : Program} {n : Nat} {c : Code} {Q : Exit → Env → Heap → Prop} (I : ι → Prop) (ρ : ι → Env) (L : ι → Heap) {R : Prop} (main : (∀ i, I i → HW P n c Q (ρ i) (L i)) → R) (key : ∀ i, I i → HW P n c Q (ρ i) (L i)) : R := main key
end Go.HL
end

/-! QHLMap -/
section
namespace Go.HL
set_option linter.unusedSectionVars false
variable [Tasks]
open Go
set_option linter.unusedVariables false
set_option linter.unusedSimpArgs false
set_option linter.unusedSectionVars false
/-- the entries are these keys and values -/
def Ents {α : Type} (key : α → Value) (es : List MapEntry) (l : List (α × Bool)) : Prop := es.map (fun e => (e.key, e.val)) = l.map fun p => (key p.1, Value.bool p.2)
def findB {α : Type} [DecidableEq α] (a : α) : List (α × Bool) → Nat → Option (Nat × Value)
  | [], _ => none
  | (x, b) :: r, i => if a = x then some (i, .bool b) else findB a r (i + 1)
def lookB {α : Type} [DecidableEq α] (a : α) : List (α × Bool) → Bool
  | [] => false
  | (x, b) :: r => if a = x then b else lookB a r
structure KeyOk {α : Type} [DecidableEq α] (P : Program) (kt : TypeId) (key : α → Value) : Prop where
  chk : ∀ (em : Bool) (w : World) (a : α), (Instr.checkKey em 10000 kt (key a)).run P w = .ok () w
  find : ∀ (w : World) (a : α) (es : List MapEntry) (l : List (α × Bool)), Ents key es l → (Instr.findKey kt (key a) es).run P w = .ok (findB a l 0) w
  stay : ∀ (w : World) (a : α), (Instr.keyThatStays (key a) (key a)).run P w = .ok (key a) w
  pchk : ∀ (em : Bool) (a : α) (B W : Nat → Prop) (N : Nat), Plo P B W N (Instr.checkKey em 10000 kt (key a))
  pfind : ∀ (a : α) (es : List MapEntry) (B W : Nat → Prop) (N : Nat), Plo P B W N (Instr.findKey kt (key a) es)
/-- what a map holds -/
def MapF {α : Type} [DecidableEq α] (key : α → Value) (es : List MapEntry) (f : α → Bool) : Prop := ∃ l : List (α × Bool), Ents key es l ∧ ∀ a, f a = lookB a l
section k
variable {α : Type} [DecidableEq α]
theorem findB_some {a : α} : ∀ {l : List (α × Bool)} {i j : Nat} {v : Value}, findB a l i = some (j, v) → i ≤ j ∧ ∃ b, v = .bool b ∧ l[j - i]? = some (a, b) ∧ lookB a l = b
  | [], i, j, v, h => by simp [findB] at h
  | (x, b) :: r, i, j, v, h => by
    simp only [findB] at h
    split at h
    · rename_i he
      subst he
      cases h
      exact ⟨Nat.le_refl _, b, rfl, by simp, by simp [lookB]⟩
    · rename_i he
      obtain ⟨h1, b', h2, h3, h4⟩ := findB_some h
      refine ⟨by omega, b', h2, ?_, by simp [lookB, he, h4]⟩
      rw [show j - i = (j - (i + 1)) + 1 by omega]
      simpa using h3
theorem findB_none {a : α} : ∀ {l : List (α × Bool)} {i : Nat}, findB a l i = none → lookB a l = false ∧ ∀ p ∈ l, p.1 ≠ a
  | [], i, h => ⟨rfl, by simp⟩
  | (x, b) :: r, i, h => by
    simp only [findB] at h
    split at h
    · cases h
    · rename_i he
      obtain ⟨h1, h2⟩ := findB_none h
      refine ⟨by simp [lookB, he, h1], fun p hp => ?_⟩
      rcases List.mem_cons.1 hp with rfl | hp
      · exact fun e => he e.symm
      · exact h2 p hp
end k
section r
variable {α : Type} [DecidableEq α] {P : Program} (S : Tab P) {n : Nat} {ops : List Oper} {Q : Exit → Env → Heap → Prop} {rest : List Oper} {ρ : Env} {L : Heap} {ty : TypeId} {pos : String} {af : Array Edge}
/-- m[k] -/
theorem q_mapB {d : Option Tmp} {g : Option (Nat × Bool)} {t kt et s0 b0 r : Nat} {key : α → Value} {x y : Operand} {es : List MapEntry} {ck : Nat} {f : α → Bool} {a : α} (hK : KeyOk P kt key) (hx : ev ρ x = some (.map (some r))) (hy : ev ρ y = some (key a))
    (ht : lkN S.ty t = some ⟨8, kt, et, s0, b0⟩) (hz : lkN S.zr et = some (.bool false)) (hb : Has L r (.map ⟨es⟩ ck)) (hF : MapF key es f) : QOp P ⟨d, .lookup t x y false, ty, pos, af, g⟩ ρ L (.bool (f a)) :=
  q_runp (fun ρe he N => by
    obtain ⟨l, hE, hf⟩ := hF
    have hm := ty_map (S.tyI ht) rfl
    simp only [execOp, he x (by simp [Op.operands]) _ hx, he y (by simp [Op.operands]) _ hy]
    refine Plo.bind ?_ fun _ => trivial
    unfold Instr.lookup
    refine Zc hm ?_
    repeat' first | (with_reducible first | exact hK.pchk _ _ _ _ _ | exact hK.pfind _ _ _ _ _) | (with_reducible first | assumption | exact pl_pure _ | exact pl_stuck _ | exact pl_unsup _ | exact pl_halt _ | exact pl_program | exact Zd _ | exact pl_sizeOf _ | exact pl_typeInfo _ | exact pl_zeroValue _ | exact pl_isAgg _ | exact pl_load _ _ | exact pl_loadVar _ _ | exact pl_loadCells _ _ | exact pl_getObj _ | exact pl_newRow _ _ | exact pl_newVar _ _ | exact pl_newObj rfl | exact pl_choose _ | exact pl_askRoom _ | exact pl_runtimePanic _ | exact pl_goPanic _ | exact pl_boundsPanic _ _ _ _ | exact pl_asIntOf _ | exact pl_asInt _ | exact pl_asBool _ | exact pl_asString _ | exact pl_asAgg _ | exact pl_asAddr _ | exact pl_part _ _ _ | exact pl_elemOf _ | refine Plo.bind ?_ (fun _ => ?_) | refine Plo.ite ?_ ?_) | split | dsimp only) fun ρe he k w hs => by
    obtain ⟨l, hE, hf⟩ := hF
    have hm := ty_map (S.tyI ht) rfl
    have hzero := zero_run (S.zeroI hz) w
    have hh := MapKept.run_getObj_map (P := P) (hs.heap hb)
    have hfind := hK.find w a es l hE
    have hl : (Instr.lookup t (.map (some r)) (key a) false).run P w = .ok (.bool (f a)) w := by
      unfold Instr.lookup
      simp only [Sem.run_bind, run_underlying hm, Result.andThen_ok, hh, Sem.run_pure, hK.chk, hfind]
      rw [hf a]
      cases hfb : findB a l 0 with
      | none => simp [hzero, (findB_none hfb).1]
      | some q =>
        obtain ⟨j, v⟩ := q
        obtain ⟨-, b, rfl, -, e⟩ := findB_some hfb
        simp [e]
    simp only [execOp, he x (by simp [Op.operands]) _ hx, he y (by simp [Op.operands]) _ hy, Sem.run_bind, hl, Result.andThen_ok, Sem.run_pure]
/-- make(map[..]bool) -/
theorem wMk {d t : Nat} (h : ∀ b, HO P n ops Q rest ((d, .map (some b)) :: ρ) ([(b, .map #[] 0)] :: L)) (h00 : okv ρ = true := by exact rfl) (hn : Nat.blt d n = true := by exact rfl) : HO P n ops Q (⟨some d, .makeMap t none, ty, pos, af, none⟩ :: rest) ρ L :=
  ho_run rfl rfl hn fun ρe he k w hs => ⟨.map (some w.heap.size), w.alloc (.map #[] 0), _, by simp [execOp, RowKit.run_makeMap], hs.new _, h _⟩
theorem keyOk_int {kt s0 b0 : Nat} (hk : lkN S.ty kt = some ⟨2, 3, 0, s0, b0⟩) : KeyOk (α := Int) P kt iv := by
  have hd : P.underlying kt = some (.int .i64) := ty_int (S.tyI hk) rfl
  have hI : ∀ a : Int, MapKept.IsKey (.int .i64) (iv a) := fun a => by simp [MapKept.IsKey]
  refine ⟨fun em w a => MapKept.run_checkKey hd (hI a) em 9999, fun w a es l hE => ?_, fun w a => MapKept.run_keyThatStays (hI a), fun em a B W N => ?_, fun a es B W N => ?_⟩
  case refine_2 =>
    have : Plo P B W N (Instr.checkKey em (9999 + 1) kt (iv a)) := by unfold Instr.checkKey; exact Zc hd trivial
    exact this
  case refine_3 =>
    have heq : ∀ y, Plo P B W N (Op.equal kt (iv a) y) := fun y => pl_equal_of fun dd => by
      unfold Op.equalIn
      refine Zc hd ?_
      cases y <;> first | exact trivial | skip
      case int => show Plo P B W N (if _ = _ then pure _ else stuck _); split <;> exact trivial
      case pointer q =>
        cases q with
        | none => by_cases h0 : a = 0 <;> (try subst h0) <;> exact pl_unsup _
        | some q =>
          by_cases h0 : a = 0
          · subst h0; exact trivial
          · rcases a with (_ | n) | n
            · exact absurd rfl h0
            · exact pl_unsup _
            · exact pl_unsup _
    have hask : ∀ (es : List MapEntry) (i : Nat), Plo P B W N (Instr.findAsking kt (iv a) es i) := by
      intro es
      induction es with
      | nil => intro i; exact trivial
      | cons e es ih => intro i; unfold Instr.findAsking; exact Plo.bind (heq _) fun b => by split; exact trivial; exact ih _
    unfold Instr.findKey
    refine Plo.bind (Zd _) fun d => ?_
    split
    · exact trivial
    · exact hask _ _
  refine MapKept.run_findKey hd ?_
  have key : ∀ (es : List MapEntry) (l : List (Int × Bool)) (i : Nat), Ents iv es l → Instr.findNow (.int .i64) (iv a) es i = some (findB a l i) := by
    intro es
    induction es with
    | nil =>
      intro l i h
      cases l with
      | nil => rfl
      | cons p r => simp [Ents] at h
    | cons e es ih =>
      intro l i h
      cases l with
      | nil => simp [Ents] at h
      | cons p r =>
        obtain ⟨x, b⟩ := p
        simp only [Ents, List.map_cons, List.cons.injEq, Prod.mk.injEq] at h
        obtain ⟨⟨h1, h2⟩, h3⟩ := h
        simp only [Instr.findNow, h1, Instr.sameNow, if_true, findB]
        by_cases hax : a = x
        · subst hax; simp [h2]
        · have : (a == x) = false := by simp [hax]
          simp [this, hax, ih r (i + 1) h3]
  exact key es l 0 hE
theorem qmI {d : Option Tmp} {g : Option (Nat × Bool)} {t kt et s0 b0 s1 b1 r : Nat} {x y : Operand} {es : List MapEntry} {ck : Nat} {f : Int → Bool} {a : Int} (h00 : okv ρ = true := by exact rfl) (hx : ev ρ x = some (.map (some r)) := by exact rfl) (hy : ev ρ y = some (iv a) := by exact rfl)
    (ht : lkN S.ty t = some ⟨8, kt, et, s0, b0⟩ := by exact rfl) (hk : lkN S.ty kt = some ⟨2, 3, 0, s1, b1⟩ := by exact rfl) (hz : lkN S.zr et = some (.bool false) := by exact rfl) (hb : Has L r (.map ⟨es⟩ ck) := by (repeat (first | assumption | exact has_here | exact has_mem (by assumption) | apply has_in | apply has_next))) (hF : MapF iv es f := by assumption) :
    QOp P ⟨d, .lookup t x y false, ty, pos, af, g⟩ ρ L (.bool (f a)) := q_mapB S (keyOk_int S hk) hx hy ht hz hb hF
end r
/-! ### a loop of so many rounds; a call within a region that draws its order -/
def unQ (P : Program) (n : Nat) (c : Code) (Q : Exit → Env → Heap → Prop) : Nat → Exit → Env → Heap → Prop
  | 0, .normal, ρ, L => False
  | k + 1, .normal, ρ, L => HW P n c (unQ P n c Q k) ρ L
  | _, e, ρ, L => Q e ρ L
theorem unQ_succ {P : Program} {n k : Nat} {c : Code} {Q : Exit → Env → Heap → Prop} {ρ : Env} {L : Heap} (h : HW P n c (unQ P n c Q k) ρ L) : unQ P n c Q (k + 1) .normal ρ L := h
theorem unQ_ret {P : Program} {n k : Nat} {c : Code} {Q : Exit → Env → Heap → Prop} {ρ : Env} {L : Heap} (h : Q .ret ρ L) : unQ P n c Q k .ret ρ L := by cases k <;> exact h
theorem unQ_exit {P : Program} {n k i : Nat} {c : Code} {Q : Exit → Env → Heap → Prop} {ρ : Env} {L : Heap} (h : Q (.exit i) ρ L) : unQ P n c Q k (.exit i) ρ L := by cases k <;> exact h
theorem hw_rounds {P : Program} {n : Nat} {c : Code} {Q : Exit → Env → Heap → Prop} {ρ : Env} {L : Heap} (m : Nat) (h : HW P n c (unQ P n c Q m) ρ L) : HW P n (.loop c) Q ρ L := by
  intro main Φ b kk cs a hb hc ha
  have key : ∀ m ρ L, HW P n c (unQ P n c Q m) ρ L → ∀ a' : Act, a'.defers = a.defers → Agr n a' ρ → Lo P main Φ (Conc.G (b.at a' (.code c :: .inLoop c :: kk)) cs) L := by
    intro m
    induction m with
    | zero =>
      intro ρ L h a2 hd ha
      have hc := hd ▸ hc
      refine h main Φ b (.inLoop c :: kk) cs a2 hb (fun e ρ' L' q => ?_) ha
      cases e with
      | normal => exact q.elim
      | exit id => exact (hc _ _ _ q).push rfl (by simp)
      | ret => exact (hc _ _ _ q).push (x := .inLoop c) rfl (by simp)
      | goto l => exact hc _ _ _ q
      | panic ch => exact hc _ _ _ q
      | outgrown => exact hc _ _ _ q
    | succ m ih =>
      intro ρ L h a2 hd ha
      have hc := hd ▸ hc
      refine h main Φ b (.inLoop c :: kk) cs a2 hb (fun e ρ' L' q => ?_) ha
      cases e with
      | normal => exact fun a' hd' ha' => .ctl rfl rfl (fun w => Conc.stepG_inLoop) (ih ρ' L' q a' (hd'.trans hd) ha')
      | exit id => exact (hc _ _ _ q).push rfl (by simp)
      | ret => exact (hc _ _ _ q).push (x := .inLoop c) rfl (by simp)
      | goto l => exact hc _ _ _ q
      | panic ch => exact hc _ _ _ q
      | outgrown => exact hc _ _ _ q
  exact .ctl rfl rfl (fun w => Conc.stepG_loop) (key m ρ L h a rfl ha)
section df
variable {P : Program} {n : Nat} {ops : List Oper} {Q : Exit → Env → Heap → Prop} {Ss : List (Nat × Blk)} {rem rem' : List (Nat × Oper)} {ρ : Env} {L : Heap} {ty : TypeId} {pos : String} {af : Array Edge} {g : Option (Nat × Bool)} {d i : Nat}
end df
end Go.HL
end

/-! QHLDs -/
section
namespace Go.HL
set_option linter.unusedSectionVars false
variable [Tasks]
open Go
set_option linter.unusedVariables false
/-- all of a slice at once: one block, every place -/
theorem Rd.all {α : Type} {enc : α → List Value} {sz : Nat} {L : Heap} {a : Option Addr} {xs : List α} (h : Rd enc sz L a xs) (h0 : 0 < xs.length) : ∃ b i c E fr, a = some ⟨b, i, none⟩ ∧ Has L b (.cells ⟨c⟩ E fr) ∧ ∀ k (hk : k < xs.length), Gets c (i + ((k : Int)).toNat * sz) (enc xs[k]) := by
  rcases h with h | ⟨b, i, c, E, fr, rfl, hb, hg⟩
  · rw [h] at h0; simp at h0
  · exact ⟨b, i, c, E, fr, rfl, hb, fun k hk => by simpa using hg k _ (List.getElem?_eq_getElem hk)⟩
/-- no literal truth value -/
structure Fresh (b : Bool) : Prop where
  any : True
theorem fresh_t : Fresh true := ⟨trivial⟩
theorem fresh_f : Fresh false := ⟨trivial⟩
theorem fresh_any (b : Bool) : Fresh b := ⟨trivial⟩
section d
variable {P : Program} {n : Nat} {ops : List Oper} {Q : Exit → Env → Heap → Prop} {Ss : List (Nat × Blk)} {rem rem' : List (Nat × Oper)} {ρ : Env} {L : Heap} {i : Nat}
theorem d_sp {t j : Nat} {q : Oper} {b wt : Bool} (k : Nat) (h1 : b = true → HD P n ops Q Ss rem ((t, .bool true) :: ρ) L) (h0 : b = false → HD P n ops Q Ss rem ((t, .bool false) :: ρ) L) (h00 : okv ρ = true := by exact rfl) (hp : pickS k rem = some ((i, q), rem') := by exact rfl) (hq : q.guard = some (j, wt) := by exact rfl) (hj : gdst ops j = some t := by exact rfl) (ht : lk ρ t = some (.bool b) := by exact rfl)
    (hb : Fresh b := by (fail_if_success (with_reducible exact fresh_t)); (fail_if_success (with_reducible exact fresh_f)); exact fresh_any _) : HD P n ops Q Ss rem ρ L := hd_split ht h1 h0
end d
end Go.HL
end

/-! QHLPr -/
section
namespace Go.HL
set_option linter.unusedSectionVars false
variable [Tasks]
open Go
set_option linter.unusedVariables false
section
variable {P : Program} {n : Nat} {ops : List Oper} {Q : Exit → Env → Heap → Prop} {rest : List Oper} {ρ : Env} {L : Heap}
theorem pg_t {c : Operand} {x y : Code} {b : Bool} (h00 : okv ρ = true := by exact rfl) (hc : ev ρ c = some (.bool b) := by exact rfl) (hb : b = true := by with_reducible exact rfl) : (HW P n x Q ρ L) → HW P n (.cond c x y) Q ρ L := fun h => g_t h h00 hc hb
end
section
variable {P : Program} {n : Nat} {ops : List Oper} {Q : Exit → Env → Heap → Prop} {rest : List Oper} {ρ : Env} {L : Heap}
theorem pg_f {c : Operand} {x y : Code} {b : Bool} (h00 : okv ρ = true := by exact rfl) (hc : ev ρ c = some (.bool b) := by exact rfl) (hb : b = false := by with_reducible exact rfl) : (HW P n y Q ρ L) → HW P n (.cond c x y) Q ρ L := fun h => g_f h h00 hc hb
end
section
variable {P : Program} {n : Nat} {ops : List Oper} {Q : Exit → Env → Heap → Prop} {rest : List Oper} {ρ : Env} {L : Heap}
theorem pg_bx {id i : Nat} (h00 : okv ρ = true := by exact rfl) (hn : Nat.beq i id = false := by exact rfl) : (Q (.exit i) ρ L) → blkQ id Q (.exit i) ρ L := fun h => g_bx h h00 hn
end
section
variable {P : Program} {n : Nat} {ops : List Oper} {Q : Exit → Env → Heap → Prop} {rest : List Oper} {ρ : Env} {L : Heap}
variable {op : Op} {ty : TypeId} {pos : String} {af : Array Edge} {g : Option (Nat × Bool)} {d : Nat}
theorem pg_q {v : Value} (h : QOp P ⟨some d, op, ty, pos, af, g⟩ ρ L v) (h00 : okv ρ = true := by exact rfl) (hg : guardE ops ρ g = some true := by exact rfl) (hn : Nat.blt d n = true := by exact rfl) : (HO P n ops Q rest ((d, v) :: ρ) L) → HO P n ops Q (⟨some d, op, ty, pos, af, g⟩ :: rest) ρ L := fun hr => g_q h hr h00 hg hn
end
section
variable {P : Program} {n : Nat} {ops : List Oper} {Q : Exit → Env → Heap → Prop} {rest : List Oper} {ρ : Env} {L : Heap}
variable {op : Op} {ty : TypeId} {pos : String} {af : Array Edge} {g : Option (Nat × Bool)} {d : Nat}
theorem pg_n (h00 : okv ρ = true := by exact rfl) (hg : guardE ops ρ g = some false := by exact rfl) (hn : Nat.blt d n = true := by exact rfl) : (HO P n ops Q rest ((d, undef) :: ρ) L) → HO P n ops Q (⟨some d, op, ty, pos, af, g⟩ :: rest) ρ L := fun hr => g_n hr h00 hg hn
end
section
variable {P : Program} {n : Nat} {ops : List Oper} {Q : Exit → Env → Heap → Prop} {rest : List Oper} {ρ : Env} {L : Heap}
variable {op : Op} {ty : TypeId} {pos : String} {af : Array Edge} {g : Option (Nat × Bool)} {d : Nat}
theorem pg_on {d : Option Tmp} {j : Nat} {wt : Bool} (h00 : okv ρ = true := by exact rfl) (hg : guardE ops ρ (some (j, wt)) = some true := by exact rfl) : (HO P n ops Q (⟨d, op, ty, pos, af, none⟩ :: rest) ρ L) → HO P n ops Q (⟨d, op, ty, pos, af, some (j, wt)⟩ :: rest) ρ L := fun h => g_on h h00 hg
end
section
variable {P : Program} {n : Nat} {ops : List Oper} {Q : Exit → Env → Heap → Prop} {rest : List Oper} {ρ : Env} {L : Heap}
variable {op : Op} {ty : TypeId} {pos : String} {af : Array Edge} {g : Option (Nat × Bool)} {d : Nat}
variable {K : Env → Prop}
theorem pk_q {v : Value} (h : QOp P ⟨some d, op, ty, pos, af, g⟩ ρ L v) (h00 : okv ρ = true := by exact rfl) (hg : guardE ops ρ g = some true := by exact rfl) (hn : Nat.blt d n = true := by exact rfl) : (HQ P n ops K rest ((d, v) :: ρ) L) → HQ P n ops K (⟨some d, op, ty, pos, af, g⟩ :: rest) ρ L := fun hr => k_q h hr h00 hg hn
end
section
variable {P : Program} {n : Nat} {ops : List Oper} {Q : Exit → Env → Heap → Prop} {rest : List Oper} {ρ : Env} {L : Heap}
variable {op : Op} {ty : TypeId} {pos : String} {af : Array Edge} {g : Option (Nat × Bool)} {d : Nat}
variable {K : Env → Prop}
theorem pk_n (h00 : okv ρ = true := by exact rfl) (hg : guardE ops ρ g = some false := by exact rfl) (hn : Nat.blt d n = true := by exact rfl) : (HQ P n ops K rest ((d, undef) :: ρ) L) → HQ P n ops K (⟨some d, op, ty, pos, af, g⟩ :: rest) ρ L := fun hr => k_n hr h00 hg hn
end
section
variable {P : Program} (S : Tab P) {n : Nat} {ops : List Oper} {Q : Exit → Env → Heap → Prop} {rest : List Oper} {ρ : Env} {L : Heap} {ty : TypeId} {pos : String} {af : Array Edge}
theorem pwa {d E : Nat} {z : Value} {zs : List Value} (h00 : okv ρ = true := by exact rfl) (hz : lkN S.zr E = some z := by exact rfl) (hc : z.cells = ⟨zs⟩ := by exact rfl) (hn : Nat.blt d n = true := by exact rfl) : (∀ b, HO P n ops Q rest ((d, pt b 0) :: ρ) ([(b, .cells ⟨zs⟩ E)] :: L)) → HO P n ops Q (⟨some d, .alloc E, ty, pos, af, none⟩ :: rest) ρ L := fun h => wa S h h00 hz hc hn
end
section
variable {P : Program} (S : Tab P) {n : Nat} {ops : List Oper} {Q : Exit → Env → Heap → Prop} {rest : List Oper} {ρ : Env} {L : Heap} {ty : TypeId} {pos : String} {af : Array Edge}
theorem pwb {d E : Nat} {x : Operand} {v : Value} {vs : List Value} (h00 : okv ρ = true := by exact rfl) (hx : ev ρ x = some v := by exact rfl) (hc : v.cells = ⟨vs⟩ := by exact rfl) (hn : Nat.blt d n = true := by exact rfl) : (∀ b, HO P n ops Q rest ((d, pt b 0) :: ρ) ([(b, .cells ⟨vs⟩ E)] :: L)) → HO P n ops Q (⟨some d, .box E x, ty, pos, af, none⟩ :: rest) ρ L := fun h => wb h h00 hx hc hn
end
section
variable {P : Program} (S : Tab P) {n : Nat} {ops : List Oper} {Q : Exit → Env → Heap → Prop} {rest : List Oper} {ρ : Env} {L : Heap} {ty : TypeId} {pos : String} {af : Array Edge}
theorem pws {t b i E : Nat} {ti : TyI} {x y : Operand} {v : Value} {vs l l' : List Value} {L' : Heap} (h00 : okv ρ = true := by exact rfl) (hx : ev ρ x = some (pt b i) := by exact rfl) (hy : ev ρ y = some v := by exact rfl) (ht : lkN S.ty t = some ti := by exact rfl) (hc : v.cells = ⟨vs⟩ := by exact rfl) (hsz : ti.size = vs.length := by exact rfl) (h1 : (vs.all Value.oneCell') = true := by exact rfl) (hu : Upd L b (.cells ⟨l⟩ E (0, 0)) (.cells ⟨l'⟩ E (0, 0)) L' := by (repeat (first | exact upd_here | apply upd_in | apply upd_next))) (hp : Puts l i vs l' := by (first | assumption | exact puts_all rfl | exact puts_zero | exact puts_succ puts_zero | exact puts_succ (puts_succ puts_zero) | (repeat (first | exact puts_zero | apply puts_succ)))) : (HO P n ops Q rest ρ L') → HO P n ops Q (⟨none, .store t x y, ty, pos, af, none⟩ :: rest) ρ L := fun h => ws S h h00 hx hy ht hc hsz h1 hu hp
end
section
variable {P : Program} (S : Tab P) {n : Nat} {ops : List Oper} {Q : Exit → Env → Heap → Prop} {rest : List Oper} {ρ : Env} {L : Heap} {ty : TypeId} {pos : String} {af : Array Edge}
theorem pwS {d t E y0 s0 b0 k1 x1 y1 by1 len : Nat} {z : Value} {zv : Value} {vals : List Value} {parts : Array (Nat × Operand)} (h00 : okv ρ = true := by exact rfl) (ht : lkN S.ty t = some ⟨5, E, y0, s0, b0⟩ := by exact rfl) (he : lkN S.ty E = some ⟨k1, x1, y1, 1, by1⟩ := by exact rfl) (hz : lkN S.zr E = some z := by exact rfl) (hzs : z.cells = ⟨[zv]⟩ := by exact rfl) (hp : evIx ρ 0 parts.toList = some vals := by exact rfl) (hlen : vals.length = len := by exact rfl) (hsm : Nat.ble len 16777216 = true := by exact rfl) (h1 : (vals.all Value.oneCell') = true := by exact rfl) (hn : Nat.blt d n = true := by exact rfl) : (∀ b, HO P n ops Q rest ((d, sl b 0 len len) :: ρ) ([(b, .cells ⟨vals⟩ E)] :: L)) → HO P n ops Q (⟨some d, .buildSlice t len parts, ty, pos, af, none⟩ :: rest) ρ L := fun h => wS S h h00 ht he hz hzs hp hlen hsm h1 hn
end
section
variable {P : Program} (S : Tab P) {n : Nat} {ops : List Oper} {Q : Exit → Env → Heap → Prop} {rest : List Oper} {ρ : Env} {L : Heap} {ty : TypeId} {pos : String} {af : Array Edge}
theorem pwm {d t E y0 s0 b0 k1 x1 y1 by1 : Nat} {z zv : Value} {x y : Operand} {kl kc : IntKind} {l c : Int} (h00 : okv ρ = true := by exact rfl) (hx : ev ρ x = some (.int kl l) := by exact rfl) (hy : ev ρ y = some (.int kc c) := by exact rfl) (ht : lkN S.ty t = some ⟨5, E, y0, s0, b0⟩ := by exact rfl) (he : lkN S.ty E = some ⟨k1, x1, y1, 1, by1⟩ := by exact rfl) (hz : lkN S.zr E = some z := by exact rfl) (hzs : z.cells = #[zv] := by exact rfl) (hn : Nat.blt d n = true := by exact rfl) (hc : 0 ≤ l ∧ l ≤ c ∧ (by1 : Int) * c ≤ 281474976710656 ∧ c ≤ 9223372036854775807 := by omega) : (∀ b, HO P n ops Q rest ((d, sl b 0 l.toNat c.toNat) :: ρ) ([(b, .cells ⟨List.replicate c.toNat zv⟩ E)] :: L)) → HO P n ops Q (⟨some d, .makeSlice t x y, ty, pos, af, none⟩ :: rest) ρ L := fun h => wm S h h00 hx hy ht he hz hzs hn hc
end
section
variable {P : Program} (S : Tab P) {n : Nat} {ops : List Oper} {Q : Exit → Env → Heap → Prop} {Ss : List (Nat × Blk)} {rem rem' : List (Nat × Oper)} {ρ : Env} {L : Heap} {op : Op} {ty : TypeId} {pos : String} {af : Array Edge} {g : Option (Nat × Bool)} {d i : Nat}
theorem pd_q {v : Value} (k : Nat) (hp : pickS k rem = some ((i, ⟨some d, op, ty, pos, af, g⟩), rem')) (h : ∀ L, QOp P ⟨some d, op, ty, pos, af, g⟩ ρ L v) (h00 : okv ρ = true := by exact rfl) (hg : guardE ops ρ g = some true := by exact rfl) (hn : Nat.blt d n = true := by exact rfl) (hc : chkQ ops rem' i ⟨some d, op, ty, pos, af, g⟩ = true := by decide +kernel) : (HD P n ops Q Ss rem' ((d, v) :: ρ) L) → HD P n ops Q Ss rem ρ L := fun hr => d_q k hp h hr h00 hg hn hc
end
section
variable {P : Program} (S : Tab P) {n : Nat} {ops : List Oper} {Q : Exit → Env → Heap → Prop} {Ss : List (Nat × Blk)} {rem rem' : List (Nat × Oper)} {ρ : Env} {L : Heap} {op : Op} {ty : TypeId} {pos : String} {af : Array Edge} {g : Option (Nat × Bool)} {d i : Nat}
theorem pd_n (k : Nat) (h00 : okv ρ = true := by exact rfl) (hp : pickS k rem = some ((i, ⟨some d, op, ty, pos, af, g⟩), rem') := by exact rfl) (hg : guardE ops ρ g = some false := by exact rfl) (hn : Nat.blt d n = true := by exact rfl) (hc : chkQ ops rem' i ⟨some d, op, ty, pos, af, g⟩ = true := by decide +kernel) : (HD P n ops Q Ss rem' ((d, undef) :: ρ) L) → HD P n ops Q Ss rem ρ L := fun hr => d_n k hr h00 hp hg hn hc
end
section
variable {P : Program} (S : Tab P) {n : Nat} {ops : List Oper} {Q : Exit → Env → Heap → Prop} {Ss : List (Nat × Blk)} {rem rem' : List (Nat × Oper)} {ρ : Env} {L : Heap} {op : Op} {ty : TypeId} {pos : String} {af : Array Edge} {g : Option (Nat × Bool)} {d i : Nat}
theorem pdl {t b a E : Nat} {ti : TyI} {x : Operand} {l : List Value} {fr : Nat × Nat} {v : Value} (k : Nat) (h00 : okv ρ = true := by exact rfl) (hp : pickS k rem = some ((i, ⟨some d, .load t x, ty, pos, af, g⟩), rem') := by exact rfl) (hx : ev ρ x = some (pt b a) := by exact rfl) (ht : lkN S.ty t = some ti := by exact rfl) (h6 : Nat.beq ti.kind 6 = false := by exact rfl) (h7 : Nat.beq ti.kind 7 = false := by exact rfl) (hg : guardE ops ρ g = some true := by exact rfl) (hn : Nat.blt d n = true := by exact rfl) (hb : Has L b (.cells ⟨l⟩ E fr) := by (repeat (first | assumption | exact has_here | exact has_mem (by assumption) | apply has_in | apply has_next))) (hv : l[a]? = some v := by (first | exact rfl | assumption | exact Gets.at (by assumption) rfl | exact Gets.at0 (by assumption) rfl)) (hc : chkQ ops rem' i ⟨some d, .load t x, ty, pos, af, g⟩ = true := by decide +kernel) : (HD P n ops Q ((i, (b, .cells ⟨l⟩ E fr)) :: Ss) rem' ((d, v) :: ρ) L) → HD P n ops Q Ss rem ρ L := fun hr => dl S k hr h00 hp hx ht h6 h7 hg hn hb hv hc
end
section
variable {P : Program} (S : Tab P) {n : Nat} {ops : List Oper} {Q : Exit → Env → Heap → Prop} {Ss : List (Nat × Blk)} {rem rem' : List (Nat × Oper)} {ρ : Env} {L : Heap} {op : Op} {ty : TypeId} {pos : String} {af : Array Edge} {g : Option (Nat × Bool)} {d i : Nat}
theorem pds {t b a E : Nat} {ti : TyI} {x : Operand} {l vs : List Value} {fr : Nat × Nat} (k : Nat) (h00 : okv ρ = true := by exact rfl) (hp : pickS k rem = some ((i, ⟨some d, .load t x, ty, pos, af, g⟩), rem') := by exact rfl) (hx : ev ρ x = some (pt b a) := by exact rfl) (ht : lkN S.ty t = some ti := by exact rfl) (h7 : (Nat.beq ti.kind 6 || Nat.beq ti.kind 7) = true := by exact rfl) (hg : guardE ops ρ g = some true := by exact rfl) (hn : Nat.blt d n = true := by exact rfl) (hb : Has L b (.cells ⟨l⟩ E fr) := by (repeat (first | assumption | exact has_here | exact has_mem (by assumption) | apply has_in | apply has_next))) (hv : Gets l a vs ∧ ti.size = vs.length := by (first | (refine gets_len (by assumption) ?_; rfl) | exact ⟨Za rfl (Za rfl (Za rfl gets_nil)), rfl⟩ | exact ⟨Za rfl (Za rfl gets_nil), rfl⟩ | exact ⟨Za rfl (Za rfl (Za rfl (Za rfl gets_nil))), rfl⟩ | exact ⟨Za rfl (Za rfl (Za rfl (Za rfl (Za rfl (Za rfl (Za rfl (Za rfl (Za rfl gets_nil)))))))), rfl⟩)) (hc : chkQ ops rem' i ⟨some d, .load t x, ty, pos, af, g⟩ = true := by decide +kernel) : (HD P n ops Q ((i, (b, .cells ⟨l⟩ E fr)) :: Ss) rem' ((d, .agg ⟨vs⟩) :: ρ) L) → HD P n ops Q Ss rem ρ L := fun hr => ds S k hr h00 hp hx ht h7 hg hn hb hv hc
end
section
variable {P : Program} (S : Tab P) {n : Nat} {ops : List Oper} {Q : Exit → Env → Heap → Prop} {Ss : List (Nat × Blk)} {rem rem' : List (Nat × Oper)} {ρ : Env} {L : Heap} {op : Op} {ty : TypeId} {pos : String} {af : Array Edge} {g : Option (Nat × Bool)} {d i : Nat}
theorem pdxk {i0 : Nat} {p : Blk} {r : List (Nat × Blk)} {K : List (Nat × Blk) → Prop} (hk : keepE ops i0 i = true := by exact rfl) (hb : Has L p.1 p.2 := by (repeat (first | assumption | exact has_here | exact has_mem (by assumption) | apply has_in | apply has_next))) : (nextP ops i L r (fun l => K ((i0, p) :: l))) → nextP ops i L ((i0, p) :: r) K := fun h => dxk h hk hb
end
section
variable {P : Program} (S : Tab P) {n : Nat} {ops : List Oper} {Q : Exit → Env → Heap → Prop} {Ss : List (Nat × Blk)} {rem rem' : List (Nat × Oper)} {ρ : Env} {L : Heap} {op : Op} {ty : TypeId} {pos : String} {af : Array Edge} {g : Option (Nat × Bool)} {d i : Nat}
theorem pdxd {i0 : Nat} {p : Blk} {r : List (Nat × Blk)} {K : List (Nat × Blk) → Prop} (hk : keepE ops i0 i = false := by exact rfl) : (nextP ops i L r K) → nextP ops i L ((i0, p) :: r) K := fun h => dxd h hk
end
section
variable {P : Program} (S : Tab P) {n : Nat} {ops : List Oper} {Q : Exit → Env → Heap → Prop} {rest : List Oper} {ρ : Env} {L : Heap} {ty : TypeId} {pos : String} {af : Array Edge}
theorem pwM {d t E y0 s0 b0 k1 x1 y1 sz by1 : Nat} {z : Value} {zs : List Value} {x y : Operand} {kl kc : IntKind} {l c : Int} (h00 : okv ρ = true := by exact rfl) (hx : ev ρ x = some (.int kl l) := by exact rfl) (hy : ev ρ y = some (.int kc c) := by exact rfl) (ht : lkN S.ty t = some ⟨5, E, y0, s0, b0⟩ := by exact rfl) (he : lkN S.ty E = some ⟨k1, x1, y1, sz, by1⟩ := by exact rfl) (hz : lkN S.zr E = some z := by exact rfl) (hzs : z.cells = ⟨zs⟩ := by exact rfl) (hzl : Nat.beq zs.length sz = true := by exact rfl) (hn : Nat.blt d n = true := by exact rfl) (hc : 0 ≤ l ∧ l ≤ c ∧ (by1 : Int) * c ≤ 281474976710656 ∧ c ≤ 9223372036854775807 := by omega) : (∀ b, HO P n ops Q rest ((d, sl b 0 l.toNat c.toNat) :: ρ) ([(b, .cells ⟨(List.replicate c.toNat zs).flatten⟩ E)] :: L)) → HO P n ops Q (⟨some d, .makeSlice t x y, ty, pos, af, none⟩ :: rest) ρ L := fun h => wM S h h00 hx hy ht he hz hzs hzl hn hc
end
section
variable {P : Program} (S : Tab P) {n : Nat} {ops : List Oper} {Q : Exit → Env → Heap → Prop} {rest : List Oper} {ρ : Env} {L : Heap} {ty : TypeId} {pos : String} {af : Array Edge}
theorem pwSa {d t E y0 s0 b0 k1 x1 y1 sz by1 len : Nat} {z : Value} {zs out : List Value} {vals : List (Nat × Value)} {parts : Array (Nat × Operand)} (h00 : okv ρ = true := by exact rfl) (ht : lkN S.ty t = some ⟨5, E, y0, s0, b0⟩ := by exact rfl) (he : lkN S.ty E = some ⟨k1, x1, y1, sz, by1⟩ := by exact rfl) (hz : lkN S.zr E = some z := by exact rfl) (hzs : z.cells = ⟨zs⟩ := by exact rfl) (hzl : Nat.beq zs.length sz = true := by exact rfl) (hp : evParts ρ parts.toList = some vals := by exact rfl) (hf : ((allCells sz 0 vals).bind fun l => nfL l some) = some out := by exact rfl) (hol : Nat.beq out.length (len * sz) = true := by exact rfl) (hsm : Nat.ble (len * sz) 16777216 = true := by exact rfl) (h1 : Nat.ble 1 (len * sz) = true := by exact rfl) (hn : Nat.blt d n = true := by exact rfl) : (∀ b, HO P n ops Q rest ((d, sl b 0 len len) :: ρ) ([(b, .cells ⟨out⟩ E)] :: L)) → HO P n ops Q (⟨some d, .buildSlice t len parts, ty, pos, af, none⟩ :: rest) ρ L := fun h => wSa S h h00 ht he hz hzs hzl hp hf hol hsm h1 hn
end
section
variable {P : Program} (S : Tab P) {n : Nat} {ops : List Oper} {Q : Exit → Env → Heap → Prop} {rest : List Oper} {ρ : Env} {L : Heap} {ty : TypeId} {pos : String} {af : Array Edge}
theorem pwSn {d t E y0 s0 b0 k1 x1 y1 sz by1 len : Nat} {z : Value} {zs out : List Value} {vals : List (Nat × Value)} {parts : Array (Nat × Operand)} (h00 : okv ρ = true := by exact rfl) (ht : lkN S.ty t = some ⟨5, E, y0, s0, b0⟩ := by exact rfl) (he : lkN S.ty E = some ⟨k1, x1, y1, sz, by1⟩ := by exact rfl) (hz : lkN S.zr E = some z := by exact rfl) (hzs : z.cells = ⟨zs⟩ := by exact rfl) (hzl : Nat.beq zs.length sz = true := by exact rfl) (hp : evParts ρ parts.toList = some vals := by exact rfl) (hf : ((fillN sz (List.replicate len zs).flatten vals).bind fun l => nfL l some) = some out := by exact rfl) (hsm : Nat.ble (len * sz) 16777216 = true := by exact rfl) (h1 : Nat.ble 1 (len * sz) = true := by exact rfl) (hn : Nat.blt d n = true := by exact rfl) : (∀ b, HO P n ops Q rest ((d, sl b 0 len len) :: ρ) ([(b, .cells ⟨out⟩ E)] :: L)) → HO P n ops Q (⟨some d, .buildSlice t len parts, ty, pos, af, none⟩ :: rest) ρ L := fun h => wSn S h h00 ht he hz hzs hzl hp hf hsm h1 hn
end
section
variable {α : Type} [DecidableEq α] {P : Program} (S : Tab P) {n : Nat} {ops : List Oper} {Q : Exit → Env → Heap → Prop} {rest : List Oper} {ρ : Env} {L : Heap} {ty : TypeId} {pos : String} {af : Array Edge}
theorem pwMk {d t : Nat} (h00 : okv ρ = true := by exact rfl) (hn : Nat.blt d n = true := by exact rfl) : (∀ b, HO P n ops Q rest ((d, .map (some b)) :: ρ) ([(b, .map #[] 0)] :: L)) → HO P n ops Q (⟨some d, .makeMap t none, ty, pos, af, none⟩ :: rest) ρ L := fun h => wMk h h00 hn
end
section
variable {P : Program} {n : Nat} {ops : List Oper} {Q : Exit → Env → Heap → Prop} {rest : List Oper} {ρ : Env} {L : Heap}
theorem pg_b {c : Operand} {x y : Code} {b : Bool} (h00 : okv ρ = true := by exact rfl) (hc : ev ρ c = some (.bool b) := by exact rfl) : (b = true → HW P n x Q ρ L) → (b = false → HW P n y Q ρ L) → HW P n (.cond c x y) Q ρ L := fun ht hf => g_b ht hf h00 hc
end
section
variable {P : Program} {n : Nat} {ops : List Oper} {Q : Exit → Env → Heap → Prop} {rest : List Oper} {ρ : Env} {L : Heap}
variable {op : Op} {ty : TypeId} {pos : String} {af : Array Edge} {g : Option (Nat × Bool)} {d : Nat}
theorem pg_s {d j t : Nat} {wt : Bool} {b : Bool} (h00 : okv ρ = true := by exact rfl) (hj : gdst ops j = some t := by exact rfl) (ht : lk ρ t = some (.bool b) := by exact rfl) : (b = true → HO P n ops Q (⟨some d, op, ty, pos, af, some (j, wt)⟩ :: rest) ((t, .bool true) :: ρ) L) → (b = false → HO P n ops Q (⟨some d, op, ty, pos, af, some (j, wt)⟩ :: rest) ((t, .bool false) :: ρ) L) → HO P n ops Q (⟨some d, op, ty, pos, af, some (j, wt)⟩ :: rest) ρ L := fun h1 h0 => g_s h1 h0 h00 hj ht
end
section
variable {P : Program} {n : Nat} {ops : List Oper} {Q : Exit → Env → Heap → Prop} {rest : List Oper} {ρ : Env} {L : Heap}
variable {op : Op} {ty : TypeId} {pos : String} {af : Array Edge} {g : Option (Nat × Bool)} {d : Nat}
variable {K : Env → Prop}
theorem pk_s {d j t : Nat} {wt : Bool} {b : Bool} (h00 : okv ρ = true := by exact rfl) (hj : gdst ops j = some t := by exact rfl) (ht : lk ρ t = some (.bool b) := by exact rfl) : (b = true → HQ P n ops K (⟨some d, op, ty, pos, af, some (j, wt)⟩ :: rest) ((t, .bool true) :: ρ) L) → (b = false → HQ P n ops K (⟨some d, op, ty, pos, af, some (j, wt)⟩ :: rest) ((t, .bool false) :: ρ) L) → HQ P n ops K (⟨some d, op, ty, pos, af, some (j, wt)⟩ :: rest) ρ L := fun h1 h0 => k_s h1 h0 h00 hj ht
end
section
variable {P : Program} {n : Nat} {ops : List Oper} {Q : Exit → Env → Heap → Prop} {Ss : List (Nat × Blk)} {rem rem' : List (Nat × Oper)} {ρ : Env} {L : Heap} {i : Nat}
theorem pd_sp {t j : Nat} {q : Oper} {b wt : Bool} (k : Nat) (h00 : okv ρ = true := by exact rfl) (hp : pickS k rem = some ((i, q), rem') := by exact rfl) (hq : q.guard = some (j, wt) := by exact rfl) (hj : gdst ops j = some t := by exact rfl) (ht : lk ρ t = some (.bool b) := by exact rfl) (hb : Fresh b := by (fail_if_success (with_reducible exact fresh_t)); (fail_if_success (with_reducible exact fresh_f)); exact fresh_any _) : (b = true → HD P n ops Q Ss rem ((t, .bool true) :: ρ) L) → (b = false → HD P n ops Q Ss rem ((t, .bool false) :: ρ) L) → HD P n ops Q Ss rem ρ L := fun h1 h0 => d_sp k h1 h0 h00 hp hq hj ht hb
end
end Go.HL
end

/-! QHLTop -/
section
namespace Go.HL
set_option linter.unusedSectionVars false
variable [Tasks]
open Go Go.ChangeShapes Go.WideShapes Go.ChangeAt Go.RowKit
set_option linter.unusedVariables false
set_option linter.unusedSimpArgs false

/-- all rows of a world: read by all, written by nobody -/
def blkOf (w : World) (i : Nat) : Option Blk := match w.heap[i]? with
  | some (.cells c E fr) => some (i, ronly (.cells c E fr))
  | _ => none
def blks (w : World) : List Blk := (List.range w.heap.size).filterMap (blkOf w)
def ctx (w : World) : Ctx := (w.os, w.output, w.tape)
theorem mem_blks {w : World} {b : Nat} {c : Array Value} {E : Nat} {fr : Nat × Nat} (h : w.heap[b]? = some (.cells c E fr)) : (b, ronly (.cells c E fr)) ∈ blks w :=
  List.mem_filterMap.2 ⟨b, List.mem_range.2 (Array.getElem?_eq_some_iff.1 h).1, by simp only [blkOf, h]⟩
theorem of_blks {w : World} {p : Blk} (h : p ∈ blks w) : ∃ c E fr, w.heap[p.1]? = some (.cells c E fr) ∧ p.2 = ronly (.cells c E fr) := by
  obtain ⟨i, _, h2⟩ := List.mem_filterMap.1 h
  unfold blkOf at h2
  split at h2
  · rename_i c E fr he
    cases h2
    exact ⟨c, E, fr, he, rfl⟩
  · cases h2
theorem sat_init (w : World) : Sat (ctx w) w [blks w] := by
  have hf : ([blks w] : Heap).flatten = blks w := by simp
  refine ⟨rfl, rfl, rfl, fun p hp hg => ?_, ?_, fun p hp => ?_, fun p hp => ?_⟩ <;> rw [hf] at *
  · obtain ⟨c, E, fr, h1, h2⟩ := of_blks hp
    rw [h2, act_mark]
    exact h1
  · have key : ∀ (f : Nat → Option Blk) (l : List Nat), (∀ i p, f i = some p → p.1 = i) → l.Nodup → ((l.filterMap f).map (·.1)).Nodup := by
      intro f l hf
      induction l with
      | nil => intro _; exact .nil
      | cons x l ih =>
        intro hn
        rw [List.nodup_cons] at hn
        cases hx : f x with
        | none => rw [List.filterMap_cons_none hx]; exact ih hn.2
        | some p =>
          rw [List.filterMap_cons_some hx, List.map_cons, List.nodup_cons]
          refine ⟨fun hm => ?_, ih hn.2⟩
          obtain ⟨q, hq, e⟩ := List.mem_map.1 hm
          obtain ⟨y, hy, hfy⟩ := List.mem_filterMap.1 hq
          have e1 := hf x p hx
          have e2 := hf y q hfy
          have : x = y := by rw [← e1, ← e2, e]
          exact hn.1 (this ▸ hy)
    refine key _ _ (fun i p h => ?_) List.nodup_range
    unfold blkOf at h
    split at h
    · cases h; rfl
    · cases h
  · obtain ⟨c, E, fr, h1, h2⟩ := of_blks hp
    rw [h2]; rfl
  · obtain ⟨c, E, fr, h1, h2⟩ := of_blks hp
    exact (Array.getElem?_eq_some_iff.1 h1).1

theorem trodAll_stays {H : Type} {enc : TypeId × Value → H} {P : Program} (hl : laidOutB P = true) {W W' : World} (hb : Below W.heap.size W W') :
    ∀ (ts : List TypeId) (vs : List Value) (ds : List (DataW H)) (ps : List MemPlace), (∀ t ∈ ts, P.readableRec t = true ∧ t < P.types.size) → DataW.TrodAll enc P W 0 (fun _ => true) true ts vs ds ps →
      (∀ x ∈ ps, x.block < W.heap.size) → DataW.TrodAll enc P W' 0 (fun b => decide (b < W.heap.size)) true ts vs ds ps
  | [], [], [], ps, _, h, _ => h
  | t :: ts, v :: vs, d :: ds, ps, hr, h, hlt => by
    obtain ⟨p, q, h1, h2, rfl⟩ := h
    exact ⟨p, q, Below.trod hl (hr t (by simp)).1 (hr t (by simp)).2 h1 hb (fun x hx => hlt x (by simp [hx])),
      trodAll_stays hl hb ts vs ds q (fun t ht => hr t (by simp [ht])) h2 (fun x hx => hlt x (by simp [hx])), rfl⟩
  | [], _ :: _, _, _, _, h, _ => by simp [DataW.TrodAll] at h
  | [], [], _ :: _, _, _, h, _ => by simp [DataW.TrodAll] at h
  | _ :: _, [], _, _, _, h, _ => by simp [DataW.TrodAll] at h
  | _ :: _, _ :: _, [], _, _, h, _ => by simp [DataW.TrodAll] at h

/-- the end of a law: true comes back, the arguments read as9 they did -/
theorem post_law {H : Type} {enc : TypeId × Value → H} {P : Program} {f : Func} {s : ChangeSpec} {apart fresh handsOn : Bool} {W W' : World} {args : Array Value} {ds gs : List (DataW H)} {before : List MemPlace} {tb : TypeId}
    (hl : laidOutB P = true) (hr : ∀ t ∈ f.params.toList, P.readableRec t = true ∧ t < P.types.size) (hW : DataW.Whole enc P f.params.toList s.vars apart W args.toList ds gs before) (hb : Below W.heap.size W W')
    (hv : s.vars = []) (hfn : s.fn H (ds ++ gs) = { results := [.lit (.bool true)], args := ds }) (hrt : f.resultTypes = #[tb]) (hbool : P.underlying tb = some .bool) :
    s.post enc P f apart fresh handsOn false W args (.bool true) W' := by
  have hlt := hW.lt
  have hW' := hW
  obtain ⟨p, q, hA, hV, rfl, hfz, hnd⟩ := hW
  rw [hv] at hV
  obtain ⟨rfl, rfl⟩ := trodVars_none hV
  refine ⟨ds, [], p ++ [], [], p, [], hW', ?_, ?_, ?_, hb.frame _, fun h => by cases h⟩
  · rw [hfn, hrt]
    exact trodAll_mk1 (shut_bool hbool _)
  · rw [hfn]
    exact trodAll_stays hl hb _ _ _ _ hr hA (fun x hx => hlt x (by simp [hx]))
  · rw [hv, hfn]
    rfl

theorem cell_of_cells {W : World} {b off i : Nat} {c : Array Value} {E : Nat} {fr : Nat × Nat} (hb : W.heap[b]? = some (.cells c E fr)) : W.cell? (Addr.add ⟨b, off, none⟩ i) = c[off + i]? := by
  unfold Addr.add
  by_cases h0 : i = 0
  · subst h0; simp [World.cell?, hb]
  · simp [World.cell?, hb, h0]
/-- the mark of what all read -/
def rfr : Nat × Nat := (0 + (Tasks.m + 1), 0)
theorem has_blks {W : World} {b : Nat} {c : Array Value} {E : Nat} {fr : Nat × Nat} (h : W.heap[b]? = some (.cells c E fr)) : Has [blks W] b (.cells c E (fr.1 + (Tasks.m + 1), fr.2)) := by
  simp only [Has, List.flatten_cons, List.flatten_nil, List.append_nil]
  exact mem_blks h
/-- a slice that is read: of its cells, from the reading -/
theorem open_rd {H : Type} {enc : TypeId × Value → H} {P : Program} {W : World} {base : Nat} {r : Reach} {spare : Nat → Bool} {held : Bool} {t e : TypeId} {α : Type} {encV : α → List Value} {sz : Nat} {v : Value} {d : DataW H} {ps : List MemPlace}
    (ht : P.underlying t = some (.slice e)) (hsz : P.cellsOf e = sz) (hpos : 0 < sz) (hval : Value.okWide P W r base t v) (hd : DataW.Trod enc P W 0 spare held t v d ps)
    (good : α → Prop) (one : ∀ n cs x, DataW.trod enc P W 0 spare held n e cs = some x → ∃ s, cs = encV s ∧ good s) :
    ∃ a cap, ∃ xs : List α, v = .slice a xs.length cap ∧ Rd encV sz [blks W] a xs ∧ (∀ x ∈ xs, good x) ∧ xs.length ≤ cap := by
  obtain ⟨a, len, cap, rfl⟩ := okWide_slice ht hval
  obtain ⟨fuel, hf⟩ := hd
  rcases Deep.open_slice ht hf with ⟨h1, -⟩ | ⟨a', len', cap', m, n, D, Plo, h1, -, hl, -, hm, -, hx⟩
  · simp [Value.cells] at h1
    obtain ⟨rfl, rfl, rfl⟩ := h1
    exact ⟨none, 0, [], rfl, Rd.nil, by simp, by simp⟩
  · simp [Value.cells] at h1
    obtain ⟨rfl, rfl, rfl⟩ := h1
    have hlm : len ≤ m := by rw [hm]; split <;> omega
    have : ∀ i, i < len → ∃ s, W.cells? 0 (a'.add (i * sz)) sz = some (encV s) ∧ good s := fun i hi => by
      obtain ⟨cs, h1, h2⟩ := hx i (by omega)
      obtain ⟨s, rfl, hg⟩ := one _ _ _ h2
      rw [hsz] at h1
      exact ⟨s, h1, hg⟩
    by_cases h0 : len = 0
    · subst h0
      exact ⟨some a', cap, [], rfl, Rd.nil, by simp, by simp⟩
    · have : ∃ V : _root_.Fin len → α, ∀ i, W.cells? 0 (a'.add (i.1 * sz)) sz = some (encV (V i)) ∧ good (V i) := ⟨fun i => (this i.1 i.2).choose, fun i => (this i.1 i.2).choose_spec⟩
      obtain ⟨V, hV⟩ := this
      obtain ⟨-, -, hc⟩ := World.cells?_some (hV ⟨0, by omega⟩).1
      have hlen := (World.cells?_some (hV ⟨0, by omega⟩).1).2.1
      have h00 := hc 0 hpos
      have hs : ∃ x, W.cell? a' = some x := by
        simp [Addr.add] at h00
        exact ⟨_, h00.trans (List.getElem?_eq_getElem (by omega))⟩
      obtain ⟨x, hx0⟩ := hs
      obtain ⟨b, off, spot⟩ := a'
      have hblk : ∃ c E fr, W.heap[b]? = some (.cells c E fr) ∧ spot = none := by
        unfold World.cell? at hx0
        simp only at hx0
        split at hx0
        · rename_i c E fr he
          refine ⟨c, E, fr, he, ?_⟩
          cases spot with
          | none => rfl
          | some k => simp at hx0
        · cases hx0
      obtain ⟨c, E, fr, he, rfl⟩ := hblk
      refine ⟨some ⟨b, off, none⟩, cap, List.ofFn V, by simp, .inr ⟨b, off, c.toList, E, _, rfl, has_blks (by simpa using he), fun k x hk => ?_⟩, ?_, by simpa using hl⟩
      · have hkl : k < len := by
          have := (List.getElem?_eq_some_iff.1 hk).1
          simpa using this
        have hx : V ⟨k, hkl⟩ = x := by
          rw [List.getElem?_ofFn] at hk
          simpa [hkl] using hk
        obtain ⟨-, hl2, hc2⟩ := World.cells?_some (hV ⟨k, hkl⟩).1
        rw [hx] at hl2 hc2
        intro j v hj
        have hjl := (List.getElem?_eq_some_iff.1 hj).1
        have := hc2 j (by omega)
        rw [hj] at this
        rw [← this]
        have e : (Addr.add ⟨b, off, none⟩ (k * sz)) = ⟨b, off + k * sz, none⟩ := by
          unfold Addr.add; split
          · rename_i h; simp [h]
          · rfl
        show c.toList[off + k * sz + j]? = _
        simp only [e]
        rw [cell_of_cells he]
        simp
      · intro x hx
        obtain ⟨i, rfl⟩ := List.mem_ofFn.1 hx
        exact (hV i).2
end Go.HL
end

/-! QSeat -/
section
namespace Go.HL
set_option linter.unusedSectionVars false
variable [Tasks]
open Go
set_option linter.unusedVariables false
abbrev Er (T : Nat) (E : Nat → Addr) (cs : List Nat) (L : Heap) : Prop := Errs errTab T E cs L
def ic (x : Int) : List Value := [iv x]
/-- a state; a frame -/
structure St where
  ph : Int
  pr : Int
  att : Int
  deriving DecidableEq
structure Fr where
  fr : Int
  to : Int
  dl : Int
  kd : Int
  att : Int
  yes : Bool
  s : St
  deriving DecidableEq
def fc (f : Fr) : List Value := [iv f.fr, iv f.to, iv f.dl, iv f.kd, iv f.att, .bool f.yes, iv f.s.ph, iv f.s.pr, iv f.s.att]
def zeroS : St := ⟨0, 0, 0⟩
def zeroF : Fr := ⟨0, 0, 0, 0, 0, false, zeroS⟩
/-! a walk's steps, each found by itself -/
theorem zs : (∀ {a b : Bool}, ((!a) = b) ↔ a = !b) ∧ ((!true) = false) ∧ ((!false) = true) ∧ (∀ {p : Prop} [Decidable p], (decide p = true) = p) ∧ (∀ {p : Prop} {x : Decidable p}, decide p = false ↔ ¬ p) ∧ (∀ {p : Prop} [Decidable p], ¬ ¬ p ↔ p) ∧ (∀ (a b : Bool), ((a && b) = true) = (a = true ∧ b = true)) ∧ (∀ {α : Type} [BEq α] [LawfulBEq α] {a b : α}, (a == b) = true ↔ a = b) ∧
    (∀ (h : Decidable True), @decide True h = true) ∧ (∀ b : Bool, (b && true) = b) ∧ (∀ b : Bool, (true && b) = b) ∧ ((¬ True) = False) ∧ ((¬ False) = True) := ⟨zA, zB, zC, zD, zE, zF, zG, zH, zI, zJ, zK, zL, zM⟩
theorem zx {P : Prop} (f : False := by first | omega | with_reducible contradiction) : P := f.elim
theorem uN {A B : Prop} (h : B) (f : B → A := by first | (show _ → HW _ _ _ _ _ _; first | exact hw_seq | exact hw_region | exact hw_block | exact hw_exit | exact pg_t | exact pg_f | exact hw_skip | exact hw_ret) | (show _ → HO _ _ _ _ _ _ _; first | exact ho_nil | exact pg_q (qe S) | exact pg_q (qg S) | exact pg_q (ql S) | exact pg_q (qs S) | exact pg_q (qt S) | exact pg_q (qc8 S) | exact pg_q (qc32 S) | exact pg_q (qn S) | exact pg_q (qb S) | exact pg_q (qbA S) | exact pg_q (qSl S) | exact pg_q (qSh S) | exact pg_q (qSb S) | exact pg_q (qmI S) | exact pg_q (qA S) | exact pg_q (qB S) | exact pg_q (qx32 S) | exact pg_n | exact pg_on | exact pws S) | (show _ → HQ _ _ _ _ _ _ _; first | exact hq_nil | exact pk_q (qe S) | exact pk_q (qg S) | exact pk_q (ql S) | exact pk_q (qs S) | exact pk_q (qt S) | exact pk_q (qc8 S) | exact pk_q (qc32 S) | exact pk_q (qn S) | exact pk_q (qb S) | exact pk_q (qbA S) | exact pk_q (qSl S) | exact pk_q (qSh S) | exact pk_q (qSb S) | exact pk_q (qmI S) | exact pk_q (qA S) | exact pk_q (qB S) | exact pk_q (qx32 S) | exact pk_n) | (show _ → HD _ _ _ _ _ _ _ _; first | exact hd_nil | exact pd_q 100 (by exact rfl) (fun _ => qe S) | exact pd_q 100 (by exact rfl) (fun _ => qc8 S) | exact pd_q 100 (by exact rfl) (fun _ => qc32 S) | exact pd_q 100 (by exact rfl) (fun _ => qn S) | exact pd_q 100 (by exact rfl) (fun _ => qb S) | exact pd_q 100 (by exact rfl) (fun _ => qbA S) | exact pd_q 100 (by exact rfl) (fun _ => qSl S) | exact pd_q 100 (by exact rfl) (fun _ => qSh S) | exact pd_q 100 (by exact rfl) (fun _ => qSb S) | exact pd_q 100 (by exact rfl) (fun _ => qmI S) | exact pd_q 100 (by exact rfl) (fun _ => qA S) | exact pd_q 100 (by exact rfl) (fun _ => qB S) | exact pd_q 100 (by exact rfl) (fun _ => qx32 S) | exact pdl S 100 | exact pds S 100 | exact pd_n 100) | exact seqQ_normal | exact seqQ_ret | exact seqQ_exit | exact blkQ_here | exact pg_bx | exact blkQ_ret | exact blkQ_normal | exact loopQ_ret | exact loopQ_exit | exact unQ_ret | exact unQ_exit | exact unQ_succ | exact dx | exact dx0 | exact pdxd | exact pdxk) : A := f h
theorem uB {A B : Prop} (h : B) (f : B → A := by first | exact pwa S | exact pwb | exact pwS S | exact pwSa S | exact pwSn S | exact pwMk | exact pwm S | exact pwM S) : A := f h
theorem uP {A B C : Prop} (h : B) (h' : C) (f : B → C → A := by first | exact pg_b | exact pg_s | exact pk_s | exact pd_sp 100) : A := f h h'
theorem uC {X A B : Prop} (c : X) (h : B) (f : X → B → A := by first | exact fun c => pg_q (qC c) | exact fun c => pk_q (qC c)) : A := f c h
theorem uS {a b : Env} (h : Sub a b := by repeat (first | exact trivial | refine ⟨rfl, ?_⟩)) : Sub a b := h
theorem uL {a b : List Blk} (h : LS a b := by repeat (first | (with_reducible first | refine LS.p0 ?_ | refine LS.p1 ?_ | refine LS.p2 ?_ | refine LS.p3 ?_ | refine LS.p4 ?_ | refine LS.p5 ?_ | refine LS.p6 ?_ | refine LS.p7 ?_ | refine LS.p8 ?_ | refine LS.p9 ?_ | refine LS.p10 ?_ | refine LS.p11 ?_ | refine LS.p12 ?_ | refine LS.e ?_ | exact LS.refl _) | refine LS.p0 ?_ | refine LS.p1 ?_ | refine LS.p2 ?_ | refine LS.p3 ?_ | refine LS.p4 ?_ | refine LS.p5 ?_ | refine LS.p6 ?_ | refine LS.p7 ?_ | refine LS.p8 ?_ | refine LS.p9 ?_ | refine LS.p10 ?_ | refine LS.p11 ?_ | refine LS.p12 ?_ | (with_reducible refine LS.c ?_))) : LS a b := h
theorem uZ {a b : List Blk} (h : LS a b := by repeat (first | exact LS.refl _ | apply LS.k | apply LS.c)) : LS a b := h
section
variable {P : Program} {n : Nat} {ops : List Oper} {Q : Exit → Env → Heap → Prop} {Ss : List (Nat × Blk)} {rem rem' : List (Nat × Oper)} {ρ : Env} {L : Heap} {f : Operand} {xa : Array Operand} {ts : Array TypeId} {F d i : Nat} {cap args args' : List Value} {v : Value} {ty : TypeId} {pos : String} {af : Array Edge} {g : Option (Nat × Bool)}
theorem uD0 (c : ∀ L, HC P F args' L (fun u L' => u = v ∧ L' = L)) (hr : HD P n ops Q Ss rem' ((d, v) :: ρ) L) (h00 : okv ρ = true := by exact rfl) (hp : pickS 0 rem = some ((i, ⟨some d, .call { callee := .value f, args := xa, argTypes := ts }, ty, pos, af, g⟩), rem') := by exact rfl) (hf : ev ρ f = some (.func (.func F) #[] ⟨cap⟩) := by exact rfl) (ha : evs ρ xa.toList = some args := by exact rfl) (he : args ++ cap = args' := by exact rfl)
    (hg : guardE ops ρ g = some true := by exact rfl) (hn : Nat.blt d n = true := by exact rfl) (hc : chkQ ops rem' i ⟨some d, .call { callee := .value f, args := xa, argTypes := ts }, ty, pos, af, g⟩ = true := by decide +kernel) : HD P n ops Q Ss rem ρ L := d_q 0 hp (fun L => qC (c L) h00 hf ha he) hr h00 hg hn hc
theorem uD1 (c : ∀ L, HC P F args' L (fun u L' => u = v ∧ L' = L)) (hr : HD P n ops Q Ss rem' ((d, v) :: ρ) L) (h00 : okv ρ = true := by exact rfl) (hp : pickS 1 rem = some ((i, ⟨some d, .call { callee := .value f, args := xa, argTypes := ts }, ty, pos, af, g⟩), rem') := by exact rfl) (hf : ev ρ f = some (.func (.func F) #[] ⟨cap⟩) := by exact rfl) (ha : evs ρ xa.toList = some args := by exact rfl) (he : args ++ cap = args' := by exact rfl)
    (hg : guardE ops ρ g = some true := by exact rfl) (hn : Nat.blt d n = true := by exact rfl) (hc : chkQ ops rem' i ⟨some d, .call { callee := .value f, args := xa, argTypes := ts }, ty, pos, af, g⟩ = true := by decide +kernel) : HD P n ops Q Ss rem ρ L := d_q 1 hp (fun L => qC (c L) h00 hf ha he) hr h00 hg hn hc
theorem uD2 (c : ∀ L, HC P F args' L (fun u L' => u = v ∧ L' = L)) (hr : HD P n ops Q Ss rem' ((d, v) :: ρ) L) (h00 : okv ρ = true := by exact rfl) (hp : pickS 2 rem = some ((i, ⟨some d, .call { callee := .value f, args := xa, argTypes := ts }, ty, pos, af, g⟩), rem') := by exact rfl) (hf : ev ρ f = some (.func (.func F) #[] ⟨cap⟩) := by exact rfl) (ha : evs ρ xa.toList = some args := by exact rfl) (he : args ++ cap = args' := by exact rfl)
    (hg : guardE ops ρ g = some true := by exact rfl) (hn : Nat.blt d n = true := by exact rfl) (hc : chkQ ops rem' i ⟨some d, .call { callee := .value f, args := xa, argTypes := ts }, ty, pos, af, g⟩ = true := by decide +kernel) : HD P n ops Q Ss rem ρ L := d_q 2 hp (fun L => qC (c L) h00 hf ha he) hr h00 hg hn hc
theorem uD3 (c : ∀ L, HC P F args' L (fun u L' => u = v ∧ L' = L)) (hr : HD P n ops Q Ss rem' ((d, v) :: ρ) L) (h00 : okv ρ = true := by exact rfl) (hp : pickS 3 rem = some ((i, ⟨some d, .call { callee := .value f, args := xa, argTypes := ts }, ty, pos, af, g⟩), rem') := by exact rfl) (hf : ev ρ f = some (.func (.func F) #[] ⟨cap⟩) := by exact rfl) (ha : evs ρ xa.toList = some args := by exact rfl) (he : args ++ cap = args' := by exact rfl)
    (hg : guardE ops ρ g = some true := by exact rfl) (hn : Nat.blt d n = true := by exact rfl) (hc : chkQ ops rem' i ⟨some d, .call { callee := .value f, args := xa, argTypes := ts }, ty, pos, af, g⟩ = true := by decide +kernel) : HD P n ops Q Ss rem ρ L := d_q 3 hp (fun L => qC (c L) h00 hf ha he) hr h00 hg hn hc
end
end Go.HL
end

/-! QKRo -/
section
namespace Go.HL
set_option linter.unusedSectionVars false
variable [Tasks]
open Go
set_option linter.unusedVariables false
set_option linter.unusedSectionVars false
set_option linter.unusedSimpArgs false
theorem wk_ro {L L' : Heap} {b E : Nat} {c : Array Value} {fr : Nat × Nat} (h : Upd L b (.cells c E fr) (ronly (.cells c E fr)) L') (hr : rob (.cells c E fr) = false) : Wk L L' := by
  obtain ⟨l, r, e, e'⟩ := h
  have hm : ∀ p ∈ L'.flatten, p ∈ L.flatten ∨ p = (b, ronly (.cells c E fr)) := fun p hp => by
    rw [e'] at hp; rw [e]
    simp only [List.mem_append, List.mem_cons] at hp ⊢
    rcases hp with hp | hp | hp
    · exact .inl (.inl hp)
    · exact .inr hp
    · exact .inl (.inr (.inr hp))
  have hb : (b, Obj.cells c E fr) ∈ L.flatten := by rw [e]; simp
  have hg : gho (ronly (.cells c E fr)) = false := rfl
  have hac : act (.cells c E fr) = .cells c E fr := act_pln (by simp [pln, gho, hr])
  refine ⟨fun k w hs => ⟨hs.os, hs.out, hs.tape, fun p hp hpg => ?_, ?_, fun p hp => ?_, fun p hp => ?_⟩, fun x ⟨o, h1, h2⟩ => ?_, fun x ⟨o, h1, h2⟩ => ?_, fun p hp hpg => ?_⟩
  · rcases hm p hp with hp | rfl
    · exact hs.has p hp hpg
    · have := hs.has _ hb rfl
      rw [hac] at this
      rw [act_mark]; exact this
  · have := hs.nodup
    rw [e] at this; rw [e']
    simpa using this
  · rcases hm p hp with hp | rfl
    · exact hs.nv p hp
    · rfl
  · rcases hm p hp with hp | rfl
    · exact hs.lt p hp
    · exact hs.lt (b, .cells c E fr) hb
  · rcases hm _ h1 with h1 | h1
    · exact ⟨o, h1, h2⟩
    · cases h1
      have := rob_mark c E fr
      rw [pln_rob h2] at this; cases this
  · rcases hm _ h1 with h1 | h1
    · exact ⟨o, h1, h2⟩
    · cases h1
      exact ⟨_, hb, rfl⟩
  · rcases hm p hp with hp | rfl
    · exact hp
    · cases hpg
end Go.HL
end

/-! QKWk -/
section
namespace Go.HL
set_option linter.unusedSectionVars false
variable [Tasks]
open Go Go.Conc
set_option linter.unusedVariables false
set_option linter.unusedSectionVars false
set_option linter.unusedSimpArgs false
section
variable [Go.ConcR.Payload] {P : Program} {K : Lib.WgLink}
/-- the group is there; block C is as9 it was -/
structure Fc (Wg C : Nat) (o : Obj) (w : World) : Prop where
  live : ConcN.WgLive Tasks.T Wg w
  blk : w.heap[C]? = some o
theorem Fc.rw {Wg C : Nat} {o : Obj} {w w1 : World} (h : Fc Wg C o w) (h1 : Fc Wg C o w1) : ConcN.RW Tasks.T Wg C 0 0 0 w w1 :=
  ⟨fun b hb => absurd hb (Nat.not_lt_zero _), fun _ => h1.live, fun ⟨cs, a, b⟩ => ⟨cs, by rw [h1.blk, ← h.blk]; exact a, b⟩, by simp only [World.cell?, h.blk, h1.blk]⟩
theorem wg_at {γ : Gm} {w : World} (h : Shr γ w) : ConcR.WgAt Tasks.T γ.wg w ((γ.cnt : Int) * ConcR.KK + γ.wt) γ.sem := by
  unfold ConcR.WgAt
  rw [h.wg]
  simp [wgObj, ConcR.wgBlock, ConcR.KK]
theorem wg_set {γ γ' : Gm} {w : World} {i : Nat} {v : Value} (h : Shr γ w) (e1 : γ'.todo = γ.todo) (e2 : γ'.back = γ.back) (e3 : γ'.wg = γ.wg) (e4 : γ'.closed = γ.closed)
    (hw : ConcR.WgAt Tasks.T γ.wg (w.setCell ⟨γ.wg, i, none⟩ v) ((γ'.cnt : Int) * ConcR.KK + γ'.wt) γ'.sem) : Shr γ' (w.setCell ⟨γ.wg, i, none⟩ v) ∧ Only γ w (w.setCell ⟨γ.wg, i, none⟩ v) := by
  have hk : ∀ b, b ≠ γ.wg → (w.setCell ⟨γ.wg, i, none⟩ v).heap[b]? = w.heap[b]? := fun b hb => heap_setCell_other _ _ b _ hb
  obtain ⟨a1, a2, a3, a4, a5, a6⟩ := h
  refine ⟨⟨?_, ?_, ?_, ?_⟩, ?_, rfl, rfl, rfl, fun b _ hb => hk b hb⟩
  · rw [e1, hk _ a5, e4]; exact a1
  · rw [e2, hk _ a6]; exact a2
  · rw [e3]
    unfold ConcR.WgAt at hw
    rw [hw]
    simp [wgObj, ConcR.wgBlock, ConcR.KK]
  · rw [e1, e2, e3]; exact ⟨a4, a5, a6⟩
  · simp
/-- from the kit's judgement to the tail's -/
theorem goes_tl {Wg C : Nat} {o : Obj} {t : Tk} {S : Goroutine → World → Prop} (hO : Tasks.O C) (h0 : Tasks.W0.heap[C]? = some o) (hwg : t.wg = Wg) (h25 : t.st ≠ 25) (hrun : ∀ g w, S g w → g.status = .running)
    (hstop : ∀ g, g.status = .running → (∀ w, Fc Wg C o w → S g w) → Tl P g t) : ∀ (m : Nat) (g : Goroutine) (w : World), Fc Wg C o w → Goes P false (ConcN.RW Tasks.T Wg C 0 0 0) ConcR.DC0 S m g w → Tl P g t := by
  have fc : ∀ {w γ}, Shr γ w → Cmp t γ → OldW w → Fc Wg C o w := fun hs hc ho => ⟨by obtain ⟨_, _, e, _⟩ := hc; rw [← hwg, e]; exact ⟨_, _, wg_at hs⟩, (ho C hO).trans h0⟩
  intro m
  induction m with
  | zero => exact fun g w hf h => hstop g (hrun _ _ (h w (hf.rw hf))) fun w1 h1 => h w1 (hf.rw h1)
  | succ m ih =>
    intro g w hf h
    rcases h with h | ⟨hr, h⟩
    · exact hstop g (hrun _ _ (h w (hf.rw hf))) fun w1 h1 => h w1 (hf.rw h1)
    · refine .shared (fun g' t' => t' = t ∧ ∃ w', Fc Wg C o w' ∧ Goes P false (ConcN.RW Tasks.T Wg C 0 0 0) ConcR.DC0 S m g' w') hr h25 (fun w1 γ hs hc ho => ?_) (fun g' t' ⟨e, w', a, b⟩ => by subst e; exact ih g' w' a b)
      have hf1 := fc hs hc ho
      have h1 := h w1 (hf.rw hf1)
      cases hst : stepG P false g w1 with
      | go g' w' es =>
        rw [hst] at h1
        obtain ⟨⟨rfl, rfl⟩, h2⟩ := h1
        exact ⟨g', _, _, t, γ, rfl, Goes.running hrun _ (hf1.rw hf1) h2, .idle, .refl, hs, ⟨rfl, rfl, rfl, rfl, fun _ _ _ => rfl⟩, rfl, _, hf1, h2⟩
      | _ => rw [hst] at h1; exact h1.elim
section
variable {Wg C : Nat} {o : Obj} {t : Tk} (hO : Tasks.O C) (h0 : Tasks.W0.heap[C]? = some o) (hne : ∀ a b c, o ≠ wgObj Tasks.T a b c)
include hO h0
theorem fc_of {t' : Tk} (hwg : t'.wg = Wg) {γ : Gm} {w : World} (hs : Shr γ w) (hc : Cmp t' γ) (ho : OldW w) : Fc Wg C o w := ⟨by obtain ⟨_, _, e, _⟩ := hc; rw [← hwg, e]; exact ⟨_, _, wg_at hs⟩, (ho C hO).trans h0⟩
include hne
theorem fc_set {γ γ' : Gm} {w : World} {i : Nat} {v : Value} (hs : Shr γ w) (ho : OldW w) (h1 : Shr γ' (w.setCell ⟨γ.wg, i, none⟩ v)) (e : γ'.wg = γ.wg) : Fc γ.wg C o (w.setCell ⟨γ.wg, i, none⟩ v) :=
  ⟨by have h2 := h1; have := wg_at (γ := γ') (w := w.setCell ⟨γ.wg, i, none⟩ v) h2; rw [e] at this; exact ⟨_, _, this⟩, by
    rw [heap_setCell_other _ _ C _ fun e => ?_]
    · exact (ho C hO).trans h0
    · have := (ho C hO).trans h0
      rw [e] at this
      have h2 := hs.wg
      rw [show (⟨γ.wg, i, none⟩ : Addr).block = γ.wg from rfl] at this
      rw [this] at h2
      exact hne _ _ _ (Option.some.inj h2)⟩
theorem quits_run {q d : Nat} {g : Goroutine} (hd : d ≠ 0) (h : QuitsD P q d g) : g.status = .running := by
  cases q with
  | zero => exact absurd h.2 hd
  | succ q => rcases h with h | h
              · exact absurd h.2 hd
              · exact h.1
theorem tl_d4 (hwg : t.wg = Wg) {g : Goroutine} (hr : g.status = .running) (h28 : t.st = 28) (h : ∀ w, Fc Wg C o w → ConcN.AtD4 P Tasks.T Wg g w) : Tl P g t := by
  refine .shared (fun g' t' => t' = { t with st := 25 } ∧ ∃ q, QuitsD P q 1 g') hr (by omega) (fun w γ hs hc ho => ?_) (fun g' t' ⟨e, q, hq⟩ => by subst e; exact .quit q rfl hq)
  obtain ⟨_, hm, hx⟩ := h w (fc_of hO h0 hwg hs hc ho)
  obtain ⟨e1, e2, e3, e4, e5⟩ := hc
  obtain rfl : Wg = γ.wg := hwg.symm.trans e3
  simp only [Cm, h28] at e5
  have ha := wg_at hs
  rw [e5.1, e5.2.1, e5.2.2.1] at ha
  obtain ⟨g', hst, q, hq⟩ := hx (by simpa using ha)
  obtain ⟨s1, s2⟩ := wg_set (γ' := { γ with sem := 1 }) (i := 1) hs rfl rfl rfl rfl (by simp only [e5.1, e5.2.1]; simpa [ConcR.smA] using (show ConcR.WgAt Tasks.T γ.wg w 0 0 by simpa using ha).setSm 1)
  exact ⟨g', _, _, _, _, hst, quits_run hO h0 hne (by omega) hq, .wake h28, ⟨fun _ _ => hm, fun a b => by rw [a] at b; cases b⟩, s1, s2, rfl, q, hq⟩
theorem tl_d3 (hwg : t.wg = Wg) {g : Goroutine} (hr : g.status = .running) (h27 : t.st = 27) (h : ∀ w, Fc Wg C o w → ConcN.AtD3 P Tasks.T Wg C 0 0 1 g w) : Tl P g t := by
  refine .shared (fun g' t' => t' = { t with st := 28 } ∧ ∃ w m, Fc Wg C o w ∧ Goes P false (ConcN.RW Tasks.T Wg C 0 0 0) ConcR.DC0 (ConcN.AtD4 P Tasks.T Wg) m g' w) hr (by omega) (fun w γ hs hc ho => ?_)
    (fun g' t' ⟨e, w, m, hf, hg⟩ => by subst e; exact goes_tl (t := { t with st := 28 }) hO h0 hwg (by show 28 ≠ 25; omega) (fun _ _ x => x.1) (fun g hr hx => tl_d4 (t := { t with st := 28 }) hO h0 hne hwg hr rfl hx) m g' w hf hg)
  obtain ⟨_, hx⟩ := h w (fc_of hO h0 hwg hs hc ho)
  obtain ⟨e1, e2, e3, e4, e5⟩ := hc
  obtain rfl : Wg = γ.wg := hwg.symm.trans e3
  simp only [Cm, h27] at e5
  have ha := wg_at hs
  rw [e5.1, e5.2.1, e5.2.2.1] at ha
  obtain ⟨g', hst, m, hg⟩ := hx (by simpa using ha)
  have hb := (show ConcR.WgAt Tasks.T γ.wg w 1 0 by simpa using ha).setSt 0
  obtain ⟨s1, s2⟩ := wg_set (γ' := { γ with wt := 0 }) (i := 0) hs rfl rfl rfl rfl (by simp only [e5.1, e5.2.2.1]; simpa [ConcR.stA] using hb)
  have hfc' := fc_set hO h0 hne hs ho s1 rfl
  exact ⟨g', _, _, _, _, hst, Goes.running (fun _ _ x => x.1) _ (hfc'.rw hfc') hg, .reset h27, .refl, s1, s2, rfl, _, m, hfc', hg⟩
theorem tl_d2 (hwg : t.wg = Wg) {g : Goroutine} (hr : g.status = .running) (h27 : t.st = 27) (h : ∀ w, Fc Wg C o w → ConcN.AtD2 P Tasks.T Wg C 0 0 1 g w) : Tl P g t := by
  refine .shared (fun g' t' => t' = t ∧ ∃ w m, Fc Wg C o w ∧ Goes P false (ConcN.RW Tasks.T Wg C 0 0 0) ConcR.DC0 (ConcN.AtD3 P Tasks.T Wg C 0 0 1) m g' w) hr (by omega) (fun w γ hs hc ho => ?_)
    (fun g' t' ⟨e, w, m, hf, hg⟩ => by subst e; exact goes_tl hO h0 hwg (by omega) (fun _ _ x => x.1) (fun g hr hx => tl_d3 hO h0 hne hwg hr h27 hx) m g' w hf hg)
  have hfc := fc_of hO h0 hwg hs hc ho
  obtain ⟨_, hx⟩ := h w hfc
  obtain ⟨e1, e2, e3, e4, e5⟩ := hc
  obtain rfl : Wg = γ.wg := hwg.symm.trans e3
  simp only [Cm, h27] at e5
  have ha := wg_at hs
  rw [e5.1, e5.2.1, e5.2.2.1] at ha
  obtain ⟨g', hst, m, hg⟩ := hx (by simpa using ha)
  exact ⟨g', _, _, _, _, hst, Goes.running (fun _ _ x => x.1) _ (hfc.rw hfc) hg, .look27 h27, .refl, hs, ⟨rfl, rfl, rfl, rfl, fun _ _ _ => rfl⟩, rfl, _, m, hfc, hg⟩
theorem tl_d1 (hwg : t.wg = Wg) {g : Goroutine} (hr : g.status = .running) (h24 : t.st = 24) (h : ∀ w, Fc Wg C o w → ConcN.AtD1 P Tasks.T Wg C 0 0 1 g w) : Tl P g t := by
  refine .shared (fun g' t' => (t' = { t with st := 25 } ∧ ∃ q, QuitsD P q 1 g') ∨ (t' = { t with st := 27 } ∧ ∃ w m, Fc Wg C o w ∧ Goes P false (ConcN.RW Tasks.T Wg C 0 0 0) ConcR.DC0 (ConcN.AtD2 P Tasks.T Wg C 0 0 1) m g' w)) hr (by omega) (fun w γ hs hc ho => ?_) (fun g' t' hk => ?_)
  · have hfc := fc_of hO h0 hwg hs hc ho
    obtain ⟨_, hx⟩ := h w hfc
    obtain ⟨e1, e2, e3, e4, e5⟩ := hc
    obtain rfl : Wg = γ.wg := hwg.symm.trans e3
    simp only [Cm, h24] at e5
    obtain ⟨f1, f2, f3, f4⟩ := e5
    have ha := wg_at hs
    rw [f3] at ha
    have ec : (γ.cnt : Int) = ((γ.cnt - 1 : Nat) : Int) + 1 := by omega
    rw [ec] at ha
    obtain ⟨g', hst, k1, k2⟩ := hx (γ.cnt - 1) γ.wt f2 (by omega) (by simpa using ha)
    have hb := (show ConcR.WgAt Tasks.T γ.wg w _ 0 by simpa using ha).setSt (((γ.cnt - 1 : Nat) : Int) * ConcR.KK + (γ.wt : Nat))
    obtain ⟨s1, s2⟩ := wg_set (γ' := { γ with cnt := γ.cnt - 1 }) (i := 0) hs rfl rfl rfl rfl (by simp only [f3]; simpa [ConcR.stA] using hb)
    by_cases hl : γ.cnt - 1 = 0 ∧ γ.wt = 1
    · obtain ⟨m, hg⟩ := k1 hl
      have hfc' := fc_set hO h0 hne hs ho s1 rfl
      have ez : ({ γ with cnt := γ.cnt - 1 } : Gm) = { γ with cnt := 0 } := by rw [hl.1]
      refine ⟨g', _, _, { t with st := 27 }, { γ with cnt := γ.cnt - 1 }, hst, Goes.running (fun _ _ x => x.1) _ (hfc'.rw hfc') hg, ?_, .refl, s1, s2, .inr ⟨rfl, _, m, hfc', hg⟩⟩
      rw [ez]
      exact .last h24 (by omega) hl.2
    · obtain ⟨q, hq⟩ := k2 hl
      exact ⟨g', _, _, { t with st := 25 }, { γ with cnt := γ.cnt - 1 }, hst, quits_run hO h0 hne (by omega) hq, .down h24 (by omega), .refl, s1, s2, .inl ⟨rfl, q, hq⟩⟩
  · rcases hk with ⟨e, q, hq⟩ | ⟨e, w, m, hf, hg⟩
    · subst e; exact .quit q rfl hq
    · subst e; exact goes_tl (t := { t with st := 27 }) hO h0 hwg (by show 27 ≠ 25; omega) (fun _ _ x => x.1) (fun g hr hx => tl_d2 (t := { t with st := 27 }) hO h0 hne hwg hr rfl hx) m g' w hf hg
theorem tl_k1 (hwg : t.wg = Wg) {g : Goroutine} (hr : g.status = .running) (h23 : t.st = 23) (h : ∀ w, Fc Wg C o w → ConcN.AtK1 P Tasks.T Wg C 0 0 1 g w) : Tl P g t := by
  refine .shared (fun g' t' => t' = { t with st := 24 } ∧ ∃ w m, Fc Wg C o w ∧ Goes P false (ConcN.RW Tasks.T Wg C 0 0 0) ConcR.DC0 (ConcN.AtD1 P Tasks.T Wg C 0 0 1) m g' w) hr (by omega) (fun w γ hs hc ho => ?_)
    (fun g' t' ⟨e, w, m, hf, hg⟩ => by subst e; exact goes_tl (t := { t with st := 24 }) hO h0 hwg (by show 24 ≠ 25; omega) (fun _ _ x => x.1) (fun g hr hx => tl_d1 (t := { t with st := 24 }) hO h0 hne hwg hr rfl hx) m g' w hf hg)
  have hfc := fc_of hO h0 hwg hs hc ho
  obtain ⟨_, g', hst, m, hg⟩ := h w hfc
  exact ⟨g', _, _, _, _, hst, Goes.running (fun _ _ x => x.1) _ (hfc.rw hfc) hg, .dis23 h23, .refl, hs, ⟨rfl, rfl, rfl, rfl, fun _ _ _ => rfl⟩, rfl, _, m, hfc, hg⟩
end
end
end Go.HL
end

/-! QKWl -/
section
namespace Go.HL
set_option linter.unusedSectionVars false
variable [Tasks]
open Go Go.Conc
set_option linter.unusedVariables false
set_option linter.unusedSectionVars false
set_option linter.unusedSimpArgs false
section
variable [Go.ConcR.Payload] {P : Program} {Wg C : Nat} {o : Obj} {v : Value} {t : Tk} {g g1 : Goroutine} {L : Heap} {Φ : Goroutine → Heap → Prop}
abbrev PreS (P : Program) (Wg C : Nat) (v : Value) (m : Nat) (g : Goroutine) (w : World) : Prop := Goes P false (ConcN.RW Tasks.T Wg C 0 0 0) (ConcN.DWs Wg (fun _ _ => False) (fun _ _ => False) C 0 1) (ConcN.AtR0 P Tasks.T Wg C 0 0 1 v) m g w
def PreG (P : Program) (Wg C : Nat) (o : Obj) (v : Value) (g : Goroutine) : Prop := ∀ w, Fc Wg C o w → ∃ m, PreS P Wg C v m g w
def NoG (P : Program) (Wg C : Nat) (o : Obj) (v : Value) (g : Goroutine) : Prop := ∀ w, Fc Wg C o w → ∀ m, ¬ PreS P Wg C v m g w
theorem pre_at {w : World} (hf : Fc Wg C o w) (hst : stepG P false g w = .go g1 w #[]) {m : Nat} (h : PreS P Wg C v m g w) : ∃ m, PreS P Wg C v m g1 w := by
  have no : ¬ ConcN.AtR0 P Tasks.T Wg C 0 0 1 v g w := fun ⟨_, _, g', e, _⟩ => by rw [hst] at e; simp at e
  cases m with
  | zero => exact absurd (h w (hf.rw hf)) no
  | succ m =>
    rcases h with h | ⟨_, h⟩
    · exact absurd (h w (hf.rw hf)) no
    · have := h w (hf.rw hf)
      rw [hst] at this
      exact ⟨m, this.2⟩
theorem no_next (hst : ∀ w, Fc Wg C o w → stepG P false g w = .go g1 w #[]) (h : NoG P Wg C o v g1) : NoG P Wg C o v g := fun w hf m hm => let ⟨m', h2⟩ := pre_at hf (hst w hf) hm; h w hf m' h2
theorem no_dis (hst : ∀ w, stepG P false g w = .go g1 w #[evMk .disable]) : NoG P Wg C o v g := fun w hf m hm => by
  have no : ¬ ConcN.AtR0 P Tasks.T Wg C 0 0 1 v g w := fun ⟨_, _, g', e, _⟩ => by rw [hst] at e; simp [evMk, ConcR.mk] at e
  cases m with
  | zero => exact no (hm w (hf.rw hf))
  | succ m =>
    rcases hm with h | ⟨_, h⟩
    · exact no (h w (hf.rw hf))
    · have := h w (hf.rw hf)
      rw [hst] at this
      exact (this.1.2 (evMk .disable) (by simp)).2.1 rfl
/-- what a worker knows here -/
structure At22 (Wg C : Nat) (o : Obj) (t : Tk) (L : Heap) : Prop where
  st : t.st = 22
  wg : t.wg = Wg
  at_ : t.at_ ∈ L.flatten
  blk : ∃ o', (C, o') ∈ L.flatten ∧ gho o' = false ∧ act o' = o
  old : Tasks.O C
  at0 : Tasks.W0.heap[C]? = some o
  ne : ∀ a b c, o ≠ wgObj Tasks.T a b c
theorem At22.fc {k : Ctx} {w : World} {γ : Gm} (h : At22 Wg C o t L) (hs : Sat k w L) (hh : Shr γ w) (hc : Cmp t γ) : Fc Wg C o w := by
  obtain ⟨o', h1, h2, h3⟩ := h.blk
  refine ⟨?_, by rw [← h3]; exact hs.has _ h1 h2⟩
  obtain ⟨_, _, e, _⟩ := hc
  rw [← h.wg, e]
  exact ⟨_, _, wg_at hh⟩
theorem lo_pre (h : At22 Wg C o t L) (hr : g.status = .running) (hr1 : g1.status = .running) (hst : ∀ w, Fc Wg C o w → stepG P false g w = .go g1 w #[]) (n : PreG P Wg C o v g1 → Lo P false Φ g1 L) : PreG P Wg C o v g → Lo P false Φ g L := fun hp =>
  .lib t (fun g' L' => g' = g1 ∧ L' = L) hr h.at_ (by rw [h.st]; omega) (fun k w γ hs hh hc => ⟨g1, w, #[], L, hst w (h.fc hs hh hc), hr1, .refl _ _, noX_nil, hs, rfl, rfl⟩)
    (fun g' L' ⟨e, e'⟩ => by subst e; subst e'; exact n fun w hf => let ⟨m, h2⟩ := hp w hf; pre_at hf (hst w hf) h2)
theorem lo_rel (h : At22 Wg C o t L) (hr : g.status = .running) (hr1 : g1.status = .running) (hst : ∀ w, stepG P false g w = .go g1 w #[evMk (.releaseMerge (stA Wg))]) (hno : NoG P Wg C o v g1) : PreG P Wg C o v g → Lo P false Φ g L := fun hp => by
  have key : ∀ w, Fc Wg C o w → ∃ m, Goes P false (ConcN.RW Tasks.T Wg C 0 0 0) ConcR.DC0 (ConcN.AtK1 P Tasks.T Wg C 0 0 1) m g1 w := fun w hf => by
    obtain ⟨m, hm⟩ := hp w hf
    have yes : ConcN.AtR0 P Tasks.T Wg C 0 0 1 v g w → ∃ m, Goes P false (ConcN.RW Tasks.T Wg C 0 0 0) ConcR.DC0 (ConcN.AtK1 P Tasks.T Wg C 0 0 1) m g1 w := fun ⟨_, _, g', e, h2⟩ => by
      rw [hst] at e
      simp only [GStep.go.injEq] at e
      rw [e.1]; exact h2
    cases m with
    | zero => exact yes (hm w (hf.rw hf))
    | succ m =>
      rcases hm with hm | ⟨_, hm⟩
      · exact yes (hm w (hf.rw hf))
      · have := hm w (hf.rw hf)
        rw [hst] at this
        exact absurd this.2 (hno w hf m)
  refine .rel t (fun g' => g' = g1 ∧ ∃ w m, Fc Wg C o w ∧ Goes P false (ConcN.RW Tasks.T Wg C 0 0 0) ConcR.DC0 (ConcN.AtK1 P Tasks.T Wg C 0 0 1) m g1 w) hr h.st h.at_ (fun k w γ hs hh hc ho => ?_) (fun g' ⟨e, w, m, hf, hg⟩ => ?_)
  · have hf := h.fc hs hh hc
    obtain ⟨m, hg⟩ := key w hf
    exact ⟨g1, by rw [hst, h.wg], hr1, rfl, w, m, hf, hg⟩
  · subst e
    exact goes_tl (t := { t with st := 23 }) h.old h.at0 h.wg (by show 23 ≠ 25; omega) (fun _ _ x => x.1) (fun g hr hx => tl_k1 (t := { t with st := 23 }) h.old h.at0 h.ne h.wg hr rfl hx) m g' w hf hg
section steps
variable {b : Frame} {a : Act} {k : List Item} {cs : List Frame}
theorem step_val {ops : Array Oper} {i : Nat} {rest : List Nat} {o' : Oper} {w : World} (u : Value) (ho : ops[i]? = some o') (hw : Region.wanted o' (yielded ops a.tmps) = true) (hk : b.kind ≠ .early)
    (hr : (execOp a.eval o').run P w = .ok (.value u) w) (he : (execOp a.eval o').events P w #[] = #[]) :
    stepG P false (G (b.at a (.inRegion ops (i :: rest) :: k)) cs) w = .go (G (b.at (a.put o'.dst u) (.inRegion ops rest :: k)) cs) w #[] := by
  rw [stepG_value ho hw hk hr]; unfold listed; rw [he, seen_none]
theorem lo_val (h : At22 Wg C o t L) {ops : Array Oper} {i : Nat} {rest : List Nat} {o' : Oper} (u : Value) (ho : ops[i]? = some o') (hw : Region.wanted o' (yielded ops a.tmps) = true) (hk : b.kind ≠ .early)
    (hr : ∀ w, Fc Wg C o w → (execOp a.eval o').run P w = .ok (.value u) w ∧ (execOp a.eval o').events P w #[] = #[])
    (n : PreG P Wg C o v (G (b.at (a.put o'.dst u) (.inRegion ops rest :: k)) cs) → Lo P false Φ (G (b.at (a.put o'.dst u) (.inRegion ops rest :: k)) cs) L) :
    PreG P Wg C o v (G (b.at a (.inRegion ops (i :: rest) :: k)) cs) → Lo P false Φ (G (b.at a (.inRegion ops (i :: rest) :: k)) cs) L :=
  lo_pre h rfl rfl (fun w hf => step_val u ho hw hk (hr w hf).1 (hr w hf).2) n
end steps
set_option maxRecDepth 100000 in
set_option maxHeartbeats 1000000 in
theorem add_neg {K : Lib.WgLink} (H : Lib.WgLib P K) (hT : Tasks.T = K.tWg) {t : Tk} {E : Nat} {l : Array Value} {fr : Nat × Nat} (h : At22 Wg C (.cells l E fr) t L) (hl : l[0]? = some v) {b₀ : Frame} {a₀ : Act} {ops₀ : Array Oper} {i₀ : Nat} {rest₀ : List Nat} {k₀ : List Item} {cs : List Frame} {qt : Nat}
    (hQ : QuitsD P qt 0 (G (b₀.at (a₀.put ((ops₀[i₀]?).bind (·.dst)) (.tuple #[])) (.inRegion ops₀ rest₀ :: k₀)) cs)) :
    Lo P false Φ (G (Frame.enter P K.add #[.pointer (some ⟨Wg, 0, none⟩), .int .i64 (-1)] .normal) (b₀.at a₀ (.inRegion ops₀ (i₀ :: rest₀) :: k₀) :: cs)) L := by
  have hb : (Lib.addFn K).body = some (ConcR.Gen.body_add K) := by unfold ConcR.Gen.body_add; rw [Lib.addFn]; rfl
  have hn : (Lib.addFn K).ntmps = 117 := rfl
  rw [Conc.enter_at _ H.f_add hb, hn]
  simp only [List.size_toArray, List.length_cons, List.length_nil, Nat.reduceAdd, Nat.reduceSub, Array.replicate_succ, Array.replicate_zero, List.push_toArray, List.append_toArray, List.nil_append, List.cons_append]
  refine (?_ : PreG P Wg C (.cells l E fr) v _ → _) ?_
  rotate_left
  · intro w hf
    have := @ConcN.Gen.addNegN _ K P H (fun _ _ => False) (fun _ _ => False) Wg C 0 0 1 v b₀ a₀ ops₀ i₀ rest₀ k₀ cs qt hQ w ⟨hT ▸ hf.live, by unfold ConcN.Has; simp only [World.cell?, hf.blk]; simpa using hl⟩
    rw [← hT] at this
    exact ⟨20, this⟩
  have hcell : ∀ w, Fc Wg C (.cells l E fr) w → ∃ x, w.cell? ⟨Wg, 0, none⟩ = some x := fun w hf => ConcN.Gen.WgLive.cell0 hf.live
  lib_facts
  simp only [ConcR.Gen.body_add, Lib.addFn, Option.getD_some]
  refine lo_pre h rfl rfl (fun w _ => stepG_seq) ?_
  refine lo_pre h rfl rfl (fun w _ => stepG_cond (t := true) rfl) ?_
  simp only [if_true]
  refine lo_pre h rfl rfl (fun w _ => stepG_seq) ?_
  refine lo_pre h rfl rfl (fun w _ => stepG_seq) ?_
  refine lo_pre h rfl rfl (fun w _ => stepG_region) ?_
  simp only [List.size_toArray, List.length_cons, List.length_nil, Nat.reduceAdd, Nat.zero_add, List.range, List.range.loop]
  refine lo_pre h rfl rfl (fun w _ => step_val (.int .i64 (-1)) rfl rfl (by k_ne) (by go_simp) (by simp [go_sem, *])) ?_
  walk_nrm
  refine lo_pre h rfl rfl (fun w _ => step_val (.bool true) rfl rfl (by k_ne) (by go_simp) (by simp [go_sem, *])) ?_
  walk_nrm
  refine lo_pre h rfl rfl (fun w _ => stepG_region_end) ?_
  refine lo_pre h rfl rfl (fun w _ => stepG_cond (t := true) rfl) ?_
  simp only [if_true]
  refine lo_pre h rfl rfl (fun w _ => stepG_region) ?_
  simp only [List.size_toArray, List.length_cons, List.length_nil, Nat.reduceAdd, Nat.zero_add, List.range, List.range.loop]
  refine lo_pre h rfl rfl (fun w _ => step_val (.pointer (some ⟨Wg, 0, none⟩)) rfl rfl (by k_ne) (by go_simp) (by simp [go_sem, *])) ?_
  walk_nrm
  refine lo_val h (.pointer (some ⟨Wg, 0, none⟩)) rfl rfl (by k_ne) (fun w hf => ?_) ?_
  · have hcv := run_convert_to_unsafe (P := P) H.underlying_tWgP H.underlying_tUP H.room_tWg (hcell w hf).choose_spec
    have hce := fun es => events_convert_to_unsafe (P := P) H.underlying_tWgP H.underlying_tUP H.room_tWg (hcell w hf).choose_spec es
    exact ⟨by go_simp, by simp [go_sem, hce]⟩
  walk_nrm
  refine lo_rel h rfl rfl (fun w => stepG_markAt .releaseMerge (by simp) rfl rfl (by k_ne) rfl H.f_relMerge (ConcR.Gen.x_relMerge_n K) (ConcR.Gen.x_relMerge_b K) (ConcR.Gen.x_relMerge_x K) (ConcR.Gen.x_relMerge_f K) (by simp [Act.eval, stA])) ?_
  walk_nrm
  refine no_next (fun w _ => stepG_region_end) ?_
  refine no_next (fun w _ => stepG_seq) ?_
  refine no_next (fun w _ => stepG_region) ?_
  simp only [List.size_toArray, List.length_cons, List.length_nil, Nat.reduceAdd, Nat.zero_add, List.range, List.range.loop]
  exact no_dis fun w => stepG_mark0 .disable (by simp) rfl rfl (by k_ne) rfl H.f_disable (ConcR.Gen.x_disable_n K) (ConcR.Gen.x_disable_b K) (ConcR.Gen.x_disable_x K) (ConcR.Gen.x_disable_f K)
end
end Go.HL
end

/-! QLkW -/
section
namespace Go.HL
set_option linter.unusedSectionVars false
variable [Tasks]
open Go Go.Proofs
set_option linter.unusedVariables false
abbrev wgL : Conc.Lib.WgLink := { add := 152, done := 155, wait := 144, relMerge := 168, disable := 156, enable := 158, inBubble := 164, associate := 169, fatal := 170, uOr := 171, uAdd := 172, raceRead := 173, uLoad := 157, uStore := 174, disassociate := 162, semrelease := 175, acquire := 159, isAssociated := 160, uCas := 161, raceWrite := 163, semacquire := 165, orU64 := 178, addU64 := 179, loadU64 := 176, storeU64 := 180, casU64 := 177, tWgP := 231, tUP := 216, tAssoc := 255, tWg := 212, tAU := 210, tU64 := 196, tUint := 62, tU32 := 60, tPU32 := 238, tPAU := 261, tPU64 := 263, tNoCopy := 206, tANoCopy := 207, tAlign64 := 208 }
theorem wgLib : Conc.Lib.WgLib Tryd.prog wgL :=
  ⟨Tryd.func152, Tryd.func155, Tryd.func144, Tryd.func168, Tryd.func156, Tryd.func158, Tryd.func164, Tryd.func169, Tryd.func170, Tryd.func171, Tryd.func172, Tryd.func173, Tryd.func157, Tryd.func174, Tryd.func162, Tryd.func175, Tryd.func159, Tryd.func160, Tryd.func161, Tryd.func163, Tryd.func165, Tryd.func178, Tryd.func179, Tryd.func176, Tryd.func180, Tryd.func177, 
    Tryd.underlying231, Tryd.runUnderlying231, Tryd.sizeOf231, Tryd.isAgg231, Tryd.zeroValue231, Tryd.underlying216, Tryd.runUnderlying216, Tryd.sizeOf216, Tryd.isAgg216, Tryd.zeroValue216, Tryd.underlying255, Tryd.runUnderlying255, Tryd.sizeOf255, Tryd.isAgg255, Tryd.zeroValue255, Tryd.underlying212, Tryd.runUnderlying212, Tryd.sizeOf212, Tryd.isAgg212, Tryd.zeroValue212, Tryd.underlying210, Tryd.runUnderlying210, Tryd.sizeOf210, Tryd.isAgg210, Tryd.zeroValue210, Tryd.underlying196, Tryd.runUnderlying196, Tryd.sizeOf196, Tryd.isAgg196, Tryd.zeroValue196, Tryd.underlying62, Tryd.runUnderlying62, Tryd.sizeOf62, Tryd.isAgg62, Tryd.zeroValue62, Tryd.underlying60, Tryd.runUnderlying60, Tryd.sizeOf60, Tryd.isAgg60, Tryd.zeroValue60, Tryd.underlying238, Tryd.runUnderlying238, Tryd.sizeOf238, Tryd.isAgg238, Tryd.zeroValue238, Tryd.underlying261, Tryd.runUnderlying261, Tryd.sizeOf261, Tryd.isAgg261, Tryd.zeroValue261, Tryd.underlying263, Tryd.runUnderlying263, Tryd.sizeOf263, Tryd.isAgg263, Tryd.zeroValue263, Tryd.underlying0, Tryd.runUnderlying0, Tryd.sizeOf0, Tryd.isAgg0, Tryd.zeroValue0, Tryd.underlying3, Tryd.runUnderlying3, Tryd.sizeOf3, Tryd.isAgg3, Tryd.zeroValue3, Tryd.underlying4, Tryd.runUnderlying4, Tryd.sizeOf4, Tryd.isAgg4, Tryd.zeroValue4, Tryd.underlying9, Tryd.runUnderlying9, Tryd.sizeOf9, Tryd.isAgg9, Tryd.zeroValue9, Tryd.underlying20, Tryd.runUnderlying20, Tryd.sizeOf20, Tryd.isAgg20, Tryd.zeroValue20, Tryd.underlying21, Tryd.runUnderlying21, Tryd.sizeOf21, Tryd.isAgg21, Tryd.zeroValue21,
    by kernel_rfl, by kernel_rfl⟩
end Go.HL
end

/-! QKOp -/
section
namespace Go.HL
set_option linter.unusedSectionVars false
variable [Tasks]
open Go
set_option linter.unusedVariables false
set_option linter.unusedSectionVars false
set_option linter.unusedSimpArgs false
section
variable {P : Program} {L : Heap} {R : Value → Heap → Prop} {a : Act} {o : Oper}
/-- a call of an entry of the model's may let others go on -/
theorem wakes_entry {b : Frame} {a' : Act} {ops : Array Oper} {i : Nat} {is : List Nat} {k : List Item} {cs : List Frame} {o' : Oper} {f : FuncId} {fn : Func} {xs : Array Operand} {ats : Array TypeId}
    (ho : ops[i]? = some o') (hop : o'.op = .call { callee := .value (.func f), args := xs, argTypes := ats }) (hf : P.funcs[f]? = some fn) (hb : fn.body.isNone = true) : mayWake P (Conc.G (b.at a' (.inRegion ops (i :: is) :: k)) cs) = true := by
  have h2 : fn.body = none := by simpa using hb
  have ef : (b.at a' (.inRegion ops (i :: is) :: k)).eval (.func f) = .func (.func f) #[] #[] := rfl
  simp [mayWake, Conc.G, Frame.at, ho, hop] at ef ⊢
  simp [ef, hf, h2]
/-- an entry's step on what is shared -/
theorem o_entry {f : FuncId} {fn : Func} {xs : Array Operand} {ats : Array TypeId} {E : Array Value → Sem Value} (hop : o.op = .call { callee := .value (.func f), args := xs, argTypes := ats }) (hf : P.funcs[f]? = some fn) (hname : (fn.name == "runtime.NumGoroutine") = false) (hb : fn.body.isNone = true)
    (hn : Extern.findNext fn = none) (he : Extern.find fn = some E) (t : Tk) (hat : t.at_ ∈ L.flatten) (h12 : t.st ≠ 12)
    (h : ∀ k w γ, Sat k w L → Shr γ w → Cmp t γ → (∃ v w' t' γ' L' evs, (E (xs.map a.eval)).run P w = .ok v w' ∧ (E (xs.map a.eval)).events P w #[⟨.mark (.extern f), false, true⟩] = #[⟨.mark (.extern f), false, true⟩] ++ evs ∧ (∀ x ∈ evs, x.sync = true ∧ ∀ g, x.loc ≠ .mark (.extern g)) ∧
        Mv t γ t' γ' evs ∧ Shr γ' w' ∧ Only γ w w' ∧ Upd L t.todo t.obj t'.obj L' ∧ R v L') ∨ (t.st = 9 ∧ γ.sem = 0 ∧ (E (xs.map a.eval)).run P w = .halt .blocked w)) : OpW P o a.eval L R := by
  refine .raw fun main Φ b k cs a' ops i is o' h1 h2 h3 h4 h5 h6 => ?_
  have hop' := h2.trans hop
  have e1 := Conc.execOp_call_func (a := a) hop
  refine .shared t (fun g' L' => ∃ v, g' = Conc.G (b.at (a'.put o'.dst v) (.inRegion ops is :: k)) cs ∧ R v L') rfl hat h12 (fun kk w γ hs hsh hc => ?_) (fun g' L' ⟨v, e, hr⟩ => by subst e; exact h6 v L' hr)
  rcases h kk w γ hs hsh hc with ⟨v, w', t', γ', L', evs, r1, r2, r3, r4, r5, r6, r7, r8⟩ | ⟨r1, r2, r3⟩
  · refine .inl ⟨_, w', evs, t', γ', L', ?_, rfl, r4, ⟨fun _ _ => wakes_entry h3 hop' hf hb, fun _ _ => wakes_entry h3 hop' hf hb⟩, r5, r6, r7, v, rfl, r8⟩
    rw [Conc.stepG_value (v := v) (w' := w') h3 h4 h5 (by rw [h1, e1, run_callFunc_extern hf hname hb hn he, r1]; rfl)]
    unfold Conc.listed
    rw [h1, e1, Conc.events_callFunc_extern hf hname hb hn he]
    simp only [List.push_toArray, List.nil_append]
    rw [r2, Conc.seen_entry _ _ _ r3]
  · refine .inr ⟨r1, r2, rfl, ?_⟩
    have hr : (execOp a'.eval o').run P w = .halt .blocked w := by rw [h1, e1, run_callFunc_extern hf hname hb hn he, r3]; rfl
    rw [Conc.stepG_oper h3 h4]
    simp [stepG.apply, hr, Conc.G, GStep.after, Conc.seen_none]
/-- a step that needs to know of what is shared, and leaves it -/
theorem o_lib (t : Tk) (hat : t.at_ ∈ L.flatten) (h12 : t.st ≠ 12) (h : ∀ k w γ, Sat k w L → Shr γ w → Cmp t γ → ∃ v w' L', (execOp a.eval o).run P w = .ok (.value v) w' ∧ (∀ fn, NoX (seen P fn ((execOp a.eval o).events P w #[])) ∧ Tr w w' L L' (seen P fn ((execOp a.eval o).events P w #[]))) ∧ Sat k w' L' ∧ R v L') : OpW P o a.eval L R := by
  refine .raw fun main Φ b k cs a' ops i is o' h1 h2 h3 h4 h5 h6 => ?_
  refine .lib t (fun g' L' => ∃ v, g' = Conc.G (b.at (a'.put o'.dst v) (.inRegion ops is :: k)) cs ∧ R v L') rfl hat h12 (fun kk w γ hs hsh hc => ?_) (fun g' L' ⟨v, e, hr⟩ => by subst e; exact h6 v L' hr)
  obtain ⟨v, w', L', r1, r2, r3, r4⟩ := h kk w γ hs hsh hc
  refine ⟨_, w', _, L', Conc.stepG_value (v := v) (w' := w') h3 h4 h5 (by rw [h1, r1]), rfl, ?_, ?_, r3, v, rfl, r4⟩
  · unfold Conc.listed; rw [h1]; exact (r2 _).2
  · unfold Conc.listed; rw [h1]; exact (r2 _).1
/-- a receive of a task -/
theorem o_recv (t : Tk) (z : Value) (h20 : t.st = 20) (hat : t.at_ ∈ L.flatten) (hr : ∀ w, (execOp a.eval o).run P w = .ok (.comm #[Conc.rcase t.todo z] true (.recv true)) w) (he : ∀ w, (execOp a.eval o).events P w #[] = #[])
    (n1 : ∀ i L', t.b ≤ i → i < t.many → Upd L t.todo t.obj ({ t with st := 21, a := i, b := i + 1 } : Tk).obj L' → R (.tuple #[.int .i64 (i : Nat), .bool true]) L') (n2 : ∀ L', Upd L t.todo t.obj ({ t with st := 22 } : Tk).obj L' → R (.tuple #[z, .bool false]) L') : OpW P o a.eval L R := by
  refine .raw fun main Φ b k cs a' ops i is o' h1 h2 h3 h4 h5 h6 => ?_
  have hfin : ∀ v, Conc.served (Conc.G (b.at a' (.inRegion ops (i :: is) :: k)) cs) v = Conc.G (b.at (a'.put o'.dst v) (.inRegion ops is :: k)) cs := fun v => by
    simp only [Conc.served, Conc.G, Frame.finish_at, h3]; rfl
  refine .recv t z rfl h20 hat (fun kk w hs => ?_) (fun i L' hb hi hu => ?_) fun L' hu => ?_
  · rw [Conc.stepG_comm h3 h4 h5 (by rw [h1]; exact hr w)]
    unfold Conc.listed
    rw [h1, he w, Conc.seen_none]
  · rw [hfin]; exact h6 _ L' (n1 i L' hb hi hu)
  · rw [hfin]; exact h6 _ L' (n2 L' hu)
/-- what was made is sent -/
theorem o_send (t : Tk) (v z : Value) (bl : List Blk) {L1 L' : Heap} (h21 : t.st = 21) (hr : ∀ w, (execOp a.eval o).run P w = .ok (.comm #[Conc.scase t.back v z] true .send) w) (he : ∀ w, (execOp a.eval o).events P w #[] = #[])
    (hu : Upd L t.todo t.obj ({ t with st := 20 } : Tk).obj L1) (hls : LS (bl ++ L'.flatten) L1.flatten) (hbl : ∀ p ∈ bl, pln p.2 = true) (hR : Tasks.R t.tag t.a v bl) (n : R undef L') : OpW P o a.eval L R := by
  refine .raw fun main Φ b k cs a' ops i is o' h1 h2 h3 h4 h5 h6 => ?_
  have hfin : ∀ v, Conc.served (Conc.G (b.at a' (.inRegion ops (i :: is) :: k)) cs) v = Conc.G (b.at (a'.put o'.dst v) (.inRegion ops is :: k)) cs := fun v => by
    simp only [Conc.served, Conc.G, Frame.finish_at, h3]; rfl
  refine .send t v z bl rfl h21 (fun kk w hs => ?_) hu hls hbl hR ?_
  · rw [Conc.stepG_comm h3 h4 h5 (by rw [h1]; exact hr w)]
    unfold Conc.listed
    rw [h1, he w, Conc.seen_none]
  · rw [hfin]; exact h6 _ L' n
/-- the starter's select -/
theorem o_select (t : Tk) (c0 : CommCase) (z : Value) (h0 : t.st = 0) (hat : t.at_ ∈ L.flatten) (hb : t.b < t.many) (hn : 1 ≤ t.n)
    (hc : c0 = (if t.a = t.many then { chan := .chan none, send := some (.int .i64 (t.a : Nat)), zero := .int .i64 0 } else Conc.scase t.todo (.int .i64 (t.a : Nat)) (.int .i64 0)))
    (hr : ∀ w, (execOp a.eval o).run P w = .ok (.comm #[c0, Conc.rcase t.back z] true .select) w) (he : ∀ w, (execOp a.eval o).events P w #[] = #[])
    (n1 : t.a < t.many → ∀ L', Upd L t.todo t.obj ({ t with a := t.a + 1, l := t.a :: t.l } : Tk).obj L' → R (.tuple #[goInt 0, .bool false, z]) L')
    (n2 : ∀ i v bl L', i ∈ t.l → Tasks.R t.tag i v bl → Upd L t.todo t.obj ({ t with b := t.b + 1, l := t.l.erase i } : Tk).obj L' → R (.tuple #[goInt 1, .bool true, v]) (bl :: L')) : OpW P o a.eval L R := by
  refine .raw fun main Φ b k cs a' ops i is o' h1 h2 h3 h4 h5 h6 => ?_
  have hfin : ∀ v, Conc.served (Conc.G (b.at a' (.inRegion ops (i :: is) :: k)) cs) v = Conc.G (b.at (a'.put o'.dst v) (.inRegion ops is :: k)) cs := fun v => by
    simp only [Conc.served, Conc.G, Frame.finish_at, h3]; rfl
  refine .select t c0 z rfl h0 hat hb hn hc (fun kk w hs => ?_) (fun ha L' hu => ?_) fun i v bl L' hi hR hu => ?_
  · rw [Conc.stepG_comm h3 h4 h5 (by rw [h1]; exact hr w)]
    unfold Conc.listed
    rw [h1, he w, Conc.seen_none]
  · rw [hfin]; exact h6 _ L' (n1 ha L' hu)
  · rw [hfin]; exact h6 _ _ (n2 i v bl L' hi hR hu)
/-- a new group is opened: ahead of the next operation -/
theorem hw_begin {n : Nat} {c : Code} {Q : Exit → Env → Heap → Prop} {ρ : Env} {r : List Blk} (t t' : Tk) (c1 d1 u E : Nat) (h12 : t.st = 12) (h0 : t'.st = 0) (e1 : t'.todo = c1) (e2 : t'.back = d1) (e3 : t'.wg = u) (e4 : t'.n = 0) (e5 : t'.a = 0) (e6 : t'.b = 0) (e7 : t'.l = [])
    (hls : LS (t.at_ :: (c1, .chan 0 #[] false 0 0 false) :: (d1, .chan 0 #[] false 0 0 false) :: (u, wgObj Tasks.T 0 0 0) :: r) L.flatten) (h : HW P n c Q ρ [t'.at_ :: r]) : HW P n c Q ρ L :=
  fun main Φ b k cs a hb hc ha => .begin t t' c1 d1 u E h12 h0 e1 e2 e3 e4 e5 e6 e7 hls (h main Φ b k cs a hb hc ha)
end
end Go.HL
end

/-! QKOq -/
section
namespace Go.HL
set_option linter.unusedSectionVars false
variable [Tasks]
open Go
set_option linter.unusedVariables false
set_option linter.unusedSectionVars false
set_option linter.unusedSimpArgs false
section
variable {P : Program} {L : Heap} {R : Value → Heap → Prop} {a : Act} {o : Oper}
theorem seen_sync {P : Program} {fn : FuncId} {es : Array Event} (h : ∀ x ∈ es, x.sync = true ∧ ∀ g, x.loc ≠ .mark (.extern g)) : seen P fn es = es := by
  rw [Conc.seen_def, Conc.seen_fold_sync _ _ _ _ (fun x hx => h x (by simpa using hx))]
  simp
theorem o_close {x : Operand} {ats : Array TypeId} (t : Tk) (hop : o.op = .call { callee := .builtin .close, args := #[x], argTypes := ats }) (hx : a.eval x = .chan (some t.todo)) (h0 : t.st = 0) (hl : t.l = []) (hat : t.at_ ∈ L.flatten)
    (n : ∀ L', Upd L t.todo t.obj ({ t with st := 5, b := t.n } : Tk).obj L' → R (.tuple #[]) L') : OpW P o a.eval L R := by
  refine .raw fun main Φ b k cs a' ops i is o' h1 h2 h3 h4 h5 h6 => ?_
  have hop' := h2.trans hop
  obtain ⟨l, r, e⟩ := List.append_of_mem hat
  let L' : Heap := [l ++ (t.todo, ({ t with st := 5, b := t.n } : Tk).obj) :: r]
  have hu : Upd L t.todo t.obj ({ t with st := 5, b := t.n } : Tk).obj L' := ⟨l, r, e, by simp [L']⟩
  refine .shared t (fun g' L' => g' = Conc.G (b.at (a'.put o'.dst (.tuple #[])) (.inRegion ops is :: k)) cs ∧ R (.tuple #[]) L') rfl hat (by omega) (fun kk w γ hs hsh hc => .inl ?_) (fun g' L' ⟨e, hr⟩ => by subst e; exact h6 _ L' hr)
  obtain ⟨⟨s, h7⟩, ⟨s2, h8⟩, h9, h10, h11, h12⟩ := hsh
  have hcl : γ.closed = false := by have := hc.2.2.2.2; simp [Cm, h0] at this; exact this.2.2.2
  rw [hcl, ← hc.1] at h7
  simp only [Act.eval, Array.getD_eq_getD_getElem?] at hx
  have hr : (execOp a.eval o).run P w = .ok (.value (.tuple #[])) (w.setChan t.todo 0 #[] true s s false) := by
    unfold execOp
    simp only [hop]
    simp [go_sem, hx, run_close_open _ _ h7, World.setChan]
  have he : (execOp a.eval o).events P w #[] = Conc.closeEvents t.todo := by
    unfold execOp
    simp only [hop]
    simp [go_sem, hx, events_close_open _ _ h7, Conc.closeEvents]
  have hlt := getElem?_lt h7
  refine ⟨_, w.setChan t.todo 0 #[] true s s false, #[⟨.obj γ.todo, false, true⟩, ⟨.obj γ.todo, true, true⟩], _, { γ with closed := true }, L', ?_, rfl, .close h0 hl, ⟨fun q q2 => ?_, fun _ _ => ?_⟩, ?_, ?_, hu, rfl, n L' hu⟩
  · rw [Conc.stepG_value h3 h4 h5 (by rw [h1]; exact hr)]
    unfold Conc.listed
    rw [h1, he, seen_sync (by intro e he; simp only [Conc.closeEvents, List.mem_toArray, List.mem_cons, List.not_mem_nil, or_false] at he; rcases he with rfl | rfl <;> simp), Conc.closeEvents, hc.1]
  · simp only at q2; omega
  · simp [mayWake, Conc.G, Frame.at, h3, hop']
  · refine ⟨⟨s, ?_⟩, ⟨s2, ?_⟩, ?_, h10, h11, h12⟩
    · show (w.heap.setIfInBounds t.todo _)[γ.todo]? = _
      rw [← hc.1, Array.getElem?_setIfInBounds_self_of_lt hlt]
    · show (w.heap.setIfInBounds t.todo _)[γ.back]? = _
      rw [hc.1, Array.getElem?_setIfInBounds_ne h10]; exact h8
    · show (w.heap.setIfInBounds t.todo _)[γ.wg]? = _
      rw [hc.1, Array.getElem?_setIfInBounds_ne h11]; exact h9
  · refine ⟨by show (w.heap.setIfInBounds t.todo _).size = _; simp, rfl, rfl, rfl, fun q hq _ => ?_⟩
    show (w.heap.setIfInBounds t.todo _)[q]? = _
    rw [hc.1, Array.getElem?_setIfInBounds_ne (fun e => hq e.symm)]
theorem o_go {d : Deferred} {f : Fn} {c : Array Value} (t : Tk) {L1 L' Lc : Heap} (h3 : t.st = 3) (hr : ∀ w, (execOp a.eval o).run P w = .ok (.spawn d) w) (he : ∀ w, (execOp a.eval o).events P w #[] = #[]) (hd : d.target = .fn f c)
    (hu : Upd L t.todo t.obj ({ t with st := 0, n := t.n + 1 } : Tk).obj L1) (hgv : Give L1 L' Lc { t with st := 20 }) (child : Lo P false (fun _ _ => False) (Conc.born P d) Lc) (n : R undef L') : OpW P o a.eval L R := by
  refine .raw fun main Φ b k cs a' ops i is o' h1 h2 h3' h4 h5 h6 => ?_
  refine .go t d rfl rfl h3 (fun kk w hs => ?_) hu hgv child (h6 _ L' n)
  rw [Conc.stepG_spawn h3' h4 h5 (by rw [h1]; exact hr w) hd]
  unfold Conc.listed
  rw [h1, he w, Conc.seen_none]
end
end Go.HL
end

/-! QKOr -/
section
namespace Go.HL
set_option linter.unusedSectionVars false
variable [Tasks]
open Go
set_option linter.unusedVariables false
set_option linter.unusedSectionVars false
set_option linter.unusedSimpArgs false
section
variable {P : Program}
theorem run_recv {e : Operand → Value} {o : Oper} {T E : TypeId} {dir : ChanDir} {x : Operand} {c : Nat} {z : Value} {w : World} (ho : o.op = .recv T x true) (hx : e x = .chan (some c)) (hu : (underlying T).run P w = .ok (.chan dir E) w) (hz : (zeroValue E).run P w = .ok z w) :
    (execOp e o).run P w = .ok (.comm #[Conc.rcase c z] true (.recv true)) w := by
  unfold execOp
  simp [ho, hx, hu, hz, Result.andThen, Conc.rcase]
theorem run_send {e : Operand → Value} {o : Oper} {x y : Operand} {c : Nat} {v : Value} {w : World} (ho : o.op = .send x y) (hx : e x = .chan (some c)) (hy : e y = v) :
    (execOp e o).run P w = .ok (.comm #[Conc.scase c v (.tuple #[])] true .send) w := by
  unfold execOp
  simp [ho, hx, hy, Conc.scase]
theorem events_send {e : Operand → Value} {o : Oper} {x y : Operand} {w : World} (ho : o.op = .send x y) : (execOp e o).events P w #[] = #[] := by
  unfold execOp
  simp [ho]
theorem events_recv {e : Operand → Value} {o : Oper} {T E : TypeId} {dir : ChanDir} {x : Operand} {z : Value} {w : World} (ho : o.op = .recv T x true) (hu : (underlying T).run P w = .ok (.chan dir E) w) (hu2 : ∀ es, (underlying T).events P w es = es) (hz2 : ∀ es, (zeroValue E).events P w es = es) :
    (execOp e o).events P w #[] = #[] := by
  unfold execOp
  simp [ho, hu, hu2, hz2, Result.evThen]
variable {n : Nat} {ops rest : List Oper} {Q : Exit → Env → Heap → Prop} {ρ : Env} {L : Heap}
theorem ho_recv {d : Nat} {T E ty : TypeId} {dir : ChanDir} {x : Operand} {z : Value} {pos : String} {af : Array Edge} (t : Tk) (h20 : t.st = 20) (hat : t.at_ ∈ L.flatten) (hx : ev ρ x = some (.chan (some t.todo)))
    (hu : ∀ w, (underlying T).run P w = .ok (.chan dir E) w) (hz : ∀ w, (zeroValue E).run P w = .ok z w) (hu2 : ∀ w es, (underlying T).events P w es = es) (hz2 : ∀ w es, (zeroValue E).events P w es = es) (hn : Nat.blt d n = true)
    (n1 : ∀ i L', t.b ≤ i → i < t.many → Upd L t.todo t.obj ({ t with st := 21, a := i, b := i + 1 } : Tk).obj L' → HO P n ops Q rest ((d, .tuple #[.int .i64 (i : Nat), .bool true]) :: ρ) L')
    (n2 : ∀ L', Upd L t.todo t.obj ({ t with st := 22 } : Tk).obj L' → HO P n ops Q rest ((d, .tuple #[z, .bool false]) :: ρ) L') : HO P n ops Q (⟨some d, .recv T x true, ty, pos, af, none⟩ :: rest) ρ L :=
  ho_op (fun a _ => wanted_none _ rfl _) fun a ha => o_recv t z h20 hat (fun w => run_recv rfl (ha.ev hx) (hu w) (hz w)) (fun w => events_recv (z := z) rfl (hu w) (hu2 w) (hz2 w))
    (fun i L' hb hi h => ⟨_, ha.put (Nat.le_of_ble_eq_true hn) _, n1 i L' hb hi h⟩) fun L' h => ⟨_, ha.put (Nat.le_of_ble_eq_true hn) _, n2 L' h⟩
theorem ho_send {x y : Operand} {ty : TypeId} {v : Value} {pos : String} {af : Array Edge} (t : Tk) (bl : List Blk) {L1 L' : Heap} (h21 : t.st = 21) (hx : ev ρ x = some (.chan (some t.back))) (hy : ev ρ y = some v)
    (hu : Upd L t.todo t.obj ({ t with st := 20 } : Tk).obj L1) (hls : LS (bl ++ L'.flatten) L1.flatten) (hbl : ∀ p ∈ bl, pln p.2 = true) (hR : Tasks.R t.tag t.a v bl) (h : HO P n ops Q rest ρ L') : HO P n ops Q (⟨none, .send x y, ty, pos, af, none⟩ :: rest) ρ L :=
  ho_op (fun a _ => wanted_none _ rfl _) fun a ha => o_send t v (.tuple #[]) bl h21 (fun w => run_send rfl (ha.ev hx) (ha.ev hy)) (fun w => events_send rfl) hu hls hbl hR ⟨_, ha.none undef, h⟩
theorem ho_close {x : Operand} {ty : TypeId} {pos : String} {af : Array Edge} {ats : Array TypeId} (t : Tk) (h0 : t.st = 0) (hl : t.l = []) (hat : t.at_ ∈ L.flatten) (hx : ev ρ x = some (.chan (some t.todo)))
    (h : ∀ L', Upd L t.todo t.obj ({ t with st := 5, b := t.n } : Tk).obj L' → HO P n ops Q rest ρ L') : HO P n ops Q (⟨none, .call { callee := .builtin .close, args := #[x], argTypes := ats }, ty, pos, af, none⟩ :: rest) ρ L :=
  ho_op (fun a _ => wanted_none _ rfl _) fun a ha => o_close t rfl (ha.ev hx) h0 hl hat fun L' hu => ⟨_, ha.none _, h L' hu⟩
theorem ho_entry {d : Option Nat} {f : FuncId} {fn : Func} {xs : Array Operand} {ats : Array TypeId} {vs : List Value} {E : Array Value → Sem Value} {ty : TypeId} {pos : String} {af : Array Edge} (hf : P.funcs[f]? = some fn) (hname : (fn.name == "runtime.NumGoroutine") = false) (hb : fn.body.isNone = true)
    (hn : Extern.findNext fn = none) (he : Extern.find fn = some E) (hvs : evs ρ xs.toList = some vs) (hmap : ∀ a, Agr n a ρ → xs.map a.eval = ⟨vs⟩) (t : Tk) (hat : t.at_ ∈ L.flatten) (h12 : t.st ≠ 12)
    (h : ∀ k w γ, Sat k w L → Shr γ w → Cmp t γ → (∃ v w' t' γ' L' es, (E ⟨vs⟩).run P w = .ok v w' ∧ (E ⟨vs⟩).events P w #[⟨.mark (.extern f), false, true⟩] = #[⟨.mark (.extern f), false, true⟩] ++ es ∧ (∀ x ∈ es, x.sync = true ∧ ∀ g, x.loc ≠ .mark (.extern g)) ∧
        Mv t γ t' γ' es ∧ Shr γ' w' ∧ Only γ w w' ∧ Upd L t.todo t.obj t'.obj L' ∧ ∃ ρ', (∀ a, Agr n a ρ → Agr n (a.put d v) ρ') ∧ HO P n ops Q rest ρ' L') ∨ (t.st = 9 ∧ γ.sem = 0 ∧ (E ⟨vs⟩).run P w = .halt .blocked w)) :
    HO P n ops Q (⟨d, .call { callee := .value (.func f), args := xs, argTypes := ats }, ty, pos, af, none⟩ :: rest) ρ L :=
  ho_op (fun a _ => wanted_none _ rfl _) fun a ha => o_entry rfl hf hname hb hn he t hat h12 fun k w γ h1 h2 h3 => by
    rw [hmap a ha]
    rcases h k w γ h1 h2 h3 with ⟨v, w', t', γ', L', es, r1, r2, r3, r4, r5, r6, r7, ρ', r8, r9⟩ | r
    · exact .inl ⟨v, w', t', γ', L', es, r1, r2, r3, r4, r5, r6, r7, ρ', r8 a ha, r9⟩
    · exact .inr r
end
end Go.HL
end

/-! QKOs -/
section
namespace Go.HL
set_option linter.unusedSectionVars false
variable [Tasks]
open Go
set_option linter.unusedVariables false
set_option linter.unusedSectionVars false
set_option linter.unusedSimpArgs false
section
variable {P : Program}
theorem run_select {e : Operand → Value} {o : Oper} {c1 c2 : SelectCase} {z1 z2 : Value} {w : World} (ho : o.op = .select #[c1, c2] true) (h1 : ∀ w, (zeroValue c1.elem).run P w = .ok z1 w) (h2 : ∀ w, (zeroValue c2.elem).run P w = .ok z2 w) :
    (execOp e o).run P w = .ok (.comm #[{ chan := e c1.chan, send := c1.send.map e, zero := z1 }, { chan := e c2.chan, send := c2.send.map e, zero := z2 }] true .select) w := by
  unfold execOp
  simp [ho, h1, h2, Result.andThen, Array.mapM_eq_mapM_toList]
theorem events_select {e : Operand → Value} {o : Oper} {c1 c2 : SelectCase} {z1 z2 : Value} {w : World} (ho : o.op = .select #[c1, c2] true) (h1 : ∀ w, (zeroValue c1.elem).run P w = .ok z1 w) (h2 : ∀ w, (zeroValue c2.elem).run P w = .ok z2 w) (h3 : ∀ w es, (zeroValue c1.elem).events P w es = es) (h4 : ∀ w es, (zeroValue c2.elem).events P w es = es) :
    (execOp e o).events P w #[] = #[] := by
  unfold execOp
  simp [ho, h1, h2, h3, h4, Result.evThen, Result.andThen, Array.mapM_eq_mapM_toList]
variable {n : Nat} {ops rest : List Oper} {Q : Exit → Env → Heap → Prop} {ρ : Env} {L : Heap}
theorem ho_select {d : Nat} {c1 c2 : SelectCase} {x : Operand} {ty : TypeId} {z : Value} {pos : String} {af : Array Edge} (t : Tk) (h0 : t.st = 0) (hat : t.at_ ∈ L.flatten) (hb : t.b < t.many) (hnn : 1 ≤ t.n) (hs1 : c1.send = some x) (hs2 : c2.send = none)
    (hc1 : ev ρ c1.chan = some (.chan (if t.a = t.many then none else some t.todo))) (hx : ev ρ x = some (.int .i64 (t.a : Nat))) (hc2 : ev ρ c2.chan = some (.chan (some t.back)))
    (h1 : ∀ w, (zeroValue c1.elem).run P w = .ok (.int .i64 0) w) (h2 : ∀ w, (zeroValue c2.elem).run P w = .ok z w) (h3 : ∀ w es, (zeroValue c1.elem).events P w es = es) (h4 : ∀ w es, (zeroValue c2.elem).events P w es = es) (hn : Nat.blt d n = true)
    (n1 : t.a < t.many → ∀ L', Upd L t.todo t.obj ({ t with a := t.a + 1, l := t.a :: t.l } : Tk).obj L' → HO P n ops Q rest ((d, .tuple #[goInt 0, .bool false, z]) :: ρ) L')
    (n2 : ∀ i v bl L', i ∈ t.l → Tasks.R t.tag i v bl → Upd L t.todo t.obj ({ t with b := t.b + 1, l := t.l.erase i } : Tk).obj L' → HO P n ops Q rest ((d, .tuple #[goInt 1, .bool true, v]) :: ρ) (bl :: L')) : HO P n ops Q (⟨some d, .select #[c1, c2] true, ty, pos, af, none⟩ :: rest) ρ L :=
  ho_op (fun a _ => wanted_none _ rfl _) fun a ha => o_select t _ z h0 hat hb hnn rfl
    (fun w => by
      rw [run_select (z1 := .int .i64 0) (z2 := z) rfl h1 h2]
      rw [ha.ev hc1, ha.ev hc2, hs1, hs2]
      simp only [Option.map_some, Option.map_none, ha.ev hx]
      congr 3
      split <;> rfl) (fun w => events_select rfl h1 h2 h3 h4)
    (fun hlt L' hu => ⟨_, ha.put (Nat.le_of_ble_eq_true hn) _, n1 hlt L' hu⟩) fun i v bl L' hi hR hu => ⟨_, ha.put (Nat.le_of_ble_eq_true hn) _, n2 i v bl L' hi hR hu⟩
end
end Go.HL
end

/-! QKOt -/
section
namespace Go.HL
set_option linter.unusedSectionVars false
variable [Tasks]
open Go
set_option linter.unusedVariables false
set_option linter.unusedSectionVars false
set_option linter.unusedSimpArgs false
section
variable {P : Program}
theorem run_go {e : Operand → Value} {o : Oper} {f : Operand} {ats : Array TypeId} {F : Nat} {cap : List Value} {w : World} (ho : o.op = .go { callee := .value f, args := #[], argTypes := ats }) (hf : e f = .func (.func F) #[] ⟨cap⟩) :
    ∃ d : Deferred, (execOp e o).run P w = .ok (.spawn d) w ∧ (execOp e o).events P w #[] = #[] ∧ d = { target := .fn (.func F) ⟨cap⟩, args := #[] } := by
  unfold execOp
  simp [ho, resolve, Deferred.ofValue, hf]
variable {n : Nat} {ops rest : List Oper} {Q : Exit → Env → Heap → Prop} {ρ : Env} {L : Heap}
theorem ho_spawn {f : Operand} {ats : Array TypeId} {F : Nat} {cap : List Value} {ty : TypeId} {pos : String} {af : Array Edge} (t : Tk) {L1 L' Lc : Heap} (h3 : t.st = 3) (hf : ev ρ f = some (.func (.func F) #[] ⟨cap⟩))
    (hu : Upd L t.todo t.obj ({ t with st := 0, n := t.n + 1 } : Tk).obj L1) (hgv : Give L1 L' Lc { t with st := 20 }) (child : Lo P false (fun _ _ => False) (Conc.born P { target := .fn (.func F) ⟨cap⟩, args := #[] }) Lc) (h : HO P n ops Q rest ρ L') :
    HO P n ops Q (⟨none, .go { callee := .value f, args := #[], argTypes := ats }, ty, pos, af, none⟩ :: rest) ρ L :=
  ho_op (fun a _ => wanted_none _ rfl _) fun a ha => o_go (f := .func F) (c := ⟨cap⟩) (d := { target := .fn (.func F) ⟨cap⟩, args := #[] }) t h3
    (fun w => by obtain ⟨d, h1, _, rfl⟩ := run_go (P := P) (w := w) (o := ⟨none, .go { callee := .value f, args := #[], argTypes := ats }, ty, pos, af, none⟩) rfl (ha.ev hf); exact h1)
    (fun w => by obtain ⟨d, _, h2, rfl⟩ := run_go (P := P) (w := w) (o := ⟨none, .go { callee := .value f, args := #[], argTypes := ats }, ty, pos, af, none⟩) rfl (ha.ev hf); exact h2) rfl hu hgv child ⟨_, ha.none undef, h⟩
end
end Go.HL
end

/-! QKBo -/
section
namespace Go.HL
set_option linter.unusedSectionVars false
variable [Tasks]
open Go Go.Conc
set_option linter.unusedVariables false
set_option linter.unusedSectionVars false
set_option linter.unusedSimpArgs false
section
variable {P : Program} {main : Bool} {Φ : Goroutine → Heap → Prop} {b : Frame} {a : Act} {k : List Item} {cs : List Frame} {L : Heap} {n : Nat} {Q : Exit → Env → Heap → Prop} {ρ : Env}
/-- an operation in the middle of a region -/
theorem lo_opw {ops : Array Oper} {i : Nat} {is : List Nat} {o : Oper} {R : Value → Heap → Prop} (ho : ops[i]? = some o) (hw : Region.wanted o (yielded ops a.tmps) = true) (hb : b.kind ≠ .early) (h : OpW P o a.eval L R)
    (hn : ∀ v L', R v L' → Lo P main Φ (G (b.at (a.put o.dst v) (.inRegion ops is :: k)) cs) L') : Lo P main Φ (G (b.at a (.inRegion ops (i :: is) :: k)) cs) L := by
  cases h with
  | plain h2 =>
    refine .own (fun g' L' => ∃ v, g' = G (b.at (a.put o.dst v) (.inRegion ops is :: k)) cs ∧ R v L') rfl (fun kk w hs => ?_) (fun g' L' ⟨v, e, hr⟩ => by subst e; exact hn v L' hr)
    obtain ⟨nx, v, w', L', e1, e2, e3, e4, e5⟩ := h2 kk w hs
    refine ⟨_, w', _, L', ?_, rfl, e3.seen (P := P) (fn := b.fn), noX_seen, e4, v, rfl, e5⟩
    rcases e2 with rfl | ⟨rfl, rfl⟩
    · exact stepG_value ho hw hb e1
    · exact stepG_none ho hw hb e1
  | call f args h2 h3 =>
    refine .own (fun g' L' => g' = G (Frame.enter P f ⟨args⟩ .normal) (b.at a (.inRegion ops (i :: is) :: k) :: cs) ∧ L' = L) rfl (fun kk w hs => ?_) ?_
    · obtain ⟨e1, e2⟩ := h2 kk w hs
      exact ⟨_, w, _, L, stepG_enter ho hw hb e1, rfl, e2.seen (P := P) (fn := b.fn), noX_seen, hs, rfl, rfl⟩
    · rintro _ _ ⟨rfl, rfl⟩
      refine h3.2 main Φ _ cs fun v L' hr => ?_
      rw [Frame.finish_at, ho]
      exact hn v L' hr
  | raw h2 => exact h2 main Φ b k cs a ops i is o rfl rfl ho hw hb fun v L' hr => hn v L' hr
theorem lo_q {ops : Array Oper} {i : Nat} {is : List Nat} {d : Nat} {op : Op} {ty : TypeId} {pos : String} {af : Array Edge} {v : Value} (ho : ops[i]? = some ⟨some d, op, ty, pos, af, none⟩) (hb : b.kind ≠ .early) (hd : Nat.blt d n = true) (ha : Agr n a ρ)
    (h : QOp P ⟨some d, op, ty, pos, af, none⟩ ρ L v) (hn : Agr n (a.put (some d) v) ((d, v) :: ρ) → Lo P main Φ (G (b.at (a.put (some d) v) (.inRegion ops is :: k)) cs) L) : Lo P main Φ (G (b.at a (.inRegion ops (i :: is) :: k)) cs) L :=
  lo_opw ho (wanted_none _ rfl _) hb (h a.eval fun x _ u hu => ha.ev hu) fun v' L' ⟨e, e'⟩ => by subst e; subst e'; exact hn (ha.put (Nat.le_of_ble_eq_true hd) v')
/-! ### code that leaves deferred calls behind -/
def HWd (P : Program) (n : Nat) (c : Code) (d : List Deferred) (Q : Exit → Env → Heap → Prop) (ρ : Env) (L : Heap) : Prop :=
  ∀ (main : Bool) (Φ : Goroutine → Heap → Prop) (b : Frame) (k : List Item) (cs : List Frame) (a : Act), b.kind ≠ .early → (∀ e ρ' L', Q e ρ' L' → AfterL P main Φ n (d ++ a.defers) b k cs e ρ' L') → Agr n a ρ → Lo P main Φ (G (b.at a (.code c :: k)) cs) L
theorem HW.hwd {c : Code} (h : HW P n c Q ρ L) : HWd P n c [] Q ρ L := h
theorem hwd_seq {x y : Code} {d d' : List Deferred} (h : HWd P n x d (fun e ρ' L' => e = .normal ∧ HWd P n y d' Q ρ' L') ρ L) : HWd P n (.seq x y) (d' ++ d) Q ρ L := fun main Φ b k cs a hb hc ha =>
  .ctl rfl rfl (fun w => stepG_seq) (h main Φ b (.code y :: k) cs a hb (fun e ρ' L' ⟨he, hy⟩ => by
    subst he
    intro a' hd ha'
    refine hy main Φ b k cs a' hb (fun e2 ρ2 L2 q => ?_) ha'
    have := hc e2 ρ2 L2 q
    rw [hd, ← List.append_assoc]; exact this) ha)
theorem hwd_true {c : Operand} {x y : Code} {d : List Deferred} (hc : ev ρ c = some (.bool true)) (h : HWd P n x d Q ρ L) : HWd P n (.cond c x y) d Q ρ L := fun main Φ b k cs a hb hq ha =>
  .ctl rfl rfl (fun w => stepG_cond (t := true) (ha.ev hc)) (h main Φ b k cs a hb hq ha)
theorem hwd_defer {id : Nat} {f : Nat} {ats : Array TypeId} {ty : TypeId} {pos : String} {af : Array Edge} (h : Q .normal ρ L) : HWd P n (.region id #[⟨none, .defer { callee := .value (.func f), args := #[], argTypes := ats }, ty, pos, af, none⟩] false) [dcall f #[]] Q ρ L := fun main Φ b k cs a hb hq ha => by
  refine .ctl rfl rfl (fun w => stepG_region) ?_
  refine .ctl rfl rfl (fun w => stepG_defer rfl rfl hb rfl) ?_
  refine .ctl rfl rfl (fun w => stepG_region_end) ?_
  exact hq .normal ρ L h _ (by simp [Act.put]) ⟨ha.size, ha.get⟩
/-- a deferred call of a closure -/
def dclo (F : Nat) (cap : List Value) : Deferred := { target := .fn (.func F) ⟨cap⟩, args := #[] }
theorem stepG_deferC {w : World} {ops : Array Oper} {i : Nat} {rest : List Nat} {o : Oper} {F : Nat} {cap : List Value} {x : Operand} {ats : Array TypeId} (ho : ops[i]? = some o) (hw : Region.wanted o (yielded ops a.tmps) = true) (hk : b.kind ≠ .early)
    (hop : o.op = .defer { callee := .value x, args := #[], argTypes := ats }) (hx : a.eval x = .func (.func F) #[] ⟨cap⟩) :
    stepG P main (G (b.at a (.inRegion ops (i :: rest) :: k)) cs) w = .go (G (b.at (Act.put ⟨a.tmps, dclo F cap :: a.defers⟩ o.dst undef) (.inRegion ops rest :: k)) cs) w #[] := by
  have hr : (execOp a.eval o).run P w = .ok (.defer (dclo F cap)) w := by
    unfold execOp
    simp [hop, resolve, Deferred.ofValue, hx, dclo]
  have he : (execOp a.eval o).events P w #[] = #[] := by
    unfold execOp
    simp [hop, resolve, Deferred.ofValue, hx]
  have hfin : (b.at ⟨a.tmps, dclo F cap :: a.defers⟩ (.inRegion ops (i :: rest) :: k)).finish undef = b.at (Act.put ⟨a.tmps, dclo F cap :: a.defers⟩ o.dst undef) (.inRegion ops rest :: k) := by rw [Frame.finish_at, ho]; rfl
  have hk' : (b.kind == CallKind.early) = false := by simpa using hk
  rw [stepG_oper ho hw, ← hfin]
  simp [stepG.apply, hr, he, G, Frame.at, hk', GStep.after, seen_none]
theorem hwd_deferC {id : Nat} {d x : Nat} {F : Nat} {cap : List Value} {v : Value} {op : Op} {ats : Array TypeId} {ty ty2 : TypeId} {pos pos2 : String} {af af2 : Array Edge} (hn : Nat.blt d n = true) (hq1 : QOp P ⟨some d, op, ty, pos, af, none⟩ ρ L v)
    (hx : lk ((d, v) :: ρ) x = some (.func (.func F) #[] ⟨cap⟩)) (h : Q .normal ((d, v) :: ρ) L) :
    HWd P n (.region id #[⟨some d, op, ty, pos, af, none⟩, ⟨none, .defer { callee := .value (.tmp x), args := #[], argTypes := ats }, ty2, pos2, af2, none⟩] false) [dclo F cap] Q ρ L := fun main Φ b k cs a hb hq ha => by
  refine .ctl rfl rfl (fun w => stepG_region) ?_
  refine lo_q rfl hb hn ha hq1 fun ha' => ?_
  refine .ctl rfl rfl (fun w => stepG_deferC (x := .tmp x) rfl rfl hb rfl (ha'.ev (x := .tmp x) hx)) ?_
  refine .ctl rfl rfl (fun w => stepG_region_end) ?_
  exact hq .normal _ L h _ (by simp [Act.put]) ⟨ha'.size, ha'.get⟩
/-! ### the frames of a goroutine -/
/-- the first frame, its call made -/
def bornR (P : Program) : Frame := { (default : Frame) with fn := P.funcs.size, defers := [], mode := .panicking [goexitEntry] }
theorem stepG_born {w : World} {F : Nat} {fn : Func} {c : Code} {cap : List Value} (hf : P.funcs[F]? = some fn) (hname : (fn.name == "runtime.NumGoroutine") = false) (hb : fn.body = some c) :
    stepG P main (born P (dclo F cap)) w = .go (G ((baseD F).at { tmps := ⟨cap⟩ ++ Array.replicate (fn.ntmps - cap.length) undef, defers := [] } [.code c]) [bornR P]) w #[] := by
  have h1 : ¬ fn.name = "runtime.NumGoroutine" := by simpa using hname
  have := enter_atD (P := P) ⟨cap⟩ hf hb
  simp only [List.size_toArray] at this
  rw [← this]
  simp [born, dclo, stepG, unwind, callDeferred, invoke, callFunc, hf, h1, hb, GStep.after, seen_none, G, bornR, default, instInhabitedFrame.default]
theorem stepG_unwindC {w : World} {todo : List Item} {ds : List Deferred} {F : Nat} {fn : Func} {c : Code} {cap : List Value} (hd : a.defers = dclo F cap :: ds) (hf : P.funcs[F]? = some fn) (hname : (fn.name == "runtime.NumGoroutine") = false) (hb : fn.body = some c) :
    stepG P main (G { b.at a todo with mode := .returning } cs) w =
      .go (G ((baseD F).at { tmps := ⟨cap⟩ ++ Array.replicate (fn.ntmps - cap.length) undef, defers := [] } [.code c]) ({ b.at ⟨a.tmps, ds⟩ todo with mode := .returning } :: cs)) w #[] := by
  have h1 : ¬ fn.name = "runtime.NumGoroutine" := by simpa using hname
  have := enter_atD (P := P) ⟨cap⟩ hf hb
  simp only [List.size_toArray] at this
  rw [← this]
  simp [G, stepG, unwind, callDeferred, Frame.at, hd, dclo, invoke, callFunc, hf, h1, hb, GStep.after, seen_none]
theorem stepG_recover {w : World} {c : Frame} {ops : Array Oper} {i : Nat} {rest : List Nat} {o : Oper} {ats : Array TypeId} (ho : ops[i]? = some o) (hw : Region.wanted o (yielded ops a.tmps) = true) (hk : b.kind = .deferred) (hc : c.mode = .returning)
    (hop : o.op = .call { callee := .builtin .recover, args := #[], argTypes := ats }) :
    stepG P main (G (b.at a (.inRegion ops (i :: rest) :: k)) (c :: cs)) w = .go (G (b.at (a.put o.dst .nilIface) (.inRegion ops rest :: k)) (c :: cs)) w #[] := by
  have hfin : (b.at a (.inRegion ops (i :: rest) :: k)).finish .nilIface = b.at (a.put o.dst .nilIface) (.inRegion ops rest :: k) := by rw [Frame.finish_at, ho]; rfl
  have hr : (execOp a.eval o).run P w = .ok .recover w := by
    unfold execOp
    simp [hop, resolve, invoke, builtin]
  have he : (execOp a.eval o).events P w #[] = #[] := by
    unfold execOp
    simp [hop, resolve, invoke, builtin]
  rw [stepG_oper ho hw, ← hfin]
  simp [stepG.apply, hr, he, G, Frame.at, hk, GStep.after, seen_none, tryRecover, hc]
/-- a deferred call's return to the first frame -/
theorem stepG_leave_born {w : World} {todo : List Item} {fn : Func} (hn : b.kind = .deferred) (hd : a.defers = []) (hf : P.funcs[b.fn]? = some fn) (hr : fn.results = #[]) :
    stepG P false (G { b.at a todo with mode := .returning } [bornR P]) w = .go (G (bornR P) []) w #[] := by
  have h1 := results_none hr a.tmps P w
  have h2 := events_results_none (P := P) (w := w) hr a.tmps
  simp [G, stepG, unwind, doReturn, Frame.at, hn, hd, hf, h1, h2, bornR, seen, GStep.after, goexitEntry]
theorem stepG_bornR {w : World} : stepG P false (G (bornR P) []) w = .go { G (bornR P) [] with status := .finished } w #[] := by
  simp [G, stepG, unwind, bornR, Frame.catches, goexitEntry, GStep.after]
  rfl
theorem quits_born {todo : List Item} {fn : Func} (hn : b.kind = .deferred) (hd : a.defers = []) (hf : P.funcs[b.fn]? = some fn) (hr : fn.results = #[]) : QuitsD P 2 0 (G { b.at a todo with mode := .returning } [bornR P]) :=
  .ctl rfl (fun w => stepG_leave_born hn hd hf hr) (.ctl rfl (fun w => stepG_bornR) ⟨rfl, rfl⟩)
/-- a walk, taken up in the middle -/
theorem hw_run {c : Code} (h : HW P n c Q ρ L) (ha : Agr n a ρ) (hb : b.kind ≠ .early) (hc : ∀ e ρ' L', Q e ρ' L' → AfterL P main Φ n a.defers b k cs e ρ' L') : Lo P main Φ (G (b.at a (.code c :: k)) cs) L := h main Φ b k cs a hb hc ha
theorem hw_run_n {c : Code} {K : Env → Heap → Prop} (h : HW P n c (fun e ρ' L' => e = .normal ∧ K ρ' L') ρ L) (ha : Agr n a ρ) (hb : b.kind ≠ .early) (hc : ∀ a' ρ' L', a'.defers = a.defers → Agr n a' ρ' → K ρ' L' → Lo P main Φ (G (b.at a' k) cs) L') : Lo P main Φ (G (b.at a (.code c :: k)) cs) L :=
  hw_run h ha hb fun e ρ' L' ⟨he, hk⟩ => by subst he; exact fun a' hd ha' => hc a' ρ' L' hd ha' hk
theorem hwd_run_n {c : Code} {d : List Deferred} {K : Env → Heap → Prop} (h : HWd P n c d (fun e ρ' L' => e = .normal ∧ K ρ' L') ρ L) (ha : Agr n a ρ) (hb : b.kind ≠ .early) (hc : ∀ a' ρ' L', a'.defers = d ++ a.defers → Agr n a' ρ' → K ρ' L' → Lo P main Φ (G (b.at a' k) cs) L') : Lo P main Φ (G (b.at a (.code c :: k)) cs) L :=
  h main Φ b k cs a hb (fun e ρ' L' ⟨he, hk⟩ => by subst he; exact fun a' hd ha' => hc a' ρ' L' hd ha' hk) ha
theorem agr_enter {vs : List Value} {m : Nat} (h : vs.length ≤ m) : Agr m { tmps := ⟨vs⟩ ++ Array.replicate (m - vs.length) undef, defers := [] } (args0 0 vs) := by
  refine ⟨by simp; omega, fun t v hv => ?_⟩
  obtain ⟨_, h2⟩ := lk_args0 vs 0 t v hv
  have hlt : t < vs.length := (List.getElem?_eq_some_iff.1 h2).1
  simp only []
  rw [Array.getElem?_append_left (by simpa using hlt)]
  simpa using h2
end
end Go.HL
end

/-! QKEn -/
section
namespace Go.HL
set_option linter.unusedSectionVars false
variable [Tasks]
open Go Go.Conc
set_option linter.unusedVariables false
set_option linter.unusedSectionVars false
set_option linter.unusedSimpArgs false
theorem upd_tok {t t' : Tk} (e : t'.todo = t.todo) {L0 : Heap} : Upd ([t.at_] :: L0) t.todo t.obj t'.obj ([t'.at_] :: L0) := by
  rw [show t'.at_ = (t.todo, t'.obj) by simp [Tk.at_, e]]; exact upd_here
theorem upd_ls {L M : Heap} {b : Nat} {o o' : Obj} {r : List Blk} (hp : List.Perm L.flatten ((b, o) :: r)) (h : Upd L b o o' M) : List.Perm M.flatten ((b, o') :: r) := by
  obtain ⟨l, q, e1, e2⟩ := h
  rw [e1] at hp
  rw [e2]
  have h1 : List.Perm ((b, o) :: (l ++ q)) ((b, o) :: r) := List.perm_middle.symm.trans hp
  exact List.perm_middle.trans ((List.perm_cons _).1 h1 |>.cons _)
theorem upd_tls {t t' : Tk} (e : t'.todo = t.todo) {L0 L' : Heap} (h : Upd ([t.at_] :: L0) t.todo t.obj t'.obj L') : LS ([t'.at_] :: L0).flatten L'.flatten := by
  have := upd_ls (r := L0.flatten) (by simp [Tk.at_]) h
  exact .of_perm (by simpa [Tk.at_, e] using this.symm)
section
variable {P : Program} {n : Nat} {ops rest : List Oper} {Q : Exit → Env → Heap → Prop} {ρ : Env} {L0 : Heap} {t : Tk} {d : Nat} {f : FuncId} {fn : Func} {xs : Array Operand} {ats : Array TypeId} {vs : List Value} {ty : TypeId} {pos : String} {af : Array Edge}
theorem ho_ent {E : Array Value → Sem Value} (hf : P.funcs[f]? = some fn) (hname : (fn.name == "runtime.NumGoroutine") = false) (hb : fn.body.isNone = true) (hn : Extern.findNext fn = none) (he : Extern.find fn = some E) (hvs : evs ρ xs.toList = some vs) (hd : Nat.blt d n = true) (h12 : t.st ≠ 12)
    (h : ∀ w γ, Shr γ w → Cmp t γ → (∃ v w' t' γ' es, (E ⟨vs⟩).run P w = .ok v w' ∧ (E ⟨vs⟩).events P w #[⟨.mark (.extern f), false, true⟩] = #[⟨.mark (.extern f), false, true⟩] ++ es ∧ (∀ x ∈ es, x.sync = true ∧ ∀ g, x.loc ≠ .mark (.extern g)) ∧
        Mv t γ t' γ' es ∧ Shr γ' w' ∧ Only γ w w' ∧ t'.todo = t.todo ∧ HO P n ops Q rest ((d, v) :: ρ) ([t'.at_] :: L0)) ∨ (t.st = 9 ∧ γ.sem = 0 ∧ (E ⟨vs⟩).run P w = .halt .blocked w)) :
    HO P n ops Q (⟨some d, .call { callee := .value (.func f), args := xs, argTypes := ats }, ty, pos, af, none⟩ :: rest) ρ ([t.at_] :: L0) :=
  ho_entry hf hname hb hn he hvs (fun a ha => by
      have := evs_map (l := xs.toList) (ρe := a.eval) (fun x _ u hu => ha.ev hu) hvs
      apply Array.toList_inj.1
      simpa using this) t (by simp) h12 fun k w γ hs hsh hc => by
    rcases h w γ hsh hc with ⟨v, w', t', γ', es, h1, h2, h3, h4, h5, h6, h7, h8⟩ | h
    · exact .inl ⟨v, w', t', γ', _, es, h1, h2, h3, h4, h5, h6, upd_tok h7, _, fun a ha => ha.put (Nat.le_of_ble_eq_true hd) v, h8⟩
    · exact .inr h
theorem only_refl {γ : Gm} {w : World} : Only γ w w := ⟨rfl, rfl, rfl, rfl, fun _ _ _ => rfl⟩
theorem sync_ev1 {a : Addr} : ∀ x ∈ #[evR a], x.sync = true ∧ ∀ g, x.loc ≠ .mark (.extern g) := fun x hx => by
  simp [evR] at hx; subst hx; exact ⟨rfl, fun g e => by cases e⟩
theorem sync_evs {a : Addr} : ∀ x ∈ #[evR a, evW a], x.sync = true ∧ ∀ g, x.loc ≠ .mark (.extern g) := fun x hx => by
  simp [evR, evW] at hx; rcases hx with rfl | rfl <;> exact ⟨rfl, fun g e => by cases e⟩
theorem e_mark0 (m : Mark) {t' : Tk} (hf : P.funcs[f]? = some fn) (hname : (fn.name == "runtime.NumGoroutine") = false) (hb : fn.body.isNone = true) (hn : Extern.findNext fn = none) (he : Extern.find fn = some (fun _ => do mark m; pure Extern.Race.none_)) (h12 : t.st ≠ 12) (hm : ∀ g, m ≠ .extern g) (et : t'.todo = t.todo)
    (mv : ∀ γ, Cmp t γ → Mv t γ t' γ #[evMk m]) (h : HO P n ops Q rest ((d, .tuple #[]) :: ρ) ([t'.at_] :: L0)) (hvs : evs ρ xs.toList = some vs := by exact rfl) (hd : Nat.blt d n = true := by exact rfl) :
    HO P n ops Q (⟨some d, .call { callee := .value (.func f), args := xs, argTypes := ats }, ty, pos, af, none⟩ :: rest) ρ ([t.at_] :: L0) :=
  ho_ent hf hname hb hn he hvs hd h12 fun w γ hs hc => .inl ⟨.tuple #[], w, t', γ, #[evMk m], by simp [Extern.Race.none_], by simp [evMk], fun x hx => by
    simp at hx; subst hx; exact ⟨rfl, fun g e => hm g (by cases e; rfl)⟩, mv γ hc, hs, only_refl, et, h⟩
theorem e_markAt (mk : Addr → Mark) {ad : Addr} {t' : Tk} (hf : P.funcs[f]? = some fn) (hname : (fn.name == "runtime.NumGoroutine") = false) (hb : fn.body.isNone = true) (hn : Extern.findNext fn = none) (he : Extern.find fn = some (Extern.Race.marked mk)) (h12 : t.st ≠ 12) (hm : ∀ ad g, mk ad ≠ .extern g) (et : t'.todo = t.todo)
    (mv : ∀ γ, Cmp t γ → Mv t γ t' γ #[evMk (mk ad)]) (h : HO P n ops Q rest ((d, .tuple #[]) :: ρ) ([t'.at_] :: L0)) (hvs : evs ρ xs.toList = some [.pointer (some ad)] := by exact rfl) (hd : Nat.blt d n = true := by exact rfl) :
    HO P n ops Q (⟨some d, .call { callee := .value (.func f), args := xs, argTypes := ats }, ty, pos, af, none⟩ :: rest) ρ ([t.at_] :: L0) :=
  ho_ent hf hname hb hn he hvs hd h12 fun w γ hs hc => .inl ⟨.tuple #[], w, t', γ, #[evMk (mk ad)], by simp [Extern.Race.marked, Extern.Race.at_, Extern.Race.none_], by simp [Extern.Race.marked, Extern.Race.at_, evMk], fun x hx => by
    simp at hx; subst hx; exact ⟨rfl, fun g e => hm ad g (Loc.mark.inj e)⟩, mv γ hc, hs, only_refl, et, h⟩
theorem mv_read {wg : Nat} {γ : Gm} (hc : Cmp t γ) (h : t.st = 2) (hw : t.wg = wg) : Mv t γ t γ #[evMk (.read ⟨wg, 1, none⟩)] := by
  obtain ⟨_, _, e, _⟩ := hc; rw [← hw, e]; exact .read h
theorem mv_write {wg : Nat} {γ : Gm} (hc : Cmp t γ) (h : t.st = 9) (hw : t.wg = wg) : Mv t γ t γ #[evMk (.write ⟨wg, 1, none⟩)] := by
  obtain ⟨_, _, e, _⟩ := hc; rw [← hw, e]; exact .write h
theorem mv_join {wg : Nat} {γ : Gm} (hc : Cmp t γ) (h : t.st = 11) (hw : t.wg = wg) : Mv t γ { t with st := 12 } γ #[evMk (.acquire ⟨wg, 0, none⟩)] := by
  obtain ⟨_, _, e, _⟩ := hc; obtain rfl : wg = γ.wg := hw.symm.trans e; exact .join h
theorem st_cell {γ : Gm} {w : World} (h : Shr γ w) : w.cell? ⟨γ.wg, 0, none⟩ = some (.int .u64 ((γ.cnt * 4294967296 + γ.wt : Nat) : Int)) ∧ w.cell? ⟨γ.wg, 1, none⟩ = some (.int .u32 (γ.sem : Nat)) ∧ ∀ i, w.frozen? ⟨γ.wg, i, none⟩ = false := by
  have := h.wg
  refine ⟨by simp [World.cell?, this, wgObj], by simp [World.cell?, this, wgObj], fun i => by simp [World.frozen?, this, wgObj]⟩
variable [Go.ConcR.Payload] {K : Lib.WgLink} (H : Lib.WgLib P K)
include H
theorem e_add {wg : Nat} (h1 : t.st = 1) (hn : t.n < 1000) (hw : t.wg = wg) (h : HO P n ops Q rest ((d, .int .u64 (((t.n + 1) * 4294967296 : Nat) : Int)) :: ρ) ([({ t with st := 2 } : Tk).at_] :: L0)) (hvs : evs ρ xs.toList = some [pt wg 0, .int .u64 4294967296] := by exact rfl) (hd : Nat.blt d n = true := by exact rfl) :
    HO P n ops Q (⟨some d, .call { callee := .value (.func K.addU64), args := xs, argTypes := ats }, ty, pos, af, none⟩ :: rest) ρ ([t.at_] :: L0) := by
  subst hw
  refine ho_ent H.f_addU64 (ConcR.Gen.x_addU64_n K) (ConcR.Gen.x_addU64_b K) (ConcR.Gen.x_addU64_x K) (ConcR.Gen.x_addU64_f K) hvs hd (by omega) fun w γ hs hc => .inl ?_
  obtain ⟨e1, e2, e3, e4, e5⟩ := hc
  simp only [Cm, h1] at e5
  obtain ⟨f1, f2, f3, f4⟩ := e5
  obtain ⟨c1, _, c3⟩ := st_cell hs
  have ew : IntKind.u64.wrap (((γ.cnt * 4294967296 + γ.wt : Nat) : Int) + 4294967296) = (((t.n + 1) * 4294967296 : Nat) : Int) := by
    rw [IntKind.wrap_u64]; omega
  have hr := run_add_entry (P := P) (d := 4294967296) c1 (c3 0)
  have hv := fun es => events_add_entry (P := P) (d := 4294967296) c1 (c3 0) es
  rw [ew] at hr
  have ha := (wg_at hs).setSt (((t.n + 1) * 4294967296 : Nat) : Int)
  obtain ⟨s1, s2⟩ := wg_set (γ' := { γ with cnt := γ.cnt + 1 }) (i := 0) (v := .int .u64 (((t.n + 1) * 4294967296 : Nat) : Int)) hs rfl rfl rfl rfl (by
    have e : ((({ γ with cnt := γ.cnt + 1 } : Gm).cnt : Nat) : Int) * ConcR.KK + ((({ γ with cnt := γ.cnt + 1 } : Gm).wt : Nat) : Int) = (((t.n + 1) * 4294967296 : Nat) : Int) := by
      simp only [ConcR.KK]; omega
    rw [e]
    exact ha)
  have eA : (⟨[pt t.wg 0, Value.int .u64 4294967296]⟩ : Array Value) = #[.pointer (some ⟨γ.wg, 0, none⟩), .int .u64 4294967296] := by rw [e3]
  exact ⟨_, _, { t with st := 2 }, { γ with cnt := γ.cnt + 1 }, #[evR (stA γ.wg), evW (stA γ.wg)], by rw [eA]; exact hr, by rw [eA, hv]; simp [evR, evW], sync_evs, .add h1 hn, s1, s2, rfl, h⟩
omit H in
theorem load_run {w : World} {ad : Addr} {x : Int} (hc : w.cell? ad = some (.int .u64 x)) : (Extern.Atomic.loadT (.int .u64) #[.pointer (some ad)]).run P w = .ok (.int .u64 x) w ∧ ∀ es, (Extern.Atomic.loadT (.int .u64) #[.pointer (some ad)]).events P w es = es.push ⟨.cell ad, false, true⟩ := by
  constructor
  · change Sem.run P (do Extern.Atomic.read (.int .u64) (← asAddr (.pointer (some ad)))) w = _
    simp [Extern.Atomic.read, asAddr, hc]
  · intro es
    change Sem.events P (do Extern.Atomic.read (.int .u64) (← asAddr (.pointer (some ad)))) w _ = _
    simp [Extern.Atomic.read, asAddr, hc, events_load]
theorem e_load6 {wg : Nat} (h1 : t.st = 6) (hw : t.wg = wg) (n0 : HO P n ops Q rest ((d, .int .u64 0) :: ρ) ([({ t with st := 8 } : Tk).at_] :: L0))
    (n1 : ∀ c, 1 ≤ c → c ≤ t.b → c ≤ 1000 → HO P n ops Q rest ((d, .int .u64 ((c * 4294967296 : Nat) : Int)) :: ρ) ([({ t with st := 7, a := c } : Tk).at_] :: L0)) (hvs : evs ρ xs.toList = some [pt wg 0] := by exact rfl) (hd : Nat.blt d n = true := by exact rfl) :
    HO P n ops Q (⟨some d, .call { callee := .value (.func K.loadU64), args := xs, argTypes := ats }, ty, pos, af, none⟩ :: rest) ρ ([t.at_] :: L0) := by
  subst hw
  refine ho_ent H.f_loadU64 (ConcR.Gen.x_loadU64_n K) (ConcR.Gen.x_loadU64_b K) (ConcR.Gen.x_loadU64_x K) (ConcR.Gen.x_loadU64_f K) hvs hd (by omega) fun w γ hs hc => .inl ?_
  obtain ⟨e1, e2, e3, e4, e5⟩ := hc
  simp only [Cm, h1] at e5
  obtain ⟨f1, f2, f3, f4⟩ := e5
  obtain ⟨c1, _, _⟩ := st_cell hs
  obtain ⟨hr, hv⟩ := load_run (P := P) c1
  have eA : (⟨[pt t.wg 0]⟩ : Array Value) = #[.pointer (some ⟨γ.wg, 0, none⟩)] := by rw [e3]
  by_cases h0 : γ.cnt = 0
  · have ez : ((γ.cnt * 4294967296 + γ.wt : Nat) : Int) = 0 := by omega
    rw [ez] at hr
    exact ⟨_, w, { t with st := 8 }, γ, #[evR (stA γ.wg)], by rw [eA]; exact hr, by rw [eA, hv]; simp [evR], sync_ev1, .zero h1 h0, hs, only_refl, rfl, n0⟩
  · have ez : ((γ.cnt * 4294967296 + γ.wt : Nat) : Int) = ((γ.cnt * 4294967296 : Nat) : Int) := by omega
    rw [ez] at hr
    exact ⟨_, w, { t with st := 7, a := γ.cnt }, γ, #[evR (stA γ.wg)], by rw [eA]; exact hr, by rw [eA, hv]; simp [evR], sync_ev1, .load h1 (by omega), hs, only_refl, rfl, n1 γ.cnt (by omega) f1 e4⟩
theorem e_load10 {wg : Nat} (h1 : t.st = 10) (hw : t.wg = wg) (n0 : HO P n ops Q rest ((d, .int .u64 0) :: ρ) ([t.at_] :: L0)) (hvs : evs ρ xs.toList = some [pt wg 0] := by exact rfl) (hd : Nat.blt d n = true := by exact rfl) :
    HO P n ops Q (⟨some d, .call { callee := .value (.func K.loadU64), args := xs, argTypes := ats }, ty, pos, af, none⟩ :: rest) ρ ([t.at_] :: L0) := by
  subst hw
  refine ho_ent H.f_loadU64 (ConcR.Gen.x_loadU64_n K) (ConcR.Gen.x_loadU64_b K) (ConcR.Gen.x_loadU64_x K) (ConcR.Gen.x_loadU64_f K) hvs hd (by omega) fun w γ hs hc => .inl ?_
  obtain ⟨e1, e2, e3, e4, e5⟩ := hc
  simp only [Cm, h1] at e5
  obtain ⟨f1, f2, f3, f4⟩ := e5
  obtain ⟨c1, _, _⟩ := st_cell hs
  obtain ⟨hr, hv⟩ := load_run (P := P) c1
  have eA : (⟨[pt t.wg 0]⟩ : Array Value) = #[.pointer (some ⟨γ.wg, 0, none⟩)] := by rw [e3]
  have ez : ((γ.cnt * 4294967296 + γ.wt : Nat) : Int) = 0 := by omega
  rw [ez] at hr
  exact ⟨_, w, t, γ, #[evR (stA γ.wg)], by rw [eA]; exact hr, by rw [eA, hv]; simp [evR], sync_ev1, .look h1, hs, only_refl, rfl, n0⟩
theorem e_cas7 {wg : Nat} (h1 : t.st = 7) (hw : t.wg = wg) (n1 : HO P n ops Q rest ((d, .bool true) :: ρ) ([({ t with st := 9 } : Tk).at_] :: L0)) (n0 : HO P n ops Q rest ((d, .bool false) :: ρ) ([({ t with st := 6, b := t.a - 1 } : Tk).at_] :: L0))
    (hvs : evs ρ xs.toList = some [pt wg 0, .int .u64 ((t.a * 4294967296 : Nat) : Int), .int .u64 ((t.a * 4294967296 : Nat) + 1 : Int)] := by exact rfl) (hd : Nat.blt d n = true := by exact rfl) :
    HO P n ops Q (⟨some d, .call { callee := .value (.func K.casU64), args := xs, argTypes := ats }, ty, pos, af, none⟩ :: rest) ρ ([t.at_] :: L0) := by
  subst hw
  refine ho_ent H.f_casU64 (ConcR.Gen.x_casU64_n K) (ConcR.Gen.x_casU64_b K) (ConcR.Gen.x_casU64_x K) (ConcR.Gen.x_casU64_f K) hvs hd (by omega) fun w γ hs hc => .inl ?_
  obtain ⟨e1, e2, e3, e4, e5⟩ := hc
  simp only [Cm, h1] at e5
  obtain ⟨f1, f2, f3, f4⟩ := e5
  obtain ⟨c1, _, c3⟩ := st_cell hs
  have eA : (⟨[pt t.wg 0, .int .u64 ((t.a * 4294967296 : Nat) : Int), .int .u64 ((t.a * 4294967296 : Nat) + 1 : Int)]⟩ : Array Value) = #[.pointer (some ⟨γ.wg, 0, none⟩), .int .u64 ((t.a * 4294967296 : Nat) : Int), .int .u64 ((t.a * 4294967296 : Nat) + 1 : Int)] := by rw [e3]
  rw [eA]
  simp only [casT_eq]
  by_cases hq : γ.cnt = t.a
  · have ez : ((γ.cnt * 4294967296 + γ.wt : Nat) : Int) = ((t.a * 4294967296 : Nat) : Int) := by omega
    rw [ez] at c1
    have hr := run_cas_hit_entry (P := P) (n := ((t.a * 4294967296 : Nat) + 1 : Int)) c1 (c3 0)
    have hv := events_cas_hit_entry (P := P) (n := ((t.a * 4294967296 : Nat) + 1 : Int)) c1 (c3 0)
    have ha := (wg_at hs).setSt ((t.a * 4294967296 : Nat) + 1 : Int)
    obtain ⟨s1, s2⟩ := wg_set (γ' := { γ with wt := 1 }) (i := 0) (v := .int .u64 ((t.a * 4294967296 : Nat) + 1 : Int)) hs rfl rfl rfl rfl (by
      have e : ((({ γ with wt := 1 } : Gm).cnt : Nat) : Int) * ConcR.KK + ((({ γ with wt := 1 } : Gm).wt : Nat) : Int) = ((t.a * 4294967296 : Nat) + 1 : Int) := by
        simp only [ConcR.KK]; omega
      rw [e]
      exact ha)
    exact ⟨_, _, { t with st := 9 }, { γ with wt := 1 }, #[evR (stA γ.wg), evW (stA γ.wg)], hr, by rw [hv]; simp [evR, evW], sync_evs, .reg h1 hq, s1, s2, rfl, n1⟩
  · have hne : ¬ ((γ.cnt * 4294967296 + γ.wt : Nat) : Int) = ((t.a * 4294967296 : Nat) : Int) := by omega
    have hr := run_cas_miss_entry (P := P) (n := ((t.a * 4294967296 : Nat) + 1 : Int)) c1 (c3 0) hne
    have hv := events_cas_miss_entry (P := P) (n := ((t.a * 4294967296 : Nat) + 1 : Int)) c1 (c3 0) hne
    exact ⟨_, w, { t with st := 6, b := t.a - 1 }, γ, #[evR (stA γ.wg)], hr, by rw [hv]; simp [evR], sync_ev1, .fail h1 (by omega), hs, only_refl, rfl, n0⟩
theorem e_sema {wg : Nat} {y : Value} (h1 : t.st = 9) (hw : t.wg = wg) (h : HO P n ops Q rest ((d, .tuple #[]) :: ρ) ([({ t with st := 10 } : Tk).at_] :: L0)) (hvs : evs ρ xs.toList = some [pt wg 1, y] := by exact rfl) (hd : Nat.blt d n = true := by exact rfl) :
    HO P n ops Q (⟨some d, .call { callee := .value (.func K.semacquire), args := xs, argTypes := ats }, ty, pos, af, none⟩ :: rest) ρ ([t.at_] :: L0) := by
  subst hw
  refine ho_ent H.f_semacquire (ConcR.Gen.x_semacquire_n K) (ConcR.Gen.x_semacquire_b K) (ConcR.Gen.x_semacquire_x K) (ConcR.Gen.x_semacquire_f K) hvs hd (by omega) fun w γ hs hc => ?_
  obtain ⟨e1, e2, e3, e4, e5⟩ := hc
  simp only [Cm, h1] at e5
  obtain ⟨_, c1, c3⟩ := st_cell hs
  have eA : (⟨[pt t.wg 1, y]⟩ : Array Value) = #[.pointer (some ⟨γ.wg, 1, none⟩), y] := by rw [e3]
  rw [eA]
  by_cases h0 : γ.sem = 0
  · right
    rw [h0] at c1
    exact ⟨h1, h0, by simp [Extern.Sync.semacquire, Extern.Sync.count, c1]⟩
  · left
    have hs1 : γ.sem = 1 := by omega
    have hw0 : γ.wt = 0 ∧ γ.cnt = 0 := by omega
    rw [hs1] at c1
    have c1' : w.cell? ⟨γ.wg, 1, none⟩ = some (.int .u32 1) := c1
    have hz := c3 1
    have hr : (Extern.Sync.semacquire #[.pointer (some ⟨γ.wg, 1, none⟩), y]).run P w = .ok (.tuple #[]) (w.setCell ⟨γ.wg, 1, none⟩ (.int .u32 0)) := by
      simp [Extern.Sync.semacquire, Extern.Sync.count, c1', hz, Extern.Sync.none_, run_store P w ⟨γ.wg, 1, none⟩ (.int .u32 0) .atomic rfl, Result.andThen]
    have hv : (Extern.Sync.semacquire #[.pointer (some ⟨γ.wg, 1, none⟩), y]).events P w #[⟨.mark (.extern K.semacquire), false, true⟩] = #[⟨.mark (.extern K.semacquire), false, true⟩] ++ semEvents ⟨γ.wg, 1, none⟩ := by
      simp [Extern.Sync.semacquire, Extern.Sync.count, c1', hz, semEvents, events_load, events_store P w _ ⟨γ.wg, 1, none⟩ (.int .u32 0) .atomic rfl, run_store P w ⟨γ.wg, 1, none⟩ (.int .u32 0) .atomic rfl, Result.evThen]
    have ha : ConcR.WgAt Tasks.T γ.wg w 0 1 := by have := wg_at hs; rw [hs1, hw0.1, hw0.2] at this; simpa using this
    obtain ⟨s1, s2⟩ := wg_set (γ' := { γ with sem := 0 }) (i := 1) (v := .int .u32 0) hs rfl rfl rfl rfl (by
      simp only [hw0.1, hw0.2]
      simpa [ConcR.smA] using ha.setSm 0)
    exact ⟨_, _, { t with st := 10 }, { γ with sem := 0 }, _, hr, hv, semEvents_sync _, .acq h1 hs1, s1, s2, rfl, h⟩
/-- IsInBubble -/
theorem e_bub {L : Heap} (h : HO P n ops Q rest ((d, .bool false) :: ρ) L) (hd : Nat.blt d n = true := by exact rfl) :
    HO P n ops Q (⟨some d, .call { callee := .value (.func K.inBubble), args := #[], argTypes := ats }, ty, pos, af, none⟩ :: rest) ρ L :=
  ho_op (fun a _ => wanted_none _ rfl _) fun a ha => .plain fun k w hs => by
    have e1 := Conc.execOp_call_func (a := a) (o := ⟨some d, .call { callee := .value (.func K.inBubble), args := #[], argTypes := ats }, ty, pos, af, none⟩) (f := K.inBubble) (ats := ats) rfl
    refine ⟨.value (.bool false), .bool false, w, L, ?_, .inl rfl, ?_, hs, _, ha.put (Nat.le_of_ble_eq_true hd) _, h⟩
    · rw [e1, run_callFunc_extern H.f_inBubble (ConcR.Gen.x_inBubble_n K) (ConcR.Gen.x_inBubble_b K) (ConcR.Gen.x_inBubble_x K) (ConcR.Gen.x_inBubble_f K)]
      simp [Result.andThen]
    · rw [e1, Conc.events_callFunc_extern H.f_inBubble (ConcR.Gen.x_inBubble_n K) (ConcR.Gen.x_inBubble_b K) (ConcR.Gen.x_inBubble_x K) (ConcR.Gen.x_inBubble_f K)]
      refine ⟨Nat.le_refl _, fun _ _ _ => rfl, .refl _ _, fun e he => ?_⟩
      simp at he
      subst he
      exact ⟨.inr ⟨_, rfl, .inr ⟨_, rfl⟩⟩, .mark⟩
/-- an address handed to the race detector -/
theorem e_conv {x : Operand} {wg i : Nat} {s e0 : TypeId} (h12 : t.st ≠ 12) (hw : t.wg = wg) (hi : i < 2) (hs : P.underlying s = some (.pointer e0)) (hroom : (P.info? e0).map (fun i => decide (i.size = 0)) = some false)
    (h : HO P n ops Q rest ((d, pt wg i) :: ρ) ([t.at_] :: L0)) (hx : ev ρ x = some (pt wg i) := by exact rfl) (hd : Nat.blt d n = true := by exact rfl) :
    HO P n ops Q (⟨some d, .convert s K.tUP x, ty, pos, af, none⟩ :: rest) ρ ([t.at_] :: L0) := by
  subst hw
  refine ho_op (fun a _ => wanted_none _ rfl _) fun a ha => o_lib t (by simp) h12 fun k w γ hs1 hsh hc => ?_
  obtain ⟨e1, e2, e3, e4, e5⟩ := hc
  obtain ⟨c1, c2, _⟩ := st_cell hsh
  have hcell : ∃ u, w.cell? ⟨t.wg, i, none⟩ = some u := by
    rw [e3]
    match i, hi with
    | 0, _ => exact ⟨_, c1⟩
    | 1, _ => exact ⟨_, c2⟩
  obtain ⟨u, hu⟩ := hcell
  have hcv := run_convert_to_unsafe (P := P) hs H.underlying_tUP hroom hu
  have hce := fun es => events_convert_to_unsafe (P := P) hs H.underlying_tUP hroom hu es
  have hxe := ha.ev hx
  refine ⟨pt t.wg i, w, [t.at_] :: L0, ?_, fun fn => ?_, hs1, _, ha.put (Nat.le_of_ble_eq_true hd) _, h⟩
  · unfold execOp
    simp only [hxe]
    simp [hcv]
  · have : (execOp a.eval ⟨some d, .convert s K.tUP x, ty, pos, af, none⟩).events P w #[] = #[] := by
      unfold execOp
      simp only [hxe]
      simp [hce]
    rw [this, seen_none]
    exact ⟨noX_nil, .refl _ _⟩
/-- a function that says 'enable' behind all else -/
theorem hc_enter_en {F : Nat} {fn : Func} {c : Code} {args : List Value} {L : Heap} {R : Value → Heap → Prop} (hm : (fn.name == "runtime.NumGoroutine") = false) (hf : P.funcs[F]? = some fn) (hb : fn.body = some c) {m : Nat} (hn : fn.ntmps = m) (hlen : args.length ≤ m) (hres : fn.results = #[])
    (h : HWd P m c [dcall K.enable #[]] (fun e _ L => (e = .normal ∨ e = .ret) ∧ ∃ (t : Tk) (L0 : Heap), L = [t.at_] :: L0 ∧ t.st = 2 ∧ R (.tuple #[]) ([({ t with st := 3 } : Tk).at_] :: L0)) (args0 0 args) L) : HC P F args L R := by
  subst hn
  refine ⟨enters_of hf hb hm, fun main Φ fr cs hc => ?_⟩
  rw [Conc.enter_at _ hf hb]
  have key : ∀ (a : Act) (todo : List Item) (L' : Heap) (e : Exit), a.defers = [dcall K.enable #[]] → ((e = .normal ∨ e = .ret) ∧ ∃ (t : Tk) (L0 : Heap), L' = [t.at_] :: L0 ∧ t.st = 2 ∧ R (.tuple #[]) ([({ t with st := 3 } : Tk).at_] :: L0)) → Lo P main Φ (Conc.G { (Conc.base F).at a todo with mode := .returning } (fr :: cs)) L' := by
    rintro a todo L' e hd ⟨_, t, L0, rfl, h2, hR⟩
    refine .shared t (fun g' L' => g' = G { (Conc.base F).at ⟨a.tmps, []⟩ todo with mode := .returning } (fr :: cs) ∧ L' = [({ t with st := 3 } : Tk).at_] :: L0) rfl (by simp) (by omega) (fun k w γ hs hsh hcm => .inl ?_) (fun g' L' ⟨e, e'⟩ => ?_)
    · refine ⟨_, w, #[evMk .enable], { t with st := 3 }, γ, _, stepG_unwind_entry (v := .tuple #[]) hd H.f_enable (ConcR.Gen.x_enable_n K) (ConcR.Gen.x_enable_b K) (ConcR.Gen.x_enable_x K) (ConcR.Gen.x_enable_f K) (by simp [Extern.Race.none_]) (by simp [evMk]) (fun x hx => ?_), rfl, .en2 h2, .refl, hsh, only_refl, upd_tok (t := t) (t' := { t with st := 3 }) rfl, rfl, rfl⟩
      simp at hx; subst hx; exact ⟨rfl, fun g e => by cases e⟩
    · subst e; subst e'
      exact .ctl rfl rfl (fun w => stepG_leave rfl rfl hf (results_none hres _ P w) (events_results_none hres _ _)) (hc _ _ hR)
  refine h main Φ (Conc.base F) [] (fr :: cs) _ (by simp [Conc.base]) (fun e ρ' L' q => ?_) ⟨?_, ?_⟩
  · cases e with
    | normal => exact fun a hd ha => .ctl rfl rfl (fun w => Conc.stepG_end) (key a [] L' _ hd q)
    | ret => exact fun a todo hd ha => key a todo L' _ hd q
    | exit i => rcases q.1 with e | e <;> cases e
    | goto i => rcases q.1 with e | e <;> cases e
    | panic ch => rcases q.1 with e | e <;> cases e
    | outgrown => rcases q.1 with e | e <;> cases e
  · simp; omega
  · intro t v hv
    obtain ⟨_, h2⟩ := lk_args0 args 0 t v hv
    have hlt : t < args.length := (List.getElem?_eq_some_iff.1 h2).1
    simp only []
    rw [Array.getElem?_append_left (by simpa using hlt)]
    simpa using h2
end
end Go.HL
end

/-! QSdC -/
section
namespace Go.HL
set_option linter.unusedSectionVars false
variable [Tasks]
open Go Go.Proofs
set_option linter.unusedVariables false
set_option linter.unusedSimpArgs false
set_option maxHeartbeats 2000000 attribute [local irreducible] HW HO HQ HD HC QOp Has Upd Puts Gets seqQ blkQ loopQ fnQ actQ nextP unQ MapF
section
variable [Go.ConcR.Payload]
theorem uadd_calls (t : Tk) (wg : Nat) (L0 : Heap) (h1 : t.st = 1) (hn : t.n < 1000) (hw : t.wg = wg) :
    HC Tryd.prog 172 [pt wg 0, .int .u64 4294967296] ([t.at_] :: L0) (fun v L' => v = .int .u64 (((t.n + 1) * 4294967296 : Nat) : Int) ∧ L' = [({ t with st := 2 } : Tk).at_] :: L0) := by
  refine Ze (by kernel_rfl) Tryd.func172 rfl Tryd.ntmps172 (Nat.le_of_ble_eq_true rfl) ?_; simp only [args0, Nat.reduceAdd]
  repeat' (first | refine uN ?_)
  refine e_add wgLib h1 hn hw ?_
  repeat' (first | refine uN ?_)
  exact sp1 (LS.refl _) ⟨rfl, rfl⟩
theorem uload10_calls (t : Tk) (wg : Nat) (L0 : Heap) (h1 : t.st = 10) (hw : t.wg = wg) :
    HC Tryd.prog 157 [pt wg 0] ([t.at_] :: L0) (fun v L' => v = .int .u64 0 ∧ L' = [t.at_] :: L0) := by
  refine Ze (by kernel_rfl) Tryd.func157 rfl Tryd.ntmps157 (Nat.le_of_ble_eq_true rfl) ?_; simp only [args0, Nat.reduceAdd]
  repeat' (first | refine uN ?_)
  refine e_load10 wgLib h1 hw ?_
  repeat' (first | refine uN ?_)
  exact sp1 (LS.refl _) ⟨rfl, rfl⟩
theorem uload6_calls (t : Tk) (wg : Nat) (L0 : Heap) (h1 : t.st = 6) (hw : t.wg = wg) :
    HC Tryd.prog 157 [pt wg 0] ([t.at_] :: L0) (fun v L' => (v = .int .u64 0 ∧ L' = [({ t with st := 8 } : Tk).at_] :: L0) ∨ ∃ c, 1 ≤ c ∧ c ≤ t.b ∧ c ≤ 1000 ∧ v = .int .u64 ((c * 4294967296 : Nat) : Int) ∧ L' = [({ t with st := 7, a := c } : Tk).at_] :: L0) := by
  refine Ze (by kernel_rfl) Tryd.func157 rfl Tryd.ntmps157 (Nat.le_of_ble_eq_true rfl) ?_; simp only [args0, Nat.reduceAdd]
  repeat' (first | refine uN ?_)
  refine e_load6 wgLib h1 hw ?_ fun c c1 c2 c3 => ?_
  · repeat' (first | refine uN ?_)
    exact sp1 (LS.refl _) (.inl ⟨rfl, rfl⟩)
  · repeat' (first | refine uN ?_)
    exact sp1 (LS.refl _) (.inr ⟨c, c1, c2, c3, rfl, rfl⟩)
theorem ucas_calls (t : Tk) (wg : Nat) (L0 : Heap) (h1 : t.st = 7) (hw : t.wg = wg) :
    HC Tryd.prog 161 [pt wg 0, .int .u64 ((t.a * 4294967296 : Nat) : Int), .int .u64 ((t.a * 4294967296 : Nat) + 1 : Int)] ([t.at_] :: L0) (fun v L' => (v = .bool true ∧ L' = [({ t with st := 9 } : Tk).at_] :: L0) ∨ (v = .bool false ∧ L' = [({ t with st := 6, b := t.a - 1 } : Tk).at_] :: L0)) := by
  refine Ze (by kernel_rfl) Tryd.func161 rfl Tryd.ntmps161 (Nat.le_of_ble_eq_true rfl) ?_; simp only [args0, Nat.reduceAdd]
  repeat' (first | refine uN ?_)
  refine e_cas7 wgLib h1 hw ?_ ?_
  · repeat' (first | refine uN ?_)
    exact sp1 (LS.refl _) (.inl ⟨rfl, rfl⟩)
  · repeat' (first | refine uN ?_)
    exact sp1 (LS.refl _) (.inr ⟨rfl, rfl⟩)
theorem and_hi (k : Nat) : (((k * 4294967296 : Nat) : Int)).toNat &&& (2147483648 : Int).toNat = 0 := ConcN.and_bit31 _ 0 (by show k * 4294967296 % 4294967296 = 0; omega) (by omega)
theorem and_lo (k : Nat) : (((k * 4294967296 : Nat) : Int)).toNat &&& (2147483647 : Int).toNat = 0 := by
  show k * 4294967296 &&& (2 ^ 31 - 1) = 0
  rw [Nat.and_two_pow_sub_one_eq_mod]; omega
theorem p32 : (2 : Int) ^ Int.toNat 32 = 4294967296 := by decide
theorem addP_calls (t : Tk) (wg : Nat) (L0 : Heap) (h0 : t.st = 0) (hn : t.n < 1000) (hw : t.wg = wg) :
    HC Tryd.prog 152 [pt wg 0, iv 1] ([t.at_] :: L0) (fun v L' => v = .tuple #[] ∧ L' = [({ t with st := 3 } : Tk).at_] :: L0) := by
  have ku := uadd_calls { t with st := 1 } wg L0 rfl hn hw
  refine hc_enter_en wgLib (by kernel_rfl) Tryd.func152 rfl Tryd.ntmps152 (Nat.le_of_ble_eq_true rfl) rfl ?_
  simp only [args0, Nat.reduceAdd]
  refine hwd_seq (d := [Conc.dcall _ #[]]) (d' := []) ?_
  refine hwd_true rfl ?_
  refine hwd_seq (d := []) (d' := [Conc.dcall _ #[]]) ?_
  refine HW.hwd ?_
  repeat' (first | refine uN ?_ | (refine uB ?_; intro b) | refine dg S 100 (fun _ _ => ?_) | (refine uP ?_ ?_ <;> (intro h; ((try simp only [zs, ne_eq, and_true, true_and, eq_self, reduceCtorEq] at h); try exact zx))) | refine da 101 ?_ | fail)
  refine ⟨rfl, ?_⟩
  refine hwd_seq (d := []) (d' := [Conc.dcall _ #[]]) ?_
  refine HW.hwd ?_
  refine hw_region ?_
  refine e_mark0 .disable (t' := { t with st := 1 }) wgLib.f_disable (ConcR.Gen.x_disable_n wgL) (ConcR.Gen.x_disable_b wgL) (ConcR.Gen.x_disable_x wgL) (ConcR.Gen.x_disable_f wgL) (by omega) (by simp) rfl (fun γ _ => .dis0 h0) ?_
  refine ho_nil ?_
  refine ⟨rfl, ?_⟩
  refine hwd_defer ?_
  refine ⟨rfl, ?_⟩
  refine HW.hwd ?_
  repeat' (first | refine uN ?_ | (refine uB ?_; intro b) | refine dg S 100 (fun _ _ => ?_) | (refine uP ?_ ?_ <;> (intro h; ((try simp only [zs, ne_eq, and_true, true_and, eq_self, reduceCtorEq] at h); try exact zx))) | refine da 101 ?_ | fail)
  refine e_bub wgLib ?_
  repeat' (first | refine uN ?_ | (refine uB ?_; intro b) | refine dg S 100 (fun _ _ => ?_) | (refine uP ?_ ?_ <;> (intro h; ((try simp only [zs, ne_eq, and_true, true_and, eq_self, reduceCtorEq] at h); try exact zx))) | refine da 101 ?_ | fail)
  refine gc ku ?_
  rintro v L' ⟨rfl, rfl⟩
  clear ku
  have f1 := and_hi (t.n + 1)
  have f2 := and_lo (t.n + 1)
  repeat' (first | refine uN ?_ | (refine uB ?_; intro b) | refine dg S 100 (fun _ _ => ?_) | (refine uP ?_ ?_ <;> (intro h; ((try simp only [zs, ne_eq, and_true, true_and, eq_self, reduceCtorEq] at h); try exact zx))) | refine da 101 ?_ | fail)
  · refine e_conv wgLib (i := 1) (show (2 : Nat) ≠ 12 by decide) hw (by decide) wgLib.underlying_tPU32 wgLib.room_tU32 ?_
    refine e_markAt .read wgLib.f_raceRead (ConcR.Gen.x_raceRead_n wgL) (ConcR.Gen.x_raceRead_b wgL) (ConcR.Gen.x_raceRead_x wgL) (ConcR.Gen.x_raceRead_f wgL) (show (2 : Nat) ≠ 12 by decide) (by simp) rfl (fun γ hc => mv_read hc rfl hw) ?_
    repeat' (first | refine uN ?_ | (refine uB ?_; intro b) | refine dg S 100 (fun _ _ => ?_) | (refine uP ?_ ?_ <;> (intro h; ((try simp only [zs, ne_eq, and_true, true_and, eq_self, reduceCtorEq] at h); try exact zx))) | refine da 101 ?_ | fail)
    all_goals first | (exfalso; simp only [p32] at *; omega) | exact ⟨.inr rfl, { t with st := 2 }, L0, rfl, rfl, by trivial, rfl⟩
  all_goals first | (exfalso; simp only [p32] at *; omega) | exact ⟨.inr rfl, { t with st := 2 }, L0, rfl, rfl, by trivial, rfl⟩
end
end Go.HL
end
