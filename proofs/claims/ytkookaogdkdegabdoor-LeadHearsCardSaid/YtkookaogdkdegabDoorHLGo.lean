/- The heap logic: its rules with their side conditions found by themselves. No program in sight. Conditions: none. -/
import Derived.Test.YtkookaogdkdegabDoorHLEq
import Derived.Test.YtkookaogdkdegabDoorHLMem
namespace Go.HL
open Go
set_option linter.unusedVariables false
set_option linter.unusedSimpArgs false

def okv : Env → Bool
  | [] => true
  | _ :: _ => true
/-! ### control -/
section c
variable {P : Program} {n : Nat} {ops : List Oper} {Q : Exit → Env → Heap → Prop} {rest : List Oper} {ρ : Env} {L : Heap}
theorem g_t {c : Operand} {x y : Code} {b : Bool} (h : HW P n x Q ρ L) (h00 : okv ρ = true := by exact rfl) (hc : ev ρ c = some (.bool b) := by exact rfl) (hb : b = true := by with_reducible exact rfl) : HW P n (.cond c x y) Q ρ L := hw_true hc hb h
theorem g_f {c : Operand} {x y : Code} {b : Bool} (h : HW P n y Q ρ L) (h00 : okv ρ = true := by exact rfl) (hc : ev ρ c = some (.bool b) := by exact rfl) (hb : b = false := by with_reducible exact rfl) : HW P n (.cond c x y) Q ρ L := hw_false hc hb h
theorem g_b {c : Operand} {x y : Code} {b : Bool} (ht : b = true → HW P n x Q ρ L) (hf : b = false → HW P n y Q ρ L) (h00 : okv ρ = true := by exact rfl) (hc : ev ρ c = some (.bool b) := by exact rfl) : HW P n (.cond c x y) Q ρ L := hw_bool hc ht hf
theorem g_bx {id i : Nat} (h : Q (.exit i) ρ L) (h00 : okv ρ = true := by exact rfl) (hn : Nat.beq i id = false := by exact rfl) : blkQ id Q (.exit i) ρ L := blkQ_exit hn h

/-! ### operations -/
variable {op : Op} {ty : TypeId} {pos : String} {af : Array Edge} {g : Option (Nat × Bool)} {d : Nat}
theorem g_q {v : Value} (h : QOp P ⟨some d, op, ty, pos, af, g⟩ ρ L v) (hr : HO P n ops Q rest ((d, v) :: ρ) L) (h00 : okv ρ = true := by exact rfl) (hg : guardE ops ρ g = some true := by exact rfl) (hn : Nat.blt d n = true := by exact rfl) : HO P n ops Q (⟨some d, op, ty, pos, af, g⟩ :: rest) ρ L := ho_go hg hn h hr
theorem g_n (hr : HO P n ops Q rest ((d, undef) :: ρ) L) (h00 : okv ρ = true := by exact rfl) (hg : guardE ops ρ g = some false := by exact rfl) (hn : Nat.blt d n = true := by exact rfl) : HO P n ops Q (⟨some d, op, ty, pos, af, g⟩ :: rest) ρ L := ho_no hg hn hr
theorem ho_off {d : Option Tmp} {j : Nat} {wt : Bool} (hd : d = none) (hg : guardE ops ρ (some (j, wt)) = some false) (hr : HO P n ops Q rest ρ L) : HO P n ops Q (⟨d, op, ty, pos, af, some (j, wt)⟩ :: rest) ρ L := by
  subst hd
  intro k w a hs ha
  unfold wpList
  rw [if_neg (by rw [wanted_of_guardE (o := ⟨none, op, ty, pos, af, some (j, wt)⟩) ha hg]; simp)]
  exact hr k w a hs ha
theorem g_on {d : Option Tmp} {j : Nat} {wt : Bool} (h : HO P n ops Q (⟨d, op, ty, pos, af, none⟩ :: rest) ρ L) (h00 : okv ρ = true := by exact rfl) (hg : guardE ops ρ (some (j, wt)) = some true := by exact rfl) : HO P n ops Q (⟨d, op, ty, pos, af, some (j, wt)⟩ :: rest) ρ L := ho_on hg h
theorem g_s {d j t : Nat} {wt : Bool} {b : Bool} (h1 : b = true → HO P n ops Q (⟨some d, op, ty, pos, af, some (j, wt)⟩ :: rest) ((t, .bool true) :: ρ) L) (h0 : b = false → HO P n ops Q (⟨some d, op, ty, pos, af, some (j, wt)⟩ :: rest) ((t, .bool false) :: ρ) L)
    (h00 : okv ρ = true := by exact rfl) (hj : gdst ops j = some t := by exact rfl) (ht : lk ρ t = some (.bool b) := by exact rfl) : HO P n ops Q (⟨some d, op, ty, pos, af, some (j, wt)⟩ :: rest) ρ L := ho_gsplit hj ht h1 h0
variable {K : Env → Prop}
theorem k_q {v : Value} (h : QOp P ⟨some d, op, ty, pos, af, g⟩ ρ L v) (hr : HQ P n ops K rest ((d, v) :: ρ) L) (h00 : okv ρ = true := by exact rfl) (hg : guardE ops ρ g = some true := by exact rfl) (hn : Nat.blt d n = true := by exact rfl) : HQ P n ops K (⟨some d, op, ty, pos, af, g⟩ :: rest) ρ L := hq_go hg hn h hr
theorem k_n (hr : HQ P n ops K rest ((d, undef) :: ρ) L) (h00 : okv ρ = true := by exact rfl) (hg : guardE ops ρ g = some false := by exact rfl) (hn : Nat.blt d n = true := by exact rfl) : HQ P n ops K (⟨some d, op, ty, pos, af, g⟩ :: rest) ρ L := hq_no hg hn hr
theorem k_s {d j t : Nat} {wt : Bool} {b : Bool} (h1 : b = true → HQ P n ops K (⟨some d, op, ty, pos, af, some (j, wt)⟩ :: rest) ((t, .bool true) :: ρ) L) (h0 : b = false → HQ P n ops K (⟨some d, op, ty, pos, af, some (j, wt)⟩ :: rest) ((t, .bool false) :: ρ) L)
    (h00 : okv ρ = true := by exact rfl) (hj : gdst ops j = some t := by exact rfl) (ht : lk ρ t = some (.bool b) := by exact rfl) : HQ P n ops K (⟨some d, op, ty, pos, af, some (j, wt)⟩ :: rest) ρ L := hq_gsplit hj ht h1 h0
def calm : List Oper → Bool
  | [] => true
  | o :: r => bif isAct o then false else calm r
/-- a drawn region of reads alone -/
theorem g_k {id : Nat} (S : Tab P) (h : HQ P n ops (fun ρ' => Q .normal ρ' L) ops ρ L) (h00 : okv ρ = true := by exact rfl) (hc : calm ops = true := by exact rfl) (hB : Region.lexB .any ops.toArray = true := by decide +kernel) : HW P n (.region id ops.toArray true) Q ρ L := hw_quiet S hB h
/-- any drawn region -/
theorem g_d {id : Nat} (S : Tab P) {rem : List (Nat × Oper)} (h : HD P n ops Q [] rem ρ L) (h00 : okv ρ = true := by exact rfl) (h0 : numE nums ops some = some rem := by exact rfl) : HW P n (.region id ops.toArray true) Q ρ L := hw_draw S h0 h
theorem g_w {id : Nat} (S : Tab P) {rem : List (Nat × Oper)} (h : HD P n ops Q [] rem ρ L) (h00 : okv ρ = true := by exact rfl) (hc : calm ops = false := by exact rfl) (h0 : numE nums ops some = some rem := by exact rfl) : HW P n (.region id ops.toArray true) Q ρ L := hw_draw S h0 h
end c

/-! ### what reads -/
section q
variable {P : Program} {ρ : Env} {L : Heap} {d : Option Tmp} {ty : TypeId} {pos : String} {af : Array Edge} {g : Option (Nat × Bool)}
theorem qe (S : Tab P) {o : Op} {v : Value} {p : Prop} (h00 : okv ρ = true := by exact rfl) (h : opE S.ty S.fl ρ o = some (v, p) := by exact rfl) (hp : p := by first | exact trivial | omega | assumption | (simp only [List.length_append, List.length_cons, List.length_nil]; omega) | (simp only [loE, hiE, wdE, Int.reduceToNat, Int.reducePow] at *; omega)) : QOp P ⟨d, o, ty, pos, af, g⟩ ρ L v := opE_q S h hp
theorem qg (S : Tab P) {t n : Nat} {ti : TyI} {v : Value} (h00 : okv ρ = true := by exact rfl) (ht : lkN S.ty t = some ti := by exact rfl) (h6 : Nat.beq ti.kind 6 = false := by exact rfl) (h7 : Nat.beq ti.kind 7 = false := by exact rfl) (hg : Gl L n v := by (repeat (first | assumption | exact Errs.get (by assumption) rfl rfl | apply Gl.cons))) :
    QOp P ⟨d, .load t (.global n), ty, pos, af, g⟩ ρ L v := q_gload S ht h6 h7 hg
theorem ql (S : Tab P) {t b i E : Nat} {ti : TyI} {x : Operand} {l : List Value} {fr : Nat × Nat} {v : Value} (h00 : okv ρ = true := by exact rfl) (hx : ev ρ x = some (pt b i) := by exact rfl) (ht : lkN S.ty t = some ti := by exact rfl) (h6 : Nat.beq ti.kind 6 = false := by exact rfl) (h7 : Nat.beq ti.kind 7 = false := by exact rfl)
    (hb : Has L b (.cells ⟨l⟩ E fr) := by (repeat (first | assumption | exact has_here | exact has_mem (by assumption) | apply has_in | apply has_next))) (hv : l[i]? = some v := by (first | exact rfl | assumption | exact Gets.at (by assumption) rfl | exact Gets.at0 (by assumption) rfl)) :
    QOp P ⟨d, .load t x, ty, pos, af, g⟩ ρ L v := q_load S hx ht h6 h7 hb hv
theorem gets_len {l vs : List Value} {i n : Nat} (h : Gets l i vs) (hn : n = vs.length) : Gets l i vs ∧ n = vs.length := ⟨h, hn⟩
theorem qs (S : Tab P) {t b i E : Nat} {ti : TyI} {x : Operand} {l vs : List Value} {fr : Nat × Nat} (h00 : okv ρ = true := by exact rfl) (hx : ev ρ x = some (pt b i) := by exact rfl) (ht : lkN S.ty t = some ti := by exact rfl) (h7 : (Nat.beq ti.kind 6 || Nat.beq ti.kind 7) = true := by exact rfl)
    (hb : Has L b (.cells ⟨l⟩ E fr) := by (repeat (first | assumption | exact has_here | exact has_mem (by assumption) | apply has_in | apply has_next)))
    (hv : Gets l i vs ∧ ti.size = vs.length := by (first | (refine gets_len (by assumption) ?_; rfl) | exact ⟨gets_cons rfl (gets_cons rfl (gets_cons rfl gets_nil)), rfl⟩ | exact ⟨gets_cons rfl (gets_cons rfl gets_nil), rfl⟩ | exact ⟨gets_cons rfl (gets_cons rfl (gets_cons rfl (gets_cons rfl gets_nil))), rfl⟩ | exact ⟨gets_cons rfl (gets_cons rfl (gets_cons rfl (gets_cons rfl (gets_cons rfl (gets_cons rfl (gets_cons rfl (gets_cons rfl (gets_cons rfl gets_nil)))))))), rfl⟩)) :
    QOp P ⟨d, .load t x, ty, pos, af, g⟩ ρ L (.agg ⟨vs⟩) := q_loads S hx ht h7 hb hv
theorem qn (S : Tab P) {t : Nat} {x : Operand} {b : Bool} (h00 : okv ρ = true := by exact rfl) (hx : ev ρ x = some (.bool b) := by exact rfl) : QOp P ⟨d, .unOp .not t x, ty, pos, af, g⟩ ρ L (.bool (!b)) := q_not hx
theorem qb (S : Tab P) {t : Nat} {parts : Array (Nat × Operand)} {zs out : List Value} {vals : List (Nat × Value)} {fs : List (Nat × Nat × Nat)} (h00 : okv ρ = true := by exact rfl) (hz : lkN S.zr t = some (.agg ⟨zs⟩) := by exact rfl) (hs : lkN S.st t = some fs := by exact rfl) (hp : evParts ρ parts.toList = some vals := by exact rfl)
    (hf : ((fillS fs zs vals).bind fun l => nfL l some) = some out := by exact rfl) : QOp P ⟨d, .build t parts, ty, pos, af, g⟩ ρ L (.agg ⟨out⟩) := q_build S hz hs hp hf
theorem qSl (S : Tab P) {t : Nat} {ti : TyI} {x y : Operand} {k : IntKind} {lo : Int} {l : List UInt8} (h00 : okv ρ = true := by exact rfl) (hx : ev ρ x = some (bs l) := by exact rfl) (hy : ev ρ y = some (.int k lo) := by exact rfl) (ht : lkN S.ty t = some ti := by exact rfl) (hk : Nat.beq ti.kind 3 = true := by exact rfl) (h : 0 ≤ lo ∧ lo ≤ l.length := by omega) :
    QOp P ⟨d, .slice t x (some y) none none, ty, pos, af, g⟩ ρ L (bs (l.drop lo.toNat)) := q_strLo S hx hy ht hk h
theorem qSh (S : Tab P) {t : Nat} {ti : TyI} {x y : Operand} {k : IntKind} {hi : Int} {l : List UInt8} (h00 : okv ρ = true := by exact rfl) (hx : ev ρ x = some (bs l) := by exact rfl) (hy : ev ρ y = some (.int k hi) := by exact rfl) (ht : lkN S.ty t = some ti := by exact rfl) (hk : Nat.beq ti.kind 3 = true := by exact rfl) (h : 0 ≤ hi ∧ hi ≤ l.length := by omega) :
    QOp P ⟨d, .slice t x none (some y) none, ty, pos, af, g⟩ ρ L (bs (l.take hi.toNat)) := q_strHi S hx hy ht hk h
theorem qSb (S : Tab P) {t : Nat} {ti : TyI} {x y z : Operand} {k k2 : IntKind} {lo hi : Int} {l : List UInt8} (h00 : okv ρ = true := by exact rfl) (hx : ev ρ x = some (bs l) := by exact rfl) (hy : ev ρ y = some (.int k lo) := by exact rfl) (hz : ev ρ z = some (.int k2 hi) := by exact rfl) (ht : lkN S.ty t = some ti := by exact rfl) (hk : Nat.beq ti.kind 3 = true := by exact rfl) (h : 0 ≤ lo ∧ lo ≤ hi ∧ hi ≤ l.length := by omega) :
    QOp P ⟨d, .slice t x (some y) (some z) none, ty, pos, af, g⟩ ρ L (bs ((l.take hi.toNat).drop lo.toNat)) := q_strLH S hx hy hz ht hk h
theorem qt (S : Tab P) {t t2 E y0 s0 b0 x1 y1 s1 by1 : Nat} {ti : TyI} {x : Operand} {a : Option Addr} {cap : Nat} {l : List UInt8} (h00 : okv ρ = true := by exact rfl) (hx : ev ρ x = some (.slice a l.length cap) := by exact rfl) (ht : lkN S.ty t = some ⟨5, E, y0, s0, b0⟩ := by exact rfl) (he : lkN S.ty E = some ⟨2, x1, y1, s1, by1⟩ := by exact rfl) (hu : Nat.beq x1 4 = true := by exact rfl)
    (ht2 : lkN S.ty t2 = some ti := by exact rfl) (h3 : Nat.beq ti.kind 3 = true := by exact rfl) (hR : Rd uc 1 L a l := by (repeat (first | assumption | apply Rd.cons))) : QOp P ⟨d, .convert t t2 x, ty, pos, af, g⟩ ρ L (bs l) := q_toString S hx ht he hu ht2 h3 hR
theorem qA (S : Tab P) {t t' : Nat} {l : List Nat} {x y : Operand} {xs ys : List Value} {r : Bool} (h00 : okv ρ = true := by exact rfl) (hx : ev ρ x = some (.agg ⟨xs⟩) := by exact rfl) (hy : ev ρ y = some (.agg ⟨ys⟩) := by exact rfl) (ht : lkN S.eq t = some l := by exact rfl) (he : eqF l xs ys = some r := by exact rfl) : QOp P ⟨d, .binOp .eql t x y t', ty, pos, af, g⟩ ρ L (.bool r) := q_eqA (S := S) hx hy ht he
theorem qB (S : Tab P) {t t' : Nat} {l : List Nat} {x y : Operand} {xs ys : List Value} {r : Bool} (h00 : okv ρ = true := by exact rfl) (hx : ev ρ x = some (.agg ⟨xs⟩) := by exact rfl) (hy : ev ρ y = some (.agg ⟨ys⟩) := by exact rfl) (ht : lkN S.eq t = some l := by exact rfl) (he : eqF l xs ys = some r := by exact rfl) : QOp P ⟨d, .binOp .neq t x y t', ty, pos, af, g⟩ ρ L (.bool (!r)) := q_neA (S := S) hx hy ht he
/-- bytes as text, the length told -/
theorem qtx (S : Tab P) {t t2 E y0 s0 b0 x1 y1 s1 by1 len : Nat} {ti : TyI} {x : Operand} {a : Option Addr} {cap : Nat} {l : List UInt8} (hR : Rd uc 1 L a l) (hlen : l.length = len) (h00 : okv ρ = true := by exact rfl) (hx : ev ρ x = some (.slice a len cap) := by exact rfl) (ht : lkN S.ty t = some ⟨5, E, y0, s0, b0⟩ := by exact rfl) (he : lkN S.ty E = some ⟨2, x1, y1, s1, by1⟩ := by exact rfl) (hu : Nat.beq x1 4 = true := by exact rfl)
    (ht2 : lkN S.ty t2 = some ti := by exact rfl) (h3 : Nat.beq ti.kind 3 = true := by exact rfl) : QOp P ⟨d, .convert t t2 x, ty, pos, af, g⟩ ρ L (bs l) := by subst hlen; exact q_toString S hx ht he hu ht2 h3 hR
theorem wrap_u8 (n : Int) : IntKind.u8.wrap n = n % 256 := by simp [IntKind.wrap, IntKind.bits, IntKind.signed]
theorem wrap_u32 (n : Int) : IntKind.u32.wrap n = n % 4294967296 := by simp [IntKind.wrap, IntKind.bits, IntKind.signed]
theorem q_cut (S : Tab P) {src dst : Nat} {ti ts : TyI} {x : Operand} {k : IntKind} {n : Int} (hx : ev ρ x = some (.int k n)) (ht : lkN S.ty dst = some ti) (hs : lkN S.ty src = some ts) (hk : Nat.beq ti.kind 2 = true) : QOp P ⟨d, .convert src dst x, ty, pos, af, g⟩ ρ L (.int (kindOf ti.x) ((kindOf ti.x).wrap n)) :=
  q_run fun ρe he k' w hsat => by
    have e1 := ty_int (S.tyI ht) (Nat.eq_of_beq_eq_true hk)
    obtain ⟨ds, hds⟩ := Option.isSome_iff_exists.1 (ty_isSome (S.tyI hs))
    simp [execOp, he x (by simp [Op.operands]) _ hx, convert, run_underlying e1, run_underlying hds, Conv.intToInt]
/-- a number's lowest byte; its lowest 32 bits -/
theorem qc8 (S : Tab P) {src dst : Nat} {ti ts : TyI} {x : Operand} {k : IntKind} {n : Int} (h00 : okv ρ = true := by exact rfl) (hx : ev ρ x = some (.int k n) := by exact rfl) (ht : lkN S.ty dst = some ti := by exact rfl) (hs : lkN S.ty src = some ts := by exact rfl) (hk : Nat.beq ti.kind 2 = true := by exact rfl) (h8 : Nat.beq ti.x 4 = true := by exact rfl) :
    QOp P ⟨d, .convert src dst x, ty, pos, af, g⟩ ρ L (.int .u8 (n % 256)) := by
  have := q_cut (d := d) (ty := ty) (pos := pos) (af := af) (g := g) (L := L) S hx ht hs hk
  rw [Nat.eq_of_beq_eq_true h8] at this
  rw [← wrap_u8]
  exact this
theorem qc32 (S : Tab P) {src dst : Nat} {ti ts : TyI} {x : Operand} {k : IntKind} {n : Int} (h00 : okv ρ = true := by exact rfl) (hx : ev ρ x = some (.int k n) := by exact rfl) (ht : lkN S.ty dst = some ti := by exact rfl) (hs : lkN S.ty src = some ts := by exact rfl) (hk : Nat.beq ti.kind 2 = true := by exact rfl) (h8 : Nat.beq ti.x 6 = true := by exact rfl) :
    QOp P ⟨d, .convert src dst x, ty, pos, af, g⟩ ρ L (.int .u32 (n % 4294967296)) := by
  have := q_cut (d := d) (ty := ty) (pos := pos) (af := af) (g := g) (L := L) S hx ht hs hk
  rw [Nat.eq_of_beq_eq_true h8] at this
  rw [← wrap_u32]
  exact this
/-- ^c -/
theorem qx32 (S : Tab P) {t : Nat} {x : Operand} {n : Int} (h00 : okv ρ = true := by exact rfl) (hx : ev ρ x = some (.int .u32 n) := by exact rfl) (h : 0 ≤ n ∧ n ≤ 4294967295 := by omega) : QOp P ⟨d, .unOp .xor t x, ty, pos, af, g⟩ ρ L (.int .u32 (4294967295 - n)) :=
  q_run fun ρe he k w hs => by
    have e : IntKind.u32.wrap (BitVec.ofInt IntKind.u32.bits 4294967295 ^^^ BitVec.ofInt IntKind.u32.bits n).toNat = 4294967295 - n := by
      have h2 : IntKind.u32.bits = 32 := rfl
      rw [h2]
      have h1 : BitVec.ofInt 32 4294967295 = BitVec.allOnes 32 := by decide
      have h3 : (BitVec.allOnes 32 ^^^ BitVec.ofInt 32 n) = ~~~ BitVec.ofInt 32 n := BitVec.allOnes_xor
      have h4 : (BitVec.ofInt 32 n).toNat = n.toNat := ofInt_nat (k := .u32) h.1 h.2
      rw [h1, h3, wrap_u32, BitVec.toNat_not, h4]
      omega
    have e2 : (if IntKind.u32.signed = true then (-1 : Int) else IntKind.u32.max) = 4294967295 := by decide
    have e3 : (Op.intBits .xor .u32 4294967295 n).run P w = .ok (.int .u32 (4294967295 - n)) w := by
      simp only [Op.intBits]
      exact congrArg (fun z => Result.ok (Value.int .u32 z) w) e
    simp only [execOp, he x (by simp [Op.operands]) _ hx, Op.unary, e2]
    simp [e3]
/-- a call that changes nothing -/
theorem qC {f : Operand} {as : Array Operand} {ts : Array TypeId} {F : Nat} {cap args args' : List Value} {v : Value} (hc : HC P F args' L (fun u L' => u = v ∧ L' = L)) (h00 : okv ρ = true := by exact rfl) (hf : ev ρ f = some (.func (.func F) #[] ⟨cap⟩) := by exact rfl) (ha : evs ρ as.toList = some args := by exact rfl) (he : args ++ cap = args' := by exact rfl) :
    QOp P ⟨d, .call { callee := .value f, args := as, argTypes := ts }, ty, pos, af, g⟩ ρ L v := q_call hf ha (he ▸ hc)
end q

/-! ### what writes -/
section o
variable {P : Program} (S : Tab P) {n : Nat} {ops : List Oper} {Q : Exit → Env → Heap → Prop} {rest : List Oper} {ρ : Env} {L : Heap} {ty : TypeId} {pos : String} {af : Array Edge}
theorem wa {d E : Nat} {z : Value} {zs : List Value} (h : ∀ b, HO P n ops Q rest ((d, pt b 0) :: ρ) ([(b, .cells ⟨zs⟩ E)] :: L)) (h00 : okv ρ = true := by exact rfl) (hz : lkN S.zr E = some z := by exact rfl) (hc : z.cells = ⟨zs⟩ := by exact rfl) (hn : Nat.blt d n = true := by exact rfl) : HO P n ops Q (⟨some d, .alloc E, ty, pos, af, none⟩ :: rest) ρ L := o_alloc S hz hc hn h
theorem wb {d E : Nat} {x : Operand} {v : Value} {vs : List Value} (h : ∀ b, HO P n ops Q rest ((d, pt b 0) :: ρ) ([(b, .cells ⟨vs⟩ E)] :: L)) (h00 : okv ρ = true := by exact rfl) (hx : ev ρ x = some v := by exact rfl) (hc : v.cells = ⟨vs⟩ := by exact rfl) (hn : Nat.blt d n = true := by exact rfl) : HO P n ops Q (⟨some d, .box E x, ty, pos, af, none⟩ :: rest) ρ L := o_box hx hc hn h
theorem ws {t b i E : Nat} {ti : TyI} {x y : Operand} {v : Value} {vs l l' : List Value} {L' : Heap} (h : HO P n ops Q rest ρ L') (h00 : okv ρ = true := by exact rfl) (hx : ev ρ x = some (pt b i) := by exact rfl) (hy : ev ρ y = some v := by exact rfl) (ht : lkN S.ty t = some ti := by exact rfl)
    (hc : v.cells = ⟨vs⟩ := by exact rfl) (hsz : ti.size = vs.length := by exact rfl) (h1 : (vs.all Value.oneCell') = true := by exact rfl) (hu : Upd L b (.cells ⟨l⟩ E (0, 0)) (.cells ⟨l'⟩ E (0, 0)) L' := by (repeat (first | exact upd_here | apply upd_in | apply upd_next)))
    (hp : Puts l i vs l' := by (first | assumption | exact puts_all rfl | exact puts_zero | exact puts_succ puts_zero | exact puts_succ (puts_succ puts_zero) | (repeat (first | exact puts_zero | apply puts_succ)))) : HO P n ops Q (⟨none, .store t x y, ty, pos, af, none⟩ :: rest) ρ L := o_store S hx hy ht hc hsz h1 hp hu h
theorem wS {d t E y0 s0 b0 k1 x1 y1 by1 len : Nat} {z : Value} {zv : Value} {vals : List Value} {parts : Array (Nat × Operand)} (h : ∀ b, HO P n ops Q rest ((d, sl b 0 len len) :: ρ) ([(b, .cells ⟨vals⟩ E)] :: L)) (h00 : okv ρ = true := by exact rfl) (ht : lkN S.ty t = some ⟨5, E, y0, s0, b0⟩ := by exact rfl) (he : lkN S.ty E = some ⟨k1, x1, y1, 1, by1⟩ := by exact rfl) (hz : lkN S.zr E = some z := by exact rfl) (hzs : z.cells = ⟨[zv]⟩ := by exact rfl)
    (hp : evIx ρ 0 parts.toList = some vals := by exact rfl) (hlen : vals.length = len := by exact rfl) (hsm : Nat.ble len 16777216 = true := by exact rfl) (h1 : (vals.all Value.oneCell') = true := by exact rfl) (hn : Nat.blt d n = true := by exact rfl) : HO P n ops Q (⟨some d, .buildSlice t len parts, ty, pos, af, none⟩ :: rest) ρ L :=
  o_buildSlice1 S ht he hz hzs hp hlen hsm h1 hn h
theorem wm {d t E y0 s0 b0 k1 x1 y1 by1 : Nat} {z zv : Value} {x y : Operand} {kl kc : IntKind} {l c : Int} (h : ∀ b, HO P n ops Q rest ((d, sl b 0 l.toNat c.toNat) :: ρ) ([(b, .cells ⟨List.replicate c.toNat zv⟩ E)] :: L)) (h00 : okv ρ = true := by exact rfl) (hx : ev ρ x = some (.int kl l) := by exact rfl) (hy : ev ρ y = some (.int kc c) := by exact rfl) (ht : lkN S.ty t = some ⟨5, E, y0, s0, b0⟩ := by exact rfl) (he : lkN S.ty E = some ⟨k1, x1, y1, 1, by1⟩ := by exact rfl)
    (hz : lkN S.zr E = some z := by exact rfl) (hzs : z.cells = #[zv] := by exact rfl) (hn : Nat.blt d n = true := by exact rfl) (hc : 0 ≤ l ∧ l ≤ c ∧ (by1 : Int) * c ≤ 281474976710656 ∧ c ≤ 9223372036854775807 := by omega) : HO P n ops Q (⟨some d, .makeSlice t x y, ty, pos, af, none⟩ :: rest) ρ L := o_makeSlice1 S hx hy ht he hz hzs hn hc h
/-- a call by its contract -/
theorem gc {d : Nat} {f : Operand} {as : Array Operand} {ts : Array TypeId} {F : Nat} {cap args args' : List Value} {R : Value → Heap → Prop} (hc : HC P F args' L R) (h : ∀ v L', R v L' → HO P n ops Q rest ((d, v) :: ρ) L')
    (h00 : okv ρ = true := by exact rfl) (hf : ev ρ f = some (.func (.func F) #[] ⟨cap⟩) := by exact rfl) (ha : evs ρ as.toList = some args := by exact rfl) (he : args ++ cap = args' := by exact rfl) (hn : Nat.blt d n = true := by exact rfl) : HO P n ops Q (⟨some d, .call { callee := .value f, args := as, argTypes := ts }, ty, pos, af, none⟩ :: rest) ρ L :=
  o_call hf ha (he ▸ hc) hn h
/-- one component comes first -/
def pickL : Nat → Heap → Option (List Blk × Heap)
  | _, [] => none
  | 0, c :: r => some (c, r)
  | k + 1, c :: r => match pickL k r with
    | some (x, r') => some (x, c :: r')
    | none => none
theorem pickL_perm : ∀ {k : Nat} {L : Heap} {c : List Blk} {L' : Heap}, pickL k L = some (c, L') → List.Perm L (c :: L')
  | k, [], _, _, h => by cases k <;> simp [pickL] at h
  | 0, c :: r, _, _, h => by simp [pickL] at h; obtain ⟨rfl, rfl⟩ := h; exact .refl _
  | k + 1, c :: r, x, _, h => by
    simp only [pickL] at h
    split at h
    · rename_i y r' hy
      simp at h
      obtain ⟨rfl, rfl⟩ := h
      exact ((pickL_perm hy).cons c).trans (.swap _ _ _)
    · cases h
theorem fo {c : List Blk} {L' : Heap} {l : List Oper} (k0 : Nat) (h : HO P n ops Q l ρ (c :: L')) (h00 : okv ρ = true := by exact rfl) (hp : pickL k0 L = some (c, L') := by exact rfl) : HO P n ops Q l ρ L := ho_perm h (pickL_perm hp)
theorem fw {c : List Blk} {L' : Heap} {x : Code} (k0 : Nat) (h : HW P n x Q ρ (c :: L')) (h00 : okv ρ = true := by exact rfl) (hp : pickL k0 L = some (c, L') := by exact rfl) : HW P n x Q ρ L := hw_perm h (pickL_perm hp)
theorem Has.perm {L L' : Heap} {b : Nat} {o : Obj} (h : Has L b o) (hp : List.Perm L L') : Has L' b o := by
  unfold Has at *
  exact hp.flatten.mem_iff.1 h
theorem HC.perm {F : Nat} {args : List Value} {L L' : Heap} {R : Value → Heap → Prop} (h : HC P F args L' R) (hp : List.Perm L L') : HC P F args L R := ⟨h.1, fun k w hs => h.2 k w (hs.perm hp)⟩
theorem HC.drop {F : Nat} {args : List Value} {L L' : Heap} {R : Value → Heap → Prop} (h : HC P F args L' R) (hp : List.Sublist L' L) : HC P F args L R := ⟨h.1, fun k w hs => h.2 k w (hs.sub hp)⟩
end o

section f
variable {P : Program} {n : Nat} {ops : List Oper} {Q : Exit → Env → Heap → Prop} {Qv : Value → Heap → Prop} {ρ : Env} {L : Heap} {fn : Func}
theorem Sat.fl {k : Ctx} {w : World} {L L' : Heap} (h : Sat k w L) (hf : L'.flatten = L.flatten) : Sat k w L' := ⟨h.os, h.out, h.tape, fun p hp => h.has p (hf ▸ hp), hf ▸ h.nodup⟩
theorem hw_fl {c : Code} {L' : Heap} (h : HW P n c Q ρ L') (hf : L'.flatten = L.flatten := by exact rfl) : HW P n c Q ρ L := fun k w a hs ha => h k w a (hs.fl hf) ha
theorem ho_fl {l : List Oper} {L' : Heap} (h : HO P n ops Q l ρ L') (hf : L'.flatten = L.flatten := by exact rfl) : HO P n ops Q l ρ L := fun k w a hs ha => h k w a (hs.fl hf) ha
theorem hw_sp {c : Code} {L' : Heap} (h : HW P n c Q ρ L') (hf : LS L'.flatten L.flatten) : HW P n c Q ρ L := fun k w a hs ha => h k w a (hs.sp hf) ha
theorem ho_sp {l : List Oper} {L' : Heap} (h : HO P n ops Q l ρ L') (hf : LS L'.flatten L.flatten) : HO P n ops Q l ρ L := fun k w a hs ha => h k w a (hs.sp hf) ha
theorem HC.fl {F : Nat} {args : List Value} {L L' : Heap} {R : Value → Heap → Prop} (h : HC P F args L' R) (hf : L'.flatten = L.flatten := by exact rfl) : HC P F args L R := ⟨h.1, fun k w hs => h.2 k w (hs.fl hf)⟩
theorem HC.sp {F : Nat} {args : List Value} {L L' : Heap} {R : Value → Heap → Prop} (h : HC P F args L' R) (hf : LS L'.flatten L.flatten) : HC P F args L R := ⟨h.1, fun k w hs => h.2 k w (hs.sp hf)⟩
/-- the post on other cuts -/
theorem HC.post {F : Nat} {args : List Value} {L : Heap} {R R' : Value → Heap → Prop} (h : HC P F args L R) (hr : ∀ v L', R v L' → ∃ L2, LS L2.flatten L'.flatten ∧ R' v L2) : HC P F args L R' :=
  ⟨h.1, fun k w hs => (h.2 k w hs).mono fun e w' ⟨v, L', he, hs', hq⟩ => by obtain ⟨L2, h1, h2⟩ := hr v L' hq; exact ⟨v, L2, he, hs'.sp h1, h2⟩⟩
theorem er0 {L' : Heap} (hL : L'.flatten = L.flatten) (h : Qv (.tuple #[]) L') (hr : fn.results = #[] := by rfl) : fnQ P fn Qv .ret ρ L := fun k w a hs ha => ⟨_, L', by simp [results, hr], hs.fl hL, h⟩
theorem ee0 {L' : Heap} (hL : L'.flatten = L.flatten) (h : Qv (.tuple #[]) L') (hr : fn.results = #[] := by rfl) : fnQ P fn Qv .normal ρ L := fun k w a hs ha => ⟨_, L', by simp [results, hr], hs.fl hL, h⟩
theorem er1 {r : ResultVar} {v : Value} {L' : Heap} (hL : L'.flatten = L.flatten) (h : Qv v L') (hr : fn.results = #[r] := by rfl) (hv : ResV P ρ L r v := by rfl) : fnQ P fn Qv .ret ρ L :=
  fun k w a hs ha => ⟨v, L', by simp [results_rv, hr, hv.run hs ha], hs.fl hL, h⟩
theorem er2 {r s : ResultVar} {x y : Value} {L' : Heap} (hL : L'.flatten = L.flatten) (h : Qv (.tuple ⟨[x, y]⟩) L') (hr : fn.results = #[r, s] := by rfl) (hx : ResV P ρ L r x := by rfl) (hy : ResV P ρ L s y := by rfl) : fnQ P fn Qv .ret ρ L :=
  fun k w a hs ha => ⟨.tuple ⟨[x, y]⟩, L', by simp [results_rv, hr, hx.run hs ha, hy.run hs ha], hs.fl hL, h⟩
theorem sp1 {r : ResultVar} {v : Value} {L' : Heap} (hL : LS L'.flatten L.flatten) (h : Qv v L') (hr : fn.results = #[r] := by rfl) (hv : ResV P ρ L r v := by rfl) : fnQ P fn Qv .ret ρ L :=
  fun k w a hs ha => ⟨v, L', by simp [results_rv, hr, hv.run hs ha], hs.sp hL, h⟩
theorem sp2 {r s : ResultVar} {x y : Value} {L' : Heap} (hL : LS L'.flatten L.flatten) (h : Qv (.tuple ⟨[x, y]⟩) L') (hr : fn.results = #[r, s] := by rfl) (hx : ResV P ρ L r x := by rfl) (hy : ResV P ρ L s y := by rfl) : fnQ P fn Qv .ret ρ L :=
  fun k w a hs ha => ⟨.tuple ⟨[x, y]⟩, L', by simp [results_rv, hr, hx.run hs ha, hy.run hs ha], hs.sp hL, h⟩
theorem sp3 {r s q : ResultVar} {x y z : Value} {L' : Heap} (hL : LS L'.flatten L.flatten) (h : Qv (.tuple ⟨[x, y, z]⟩) L') (hr : fn.results = #[r, s, q] := by rfl) (hx : ResV P ρ L r x := by rfl) (hy : ResV P ρ L s y := by rfl) (hz : ResV P ρ L q z := by rfl) : fnQ P fn Qv .ret ρ L :=
  fun k w a hs ha => ⟨.tuple ⟨[x, y, z]⟩, L', by simp [results_rv, hr, hx.run hs ha, hy.run hs ha, hz.run hs ha], hs.sp hL, h⟩
/-- a result that lies in a cell -/
theorem rcell (S : Tab P) {t T b i E : Nat} {ti : TyI} {l vs : List Value} {fr : Nat × Nat} (hp : lk ρ t = some (pt b i) := by rfl) (ht : lkN S.ty T = some ti := by rfl) (h7 : (Nat.beq ti.kind 6 || Nat.beq ti.kind 7) = true := by rfl)
    (hb : Has L b (.cells ⟨l⟩ E fr) := by (repeat (first | assumption | exact has_here | exact has_mem (by assumption) | apply has_in | apply has_next))) (hg : Gets l i vs) (hn : ti.size = vs.length := by rfl) : ResV P ρ L (.cell t T) (.agg ⟨vs⟩) :=
  ⟨⟨b, i, none⟩, hp, fun k w hs => by
    have h1 := ty_agg (S.tyI ht) h7 w
    have h2 := load_cells (P := P) hs hb hg
    have h3 := ty_size (S.tyI ht) w
    simp [loadVar, h1, h2, h3, hn]⟩
end f

/-! ### drawn regions -/
section d
variable {P : Program} (S : Tab P) {n : Nat} {ops : List Oper} {Q : Exit → Env → Heap → Prop} {Ss : List (Nat × Blk)} {rem rem' : List (Nat × Oper)} {ρ : Env} {L : Heap} {op : Op} {ty : TypeId} {pos : String} {af : Array Edge} {g : Option (Nat × Bool)} {d i : Nat}
/-- what hangs on no memory -/
theorem d_q {v : Value} (k : Nat) (hp : pickS k rem = some ((i, ⟨some d, op, ty, pos, af, g⟩), rem')) (h : ∀ L, QOp P ⟨some d, op, ty, pos, af, g⟩ ρ L v) (hr : HD P n ops Q Ss rem' ((d, v) :: ρ) L) (h00 : okv ρ = true := by exact rfl) (hg : guardE ops ρ g = some true := by exact rfl) (hn : Nat.blt d n = true := by exact rfl)
    (hc : chkQ ops rem' i ⟨some d, op, ty, pos, af, g⟩ = true := by decide +kernel) : HD P n ops Q Ss rem ρ L := hd_q (F := []) hp hc rfl hn (.inl ⟨hg, fun L _ => h L⟩) (by simp) hr
theorem d_n (k : Nat) (hr : HD P n ops Q Ss rem' ((d, undef) :: ρ) L) (h00 : okv ρ = true := by exact rfl) (hp : pickS k rem = some ((i, ⟨some d, op, ty, pos, af, g⟩), rem') := by exact rfl) (hg : guardE ops ρ g = some false := by exact rfl) (hn : Nat.blt d n = true := by exact rfl)
    (hc : chkQ ops rem' i ⟨some d, op, ty, pos, af, g⟩ = true := by decide +kernel) : HD P n ops Q Ss rem ρ L := hd_q (F := []) hp hc rfl hn (.inr ⟨hg, rfl⟩) (by simp) hr
/-- what hangs on one block -/
theorem d_l {v : Value} {b : Nat} {o : Obj} (k : Nat) (h : ∀ L, Has L b o → QOp P ⟨some d, op, ty, pos, af, g⟩ ρ L v) (hb : Has L b o) (hr : HD P n ops Q ((i, (b, o)) :: Ss) rem' ((d, v) :: ρ) L) (h00 : okv ρ = true := by exact rfl) (hp : pickS k rem = some ((i, ⟨some d, op, ty, pos, af, g⟩), rem') := by exact rfl) (hg : guardE ops ρ g = some true := by exact rfl) (hn : Nat.blt d n = true := by exact rfl)
    (hc : chkQ ops rem' i ⟨some d, op, ty, pos, af, g⟩ = true := by decide +kernel) : HD P n ops Q Ss rem ρ L := hd_q (F := [(b, o)]) hp hc rfl hn (.inl ⟨hg, fun L hL => h L (hL (b, o) (by simp))⟩) (by simpa using hb) hr
theorem dl {t b a E : Nat} {ti : TyI} {x : Operand} {l : List Value} {fr : Nat × Nat} {v : Value} (k : Nat) (hr : HD P n ops Q ((i, (b, .cells ⟨l⟩ E fr)) :: Ss) rem' ((d, v) :: ρ) L) (h00 : okv ρ = true := by exact rfl) (hp : pickS k rem = some ((i, ⟨some d, .load t x, ty, pos, af, g⟩), rem') := by exact rfl)
    (hx : ev ρ x = some (pt b a) := by exact rfl) (ht : lkN S.ty t = some ti := by exact rfl) (h6 : Nat.beq ti.kind 6 = false := by exact rfl) (h7 : Nat.beq ti.kind 7 = false := by exact rfl) (hg : guardE ops ρ g = some true := by exact rfl) (hn : Nat.blt d n = true := by exact rfl)
    (hb : Has L b (.cells ⟨l⟩ E fr) := by (repeat (first | assumption | exact has_here | exact has_mem (by assumption) | apply has_in | apply has_next))) (hv : l[a]? = some v := by (first | exact rfl | assumption | exact Gets.at (by assumption) rfl | exact Gets.at0 (by assumption) rfl))
    (hc : chkQ ops rem' i ⟨some d, .load t x, ty, pos, af, g⟩ = true := by decide +kernel) : HD P n ops Q Ss rem ρ L := d_l k (fun L h => q_load S hx ht h6 h7 h hv) hb hr h00 hp hg hn hc
theorem ds {t b a E : Nat} {ti : TyI} {x : Operand} {l vs : List Value} {fr : Nat × Nat} (k : Nat) (hr : HD P n ops Q ((i, (b, .cells ⟨l⟩ E fr)) :: Ss) rem' ((d, .agg ⟨vs⟩) :: ρ) L) (h00 : okv ρ = true := by exact rfl) (hp : pickS k rem = some ((i, ⟨some d, .load t x, ty, pos, af, g⟩), rem') := by exact rfl)
    (hx : ev ρ x = some (pt b a) := by exact rfl) (ht : lkN S.ty t = some ti := by exact rfl) (h7 : (Nat.beq ti.kind 6 || Nat.beq ti.kind 7) = true := by exact rfl) (hg : guardE ops ρ g = some true := by exact rfl) (hn : Nat.blt d n = true := by exact rfl)
    (hb : Has L b (.cells ⟨l⟩ E fr) := by (repeat (first | assumption | exact has_here | exact has_mem (by assumption) | apply has_in | apply has_next)))
    (hv : Gets l a vs ∧ ti.size = vs.length := by (first | (refine gets_len (by assumption) ?_; rfl) | exact ⟨gets_cons rfl (gets_cons rfl (gets_cons rfl gets_nil)), rfl⟩ | exact ⟨gets_cons rfl (gets_cons rfl gets_nil), rfl⟩ | exact ⟨gets_cons rfl (gets_cons rfl (gets_cons rfl (gets_cons rfl gets_nil))), rfl⟩ | exact ⟨gets_cons rfl (gets_cons rfl (gets_cons rfl (gets_cons rfl (gets_cons rfl (gets_cons rfl (gets_cons rfl (gets_cons rfl (gets_cons rfl gets_nil)))))))), rfl⟩))
    (hc : chkQ ops rem' i ⟨some d, .load t x, ty, pos, af, g⟩ = true := by decide +kernel) : HD P n ops Q Ss rem ρ L := d_l k (fun L h => q_loads S hx ht h7 h hv) hb hr h00 hp hg hn hc
theorem dg {t G : Nat} {ti : TyI} {v : Value} {L0 : Heap} (k : Nat) (hr : ∀ o, Has L0 G o → HD P n ops Q ((i, (G, o)) :: Ss) rem' ((d, v) :: ρ) L) (h00 : okv ρ = true := by exact rfl) (hp : pickS k rem = some ((i, ⟨some d, .load t (.global G), ty, pos, af, g⟩), rem') := by exact rfl)
    (ht : lkN S.ty t = some ti := by exact rfl) (h6 : Nat.beq ti.kind 6 = false := by exact rfl) (h7 : Nat.beq ti.kind 7 = false := by exact rfl) (hg : guardE ops ρ g = some true := by exact rfl) (hn : Nat.blt d n = true := by exact rfl)
    (hG : Gl L0 G v := by first | assumption | exact Errs.get (by assumption) rfl rfl) (hL : ∀ o, Has L0 G o → Has L G o := by (intro o ho; repeat (first | assumption | apply has_next | apply has_in)))
    (hc : chkQ ops rem' i ⟨some d, .load t (.global G), ty, pos, af, g⟩ = true := by decide +kernel) : HD P n ops Q Ss rem ρ L := by
  obtain ⟨l, E, fr, h1, h2⟩ := hG
  exact d_l k (fun L h => q_load S (x := .global G) rfl ht h6 h7 h h2) (hL _ h1) (hr _ h1) h00 hp hg hn hc
theorem d_s {t j o : Nat} {q : Oper} {b wt : Bool} (k : Nat) (h1 : b = true → HD P n ops Q Ss rem ((t, .bool true) :: ρ) L) (h0 : b = false → HD P n ops Q Ss rem ((t, .bool false) :: ρ) L) (h00 : okv ρ = true := by exact rfl) (hp : pickS k rem = some ((i, q), rem') := by exact rfl) (hq : q.guard = some (j, wt) := by exact rfl) (hj : gdst ops j = some t := by exact rfl) (ht : lk ρ t = some (.bool b) := by exact rfl) (hb : guardE ops ρ (some (j, wt)) = none := by exact rfl) : HD P n ops Q Ss rem ρ L := hd_split ht h1 h0
theorem da {o : Oper} (k : Nat) (h : HO P n ops (actQ P n ops Q i Ss rem') [o] ρ L) (h00 : okv ρ = true := by exact rfl) (hp : pickS k rem = some ((i, o), rem') := by exact rfl) (hc : chkA ops rem' i o = true := by decide +kernel) : HD P n ops Q Ss rem ρ L := hd_act hp hc h
def nextP (ops : List Oper) (i : Nat) (L : Heap) : List (Nat × Blk) → (List (Nat × Blk) → Prop) → Prop
  | [], K => K []
  | (i0, p) :: r, K => bif keepE ops i0 i then Has L p.1 p.2 ∧ nextP ops i L r (fun l => K ((i0, p) :: l)) else nextP ops i L r K
theorem nextP_eq : ∀ {Ss : List (Nat × Blk)} {K : List (Nat × Blk) → Prop}, nextP ops i L Ss K → ssOk ops i L Ss ∧ K (ssF ops i Ss)
  | [], K, h => ⟨trivial, h⟩
  | (i0, p) :: r, K, h => by
    simp only [nextP] at h
    cases hk : keepE ops i0 i with
    | true =>
      rw [hk] at h
      obtain ⟨h1, h2⟩ := nextP_eq h.2
      refine ⟨⟨.inr h.1, h1⟩, ?_⟩
      simpa [ssF, hk] using h2
    | false =>
      rw [hk] at h
      obtain ⟨h1, h2⟩ := nextP_eq h
      refine ⟨⟨.inl hk, h1⟩, ?_⟩
      simpa [ssF, hk] using h2
theorem dx (h : nextP ops i L Ss fun Ss' => HD P n ops Q Ss' rem ρ L) : actQ P n ops Q i Ss rem .normal ρ L := nextP_eq h
theorem dx0 {K : List (Nat × Blk) → Prop} (h : K []) : nextP ops i L [] K := h
theorem dxk {i0 : Nat} {p : Blk} {r : List (Nat × Blk)} {K : List (Nat × Blk) → Prop} (h : nextP ops i L r (fun l => K ((i0, p) :: l))) (hk : keepE ops i0 i = true := by exact rfl) (hb : Has L p.1 p.2 := by (repeat (first | assumption | exact has_here | exact has_mem (by assumption) | apply has_in | apply has_next))) : nextP ops i L ((i0, p) :: r) K := by
  simp only [nextP, hk]; exact ⟨hb, h⟩
theorem dxd {i0 : Nat} {p : Blk} {r : List (Nat × Blk)} {K : List (Nat × Blk) → Prop} (h : nextP ops i L r K) (hk : keepE ops i0 i = false := by exact rfl) : nextP ops i L ((i0, p) :: r) K := by
  simp only [nextP, hk]; exact h
end d
end Go.HL
