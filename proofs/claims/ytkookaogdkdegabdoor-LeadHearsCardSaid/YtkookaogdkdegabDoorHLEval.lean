/- The heap logic: what an operation yields that reads no memory, by reckoning; its side condition. No program in sight. Conditions: none. -/
import Derived.Test.YtkookaogdkdegabDoorHLMore
namespace Go.HL
open Go
set_option linter.unusedVariables false
set_option linter.unusedSimpArgs false

def kEq (k k' : IntKind) : Bool := Nat.beq (kindNo k) (kindNo k')
theorem kEq_eq {k k' : IntKind} (h : kEq k k' = true) : k = k' := by
  have := congrArg kindOf (Nat.eq_of_beq_eq_true h)
  rwa [kindOf_no, kindOf_no] at this

def hiE : IntKind → Int
  | .i8 => 127 | .i16 => 32767 | .i32 => 2147483647 | .i64 => 9223372036854775807 | .u8 => 255 | .u16 => 65535 | .u32 => 4294967295 | .u64 => 18446744073709551615
def loE : IntKind → Int
  | .i8 => -128 | .i16 => -32768 | .i32 => -2147483648 | .i64 => -9223372036854775808 | _ => 0
def wdE : IntKind → Int
  | .i8 => 8 | .i16 => 16 | .i32 => 32 | .i64 => 64 | .u8 => 8 | .u16 => 16 | .u32 => 32 | .u64 => 64
def wdN : IntKind → Nat
  | .i8 => 7 | .i16 => 15 | .i32 => 31 | .i64 => 63 | .u8 => 8 | .u16 => 16 | .u32 => 32 | .u64 => 64
theorem wrap_id {k : IntKind} {n : Int} (h0 : loE k ≤ n) (h1 : n ≤ hiE k) : k.wrap n = n := by
  cases k <;> simp only [loE, hiE] at h0 h1 <;> simp [IntKind.wrap, IntKind.bits, IntKind.signed] <;> (try split) <;> omega
theorem hiE_wd (k : IntKind) : hiE k = 2 ^ (wdN k) - 1 := by cases k <;> rfl
theorem ofInt_nat {k : IntKind} {n : Int} (h0 : 0 ≤ n) (h1 : n ≤ hiE k) : (BitVec.ofInt k.bits n).toNat = n.toNat := by
  rw [BitVec.toNat_ofInt]
  cases k <;> simp only [hiE] at h1 <;> simp only [IntKind.bits] <;> omega
theorem lt_wd {k : IntKind} {n : Int} (h0 : 0 ≤ n) (h1 : n ≤ hiE k) : n.toNat < 2 ^ wdN k := by
  cases k <;> simp only [hiE] at h1 <;> simp only [wdN] <;> omega
theorem le_hi {k : IntKind} {n : Nat} (h : n < 2 ^ wdN k) : (n : Int) ≤ hiE k := by
  cases k <;> simp only [wdN] at h <;> simp only [hiE] <;> omega
theorem lo_le {k : IntKind} {n : Nat} : loE k ≤ (n : Int) := by
  cases k <;> simp only [loE] <;> omega
theorem bits_and {k : IntKind} {a b : Int} (h : 0 ≤ a ∧ a ≤ hiE k ∧ 0 ≤ b ∧ b ≤ hiE k) : k.wrap (BitVec.ofInt k.bits a &&& BitVec.ofInt k.bits b).toNat = ((a.toNat &&& b.toNat : Nat) : Int) := by
  rw [BitVec.toNat_and, ofInt_nat h.1 h.2.1, ofInt_nat h.2.2.1 h.2.2.2]
  exact wrap_id lo_le (le_hi (Nat.lt_of_le_of_lt Nat.and_le_left (lt_wd h.1 h.2.1)))
theorem bits_or {k : IntKind} {a b : Int} (h : 0 ≤ a ∧ a ≤ hiE k ∧ 0 ≤ b ∧ b ≤ hiE k) : k.wrap (BitVec.ofInt k.bits a ||| BitVec.ofInt k.bits b).toNat = ((a.toNat ||| b.toNat : Nat) : Int) := by
  rw [BitVec.toNat_or, ofInt_nat h.1 h.2.1, ofInt_nat h.2.2.1 h.2.2.2]
  exact wrap_id lo_le (le_hi (Nat.or_lt_two_pow (lt_wd h.1 h.2.1) (lt_wd h.2.2.1 h.2.2.2)))
theorem bits_xor {k : IntKind} {a b : Int} (h : 0 ≤ a ∧ a ≤ hiE k ∧ 0 ≤ b ∧ b ≤ hiE k) : k.wrap (BitVec.ofInt k.bits a ^^^ BitVec.ofInt k.bits b).toNat = ((a.toNat ^^^ b.toNat : Nat) : Int) := by
  rw [BitVec.toNat_xor, ofInt_nat h.1 h.2.1, ofInt_nat h.2.2.1 h.2.2.2]
  exact wrap_id lo_le (le_hi (Nat.xor_lt_two_pow (lt_wd h.1 h.2.1) (lt_wd h.2.2.1 h.2.2.2)))
theorem bits_andNot {k : IntKind} {a b : Int} (h : 0 ≤ a ∧ a ≤ hiE k ∧ 0 ≤ b ∧ b ≤ hiE k) : k.wrap (BitVec.ofInt k.bits a &&& ~~~ BitVec.ofInt k.bits b).toNat = ((a.toNat ^^^ (a.toNat &&& b.toNat) : Nat) : Int) := by
  have e : BitVec.ofInt k.bits a &&& ~~~ BitVec.ofInt k.bits b = BitVec.ofInt k.bits a ^^^ (BitVec.ofInt k.bits a &&& BitVec.ofInt k.bits b) := by
    apply BitVec.eq_of_getLsbD_eq
    intro i hi
    simp only [BitVec.getLsbD_and, BitVec.getLsbD_not, BitVec.getLsbD_xor, hi, decide_true, Bool.true_and]
    cases (BitVec.ofInt k.bits a).getLsbD i <;> cases (BitVec.ofInt k.bits b).getLsbD i <;> rfl
  rw [e, BitVec.toNat_xor, BitVec.toNat_and, ofInt_nat h.1 h.2.1, ofInt_nat h.2.2.1 h.2.2.2]
  exact wrap_id lo_le (le_hi (Nat.xor_lt_two_pow (lt_wd h.1 h.2.1) (Nat.lt_of_le_of_lt Nat.and_le_left (lt_wd h.1 h.2.1))))

/-- a number cut to its kind -/
def wrV (k : IntKind) (n : Int) : Value :=
  match k with
  | .u8 => .int .u8 (n % 256)
  | .u16 => .int .u16 (n % 65536)
  | .u32 => .int .u32 (n % 4294967296)
  | .u64 => .int .u64 (n % 18446744073709551616)
  | .i8 => .int .i8 (IntKind.i8.wrap n)
  | .i16 => .int .i16 (IntKind.i16.wrap n)
  | .i32 => .int .i32 (IntKind.i32.wrap n)
  | .i64 => .int .i64 (IntKind.i64.wrap n)
theorem wrV_eq (k : IntKind) (n : Int) : wrV k n = .int k (k.wrap n) := by cases k <;> simp [wrV, IntKind.wrap, IntKind.bits, IntKind.signed]
/-- two integers of one kind -/
def intE (op : BinOp) (k : IntKind) (a b : Int) : Option (Value × Prop) :=
  match op with
  | .lss => some (.bool (decide (a < b)), True)
  | .leq => some (.bool (decide (a ≤ b)), True)
  | .gtr => some (.bool (decide (b < a)), True)
  | .geq => some (.bool (decide (b ≤ a)), True)
  | .eql => some (.bool (decide (a = b)), True)
  | .neq => some (.bool (decide (a ≠ b)), True)
  | .add => bif kEq k .i64 then some (.int .i64 (a + b), -9223372036854775808 ≤ a + b ∧ a + b ≤ 9223372036854775807) else some (wrV k (a + b), True)
  | .sub => bif kEq k .i64 then some (.int .i64 (a - b), -9223372036854775808 ≤ a - b ∧ a - b ≤ 9223372036854775807) else some (wrV k (a - b), True)
  | .mul => bif kEq k .i64 then some (.int .i64 (a * b), -9223372036854775808 ≤ a * b ∧ a * b ≤ 9223372036854775807) else some (wrV k (a * b), True)
  | .quo => bif kEq k .i64 then some (.int .i64 (a / b), 0 ≤ a ∧ a ≤ 9223372036854775807 ∧ 1 ≤ b) else none
  | .rem => bif kEq k .i64 then some (.int .i64 (a % b), 0 ≤ a ∧ a ≤ 9223372036854775807 ∧ 1 ≤ b) else none
  | .and => some (.int k ((a.toNat &&& b.toNat : Nat) : Int), 0 ≤ a ∧ a ≤ hiE k ∧ 0 ≤ b ∧ b ≤ hiE k)
  | .or => some (.int k ((a.toNat ||| b.toNat : Nat) : Int), 0 ≤ a ∧ a ≤ hiE k ∧ 0 ≤ b ∧ b ≤ hiE k)
  | .xor => some (.int k ((a.toNat ^^^ b.toNat : Nat) : Int), 0 ≤ a ∧ a ≤ hiE k ∧ 0 ≤ b ∧ b ≤ hiE k)
  | .andNot => some (.int k ((a.toNat ^^^ (a.toNat &&& b.toNat) : Nat) : Int), 0 ≤ a ∧ a ≤ hiE k ∧ 0 ≤ b ∧ b ≤ hiE k)
  | _ => none
def shE (op : BinOp) (k : IntKind) (a b : Int) : Option (Value × Prop) :=
  match op with
  | .shr => some (.int k (a / 2 ^ b.toNat), 0 ≤ b ∧ b ≤ wdE k)
  | .shl => bif kEq k .i64 then some (.int .i64 (a * 2 ^ b.toNat), 0 ≤ b ∧ b ≤ 64 ∧ -9223372036854775808 ≤ a * 2 ^ b.toNat ∧ a * 2 ^ b.toNat ≤ 9223372036854775807) else some (wrV k (a * 2 ^ b.toNat), 0 ≤ b ∧ b ≤ wdE k)
  | _ => none
def isSh : BinOp → Bool
  | .shr => true
  | .shl => true
  | _ => false
/-- two values -/
def binE (ty : List (Nat × TyI)) (op : BinOp) (t : Nat) (u v : Value) : Option (Value × Prop) :=
  match u, v with
  | .int k a, .int k' b => bif isSh op then shE op k a b else bif kEq k k' then intE op k a b else none
  | .bool a, .bool b => (lkN ty t).bind fun ti => bif Nat.beq ti.kind 1 then (match op with
    | .eql => some (.bool (decide (a = b)), True)
    | .neq => some (.bool (decide (a ≠ b)), True)
    | _ => none) else none
  | .string ⟨⟨a⟩⟩, .string ⟨⟨b⟩⟩ => (match op with
    | .eql => some (.bool (decide (a = b)), True)
    | .neq => some (.bool (decide (a ≠ b)), True)
    | .add => some (bs (a ++ b), a.length + b.length ≤ 9223372036854775807)
    | _ => none)
  | .pointer (some _), .pointer none => (lkN ty t).bind fun ti => bif Nat.beq ti.kind 4 then (match op with
    | .eql => some (.bool false, True)
    | .neq => some (.bool true, True)
    | _ => none) else none
  | .pointer none, .pointer none => (lkN ty t).bind fun ti => bif Nat.beq ti.kind 4 then (match op with
    | .eql => some (.bool true, True)
    | .neq => some (.bool false, True)
    | _ => none) else none
  | .slice (some _) _ _, .slice none 0 0 => (lkN ty t).bind fun ti => bif Nat.beq ti.kind 5 then (match op with
    | .eql => some (.bool false, True)
    | .neq => some (.bool true, True)
    | _ => none) else none
  | .slice none _ _, .slice none 0 0 => (lkN ty t).bind fun ti => bif Nat.beq ti.kind 5 then (match op with
    | .eql => some (.bool true, True)
    | .neq => some (.bool false, True)
    | _ => none) else none
  | .iface _ _, .nilIface => (lkN ty t).bind fun ti => bif Nat.beq ti.kind 9 then (match op with
    | .eql => some (.bool false, True)
    | .neq => some (.bool true, True)
    | _ => none) else none
  | _, _ => none
def isNil : Operand → Bool
  | .const .nilIface => true
  | _ => false
def nilE (ty : List (Nat × TyI)) (op : BinOp) (t : Nat) : Option (Value × Prop) :=
  (lkN ty t).bind fun ti => bif Nat.beq ti.kind 9 then (match op with
    | .eql => some (.bool true, True)
    | .neq => some (.bool false, True)
    | _ => none) else none
def isNilV : Value → Bool
  | .nilIface => true
  | _ => false
def sliceE (ty : List (Nat × TyI)) (t : Nat) (a : Option Addr) (len cap : Nat) (lo hi : Option Value) : Option (Value × Prop) :=
  (lkN ty t).bind fun ti => bif Nat.beq ti.kind 5 then (lkN ty ti.x).bind fun te => (match lo, hi with
    | some (.int _ l), none => some (.slice (cut a cap l.toNat te.size) (len - l.toNat) (cap - l.toNat), 0 ≤ l ∧ l ≤ len)
    | none, some (.int _ h) => some (.slice a h.toNat cap, 0 ≤ h ∧ h ≤ cap)
    | some (.int _ l), some (.int _ h) => some (.slice (cut a cap l.toNat te.size) (h.toNat - l.toNat) (cap - l.toNat), 0 ≤ l ∧ l ≤ h ∧ h ≤ cap)
    | _, _ => none) else none
def indexE (ty : List (Nat × TyI)) (t : Nat) (u v : Value) : Option (Value × Prop) :=
  (lkN ty t).bind fun ti => match u, v with
    | .slice (some ⟨b, i, none⟩) len _, .int _ j => bif Nat.beq ti.kind 5 then (lkN ty ti.x).bind fun te => (match te with | ⟨_, _, _, sz, _⟩ => bif Nat.beq sz 1 then some (pt b (i + j.toNat), 0 ≤ j ∧ j < len) else some (pt b (i + j.toNat * sz), 0 ≤ j ∧ j < len)) else none
    | .pointer (some ⟨b, i, none⟩), .int _ j => bif Nat.beq ti.kind 6 then (match ti with | ⟨_, n, e, _, _⟩ => (lkN ty e).bind fun te => (match te with | ⟨_, _, _, sz, _⟩ => some (pt b (i + j.toNat * sz), 0 ≤ j ∧ j < n))) else none
    | _, _ => none
def callE (ty : List (Nat × TyI)) (ρ : Env) (b : Builtin) (args : List Operand) (ts : List Nat) : Option (Value × Prop) :=
  match b, args, ts with
  | .len, [x], [t] => (ev ρ x).bind fun u => (lkN ty t).bind fun ti => (match u with
    | .slice _ n _ => bif Nat.beq ti.kind 5 then some (iv n, True) else none
    | .string ⟨⟨l⟩⟩ => bif Nat.beq ti.kind 3 then some (iv l.length, True) else none
    | _ => bif Nat.beq ti.kind 6 then some (iv ti.x, True) else none)
  | .max, [x, y], _ => (match ev ρ x, ev ρ y with
    | some (.int k a), some (.int k' b) => bif kEq k k' then some (.int k (max a b), True) else none
    | _, _ => none)
  | .min, [x, y], _ => (match ev ρ x, ev ρ y with
    | some (.int k a), some (.int k' b) => bif kEq k k' then some (.int k (min a b), True) else none
    | _, _ => none)
  | _, _, _ => none
def notE : Value → Option (Value × Prop)
  | .bool b => (match b with
    | true => some (.bool false, True)
    | false => some (.bool true, True))
  | _ => none
/-- an integer as another kind, where it fits -/
def convK (k : IntKind) (n : Int) : Value × Prop :=
  match k with
  | .i8 => (.int .i8 n, -128 ≤ n ∧ n ≤ 127)
  | .i16 => (.int .i16 n, -32768 ≤ n ∧ n ≤ 32767)
  | .i32 => (.int .i32 n, -2147483648 ≤ n ∧ n ≤ 2147483647)
  | .i64 => (.int .i64 n, -9223372036854775808 ≤ n ∧ n ≤ 9223372036854775807)
  | .u8 => (.int .u8 n, 0 ≤ n ∧ n ≤ 255)
  | .u16 => (.int .u16 n, 0 ≤ n ∧ n ≤ 65535)
  | .u32 => (.int .u32 n, 0 ≤ n ∧ n ≤ 4294967295)
  | .u64 => (.int .u64 n, 0 ≤ n ∧ n ≤ 18446744073709551615)
theorem convK_eq (k : IntKind) (n : Int) : convK k n = (.int k n, loE k ≤ n ∧ n ≤ hiE k) := by cases k <;> rfl
def convE (ty : List (Nat × TyI)) (src dst : Nat) (u : Value) : Option (Value × Prop) :=
  (lkN ty dst).bind fun ti => (lkN ty src).bind fun _ => match u with
    | .int _ n => bif Nat.beq ti.kind 2 then (match kindOf ti.x with | .i8 => some (convK .i8 n) | .i16 => some (convK .i16 n) | .i32 => some (convK .i32 n) | .i64 => some (convK .i64 n) | .u8 => some (convK .u8 n) | .u16 => some (convK .u16 n) | .u32 => some (convK .u32 n) | .u64 => some (convK .u64 n)) else none
    | _ => none
def ixE (ty : List (Nat × TyI)) (t : Nat) (u v : Value) : Option (Value × Prop) :=
  (lkN ty t).bind fun ti => match u, v with
    | .string ⟨⟨l⟩⟩, .int _ j => bif Nat.beq ti.kind 3 then some (.int .u8 ((l.getD j.toNat 0).toNat : Int), 0 ≤ j ∧ j < l.length) else none
    | _, _ => none
def opE (ty : List (Nat × TyI)) (fl : List (Nat × Nat × Nat)) (ρ : Env) (o : Op) : Option (Value × Prop) :=
  match o with
  | .move x => (ev ρ x).bind fun v => some (v, True)
  | .assign x => (ev ρ x).bind fun v => some (v, True)
  | .pick c x y => (match ev ρ c with
    | some (.bool b) => (match b with
      | true => (ev ρ x).bind fun v => some (v, True)
      | false => (ev ρ y).bind fun v => some (v, True))
    | _ => none)
  | .extract x j => (match ev ρ x with
    | some (.tuple ⟨vs⟩) => (vs[j]?).bind fun v => some (v, True)
    | _ => none)
  | .nilCheck x => (match ev ρ x with
    | some (.pointer (some p)) => some (.pointer (some p), True)
    | _ => none)
  | .fieldAddr s x f => (match ev ρ x with
    | some (.pointer (some ⟨b, i, none⟩)) => (lkN fl (s * 64 + f)).bind fun q => (match q with | (o, _) => bif Nat.blt f 64 then some (pt b (i + o), True) else none)
    | _ => none)
  | .indexAddr t x y => (ev ρ x).bind fun u => (ev ρ y).bind fun v => indexE ty t u v
  | .binOp op t x y _ => (ev ρ x).bind fun u => bif isNil y && isNilV u then nilE ty op t else (ev ρ y).bind fun v => binE ty op t u v
  | .unOp .not _ x => (ev ρ x).bind notE
  | .slice t x lo hi none => (match ev ρ x with
    | some (.slice a len cap) => (match lo, hi with
      | some l, none => (ev ρ l).bind fun l => sliceE ty t a len cap (some l) none
      | none, some h => (ev ρ h).bind fun h => sliceE ty t a len cap none (some h)
      | some l, some h => (ev ρ l).bind fun l => (ev ρ h).bind fun h => sliceE ty t a len cap (some l) (some h)
      | none, none => none)
    | _ => none)
  | .convert src dst x => (ev ρ x).bind fun u => convE ty src dst u
  | .index t x y => (ev ρ x).bind fun u => (ev ρ y).bind fun v => ixE ty t u v
  | .makeInterface t x => (ev ρ x).bind fun u => (lkN ty t).bind fun ti => bif Nat.beq ti.kind 9 then none else some (.iface t u, True)
  | .makeFunc (.func f) ⟨[]⟩ ⟨cap⟩ => (evs ρ cap).bind fun vs => some (.func (.func f) #[] ⟨vs⟩, True)
  | .call ⟨.builtin b, ⟨args⟩, ⟨ts⟩⟩ => callE ty ρ b args ts
  | _ => none

section sound
variable {P : Program} (S : Tab P) {ρ : Env} {L : Heap} {d : Option Tmp} {ty : TypeId} {pos : String} {af : Array Edge} {g : Option (Nat × Bool)}
theorem bif_some {α : Type} {c : Bool} {x : Option α} {v : α} (h : (bif c then x else none) = some v) : c = true ∧ x = some v := by
  cases c with
  | true => exact ⟨rfl, h⟩
  | false => cases h
theorem bind_some {α β : Type} {x : Option α} {f : α → Option β} {v : β} (h : x.bind f = some v) : ∃ y, x = some y ∧ f y = some v := by
  cases x with
  | none => cases h
  | some y => exact ⟨y, rfl, h⟩
theorem intE_q {op : BinOp} {t t' : Nat} {x y : Operand} {k : IntKind} {a b : Int} {v : Value} {p : Prop} (hx : ev ρ x = some (.int k a)) (hy : ev ρ y = some (.int k b)) (h : intE op k a b = some (v, p)) (hp : p) :
    QOp P ⟨d, .binOp op t x y t', ty, pos, af, g⟩ ρ L v := by
  unfold intE at h
  split at h
  case h_1 => cases h; exact q_lss hx hy
  case h_2 => cases h; exact q_leq hx hy
  case h_3 => cases h; exact q_gtr hx hy
  case h_4 => cases h; exact q_geq hx hy
  case h_5 => cases h; exact q_eql hx hy
  case h_6 => cases h; exact q_neq hx hy
  case h_7 =>
    cases hk : kEq k .i64 with
    | true => rw [hk] at h; cases h; cases kEq_eq hk; exact q_add hx hy hp
    | false => rw [hk] at h; cases h; rw [wrV_eq]; exact q_arith hx hy fun w => by simp [binOp, Op.intArith]
  case h_8 =>
    cases hk : kEq k .i64 with
    | true => rw [hk] at h; cases h; cases kEq_eq hk; exact q_sub hx hy hp
    | false => rw [hk] at h; cases h; rw [wrV_eq]; exact q_arith hx hy fun w => by simp [binOp, Op.intArith]
  case h_9 =>
    cases hk : kEq k .i64 with
    | true => rw [hk] at h; cases h; cases kEq_eq hk; exact q_mul hx hy hp
    | false => rw [hk] at h; cases h; rw [wrV_eq]; exact q_arith hx hy fun w => by simp [binOp, Op.intArith]
  case h_10 =>
    obtain ⟨hk, h2⟩ := bif_some h
    clear h
    cases h2; cases kEq_eq hk; exact q_quo hx hy hp
  case h_11 =>
    obtain ⟨hk, h2⟩ := bif_some h
    clear h
    cases h2; cases kEq_eq hk; exact q_rem hx hy hp
  case h_12 => cases h; exact q_arith hx hy fun w => by simp only [binOp, ne_eq, not_true_eq_false, if_false, Op.intBits, bits_and hp]; rfl
  case h_13 => cases h; exact q_arith hx hy fun w => by simp only [binOp, ne_eq, not_true_eq_false, if_false, Op.intBits, bits_or hp]; rfl
  case h_14 => cases h; exact q_arith hx hy fun w => by simp only [binOp, ne_eq, not_true_eq_false, if_false, Op.intBits, bits_xor hp]; rfl
  case h_15 => cases h; exact q_arith hx hy fun w => by simp only [binOp, ne_eq, not_true_eq_false, if_false, Op.intBits, bits_andNot hp]; rfl
  case h_16 => cases h
theorem sh_min {k : IntKind} {b : Int} (h0 : 0 ≤ b) (h1 : b ≤ wdE k) : min b.toNat k.bits = b.toNat := by
  cases k <;> simp only [wdE] at h1 <;> simp only [IntKind.bits] <;> omega
theorem q_arith2 {op : BinOp} {t t' : Nat} {x y : Operand} {k k' : IntKind} {a b : Int} {v : Value} (hx : ev ρ x = some (.int k a)) (hy : ev ρ y = some (.int k' b)) (hv : ∀ w, (binOp op t (.int k a) (.int k' b)).run P w = .ok v w) :
    QOp P ⟨d, .binOp op t x y t', ty, pos, af, g⟩ ρ L v :=
  q_run fun ρe he k w hs => by simp [execOp, he x (by simp [Op.operands]) _ hx, he y (by simp [Op.operands]) _ hy, eqGuard_int, hv w]
theorem shE_q {op : BinOp} {t t' : Nat} {x y : Operand} {k k' : IntKind} {a b : Int} {v : Value} {p : Prop} (hx : ev ρ x = some (.int k a)) (hy : ev ρ y = some (.int k' b)) (h : shE op k a b = some (v, p)) (hp : p) :
    QOp P ⟨d, .binOp op t x y t', ty, pos, af, g⟩ ρ L v := by
  unfold shE at h
  split at h
  · cases h
    refine q_arith2 hx hy fun w => ?_
    have hnn : (0 : Int) ≤ 2 ^ b.toNat := Int.pow_nonneg (by decide)
    have h1 : ¬ b < 0 := by omega
    simp [binOp, Op.shift, h1, sh_min hp.1 hp.2, Int.fdiv_eq_ediv_of_nonneg _ hnn]
  · cases hk : kEq k .i64 with
    | true =>
      rw [hk] at h; cases h; cases kEq_eq hk
      refine q_arith2 hx hy fun w => ?_
      have h1 : ¬ b < 0 := by omega
      simp [binOp, Op.shift, h1, sh_min (k := .i64) hp.1 hp.2.1, wrap_id (k := .i64) hp.2.2.1 hp.2.2.2]
    | false =>
      rw [hk] at h; cases h
      refine q_arith2 hx hy fun w => ?_
      have h1 : ¬ b < 0 := by omega
      simp [binOp, Op.shift, h1, sh_min hp.1 hp.2, wrV_eq]
  · cases h
theorem binE_q {op : BinOp} {t t' : Nat} {x y : Operand} {u u' v : Value} {p : Prop} (hx : ev ρ x = some u) (hy : ev ρ y = some u') (h : binE S.ty op t u u' = some (v, p)) (hp : p) :
    QOp P ⟨d, .binOp op t x y t', ty, pos, af, g⟩ ρ L v := by
  unfold binE at h
  split at h
  case h_1 =>
    rename_i k a k' b
    cases hs : isSh op with
    | true => rw [hs] at h; exact shE_q hx hy h hp
    | false =>
      rw [hs] at h
      obtain ⟨hk, h2⟩ := bif_some (show (bif kEq k k' then intE op k a b else none) = some (v, p) from h)
      clear h
      cases kEq_eq hk; exact intE_q hx hy h2 hp
  case h_2 =>
    obtain ⟨ti, ht, h⟩ := bind_some h
    obtain ⟨hk, h⟩ := bif_some h
    have hk := Nat.eq_of_beq_eq_true hk
    split at h <;> cases h
    · exact q_eqlB S hx hy ht hk
    · exact q_neqB S hx hy ht hk
  case h_3 =>
    split at h <;> cases h
    · exact q_eqlS hx hy
    · exact q_neqS hx hy
    · exact q_addS hx hy hp
  case h_4 =>
    obtain ⟨ti, ht, h⟩ := bind_some h
    obtain ⟨hk, h⟩ := bif_some h
    have hk := Nat.eq_of_beq_eq_true hk
    split at h <;> cases h
    · exact q_eqlPn S hx hy ht hk
    · exact q_neqPn S hx hy ht hk
  case h_5 =>
    obtain ⟨ti, ht, h⟩ := bind_some h
    obtain ⟨hk, h⟩ := bif_some h
    have hk := Nat.eq_of_beq_eq_true hk
    split at h <;> cases h
    · exact q_eqlPnn S hx hy ht hk
    · exact q_neqPnn S hx hy ht hk
  case h_6 =>
    obtain ⟨ti, ht, h⟩ := bind_some h
    obtain ⟨hk, h⟩ := bif_some h
    have hk := Nat.eq_of_beq_eq_true hk
    split at h <;> cases h
    · exact q_equal (b := false) hx hy (fun w => by simp [eqGuard]) (fun w => equal_of fun dd => eqIn_sn (ty_slice (S.tyI ht) hk) dd w) rfl
    · exact q_nequal (b := false) hx hy (fun w => by simp [eqGuard]) (fun w => equal_of fun dd => eqIn_sn (ty_slice (S.tyI ht) hk) dd w) rfl
  case h_7 =>
    obtain ⟨ti, ht, h⟩ := bind_some h
    obtain ⟨hk, h⟩ := bif_some h
    have hk := Nat.eq_of_beq_eq_true hk
    split at h <;> cases h
    · exact q_equal (b := true) hx hy (fun w => by simp [eqGuard]) (fun w => equal_of fun dd => eqIn_sn (ty_slice (S.tyI ht) hk) dd w) rfl
    · exact q_nequal (b := true) hx hy (fun w => by simp [eqGuard]) (fun w => equal_of fun dd => eqIn_sn (ty_slice (S.tyI ht) hk) dd w) rfl
  case h_8 =>
    obtain ⟨ti, ht, h⟩ := bind_some h
    obtain ⟨hk, h⟩ := bif_some h
    have hk := Nat.eq_of_beq_eq_true hk
    split at h <;> cases h
    · exact q_eqlIn S hx hy ht hk
    · exact q_neqIn S hx hy ht hk
  case h_9 => cases h
theorem isNil_eq {y : Operand} (h : isNil y = true) : y = .const .nilIface := by
  unfold isNil at h
  split at h
  · rfl
  · cases h
theorem isNilV_eq {y : Value} (h : isNilV y = true) : y = .nilIface := by
  unfold isNilV at h
  split at h
  · rfl
  · cases h
theorem nilE_q {op : BinOp} {t t' : Nat} {x : Operand} {v : Value} {p : Prop} (hx : ev ρ x = some .nilIface) (h : nilE S.ty op t = some (v, p)) :
    QOp P ⟨d, .binOp op t x (.const .nilIface) t', ty, pos, af, g⟩ ρ L v := by
  unfold nilE at h
  obtain ⟨ti, ht, h⟩ := bind_some h
  obtain ⟨hk, h⟩ := bif_some h
  have hk := Nat.eq_of_beq_eq_true hk
  split at h <;> cases h
  · exact q_eqlInn S hx ht hk
  · exact q_neqInn S hx ht hk
theorem indexE_q {t : Nat} {x y : Operand} {u u' v : Value} {p : Prop} (hx : ev ρ x = some u) (hy : ev ρ y = some u') (h : indexE S.ty t u u' = some (v, p)) (hp : p) : QOp P ⟨d, .indexAddr t x y, ty, pos, af, g⟩ ρ L v := by
  unfold indexE at h
  obtain ⟨ti, ht, h⟩ := bind_some h
  split at h
  · obtain ⟨hk0, h2⟩ := bif_some h
    clear h
    have hk := Nat.eq_of_beq_eq_true hk0
    clear hk0
    obtain ⟨te, he, h⟩ := bind_some h2
    clear h2
    obtain ⟨k0, x0, y0, s0, b0⟩ := ti
    obtain ⟨k1, x1, y1, s1, b1⟩ := te
    simp only at hk h he
    subst hk
    cases hc : Nat.beq s1 1 with
    | true =>
      rw [hc] at h
      have := Nat.eq_of_beq_eq_true hc
      subst this
      cases h
      exact q_indexAddr1 S hx hy ht he hp
    | false => rw [hc] at h; cases h; exact q_indexAddr S hx hy ht he hp
  · obtain ⟨hk0, h2⟩ := bif_some h
    clear h
    have hk := Nat.eq_of_beq_eq_true hk0
    clear hk0
    obtain ⟨te, he, h⟩ := bind_some h2
    clear h2
    obtain ⟨k0, x0, y0, s0, b0⟩ := ti
    obtain ⟨k1, x1, y1, s1, b1⟩ := te
    simp only at hk h he
    subst hk
    cases h
    exact q_indexAddrA S hx hy ht he hp
  · cases h
theorem callE_q {b : Builtin} {args : List Operand} {ts : List Nat} {v : Value} {p : Prop} (h : callE S.ty ρ b args ts = some (v, p)) (hp : p) : QOp P ⟨d, .call ⟨.builtin b, ⟨args⟩, ⟨ts⟩⟩, ty, pos, af, g⟩ ρ L v := by
  unfold callE at h
  split at h
  · obtain ⟨u, hu, h⟩ := bind_some h
    obtain ⟨ti, ht, h⟩ := bind_some h
    split at h
    · obtain ⟨hk, h⟩ := bif_some h
      cases h
      exact q_lenS S hu ht (Nat.eq_of_beq_eq_true hk)
    · obtain ⟨hk, h⟩ := bif_some h
      cases h
      exact q_lenT S hu ht (Nat.eq_of_beq_eq_true hk)
    · obtain ⟨hk0, h2⟩ := bif_some h
      clear h
      have hk := Nat.eq_of_beq_eq_true hk0
      clear hk0
      have h := h2
      clear h2
      obtain ⟨k0, x0, y0, s0, b0⟩ := ti
      simp only at hk h
      subst hk
      cases h
      exact q_lenA S hu ht
  · split at h
    · rename_i h1 h2
      obtain ⟨hk, h3⟩ := bif_some h
      clear h
      cases kEq_eq hk
      cases h3
      exact q_max h1 h2
    · cases h
  · split at h
    · rename_i h1 h2
      obtain ⟨hk, h3⟩ := bif_some h
      clear h
      cases kEq_eq hk
      cases h3
      exact q_min h1 h2
    · cases h
  · cases h
theorem convE_q {src dst : Nat} {x : Operand} {u v : Value} {p : Prop} (hx : ev ρ x = some u) (h : convE S.ty src dst u = some (v, p)) (hp : p) : QOp P ⟨d, .convert src dst x, ty, pos, af, g⟩ ρ L v := by
  unfold convE at h
  obtain ⟨ti, ht, h1⟩ := bind_some h
  obtain ⟨ts, hs, h2⟩ := bind_some h1
  clear h h1
  split at h2
  · rename_i k0 n
    obtain ⟨hk, h3⟩ := bif_some h2
    clear h2
    have h : some (convK (kindOf ti.x) n) = some (v, p) := by
      rw [← h3]
      cases kindOf ti.x <;> rfl
    rw [convK_eq] at h
    cases h
    refine q_run fun ρe he k w hsat => ?_
    have e1 := ty_int (S.tyI ht) (Nat.eq_of_beq_eq_true hk)
    obtain ⟨ds, hds⟩ := Option.isSome_iff_exists.1 (ty_isSome (S.tyI hs))
    simp [execOp, he x (by simp [Op.operands]) _ hx, convert, run_underlying e1, run_underlying hds, Conv.intToInt, wrap_id hp.1 hp.2]
  · cases h2
theorem ixE_q {t : Nat} {x y : Operand} {u u' v : Value} {p : Prop} (hx : ev ρ x = some u) (hy : ev ρ y = some u') (h : ixE S.ty t u u' = some (v, p)) (hp : p) : QOp P ⟨d, .index t x y, ty, pos, af, g⟩ ρ L v := by
  unfold ixE at h
  obtain ⟨ti, ht, h1⟩ := bind_some h
  clear h
  split at h1
  · rename_i l k j
    obtain ⟨hk, h⟩ := bif_some h1
    cases h
    refine q_run fun ρe he k w hsat => ?_
    have e1 := ty_string (S.tyI ht) (Nat.eq_of_beq_eq_true hk)
    have hlt : j.toNat < l.length := by omega
    have e2 : (ByteArray.mk ⟨l⟩)[j.toNat]? = some (l.getD j.toNat 0) := by
      have h3 : j.toNat < (ByteArray.mk ⟨l⟩).size := by rw [ba_size]; exact hlt
      rw [getElem?_pos (ByteArray.mk ⟨l⟩) j.toNat h3]
      simp [ByteArray.getElem_eq_getElem_data, List.getD, hlt]
    simp [execOp, he x (by simp [Op.operands]) _ hx, he y (by simp [Op.operands]) _ hy, Instr.index, asIntOf, run_underlying e1, hp.1, e2]
  · cases h1
theorem opE_q {o : Op} {v : Value} {p : Prop} (h : opE S.ty S.fl ρ o = some (v, p)) (hp : p) : QOp P ⟨d, o, ty, pos, af, g⟩ ρ L v := by
  unfold opE at h
  split at h
  · obtain ⟨u, hu, h⟩ := bind_some h
    cases h
    exact q_move hu
  · obtain ⟨u, hu, h⟩ := bind_some h
    cases h
    exact q_assign hu
  · split at h
    · rename_i b hb
      split at h
      · obtain ⟨u, hu, h⟩ := bind_some h
        cases h
        exact q_pickt hb rfl hu
      · obtain ⟨u, hu, h⟩ := bind_some h
        cases h
        exact q_pickf hb rfl hu
    · cases h
  · split at h
    · rename_i hx
      obtain ⟨u, hu, h⟩ := bind_some h
      cases h
      exact q_extract hx hu
    · cases h
  · split at h
    · rename_i hx
      cases h
      exact q_nilCheck hx
    · cases h
  · split at h
    · rename_i hx
      obtain ⟨q, hq, h⟩ := bind_some h
      obtain ⟨hk, h⟩ := bif_some h
      cases h
      exact q_fieldAddr S hx hq hk
    · cases h
  · obtain ⟨u, hu, h⟩ := bind_some h
    obtain ⟨u', hu', h⟩ := bind_some h
    exact indexE_q S hu hu' h hp
  · obtain ⟨u, hu, h⟩ := bind_some h
    cases hc : (isNil _ && isNilV u) with
    | true =>
      rw [hc] at h
      simp only [Bool.and_eq_true] at hc
      rw [isNil_eq hc.1]
      rw [isNilV_eq hc.2] at hu
      exact nilE_q S hu h
    | false =>
      rw [hc] at h
      obtain ⟨u', hu', h⟩ := bind_some h
      exact binE_q S hu hu' h hp
  · obtain ⟨u, hu, h⟩ := bind_some h
    unfold notE at h
    split at h
    · split at h
      · cases h
        exact q_not_t hu rfl
      · cases h
        exact q_not_f hu rfl
    · cases h
  · split at h
    · rename_i hx
      split at h
      · obtain ⟨u, hu, h⟩ := bind_some h
        unfold sliceE at h
        obtain ⟨ti, ht, h1⟩ := bind_some h
        clear h
        obtain ⟨hk0, h2⟩ := bif_some h1
        clear h1
        have hk := Nat.eq_of_beq_eq_true hk0
        clear hk0
        obtain ⟨te, he, h⟩ := bind_some h2
        clear h2
        obtain ⟨k0, x0, y0, s0, b0⟩ := ti
        obtain ⟨k1, x1, y1, s1, b1⟩ := te
        simp only at hk h he
        subst hk
        split at h
        all_goals try (rename_i e1 e2; cases e2; done)
        all_goals try (rename_i e1 e2; cases e1; done)
        all_goals try (cases h; done)
        all_goals (rename_i e1 e2; cases e1; cases h; exact q_sliceLo S hx hu ht he hp)
      · obtain ⟨u, hu, h⟩ := bind_some h
        unfold sliceE at h
        obtain ⟨ti, ht, h1⟩ := bind_some h
        clear h
        obtain ⟨hk0, h2⟩ := bif_some h1
        clear h1
        have hk := Nat.eq_of_beq_eq_true hk0
        clear hk0
        obtain ⟨te, he, h⟩ := bind_some h2
        clear h2
        obtain ⟨k0, x0, y0, s0, b0⟩ := ti
        obtain ⟨k1, x1, y1, s1, b1⟩ := te
        simp only at hk h he
        subst hk
        split at h
        all_goals try (rename_i e1 e2; cases e1; done)
        all_goals try (cases h; done)
        all_goals (rename_i e1 e2; cases e2; cases h; exact q_sliceHi S hx hu ht he hp)
      · obtain ⟨u, hu, h⟩ := bind_some h
        obtain ⟨u', hu', h9⟩ := bind_some h
        clear h
        have h := h9
        clear h9
        unfold sliceE at h
        obtain ⟨ti, ht, h1⟩ := bind_some h
        clear h
        obtain ⟨hk0, h2⟩ := bif_some h1
        clear h1
        have hk := Nat.eq_of_beq_eq_true hk0
        clear hk0
        obtain ⟨te, he, h⟩ := bind_some h2
        clear h2
        obtain ⟨k0, x0, y0, s0, b0⟩ := ti
        obtain ⟨k1, x1, y1, s1, b1⟩ := te
        simp only at hk h he
        subst hk
        split at h
        all_goals try (rename_i e1 e2; cases e2; done)
        all_goals try (rename_i e1 e2; cases e1; done)
        all_goals try (cases h; done)
        all_goals (rename_i e1 e2; cases e1; cases e2; cases h; exact q_sliceLH S hx hu hu' ht he hp)
      · cases h
    · cases h
  · obtain ⟨u, hu, h1⟩ := bind_some h
    exact convE_q S hu h1 hp
  · obtain ⟨u, hu, h1⟩ := bind_some h
    obtain ⟨u', hu', h2⟩ := bind_some h1
    exact ixE_q S hu hu' h2 hp
  · obtain ⟨u, hu, h1⟩ := bind_some h
    obtain ⟨ti, ht, h2⟩ := bind_some h1
    clear h h1
    rename_i t x
    cases hk : Nat.beq ti.kind 9 with
    | true => rw [hk] at h2; cases h2
    | false =>
      rw [hk] at h2
      cases h2
      refine q_run fun ρe he k w hsat => ?_
      obtain ⟨dd, j, hd, hj, he2, -, -⟩ := ty_desc (S.tyI ht)
      have : ∀ ms, dd ≠ .interface ms := fun ms e => by
        subst e
        simp only [descI, Prod.mk.injEq] at he2
        rw [← he2.1] at hk
        cases hk
      cases dd <;> first | (exact absurd rfl (this _)) | simp [execOp, he x (by simp [Op.operands]) _ hu, Instr.makeInterface, run_underlying hd]
  · obtain ⟨u, hu, h⟩ := bind_some h
    cases h
    exact q_makeFunc hu
  · exact callE_q S h hp
  · cases h
end sound

def isUndef : Value → Bool
  | .tuple ⟨[]⟩ => true
  | _ => false
theorem isUndef_eq {v : Value} (h : isUndef v = true) : v = undef := by
  unfold isUndef at h
  split at h
  · rfl
  · cases h
/-- is an operation wanted? -/
def guardE (ops : List Oper) (ρ : Env) : Option (Nat × Bool) → Option Bool
  | none => some true
  | some (j, wt) => (match gdst ops j with
    | some t => (match lk ρ t with
      | some (.bool b) => (match b with
        | true => some wt
        | false => some (!wt))
      | some v => bif isUndef v then some false else none
      | none => none)
    | none => none)
section go
variable {P : Program} {n : Nat} {ops : List Oper} {Q : Exit → Env → Heap → Prop} {rest : List Oper} {ρ : Env} {L : Heap} {op : Op} {ty : TypeId} {pos : String} {af : Array Edge} {g : Option (Nat × Bool)} {d : Nat}
theorem ho_go {v : Value} (hg : guardE ops ρ g = some true) (hn : Nat.blt d n = true) (h : QOp P ⟨some d, op, ty, pos, af, g⟩ ρ L v) (hr : HO P n ops Q rest ((d, v) :: ρ) L) : HO P n ops Q (⟨some d, op, ty, pos, af, g⟩ :: rest) ρ L := by
  unfold guardE at hg
  split at hg
  · exact ho_q hn h hr
  · rename_i j wt
    split at hg
    · rename_i hj
      split at hg
      · rename_i ht
        split at hg
        · cases hg; exact ho_want hn hj ht h hr
        · cases wt with
          | true => simp at hg
          | false => exact ho_want hn hj ht h hr
      · obtain ⟨_, h1⟩ := bif_some hg
        cases h1
      · cases hg
    · cases hg
theorem ho_no (hg : guardE ops ρ g = some false) (hn : Nat.blt d n = true) (hr : HO P n ops Q rest ((d, undef) :: ρ) L) : HO P n ops Q (⟨some d, op, ty, pos, af, g⟩ :: rest) ρ L := by
  unfold guardE at hg
  split at hg
  · cases hg
  · rename_i j wt
    split at hg
    · rename_i hj
      split at hg
      · rename_i ht
        split at hg
        · cases hg; exact ho_skip hn hj ht rfl hr
        · cases wt with
          | true => exact ho_skip hn hj ht rfl hr
          | false => simp at hg
      · rename_i ht
        obtain ⟨h1, _⟩ := bif_some hg
        exact ho_skipu hj ht (isUndef_eq h1) hn hr
      · cases hg
    · cases hg
/-- what is wanted, without its guard -/
theorem ho_on {d : Option Tmp} {j : Nat} {wt : Bool} (hg : guardE ops ρ (some (j, wt)) = some true) (h : HO P n ops Q (⟨d, op, ty, pos, af, none⟩ :: rest) ρ L) : HO P n ops Q (⟨d, op, ty, pos, af, some (j, wt)⟩ :: rest) ρ L := by
  intro k w a hs ha
  have hw : Region.wanted (Oper.mk d op ty pos af (some (j, wt))) (yielded ops.toArray a.tmps) = true := by
    unfold guardE at hg
    simp only at hg
    split at hg
    · rename_i t hj
      split at hg
      · rename_i b ht
        rw [wanted_guard ha rfl hj ht]
        cases b <;> cases wt <;> simp at hg <;> rfl
      · obtain ⟨_, h1⟩ := bif_some hg
        cases h1
      · cases hg
    · cases hg
  have h1 := h k w a hs ha
  unfold wpList at h1 ⊢
  rw [if_pos hw]
  rw [if_pos (wanted_none _ rfl _)] at h1
  exact h1
end go

section hgo
variable {P : Program} {n : Nat} {ops : List Oper} {K : Env → Prop} {rest : List Oper} {ρ : Env} {L : Heap} {op : Op} {ty : TypeId} {pos : String} {af : Array Edge} {g : Option (Nat × Bool)} {d : Nat}
theorem hq_go {v : Value} (hg : guardE ops ρ g = some true) (hn : Nat.blt d n = true) (h : QOp P ⟨some d, op, ty, pos, af, g⟩ ρ L v) (hr : HQ P n ops K rest ((d, v) :: ρ) L) : HQ P n ops K (⟨some d, op, ty, pos, af, g⟩ :: rest) ρ L := by
  unfold guardE at hg
  split at hg
  · exact hq_q hn h hr
  · rename_i j wt
    split at hg
    · rename_i hj
      split at hg
      · rename_i ht
        split at hg
        · cases hg; exact hq_want hn hj ht h hr
        · cases wt with
          | true => simp at hg
          | false => exact hq_want hn hj ht h hr
      · obtain ⟨_, h1⟩ := bif_some hg
        cases h1
      · cases hg
    · cases hg
theorem hq_no (hg : guardE ops ρ g = some false) (hn : Nat.blt d n = true) (hr : HQ P n ops K rest ((d, undef) :: ρ) L) : HQ P n ops K (⟨some d, op, ty, pos, af, g⟩ :: rest) ρ L := by
  unfold guardE at hg
  split at hg
  · cases hg
  · rename_i j wt
    split at hg
    · rename_i hj
      split at hg
      · rename_i ht
        split at hg
        · cases hg; exact hq_skip hn hj ht rfl hr
        · cases wt with
          | true => exact hq_skip hn hj ht rfl hr
          | false => simp at hg
      · rename_i ht
        obtain ⟨h1, _⟩ := bif_some hg
        exact hq_skipu hj ht (isUndef_eq h1) hn hr
      · cases hg
    · cases hg
end hgo
/-! ### package variables -/
def Gl (L : Heap) (g : Nat) (v : Value) : Prop := ∃ l E fr, Has L g (.cells ⟨l⟩ E fr) ∧ l[0]? = some v
theorem Gl.cons {L : Heap} {g : Nat} {v : Value} {c : List Blk} (h : Gl L g v) : Gl (c :: L) g v :=
  let ⟨l, E, fr, h1, h2⟩ := h
  ⟨l, E, fr, has_next h1, h2⟩
/-- an error, by the number of its variable -/
def errV (T : Nat) (E : Nat → Addr) (g : Nat) : Value := .iface T (.pointer (some (E g)))
def eV (T : Nat) (E : Nat → Addr) : Option Nat → Value
  | none => .nilIface
  | some g => .iface T (.pointer (some (E g)))
/-- the errors' variables, by their codes; tab: the code of a variable -/
def Errs (tab : List (Nat × Nat)) (T : Nat) (E : Nat → Addr) (cs : List Nat) (L : Heap) : Prop := ∀ g c, lkN tab g = some c → List.elem c cs = true → Gl L g (.iface T (.pointer (some (E c))))
theorem Errs.cons {tab : List (Nat × Nat)} {T : Nat} {E : Nat → Addr} {cs : List Nat} {L : Heap} (h : Errs tab T E cs L) (c : List Blk) : Errs tab T E cs (c :: L) := fun g c hg hc => (h g c hg hc).cons
theorem Errs.get {tab : List (Nat × Nat)} {T : Nat} {E : Nat → Addr} {cs : List Nat} {L : Heap} {g c : Nat} (h : Errs tab T E cs L) (hg : lkN tab g = some c) (hm : List.elem c cs = true) : Gl L g (.iface T (.pointer (some (E c)))) := h g c hg hm
theorem Errs.sub {tab : List (Nat × Nat)} {T : Nat} {E : Nat → Addr} {cs cs' : List Nat} {L : Heap} (h : Errs tab T E cs L) (hm : (cs'.all fun g => cs.elem g) = true := by rfl) : Errs tab T E cs' L := fun g c hg hc => h g c hg (List.all_eq_true.1 hm c (List.elem_iff.1 hc))
theorem Gl.mono {L L' : Heap} {g : Nat} {v : Value} (h : Gl L g v) (hl : ∀ b o, Has L b o → Has L' b o) : Gl L' g v :=
  let ⟨l, E, fr, h1, h2⟩ := h
  ⟨l, E, fr, hl _ _ h1, h2⟩
theorem Errs.mono {tab : List (Nat × Nat)} {T : Nat} {E : Nat → Addr} {cs : List Nat} {L L' : Heap} (h : Errs tab T E cs L) (hl : ∀ b o, Has L b o → Has L' b o) : Errs tab T E cs L' := fun g c hg hc => (h g c hg hc).mono hl
section tab
variable {P : Program} (S : Tab P) {ρ : Env} {L : Heap} {d : Option Tmp} {ty : TypeId} {pos : String} {af : Array Edge} {g : Option (Nat × Bool)}
/-- a byte of a table of 256 -/
theorem q_ixT {t : Nat} {l : List UInt8} {k : IntKind} {j : Int} {ti : TyI} {y : Operand} {c : Value} (hc : c = bs l) (hy : ev ρ y = some (.int k j)) (ht : lkN S.ty t = some ti) (hk : Nat.beq ti.kind 3 = true) (hl : Nat.beq l.length 256 = true) (hj : 0 ≤ j ∧ j < 256) :
    QOp P ⟨d, .index t (.const c) y, ty, pos, af, g⟩ ρ L (.int .u8 ((l.getD j.toNat 0).toNat : Int)) := by
  subst hc
  refine ixE_q S (u := bs l) (u' := .int k j) rfl hy ?_ (p := 0 ≤ j ∧ j < l.length) ?_
  · simp [ixE, ht, hk]
  · have := Nat.eq_of_beq_eq_true hl
    omega
end tab
section gl
variable {P : Program} (S : Tab P) {ρ : Env} {L : Heap} {d : Option Tmp} {ty : TypeId} {pos : String} {af : Array Edge} {g : Option (Nat × Bool)}
theorem q_gload {t n : Nat} {ti : TyI} {v : Value} (ht : lkN S.ty t = some ti) (h6 : Nat.beq ti.kind 6 = false) (h7 : Nat.beq ti.kind 7 = false) (hg : Gl L n v) : QOp P ⟨d, .load t (.global n), ty, pos, af, g⟩ ρ L v := by
  obtain ⟨l, E, fr, h1, h2⟩ := hg
  exact q_load S (x := .global n) rfl ht h6 h7 h1 h2
end gl
end Go.HL
