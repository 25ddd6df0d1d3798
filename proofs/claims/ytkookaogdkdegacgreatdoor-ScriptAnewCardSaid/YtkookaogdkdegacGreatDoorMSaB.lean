/- Texts laid into one, without what the claim does not use. Conditions: none. -/
import Derived.Test.YtkookaogdkdegacGreatDoorMSaA
import Derived.Orders
import Derived.Laws.StructEq
import Derived.ChangeKeysEq
import Derived.Laws.MakeOwn
import Derived.Laws.BytesString
set_option linter.unusedVariables false
set_option linter.unusedSimpArgs false
/-! HLEval -/
section
namespace Go.HL
open Go

def Zk8 (k k':IntKind):Bool:=Nat.beq (Zae k) (Zae k')
theorem Uw {k k':IntKind} (h:Zk8 k k'=true):k=k':=by
 have:=congrArg Ql (Nat.eq_of_beq_eq_true h)
 rwa [Zda,Zda] at this

def Q5:IntKind→Int
 | .i8=>127 | .i16=>32767 | .i32=>2147483647 | .i64=>9223372036854775807 | .u8=>255 | .u16=>65535 | .u32=>4294967295 | .u64=>18446744073709551615
def loE:IntKind→Int
 | .i8 => -128 | .i16 => -32768 | .i32 => -2147483648 | .i64 => -9223372036854775808|_=>0
def wdE:IntKind→Int
 | .i8=>8 | .i16=>16 | .i32=>32 | .i64=>64 | .u8=>8 | .u16=>16 | .u32=>32 | .u64=>64
def wdN:IntKind→Nat
 | .i8=>7 | .i16=>15 | .i32=>31 | .i64=>63 | .u8=>8 | .u16=>16 | .u32=>32 | .u64=>64
theorem Za4 {k:IntKind} {n:Int} (h0:loE k≤n) (h1:n≤Q5 k):k.wrap n=n:=by
 cases k<;>simp only [loE,Q5] at h0 h1<;>simp [IntKind.wrap,IntKind.bits,IntKind.signed]<;>(try split)<;>omega
theorem Wi {k:IntKind} {n:Int} (h0:0≤n) (h1:n≤Q5 k):(BitVec.ofInt k.bits n).toNat=n.toNat:=by
 rw [BitVec.toNat_ofInt]
 cases k<;>simp only [Q5] at h1<;>simp only [IntKind.bits]<;>omega
theorem Zfr {k:IntKind} {n:Int} (h0:0≤n) (h1:n≤Q5 k):n.toNat<2 ^ wdN k:=by
 cases k<;>simp only [Q5] at h1<;>simp only [wdN]<;>omega
theorem Zpo {k:IntKind} {n:Nat} (h:n<2 ^ wdN k):(n:Int)≤Q5 k:=by
 cases k<;>simp only [wdN] at h<;>simp only [Q5]<;>omega
theorem Zpr {k:IntKind} {n:Nat}:loE k≤(n:Int):=by
 cases k<;>simp only [loE]<;>omega
theorem bits_and {k:IntKind} {a b:Int} (h:0≤a∧a≤Q5 k∧0≤b∧b≤Q5 k):k.wrap (BitVec.ofInt k.bits a &&& BitVec.ofInt k.bits b).toNat=((a.toNat &&& b.toNat:Nat):Int):=by
 rw [BitVec.toNat_and,Wi h.1 h.2.1,Wi h.2.2.1 h.2.2.2]
 exact Za4 Zpr (Zpo (Nat.lt_of_le_of_lt Nat.and_le_left (Zfr h.1 h.2.1)))
theorem bits_or {k:IntKind} {a b:Int} (h:0≤a∧a≤Q5 k∧0≤b∧b≤Q5 k):k.wrap (BitVec.ofInt k.bits a ||| BitVec.ofInt k.bits b).toNat=((a.toNat ||| b.toNat:Nat):Int):=by
 rw [BitVec.toNat_or,Wi h.1 h.2.1,Wi h.2.2.1 h.2.2.2]
 exact Za4 Zpr (Zpo (Nat.or_lt_two_pow (Zfr h.1 h.2.1) (Zfr h.2.2.1 h.2.2.2)))
theorem bits_xor {k:IntKind} {a b:Int} (h:0≤a∧a≤Q5 k∧0≤b∧b≤Q5 k):k.wrap (BitVec.ofInt k.bits a ^^^ BitVec.ofInt k.bits b).toNat=((a.toNat ^^^ b.toNat:Nat):Int):=by
 rw [BitVec.toNat_xor,Wi h.1 h.2.1,Wi h.2.2.1 h.2.2.2]
 exact Za4 Zpr (Zpo (Nat.xor_lt_two_pow (Zfr h.1 h.2.1) (Zfr h.2.2.1 h.2.2.2)))
theorem Zki {k:IntKind} {a b:Int} (h:0≤a∧a≤Q5 k∧0≤b∧b≤Q5 k):k.wrap (BitVec.ofInt k.bits a &&& ~~~ BitVec.ofInt k.bits b).toNat=((a.toNat ^^^ (a.toNat &&& b.toNat):Nat):Int):=by
 have e:BitVec.ofInt k.bits a &&& ~~~ BitVec.ofInt k.bits b=BitVec.ofInt k.bits a ^^^ (BitVec.ofInt k.bits a &&& BitVec.ofInt k.bits b):=by
  apply BitVec.eq_of_getLsbD_eq
  intro i hi
  simp only [BitVec.getLsbD_and,BitVec.getLsbD_not,BitVec.getLsbD_xor,hi,decide_true,Bool.true_and]
  cases (BitVec.ofInt k.bits a).getLsbD i<;>cases (BitVec.ofInt k.bits b).getLsbD i<;>rfl
 rw [e,BitVec.toNat_xor,BitVec.toNat_and,Wi h.1 h.2.1,Wi h.2.2.1 h.2.2.2]
 exact Za4 Zpr (Zpo (Nat.xor_lt_two_pow (Zfr h.1 h.2.1) (Nat.lt_of_le_of_lt Nat.and_le_left (Zfr h.1 h.2.1))))

def wrV (k:IntKind) (n:Int):Value:=
 match k with
 | .u8 => .int .u8 (n % 256)
 | .u16 => .int .u16 (n % 65536)
 | .u32 => .int .u32 (n % 4294967296)
 | .u64 => .int .u64 (n % 18446744073709551616)
 | .i8 => .int .i8 (IntKind.i8.wrap n)
 | .i16 => .int .i16 (IntKind.i16.wrap n)
 | .i32 => .int .i32 (IntKind.i32.wrap n)
 | .i64 => .int .i64 (IntKind.i64.wrap n)
theorem Zjy (k:IntKind) (n:Int):wrV k n = .int k (k.wrap n):=by cases k<;>simp [wrV,IntKind.wrap,IntKind.bits,IntKind.signed]
def intE (op:BinOp) (k:IntKind) (a b:Int):Option (Value × Prop):=
 match op with
 | .lss=>some (.bool (decide (a<b)),True)
 | .leq=>some (.bool (decide (a≤b)),True)
 | .gtr=>some (.bool (decide (b<a)),True)
 | .geq=>some (.bool (decide (b≤a)),True)
 | .eql=>some (.bool (decide (a=b)),True)
 | .neq=>some (.bool (decide (a≠b)),True)
 | .add=>bif Zk8 k .i64 then some (.int .i64 (a+b),-9223372036854775808≤a+b∧a+b≤9223372036854775807) else some (wrV k (a+b),True)
 | .sub=>bif Zk8 k .i64 then some (.int .i64 (a-b),-9223372036854775808≤a-b∧a-b≤9223372036854775807) else some (wrV k (a-b),True)
 | .mul=>bif Zk8 k .i64 then some (.int .i64 (a*b),-9223372036854775808≤a*b∧a*b≤9223372036854775807) else some (wrV k (a*b),True)
 | .quo=>bif Zk8 k .i64 then some (.int .i64 (a / b),0≤a∧a≤9223372036854775807∧1≤b) else none
 | .rem=>bif Zk8 k .i64 then some (.int .i64 (a % b),0≤a∧a≤9223372036854775807∧1≤b) else none
 | .and=>some (.int k ((a.toNat &&& b.toNat:Nat):Int),0≤a∧a≤Q5 k∧0≤b∧b≤Q5 k)
 | .or=>some (.int k ((a.toNat ||| b.toNat:Nat):Int),0≤a∧a≤Q5 k∧0≤b∧b≤Q5 k)
 | .xor=>some (.int k ((a.toNat ^^^ b.toNat:Nat):Int),0≤a∧a≤Q5 k∧0≤b∧b≤Q5 k)
 | .andNot=>some (.int k ((a.toNat ^^^ (a.toNat &&& b.toNat):Nat):Int),0≤a∧a≤Q5 k∧0≤b∧b≤Q5 k)
 | _=>none
def shE (op:BinOp) (k:IntKind) (a b:Int):Option (Value × Prop):=
 match op with
 | .shr=>some (.int k (a / 2 ^ b.toNat),0≤b∧b≤wdE k)
 | .shl=>bif Zk8 k .i64 then some (.int .i64 (a*2 ^ b.toNat),0≤b∧b≤64 ∧ -9223372036854775808≤a*2 ^ b.toNat∧a*2 ^ b.toNat≤9223372036854775807) else some (wrV k (a*2 ^ b.toNat),0≤b∧b≤wdE k)
 | _=>none
def isSh:BinOp→Bool
 | .shr=>true
 | .shl=>true
 | _=>false
def binE (ty:List (Nat × TyI)) (op:BinOp) (t:Nat) (u v:Value):Option (Value × Prop):=
 match u,v with
 | .int k a,.int k' b=>bif isSh op then shE op k a b else bif Zk8 k k' then intE op k a b else none
 | .bool a,.bool b=>(Zt ty t).bind fun ti=>bif Nat.beq ti.kind 1 then (match op with
  | .eql=>some (.bool (decide (a=b)),True)
  | .neq=>some (.bool (decide (a≠b)),True)
  | _=>none) else none
 | .string ⟨⟨a⟩⟩,.string ⟨⟨b⟩⟩=>(match op with
  | .eql=>some (.bool (decide (a=b)),True)
  | .neq=>some (.bool (decide (a≠b)),True)
  | .add=>some (bs (a++b),a.length+b.length≤9223372036854775807)
  | _=>none)
 | .pointer (some _),.pointer none=>(Zt ty t).bind fun ti=>bif Nat.beq ti.kind 4 then (match op with
  | .eql=>some (.bool false,True)
  | .neq=>some (.bool true,True)
  | _=>none) else none
 | .pointer none,.pointer none=>(Zt ty t).bind fun ti=>bif Nat.beq ti.kind 4 then (match op with
  | .eql=>some (.bool true,True)
  | .neq=>some (.bool false,True)
  | _=>none) else none
 | .slice (some _) _ _,.slice none 0 0=>(Zt ty t).bind fun ti=>bif Nat.beq ti.kind 5 then (match op with
  | .eql=>some (.bool false,True)
  | .neq=>some (.bool true,True)
  | _=>none) else none
 | .slice none _ _,.slice none 0 0=>(Zt ty t).bind fun ti=>bif Nat.beq ti.kind 5 then (match op with
  | .eql=>some (.bool true,True)
  | .neq=>some (.bool false,True)
  | _=>none) else none
 | .iface _ _,.nilIface=>(Zt ty t).bind fun ti=>bif Nat.beq ti.kind 9 then (match op with
  | .eql=>some (.bool false,True)
  | .neq=>some (.bool true,True)
  | _=>none) else none
 | _,_=>none
def isNil:Operand→Bool
 | .const .nilIface=>true
 | _=>false
def nilE (ty:List (Nat × TyI)) (op:BinOp) (t:Nat):Option (Value × Prop):=
 (Zt ty t).bind fun ti=>bif Nat.beq ti.kind 9 then (match op with
  | .eql=>some (.bool true,True)
  | .neq=>some (.bool false,True)
  | _=>none) else none
def Zi2:Value→Bool
 | .nilIface=>true
 | _=>false
def Zdh (ty:List (Nat × TyI)) (t:Nat) (a:Option Addr) (len cap:Nat) (lo hi:Option Value):Option (Value × Prop):=
 (Zt ty t).bind fun ti=>bif Nat.beq ti.kind 5 then (Zt ty ti.x).bind fun te=>(match lo,hi with
  | some (.int _ l),none=>some (.slice (cut a cap l.toNat te.size) (len-l.toNat) (cap-l.toNat),0≤l∧l≤len)
  | none,some (.int _ h)=>some (.slice a h.toNat cap,0≤h∧h≤cap)
  | some (.int _ l),some (.int _ h)=>some (.slice (cut a cap l.toNat te.size) (h.toNat-l.toNat) (cap-l.toNat),0≤l∧l≤h∧h≤cap)
  | _,_=>none) else none
def Znp (ty:List (Nat × TyI)) (t:Nat) (u v:Value):Option (Value × Prop):=
 (Zt ty t).bind fun ti=>match u,v with
  | .slice (some ⟨b,i,none⟩) len _,.int _ j=>bif Nat.beq ti.kind 5 then (Zt ty ti.x).bind fun te=>(match te with|⟨_,_,_,sz,_⟩=>bif Nat.beq sz 1 then some (pt b (i+j.toNat),0≤j∧j<len) else some (pt b (i+j.toNat*sz),0≤j∧j<len)) else none
  | .pointer (some ⟨b,i,none⟩),.int _ j=>bif Nat.beq ti.kind 6 then (match ti with|⟨_,n,e,_,_⟩=>(Zt ty e).bind fun te=>(match te with|⟨_,_,_,sz,_⟩=>some (pt b (i+j.toNat*sz),0≤j∧j<n))) else none
  | _,_=>none
def callE (ty:List (Nat × TyI)) (ρ:Zr) (b:Builtin) (args:List Operand) (ts:List Nat):Option (Value × Prop):=
 match b,args,ts with
 | .len,[x],[t]=>(ev ρ x).bind fun u=>(Zt ty t).bind fun ti=>(match u with
  | .slice _ n _=>bif Nat.beq ti.kind 5 then some (iv n,True) else none
  | .string ⟨⟨l⟩⟩=>bif Nat.beq ti.kind 3 then some (iv l.length,True) else none
  | _=>bif Nat.beq ti.kind 6 then some (iv ti.x,True) else none)
 | .max,[x,y],_=>(match ev ρ x,ev ρ y with
  | some (.int k a),some (.int k' b)=>bif Zk8 k k' then some (.int k (max a b),True) else none
  | _,_=>none)
 | .min,[x,y],_=>(match ev ρ x,ev ρ y with
  | some (.int k a),some (.int k' b)=>bif Zk8 k k' then some (.int k (min a b),True) else none
  | _,_=>none)
 | _,_,_=>none
def notE:Value→Option (Value × Prop)
 | .bool b=>(match b with
  | true=>some (.bool false,True)
  | false=>some (.bool true,True))
 | _=>none
def Zbg (k:IntKind) (n:Int):Value × Prop:=
 match k with
 | .i8=>(.int .i8 n,-128≤n∧n≤127)
 | .i16=>(.int .i16 n,-32768≤n∧n≤32767)
 | .i32=>(.int .i32 n,-2147483648≤n∧n≤2147483647)
 | .i64=>(.int .i64 n,-9223372036854775808≤n∧n≤9223372036854775807)
 | .u8=>(.int .u8 n,0≤n∧n≤255)
 | .u16=>(.int .u16 n,0≤n∧n≤65535)
 | .u32=>(.int .u32 n,0≤n∧n≤4294967295)
 | .u64=>(.int .u64 n,0≤n∧n≤18446744073709551615)
theorem convK_eq (k:IntKind) (n:Int):Zbg k n=(.int k n,loE k≤n∧n≤Q5 k):=by cases k<;>rfl
def convE (ty:List (Nat × TyI)) (src dst:Nat) (u:Value):Option (Value × Prop):=
 (Zt ty dst).bind fun ti=>(Zt ty src).bind fun _=>match u with
  | .int _ n=>bif Nat.beq ti.kind 2 then (match Ql ti.x with | .i8=>some (Zbg .i8 n) | .i16=>some (Zbg .i16 n) | .i32=>some (Zbg .i32 n) | .i64=>some (Zbg .i64 n) | .u8=>some (Zbg .u8 n) | .u16=>some (Zbg .u16 n) | .u32=>some (Zbg .u32 n) | .u64=>some (Zbg .u64 n)) else none
  | _=>none
def ixE (ty:List (Nat × TyI)) (t:Nat) (u v:Value):Option (Value × Prop):=
 (Zt ty t).bind fun ti=>match u,v with
  | .string ⟨⟨l⟩⟩,.int _ j=>bif Nat.beq ti.kind 3 then some (.int .u8 ((l.getD j.toNat 0).toNat:Int),0≤j∧j<l.length) else none
  | _,_=>none
def opE (ty:List (Nat × TyI)) (fl:List (Nat × Nat × Nat)) (ρ:Zr) (o:Op):Option (Value × Prop):=
 match o with
 | .move x=>(ev ρ x).bind fun v=>some (v,True)
 | .assign x=>(ev ρ x).bind fun v=>some (v,True)
 | .pick c x y=>(match ev ρ c with
  | some (.bool b)=>(match b with
   | true=>(ev ρ x).bind fun v=>some (v,True)
   | false=>(ev ρ y).bind fun v=>some (v,True))
  | _=>none)
 | .extract x j=>(match ev ρ x with
  | some (.tuple ⟨vs⟩)=>(vs[j]?).bind fun v=>some (v,True)
  | _=>none)
 | .nilCheck x=>(match ev ρ x with
  | some (.pointer (some p))=>some (.pointer (some p),True)
  | _=>none)
 | .fieldAddr s x f=>(match ev ρ x with
  | some (.pointer (some ⟨b,i,none⟩))=>(Zt fl (s*64+f)).bind fun q=>(match q with|(o,_)=>bif Nat.blt f 64 then some (pt b (i+o),True) else none)
  | _=>none)
 | .indexAddr t x y=>(ev ρ x).bind fun u=>(ev ρ y).bind fun v=>Znp ty t u v
 | .binOp op t x y _=>(ev ρ x).bind fun u=>bif isNil y && Zi2 u then nilE ty op t else (ev ρ y).bind fun v=>binE ty op t u v
 | .unOp .not _ x=>(ev ρ x).bind notE
 | .slice t x lo hi none=>(match ev ρ x with
  | some (.slice a len cap)=>(match lo,hi with
   | some l,none=>(ev ρ l).bind fun l=>Zdh ty t a len cap (some l) none
   | none,some h=>(ev ρ h).bind fun h=>Zdh ty t a len cap none (some h)
   | some l,some h=>(ev ρ l).bind fun l=>(ev ρ h).bind fun h=>Zdh ty t a len cap (some l) (some h)
   | none,none=>none)
  | _=>none)
 | .convert src dst x=>(ev ρ x).bind fun u=>convE ty src dst u
 | .index t x y=>(ev ρ x).bind fun u=>(ev ρ y).bind fun v=>ixE ty t u v
 | .makeInterface t x=>(ev ρ x).bind fun u=>(Zt ty t).bind fun ti=>bif Nat.beq ti.kind 9 then none else some (.iface t u,True)
 | .makeFunc (.func f) ⟨[]⟩ ⟨cap⟩=>(Zg1 ρ cap).bind fun vs=>some (.func (.func f) #[] ⟨vs⟩,True)
 | .call ⟨.builtin b,⟨args⟩,⟨ts⟩⟩=>callE ty ρ b args ts
 | _=>none

section sound
variable {P:Program} (S:Tab P) {ρ:Zr} {L:Zb} {d:Option Tmp} {ty:TypeId} {pos:String} {af:Array Edge} {g:Option (Nat × Bool)}
theorem Zn {α:Type} {c:Bool} {x:Option α} {v:α} (h:(bif c then x else none)=some v):c=true∧x=some v:=by
 cases c with
 | true=>exact ⟨rfl,h⟩
 | false=>cases h
theorem bind_some {α β:Type} {x:Option α} {f:α→Option β} {v:β} (h:x.bind f=some v) : ∃ y,x=some y∧f y=some v:=by
 cases x with
 | none=>cases h
 | some y=>exact ⟨y,rfl,h⟩
theorem intE_q {op:BinOp} {t t':Nat} {x y:Operand} {k:IntKind} {a b:Int} {v:Value} {p:Prop} (hx:ev ρ x=some (.int k a)) (hy:ev ρ y=some (.int k b)) (h:intE op k a b=some (v,p)) (hp:p) :
  QOp P ⟨d,.binOp op t x y t',ty,pos,af,g⟩ ρ L v:=by
 unfold intE at h
 split at h
 case h_1=>cases h;exact q_lss hx hy
 case h_2=>cases h;exact q_leq hx hy
 case h_3=>cases h;exact q_gtr hx hy
 case h_4=>cases h;exact q_geq hx hy
 case h_5=>cases h;exact q_eql hx hy
 case h_6=>cases h;exact q_neq hx hy
 case h_7 =>
  cases hk:Zk8 k .i64 with
  | true=>rw [hk] at h;cases h;cases Uw hk;exact q_add hx hy hp
  | false=>rw [hk] at h;cases h;rw [Zjy];exact Yx hx hy fun w=>by simp [binOp,Op.intArith]
 case h_8 =>
  cases hk:Zk8 k .i64 with
  | true=>rw [hk] at h;cases h;cases Uw hk;exact q_sub hx hy hp
  | false=>rw [hk] at h;cases h;rw [Zjy];exact Yx hx hy fun w=>by simp [binOp,Op.intArith]
 case h_9 =>
  cases hk:Zk8 k .i64 with
  | true=>rw [hk] at h;cases h;cases Uw hk;exact q_mul hx hy hp
  | false=>rw [hk] at h;cases h;rw [Zjy];exact Yx hx hy fun w=>by simp [binOp,Op.intArith]
 case h_10 =>
  obtain ⟨hk,h2⟩:=Zn h
  clear h
  cases h2;cases Uw hk;exact q_quo hx hy hp
 case h_11 =>
  obtain ⟨hk,h2⟩:=Zn h
  clear h
  cases h2;cases Uw hk;exact q_rem hx hy hp
 case h_12=>cases h;exact Yx hx hy fun w=>by simp only [binOp,ne_eq,not_true_eq_false,if_false,Op.intBits,bits_and hp];rfl
 case h_13=>cases h;exact Yx hx hy fun w=>by simp only [binOp,ne_eq,not_true_eq_false,if_false,Op.intBits,bits_or hp];rfl
 case h_14=>cases h;exact Yx hx hy fun w=>by simp only [binOp,ne_eq,not_true_eq_false,if_false,Op.intBits,bits_xor hp];rfl
 case h_15=>cases h;exact Yx hx hy fun w=>by simp only [binOp,ne_eq,not_true_eq_false,if_false,Op.intBits,Zki hp];rfl
 case h_16=>cases h
theorem Zoi {k:IntKind} {b:Int} (h0:0≤b) (h1:b≤wdE k):min b.toNat k.bits=b.toNat:=by
 cases k<;>simp only [wdE] at h1<;>simp only [IntKind.bits]<;>omega
theorem Zf7 {op:BinOp} {t t':Nat} {x y:Operand} {k k':IntKind} {a b:Int} {v:Value} (hx:ev ρ x=some (.int k a)) (hy:ev ρ y=some (.int k' b)) (hv : ∀ w,(binOp op t (.int k a) (.int k' b)).run P w = .ok v w) :
  QOp P ⟨d,.binOp op t x y t',ty,pos,af,g⟩ ρ L v:=
 Ya fun ρe he k w hs=>by simp [execOp,he x (by simp [Op.operands]) _ hx,he y (by simp [Op.operands]) _ hy,Zdt,hv w]
theorem shE_q {op:BinOp} {t t':Nat} {x y:Operand} {k k':IntKind} {a b:Int} {v:Value} {p:Prop} (hx:ev ρ x=some (.int k a)) (hy:ev ρ y=some (.int k' b)) (h:shE op k a b=some (v,p)) (hp:p) :
  QOp P ⟨d,.binOp op t x y t',ty,pos,af,g⟩ ρ L v:=by
 unfold shE at h
 split at h
 ·cases h
  refine Zf7 hx hy fun w=>?_
  have hnn:(0:Int)≤2 ^ b.toNat:=Int.pow_nonneg (by decide)
  have h1 : ¬ b<0:=by omega
  simp [binOp,Op.shift,h1,Zoi hp.1 hp.2,Int.fdiv_eq_ediv_of_nonneg _ hnn]
 ·cases hk:Zk8 k .i64 with
  | true =>
   rw [hk] at h;cases h;cases Uw hk
   refine Zf7 hx hy fun w=>?_
   have h1 : ¬ b<0:=by omega
   simp [binOp,Op.shift,h1,Zoi (k := .i64) hp.1 hp.2.1,Za4 (k := .i64) hp.2.2.1 hp.2.2.2]
  | false =>
   rw [hk] at h;cases h
   refine Zf7 hx hy fun w=>?_
   have h1 : ¬ b<0:=by omega
   simp [binOp,Op.shift,h1,Zoi hp.1 hp.2,Zjy]
 ·cases h
theorem binE_q {op:BinOp} {t t':Nat} {x y:Operand} {u u' v:Value} {p:Prop} (hx:ev ρ x=some u) (hy:ev ρ y=some u') (h:binE S.ty op t u u'=some (v,p)) (hp:p) :
  QOp P ⟨d,.binOp op t x y t',ty,pos,af,g⟩ ρ L v:=by
 unfold binE at h
 split at h
 case h_1 =>
  rename_i k a k' b
  cases hs:isSh op with
  | true=>rw [hs] at h;exact shE_q hx hy h hp
  | false =>
   rw [hs] at h
   obtain ⟨hk,h2⟩:=Zn (show (bif Zk8 k k' then intE op k a b else none)=some (v,p) from h)
   clear h
   cases Uw hk;exact intE_q hx hy h2 hp
 case h_2 =>
  obtain ⟨ti,ht,h⟩:=bind_some h
  obtain ⟨hk,h⟩:=Zn h
  have hk:=Nat.eq_of_beq_eq_true hk
  split at h<;>cases h
  ·exact q_eqlB S hx hy ht hk
  ·exact q_neqB S hx hy ht hk
 case h_3 =>
  split at h<;>cases h
  ·exact q_eqlS hx hy
  ·exact q_neqS hx hy
  ·exact q_addS hx hy hp
 case h_4 =>
  obtain ⟨ti,ht,h⟩:=bind_some h
  obtain ⟨hk,h⟩:=Zn h
  have hk:=Nat.eq_of_beq_eq_true hk
  split at h<;>cases h
  ·exact q_eqlPn S hx hy ht hk
  ·exact q_neqPn S hx hy ht hk
 case h_5 =>
  obtain ⟨ti,ht,h⟩:=bind_some h
  obtain ⟨hk,h⟩:=Zn h
  have hk:=Nat.eq_of_beq_eq_true hk
  split at h<;>cases h
  ·exact q_eqlPnn S hx hy ht hk
  ·exact q_neqPnn S hx hy ht hk
 case h_6 =>
  obtain ⟨ti,ht,h⟩:=bind_some h
  obtain ⟨hk,h⟩:=Zn h
  have hk:=Nat.eq_of_beq_eq_true hk
  split at h<;>cases h
  ·exact Qo (b:=false) hx hy (fun w=>by simp [eqGuard]) (fun w=>Xz fun dd=>Zeo (Z9 (S.tyI ht) hk) dd w) rfl
  ·exact Uf (b:=false) hx hy (fun w=>by simp [eqGuard]) (fun w=>Xz fun dd=>Zeo (Z9 (S.tyI ht) hk) dd w) rfl
 case h_7 =>
  obtain ⟨ti,ht,h⟩:=bind_some h
  obtain ⟨hk,h⟩:=Zn h
  have hk:=Nat.eq_of_beq_eq_true hk
  split at h<;>cases h
  ·exact Qo (b:=true) hx hy (fun w=>by simp [eqGuard]) (fun w=>Xz fun dd=>Zeo (Z9 (S.tyI ht) hk) dd w) rfl
  ·exact Uf (b:=true) hx hy (fun w=>by simp [eqGuard]) (fun w=>Xz fun dd=>Zeo (Z9 (S.tyI ht) hk) dd w) rfl
 case h_8 =>
  obtain ⟨ti,ht,h⟩:=bind_some h
  obtain ⟨hk,h⟩:=Zn h
  have hk:=Nat.eq_of_beq_eq_true hk
  split at h<;>cases h
  ·exact q_eqlIn S hx hy ht hk
  ·exact q_neqIn S hx hy ht hk
 case h_9=>cases h
theorem isNil_eq {y:Operand} (h:isNil y=true):y = .const .nilIface:=by
 unfold isNil at h
 split at h
 ·rfl
 ·cases h
theorem Zri {y:Value} (h:Zi2 y=true):y = .nilIface:=by
 unfold Zi2 at h
 split at h
 ·rfl
 ·cases h
theorem nilE_q {op:BinOp} {t t':Nat} {x:Operand} {v:Value} {p:Prop} (hx:ev ρ x=some .nilIface) (h:nilE S.ty op t=some (v,p)) :
  QOp P ⟨d,.binOp op t x (.const .nilIface) t',ty,pos,af,g⟩ ρ L v:=by
 unfold nilE at h
 obtain ⟨ti,ht,h⟩:=bind_some h
 obtain ⟨hk,h⟩:=Zn h
 have hk:=Nat.eq_of_beq_eq_true hk
 split at h<;>cases h
 ·exact q_eqlInn S hx ht hk
 ·exact q_neqInn S hx ht hk
theorem indexE_q {t:Nat} {x y:Operand} {u u' v:Value} {p:Prop} (hx:ev ρ x=some u) (hy:ev ρ y=some u') (h:Znp S.ty t u u'=some (v,p)) (hp:p):QOp P ⟨d,.indexAddr t x y,ty,pos,af,g⟩ ρ L v:=by
 unfold Znp at h
 obtain ⟨ti,ht,h⟩:=bind_some h
 split at h
 ·obtain ⟨hk0,h2⟩:=Zn h
  clear h
  have hk:=Nat.eq_of_beq_eq_true hk0
  clear hk0
  obtain ⟨te,he,h⟩:=bind_some h2
  clear h2
  obtain ⟨k0,x0,y0,s0,b0⟩:=ti
  obtain ⟨k1,x1,y1,s1,b1⟩:=te
  simp only at hk h he
  subst hk
  cases hc:Nat.beq s1 1 with
  | true =>
   rw [hc] at h
   have:=Nat.eq_of_beq_eq_true hc
   subst this
   cases h
   exact Zjh S hx hy ht he hp
  | false=>rw [hc] at h;cases h;exact Zd5 S hx hy ht he hp
 ·obtain ⟨hk0,h2⟩:=Zn h
  clear h
  have hk:=Nat.eq_of_beq_eq_true hk0
  clear hk0
  obtain ⟨te,he,h⟩:=bind_some h2
  clear h2
  obtain ⟨k0,x0,y0,s0,b0⟩:=ti
  obtain ⟨k1,x1,y1,s1,b1⟩:=te
  simp only at hk h he
  subst hk
  cases h
  exact Zji S hx hy ht he hp
 ·cases h
theorem callE_q {b:Builtin} {args:List Operand} {ts:List Nat} {v:Value} {p:Prop} (h:callE S.ty ρ b args ts=some (v,p)) (hp:p):QOp P ⟨d,.call ⟨.builtin b,⟨args⟩,⟨ts⟩⟩,ty,pos,af,g⟩ ρ L v:=by
 unfold callE at h
 split at h
 ·obtain ⟨u,hu,h⟩:=bind_some h
  obtain ⟨ti,ht,h⟩:=bind_some h
  split at h
  ·obtain ⟨hk,h⟩:=Zn h
   cases h
   exact q_lenS S hu ht (Nat.eq_of_beq_eq_true hk)
  ·obtain ⟨hk,h⟩:=Zn h
   cases h
   exact q_lenT S hu ht (Nat.eq_of_beq_eq_true hk)
  ·obtain ⟨hk0,h2⟩:=Zn h
   clear h
   have hk:=Nat.eq_of_beq_eq_true hk0
   clear hk0
   have h:=h2
   clear h2
   obtain ⟨k0,x0,y0,s0,b0⟩:=ti
   simp only at hk h
   subst hk
   cases h
   exact q_lenA S hu ht
 ·split at h
  ·rename_i h1 h2
   obtain ⟨hk,h3⟩:=Zn h
   clear h
   cases Uw hk
   cases h3
   exact q_max h1 h2
  ·cases h
 ·split at h
  ·rename_i h1 h2
   obtain ⟨hk,h3⟩:=Zn h
   clear h
   cases Uw hk
   cases h3
   exact q_min h1 h2
  ·cases h
 ·cases h
theorem convE_q {src dst:Nat} {x:Operand} {u v:Value} {p:Prop} (hx:ev ρ x=some u) (h:convE S.ty src dst u=some (v,p)) (hp:p):QOp P ⟨d,.convert src dst x,ty,pos,af,g⟩ ρ L v:=by
 unfold convE at h
 obtain ⟨ti,ht,h1⟩:=bind_some h
 obtain ⟨ts,hs,h2⟩:=bind_some h1
 clear h h1
 split at h2
 ·rename_i k0 n
  obtain ⟨hk,h3⟩:=Zn h2
  clear h2
  have h:some (Zbg (Ql ti.x) n)=some (v,p):=by
   rw [← h3]
   cases Ql ti.x<;>rfl
  rw [convK_eq] at h
  cases h
  refine Ya fun ρe he k w hsat=>?_
  have e1:=Zdj (S.tyI ht) (Nat.eq_of_beq_eq_true hk)
  obtain ⟨ds,hds⟩:=Option.isSome_iff_exists.1 (Zih (S.tyI hs))
  simp [execOp,he x (by simp [Op.operands]) _ hx,convert,run_underlying e1,run_underlying hds,Conv.intToInt,Za4 hp.1 hp.2]
 ·cases h2
theorem ixE_q {t:Nat} {x y:Operand} {u u' v:Value} {p:Prop} (hx:ev ρ x=some u) (hy:ev ρ y=some u') (h:ixE S.ty t u u'=some (v,p)) (hp:p):QOp P ⟨d,.index t x y,ty,pos,af,g⟩ ρ L v:=by
 unfold ixE at h
 obtain ⟨ti,ht,h1⟩:=bind_some h
 clear h
 split at h1
 ·rename_i l k j
  obtain ⟨hk,h⟩:=Zn h1
  cases h
  refine Ya fun ρe he k w hsat=>?_
  have e1:=W0 (S.tyI ht) (Nat.eq_of_beq_eq_true hk)
  have hlt:j.toNat<l.length:=by omega
  have e2:(ByteArray.mk ⟨l⟩)[j.toNat]? = some (l.getD j.toNat 0):=by
   have h3:j.toNat<(ByteArray.mk ⟨l⟩).size:=by rw [Qe];exact hlt
   rw [getElem?_pos (ByteArray.mk ⟨l⟩) j.toNat h3]
   simp [ByteArray.getElem_eq_getElem_data,List.getD,hlt]
  simp [execOp,he x (by simp [Op.operands]) _ hx,he y (by simp [Op.operands]) _ hy,Instr.index,asIntOf,run_underlying e1,hp.1,e2]
 ·cases h1
theorem opE_q {o:Op} {v:Value} {p:Prop} (h:opE S.ty S.fl ρ o=some (v,p)) (hp:p):QOp P ⟨d,o,ty,pos,af,g⟩ ρ L v:=by
 unfold opE at h
 split at h
 ·obtain ⟨u,hu,h⟩:=bind_some h
  cases h
  exact q_move hu
 ·obtain ⟨u,hu,h⟩:=bind_some h
  cases h
  exact q_assign hu
 ·split at h
  ·rename_i b hb
   split at h
   ·obtain ⟨u,hu,h⟩:=bind_some h
    cases h
    exact q_pickt hb rfl hu
   ·obtain ⟨u,hu,h⟩:=bind_some h
    cases h
    exact q_pickf hb rfl hu
  ·cases h
 ·split at h
  ·rename_i hx
   obtain ⟨u,hu,h⟩:=bind_some h
   cases h
   exact Zr1 hx hu
  ·cases h
 ·split at h
  ·rename_i hx
   cases h
   exact Zod hx
  ·cases h
 ·split at h
  ·rename_i hx
   obtain ⟨q,hq,h⟩:=bind_some h
   obtain ⟨hk,h⟩:=Zn h
   cases h
   exact Zl3 S hx hq hk
  ·cases h
 ·obtain ⟨u,hu,h⟩:=bind_some h
  obtain ⟨u',hu',h⟩:=bind_some h
  exact indexE_q S hu hu' h hp
 ·obtain ⟨u,hu,h⟩:=bind_some h
  cases hc:(isNil _ && Zi2 u) with
  | true =>
   rw [hc] at h
   simp only [Bool.and_eq_true] at hc
   rw [isNil_eq hc.1]
   rw [Zri hc.2] at hu
   exact nilE_q S hu h
  | false =>
   rw [hc] at h
   obtain ⟨u',hu',h⟩:=bind_some h
   exact binE_q S hu hu' h hp
 ·obtain ⟨u,hu,h⟩:=bind_some h
  unfold notE at h
  split at h
  ·split at h
   ·cases h
    exact q_not_t hu rfl
   ·cases h
    exact q_not_f hu rfl
  ·cases h
 ·split at h
  ·rename_i hx
   split at h
   ·obtain ⟨u,hu,h⟩:=bind_some h
    unfold Zdh at h
    obtain ⟨ti,ht,h1⟩:=bind_some h
    clear h
    obtain ⟨hk0,h2⟩:=Zn h1
    clear h1
    have hk:=Nat.eq_of_beq_eq_true hk0
    clear hk0
    obtain ⟨te,he,h⟩:=bind_some h2
    clear h2
    obtain ⟨k0,x0,y0,s0,b0⟩:=ti
    obtain ⟨k1,x1,y1,s1,b1⟩:=te
    simp only at hk h he
    subst hk
    split at h
    all_goals try (rename_i e1 e2;cases e2;done)
    all_goals try (rename_i e1 e2;cases e1;done)
    all_goals try (cases h;done)
    all_goals (rename_i e1 e2;cases e1;cases h;exact Zr4 S hx hu ht he hp)
   ·obtain ⟨u,hu,h⟩:=bind_some h
    unfold Zdh at h
    obtain ⟨ti,ht,h1⟩:=bind_some h
    clear h
    obtain ⟨hk0,h2⟩:=Zn h1
    clear h1
    have hk:=Nat.eq_of_beq_eq_true hk0
    clear hk0
    obtain ⟨te,he,h⟩:=bind_some h2
    clear h2
    obtain ⟨k0,x0,y0,s0,b0⟩:=ti
    obtain ⟨k1,x1,y1,s1,b1⟩:=te
    simp only at hk h he
    subst hk
    split at h
    all_goals try (rename_i e1 e2;cases e1;done)
    all_goals try (cases h;done)
    all_goals (rename_i e1 e2;cases e2;cases h;exact Zr2 S hx hu ht he hp)
   ·obtain ⟨u,hu,h⟩:=bind_some h
    obtain ⟨u',hu',h9⟩:=bind_some h
    clear h
    have h:=h9
    clear h9
    unfold Zdh at h
    obtain ⟨ti,ht,h1⟩:=bind_some h
    clear h
    obtain ⟨hk0,h2⟩:=Zn h1
    clear h1
    have hk:=Nat.eq_of_beq_eq_true hk0
    clear hk0
    obtain ⟨te,he,h⟩:=bind_some h2
    clear h2
    obtain ⟨k0,x0,y0,s0,b0⟩:=ti
    obtain ⟨k1,x1,y1,s1,b1⟩:=te
    simp only at hk h he
    subst hk
    split at h
    all_goals try (rename_i e1 e2;cases e2;done)
    all_goals try (rename_i e1 e2;cases e1;done)
    all_goals try (cases h;done)
    all_goals (rename_i e1 e2;cases e1;cases e2;cases h;exact Zr3 S hx hu hu' ht he hp)
   ·cases h
  ·cases h
 ·obtain ⟨u,hu,h1⟩:=bind_some h
  exact convE_q S hu h1 hp
 ·obtain ⟨u,hu,h1⟩:=bind_some h
  obtain ⟨u',hu',h2⟩:=bind_some h1
  exact ixE_q S hu hu' h2 hp
 ·obtain ⟨u,hu,h1⟩:=bind_some h
  obtain ⟨ti,ht,h2⟩:=bind_some h1
  clear h h1
  rename_i t x
  cases hk:Nat.beq ti.kind 9 with
  | true=>rw [hk] at h2;cases h2
  | false =>
   rw [hk] at h2
   cases h2
   refine Ya fun ρe he k w hsat=>?_
   obtain ⟨dd,j,hd,hj,he2,-,-⟩:=Xf (S.tyI ht)
   have : ∀ ms,dd ≠ .interface ms:=fun ms e=>by
    subst e
    simp only [V7,Prod.mk.injEq] at he2
    rw [← he2.1] at hk
    cases hk
   cases dd<;>first|(exact absurd rfl (this _))|simp [execOp,he x (by simp [Op.operands]) _ hu,Instr.makeInterface,run_underlying hd]
 ·obtain ⟨u,hu,h⟩:=bind_some h
  cases h
  exact Zoc hu
 ·exact callE_q S h hp
 ·cases h
end sound

def Zi3:Value→Bool
 | .tuple ⟨[]⟩=>true
 | _=>false
theorem Zbz {v:Value} (h:Zi3 v=true):v=undef:=by
 unfold Zi3 at h
 split at h
 ·rfl
 ·cases h
def Zu (ops:List Oper) (ρ:Zr):Option (Nat × Bool)→Option Bool
 | none=>some true
 | some (j,wt)=>(match V8 ops j with
  | some t=>(match lk ρ t with
   | some (.bool b)=>(match b with
    | true=>some wt
    | false=>some (!wt))
   | some v=>bif Zi3 v then some false else none
   | none=>none)
  | none=>none)
section go
variable {P:Program} {n:Nat} {ops:List Oper} {Q:Exit→Zr→Zb→Prop} {rest:List Oper} {ρ:Zr} {L:Zb} {op:Op} {ty:TypeId} {pos:String} {af:Array Edge} {g:Option (Nat × Bool)} {d:Nat}
theorem ho_go {v:Value} (hg:Zu ops ρ g=some true) (hn:Nat.blt d n=true) (h:QOp P ⟨some d,op,ty,pos,af,g⟩ ρ L v) (hr:HO P n ops Q rest ((d,v)::ρ) L):HO P n ops Q (⟨some d,op,ty,pos,af,g⟩::rest) ρ L:=by
 unfold Zu at hg
 split at hg
 ·exact ho_q hn h hr
 ·rename_i j wt
  split at hg
  ·rename_i hj
   split at hg
   ·rename_i ht
    split at hg
    ·cases hg;exact Zpg hn hj ht h hr
    ·cases wt with
     | true=>simp at hg
     | false=>exact Zpg hn hj ht h hr
   ·obtain ⟨_,h1⟩:=Zn hg
    cases h1
   ·cases hg
  ·cases hg
theorem ho_no (hg:Zu ops ρ g=some false) (hn:Nat.blt d n=true) (hr:HO P n ops Q rest ((d,undef)::ρ) L):HO P n ops Q (⟨some d,op,ty,pos,af,g⟩::rest) ρ L:=by
 unfold Zu at hg
 split at hg
 ·cases hg
 ·rename_i j wt
  split at hg
  ·rename_i hj
   split at hg
   ·rename_i ht
    split at hg
    ·cases hg;exact Zpf hn hj ht rfl hr
    ·cases wt with
     | true=>exact Zpf hn hj ht rfl hr
     | false=>simp at hg
   ·rename_i ht
    obtain ⟨h1,_⟩:=Zn hg
    exact ho_skipu hj ht (Zbz h1) hn hr
   ·cases hg
  ·cases hg
theorem ho_on {d:Option Tmp} {j:Nat} {wt:Bool} (hg:Zu ops ρ (some (j,wt))=some true) (h:HO P n ops Q (⟨d,op,ty,pos,af,none⟩::rest) ρ L):HO P n ops Q (⟨d,op,ty,pos,af,some (j,wt)⟩::rest) ρ L:=by
 intro k w a hs ha
 have hw:Region.wanted (Oper.mk d op ty pos af (some (j,wt))) (yielded ops.toArray a.tmps)=true:=by
  unfold Zu at hg
  simp only at hg
  split at hg
  ·rename_i t hj
   split at hg
   ·rename_i b ht
    rw [Wk ha rfl hj ht]
    cases b<;>cases wt<;>simp at hg<;>rfl
   ·obtain ⟨_,h1⟩:=Zn hg
    cases h1
   ·cases hg
  ·cases hg
 have h1:=h k w a hs ha
 unfold wpList at h1 ⊢
 rw [if_pos hw]
 rw [if_pos (Wd _ rfl _)] at h1
 exact h1
end go

section hgo
variable {P:Program} {n:Nat} {ops:List Oper} {K:Zr→Prop} {rest:List Oper} {ρ:Zr} {L:Zb} {op:Op} {ty:TypeId} {pos:String} {af:Array Edge} {g:Option (Nat × Bool)} {d:Nat}
theorem hq_go {v:Value} (hg:Zu ops ρ g=some true) (hn:Nat.blt d n=true) (h:QOp P ⟨some d,op,ty,pos,af,g⟩ ρ L v) (hr:HQ P n ops K rest ((d,v)::ρ) L):HQ P n ops K (⟨some d,op,ty,pos,af,g⟩::rest) ρ L:=by
 unfold Zu at hg
 split at hg
 ·exact hq_q hn h hr
 ·rename_i j wt
  split at hg
  ·rename_i hj
   split at hg
   ·rename_i ht
    split at hg
    ·cases hg;exact Zpi hn hj ht h hr
    ·cases wt with
     | true=>simp at hg
     | false=>exact Zpi hn hj ht h hr
   ·obtain ⟨_,h1⟩:=Zn hg
    cases h1
   ·cases hg
  ·cases hg
theorem hq_no (hg:Zu ops ρ g=some false) (hn:Nat.blt d n=true) (hr:HQ P n ops K rest ((d,undef)::ρ) L):HQ P n ops K (⟨some d,op,ty,pos,af,g⟩::rest) ρ L:=by
 unfold Zu at hg
 split at hg
 ·cases hg
 ·rename_i j wt
  split at hg
  ·rename_i hj
   split at hg
   ·rename_i ht
    split at hg
    ·cases hg;exact Zph hn hj ht rfl hr
    ·cases wt with
     | true=>exact Zph hn hj ht rfl hr
     | false=>simp at hg
   ·rename_i ht
    obtain ⟨h1,_⟩:=Zn hg
    exact hq_skipu hj ht (Zbz h1) hn hr
   ·cases hg
  ·cases hg
end hgo
/-! ### package variables -/
def Gl (L:Zb) (g:Nat) (v:Value):Prop := ∃ l E fr,Has L g (.cells ⟨l⟩ E fr)∧l[0]? = some v
theorem Gl.cons {L:Zb} {g:Nat} {v:Value} {c:List Zm} (h:Gl L g v):Gl (c::L) g v:=
 let ⟨l,E,fr,h1,h2⟩:=h
 ⟨l,E,fr,Zc h1,h2⟩
def eV (T:Nat) (E:Nat→Addr):Option Nat→Value
 | none => .nilIface
 | some g => .iface T (.pointer (some (E g)))
def Errs (tab:List (Nat × Nat)) (T:Nat) (E:Nat→Addr) (cs:List Nat) (L:Zb):Prop := ∀ g c,Zt tab g=some c→List.elem c cs=true→Gl L g (.iface T (.pointer (some (E c))))
theorem Errs.cons {tab:List (Nat × Nat)} {T:Nat} {E:Nat→Addr} {cs:List Nat} {L:Zb} (h:Errs tab T E cs L) (c:List Zm):Errs tab T E cs (c::L):=fun g c hg hc=>(h g c hg hc).cons
theorem Errs.get {tab:List (Nat × Nat)} {T:Nat} {E:Nat→Addr} {cs:List Nat} {L:Zb} {g c:Nat} (h:Errs tab T E cs L) (hg:Zt tab g=some c) (hm:List.elem c cs=true):Gl L g (.iface T (.pointer (some (E c)))):=h g c hg hm
theorem Errs.sub {tab:List (Nat × Nat)} {T:Nat} {E:Nat→Addr} {cs cs':List Nat} {L:Zb} (h:Errs tab T E cs L) (hm:(cs'.all fun g=>cs.elem g)=true:=by rfl):Errs tab T E cs' L:=fun g c hg hc=>h g c hg (List.all_eq_true.1 hm c (List.elem_iff.1 hc))
theorem Gl.mono {L L':Zb} {g:Nat} {v:Value} (h:Gl L g v) (hl : ∀ b o,Has L b o→Has L' b o):Gl L' g v:=
 let ⟨l,E,fr,h1,h2⟩:=h
 ⟨l,E,fr,hl _ _ h1,h2⟩
theorem Errs.mono {tab:List (Nat × Nat)} {T:Nat} {E:Nat→Addr} {cs:List Nat} {L L':Zb} (h:Errs tab T E cs L) (hl : ∀ b o,Has L b o→Has L' b o):Errs tab T E cs L':=fun g c hg hc=>(h g c hg hc).mono hl
section tab
variable {P:Program} (S:Tab P) {ρ:Zr} {L:Zb} {d:Option Tmp} {ty:TypeId} {pos:String} {af:Array Edge} {g:Option (Nat × Bool)}
theorem q_ixT {t:Nat} {l:List UInt8} {k:IntKind} {j:Int} {ti:TyI} {y:Operand} {c:Value} (hc:c=bs l) (hy:ev ρ y=some (.int k j)) (ht:Zt S.ty t=some ti) (hk:Nat.beq ti.kind 3=true) (hl:Nat.beq l.length 256=true) (hj:0≤j∧j<256) :
  QOp P ⟨d,.index t (.const c) y,ty,pos,af,g⟩ ρ L (.int .u8 ((l.getD j.toNat 0).toNat:Int)):=by
 subst hc
 refine ixE_q S (u:=bs l) (u' := .int k j) rfl hy ?_ (p:=0≤j∧j<l.length) ?_
 ·simp [ixE,ht,hk]
 ·have:=Nat.eq_of_beq_eq_true hl
  omega
end tab
section gl
variable {P:Program} (S:Tab P) {ρ:Zr} {L:Zb} {d:Option Tmp} {ty:TypeId} {pos:String} {af:Array Edge} {g:Option (Nat × Bool)}
theorem q_gload {t n:Nat} {ti:TyI} {v:Value} (ht:Zt S.ty t=some ti) (h6:Nat.beq ti.kind 6=false) (h7:Nat.beq ti.kind 7=false) (hg:Gl L n v):QOp P ⟨d,.load t (.global n),ty,pos,af,g⟩ ρ L v:=by
 obtain ⟨l,E,fr,h1,h2⟩:=hg
 exact Zjj S (x := .global n) rfl ht h6 h7 h1 h2
end gl
end Go.HL
end

/-! HLAny -/
section
namespace Go.HL
open Go

def QN (R:Act→World→Prop):Exit→Act→World→Prop
 | .normal,a,w=>R a w
 | _,_,_=>False
def full (n:Nat) (a:Act):Zr:=(List.range n).map fun t=>(t,a.tmps.getD t undef)
theorem Zny (f:Nat→Value) : ∀ (l:List Nat) (t:Nat),lk (l.map fun t=>(t,f t)) t=if t∈l then some (f t) else none
 | [],t=>by simp [lk]
 | x::r,t=>by
  simp only [List.map_cons]
  by_cases e:x=t
  ·subst e;rw [Wr];simp
  ·rw [Ws _ _ e,Zny f r t]
   have:t≠x:=fun h=>e h.symm
   simp [this]
theorem agr_full {n:Nat} {a:Act} (hs:a.tmps.size=n) (hd:a.defers=[]):Agr n a (full n a):=by
 refine ⟨hs,hd,fun t v h=>?_⟩
 unfold full at h
 rw [Zny] at h
 split at h
 ·rename_i hm
  have hlt:=List.mem_range.1 hm
  cases h
  rw [Array.getElem?_eq_getElem (by omega)]
  simp [Array.getD,hs,hlt]
 ·cases h
theorem Zkx {n:Nat} {a:Act} (hs:a.tmps.size=n) {t:Nat} {v:Value} (h:a.tmps[t]? = some v):lk (full n a) t=some v:=by
 obtain ⟨hlt,he⟩:=Array.getElem?_eq_some_iff.1 h
 unfold full
 rw [Zny,if_pos (List.mem_range.2 (by omega))]
 simp [Array.getD,hlt,he]

def ELe (ρ ρ':Zr):Prop := ∀ t v,lk ρ t=some v→lk ρ' t=some v
theorem Agr.le {n:Nat} {a:Act} {ρ ρ':Zr} (h:Agr n a ρ') (hl:ELe ρ ρ'):Agr n a ρ:=⟨h.size,h.defers,fun t v hv=>h.get t v (hl t v hv)⟩

section any
variable (P:Program) (n:Nat) (ops:List Oper) (Q:Exit→Zr→Zb→Prop)
def Qx (i0 i:Nat):Bool:=match ops[i]? with
 | some o=>o.after.toList.all fun e => !(Region.binds .any e && Nat.beq e.on i0)
 | none=>true
def Zjp (i:Nat) (L:Zb):List (Nat × Zm)→Prop
 | []=>True
 | (i0,p)::r=>(Qx ops i0 i=false∨Has L p.1 p.2)∧Zjp i L r
def ssF (i:Nat) (Ss:List (Nat × Zm)):List (Nat × Zm):=Ss.filter fun s=>Qx ops s.1 i
def Fin (ρ:Zr) (L:Zb):Prop := ∀ k w a,Sat k w L→Agr n a ρ→post k n Q .normal a w
def HStep (i:Nat) (K:Zr→Zb→Prop) (ρ:Zr) (L:Zb):Prop:=
 ∀ k w a,Sat k w L→Agr n a ρ→wpOp P ops.toArray (QN (post k n Q .normal)) i (fun a' w' => ∃ ρ' L',Agr n a' ρ'∧Sat k w' L'∧K ρ' L') a w
def HAny:Nat→List (Nat × Zm)→Array Bool→Zr→Zb→Prop
 | 0,_,l,ρ,L=>Region.ready .any ops.toArray l=[]∧Fin n Q ρ L
 | f+1,Ss,l,ρ,L=>(Region.ready .any ops.toArray l=[]→Fin n Q ρ L) ∧
  ∀ i∈Region.ready .any ops.toArray l,HStep P n ops Q i (fun ρ' L'=>Zjp ops i L' Ss∧HAny f (ssF ops i Ss) (l.setIfInBounds i true) ρ' L') ρ L
end any

section any
variable {P:Program} {n:Nat} {ops:List Oper} {Q:Exit→Zr→Zb→Prop}
theorem HStep.mono {i:Nat} {K K':Zr→Zb→Prop} {ρ ρ':Zr} {L:Zb} (hl:ELe ρ ρ') (hk : ∀ ρ L,K ρ L→K' ρ L) (h:HStep P n ops Q i K ρ L):HStep P n ops Q i K' ρ' L:=
 fun k w a hs ha=>wpOp_mono (fun a' w' ⟨ρ1,L1,h1,h2,h3⟩=>⟨ρ1,L1,h1,h2,hk _ _ h3⟩) (h k w a hs (ha.le hl))
theorem HAny.sound : ∀ (f:Nat) (Ss:List (Nat × Zm)) (l:Array Bool) (ρ:Zr) (L:Zb),HAny P n ops Q f Ss l ρ L → ∀ k w a,Sat k w L→Agr n a ρ→wpAny P .any ops.toArray (QN (post k n Q .normal)) f l a w
 | 0,_,_,_,_,h,k,w,a,hs,ha=>⟨h.1,h.2 k w a hs ha⟩
 | f+1,Ss,l,ρ,L,h,k,w,a,hs,ha=>⟨fun h0=>h.1 h0 k w a hs ha,fun i hi=>wpOp_mono (fun a' w' ⟨ρ',L',h1,h2,h3⟩=>HAny.sound f _ _ ρ' L' h3.2 k w' a' h2 h1) (h.2 i hi k w a hs ha)⟩
theorem Fin.le {ρ ρ':Zr} {L:Zb} (hl:ELe ρ ρ') (h:Fin n Q ρ L):Fin n Q ρ' L:=fun k w a hs ha=>h k w a hs (ha.le hl)
theorem HAny.le : ∀ {f:Nat} {Ss:List (Nat × Zm)} {l:Array Bool} {ρ ρ':Zr} {L:Zb},ELe ρ ρ'→HAny P n ops Q f Ss l ρ L→HAny P n ops Q f Ss l ρ' L
 | 0,_,_,_,_,_,hl,h=>⟨h.1,h.2.le hl⟩
 | f+1,_,_,_,_,_,hl,h=>⟨fun h0=>(h.1 h0).le hl,fun i hi=>(h.2 i hi).mono hl fun _ _ h=>h⟩
def QAt (P:Program) (ops:List Oper) (o:Oper) (ρ:Zr) (F:List Zm) (v:Value):Prop:=
 (Zu ops ρ o.guard=some true ∧ ∀ L,(∀ p∈F,Has L p.1 p.2)→QOp P o ρ L v)∨(Zu ops ρ o.guard=some false∧v=undef)
theorem ssOk_all {i:Nat} {L:Zb} : ∀ {Ss:List (Nat × Zm)},Zjp ops i L Ss ↔ ∀ s∈Ss,Qx ops s.1 i=true→Has L s.2.1 s.2.2
 | []=>by simp [Zjp]
 | s::r=>by
  obtain ⟨i0,p⟩:=s
  simp only [Zjp,ssOk_all (Ss:=r),List.mem_cons,forall_eq_or_imp]
  constructor
  ·rintro ⟨h1,h2⟩
   refine ⟨fun hk=>?_,h2⟩
   rcases h1 with h1|h1
   ·rw [h1] at hk;cases hk
   ·exact h1
  ·rintro ⟨h1,h2⟩
   refine ⟨?_,h2⟩
   cases hk:Qx ops i0 i with
   | false=>exact .inl rfl
   | true=>exact .inr (h1 hk)
theorem Zq5 {ρ ρ':Zr} {g:Option (Nat × Bool)} {b:Bool} (hl : ∀ j wt t v,g=some (j,wt)→V8 ops j=some t→lk ρ t=some v→lk ρ' t=some v) (h:Zu ops ρ g=some b):Zu ops ρ' g=some b:=by
 unfold Zu at *
 split at h
 ·exact h
 ·rename_i j wt
  split at h
  ·rename_i t hj
   split at h
   ·rename_i c ht
    rw [hl j wt t _ rfl hj ht]
    exact h
   ·rename_i v hv ht
    rw [hl j wt t _ rfl hj ht]
    obtain ⟨h1,h2⟩:=Zn h
    split
    ·rename_i heq
     cases heq
     exact absurd rfl (hv _)
    ·rename_i heq
     cases heq
     rw [h1]
     exact h2
    ·rename_i heq
     cases heq
   ·cases h
  ·cases h
theorem U9 {a:Act} {ρ:Zr} (ha:Agr n a ρ) {o:Oper} {b:Bool} (h:Zu ops ρ o.guard=some b):Region.wanted o (yielded ops.toArray a.tmps)=b:=by
 unfold Zu at h
 split at h
 ·rename_i hg
  cases h
  simp [Region.wanted,hg]
 ·rename_i j wt hg
  split at h
  ·rename_i t hj
   split at h
   ·rename_i c ht
    rw [Wk ha hg hj ht]
    cases c<;>cases wt<;>simp at h<;>subst h<;>rfl
   ·rename_i v hv ht
    obtain ⟨h1,h2⟩:=Zn h
    cases h2
    have:=Zbz h1
    subst this
    unfold V8 at hj
    simp [Region.wanted,hg,yielded,hj,ha.get _ _ ht,undef]
   ·cases h
  ·cases h
theorem QOp.le {o:Oper} {ρ ρ':Zr} {L:Zb} {v:Value} (hl : ∀ x∈o.op.operands,∀ u,ev ρ x=some u→ev ρ' x=some u) (h:QOp P o ρ L v):QOp P o ρ' L v:=
 fun k a he w hs=>h k a (fun x hx u hu=>he x hx u (hl x hx u hu)) w hs
theorem Zsl {R:Act→World→Prop} {j:Nat} {oi oj:Oper} {d:Nat} {v:Value} (hj:ops.toArray[j]? = some oj) (hd:oi.dst=some d) (hap:oi.apart ops.toArray oj=true)
  (hsj : ∀ cs b,oj.op ≠ .select cs b) {K:Act→World→Prop} {a:Act} {w:World} (h:wpOp P ops.toArray (QN R) j K (a.put (some d) v) w) :
  wpOp P ops.toArray (QN R) j (fun a' w'=>(∀ t∈oi.looksAt ops.toArray,a'.tmps[t]? = a.tmps[t]?)∧K (a'.put (some d) v) w') a w:=by
 obtain ⟨h1,h2,h3⟩:=Oper.apart_spec hap
 rw [hd] at h1 h2
 have keep : ∀ (a0:Act) (u:Value),(∀ t∈oi.looksAt ops.toArray,a0.tmps[t]? = a.tmps[t]?) → ∀ t∈oi.looksAt ops.toArray,(a0.put oj.dst u).tmps[t]? = a.tmps[t]? := by
  intro a0 u h0 t ht
  rw [← h0 t ht]
  cases hq:oj.dst with
  | none=>rfl
  | some e =>
   have hne:e≠t:=fun he=>h3 e hq (he▸ht)
   simp [Act.put,Array.getElem?_setIfInBounds_ne hne]
 unfold wpOp at *
 simp only [hj] at *
 rw [wanted_put oj a (some d) v h1] at h
 split
 ·rename_i hw
  simp only [hw,if_true] at h
  rcases h with h|⟨_,ha,hb,hlets⟩
  case inr=>exact hlets.elim
  refine .inl ?_
  unfold Oper.wp at *
  rw [execOp_put oj hsj a (some d) v h1] at h
  generalize (execOp a.eval oj).run P w=r at *
  cases r with
  | ok nx w' =>
   cases nx<;>simp only [Oper.upon] at h ⊢
   case value u=>exact ⟨keep a u (fun _ _=>rfl),by rw [← Act.put_comm a v u h2];exact h⟩
   case skip=>exact ⟨keep a _ (fun _ _=>rfl),by rw [← Act.put_comm a v undef h2];exact h⟩
   case defer dd =>
    refine ⟨keep { a with defers:=dd::a.defers } _ (fun _ _=>rfl),?_⟩
    rw [← Act.put_comm _ v undef h2,← Act.put_defers]
    exact h
   case enter f args =>
    refine Calls.mono h fun e w'' he=>?_
    cases e with
    | returned u=>exact ⟨keep a u (fun _ _=>rfl),by rw [← Act.put_comm a v u h2];exact he⟩
    | panicked c=>exact he
    | outgrown=>exact he
   case row row args=>exact Rows.mono h fun u w'' he=>⟨keep a u (fun _ _=>rfl),by rw [← Act.put_comm a v u h2];exact he⟩
  | halt x w' =>
   cases x<;>simp only [Oper.upon] at h ⊢
   case panic u=>exact h
 ·rename_i hw
  simp only [hw] at h
  exact ⟨keep a _ (fun _ _=>rfl),by rw [← Act.put_comm a v undef h2];exact h⟩
theorem gdst_arr {j:Nat}:(ops.toArray[j]?).bind (·.dst)=V8 ops j:=by simp [V8]
theorem QAt.full {o:Oper} {ρ:Zr} {F:List Zm} {v:Value} {a a':Act} (h:QAt P ops o ρ F v) (ha:Agr n a ρ) (hs:a'.tmps.size=n) (he : ∀ t∈o.looksAt ops.toArray,a'.tmps[t]? = a.tmps[t]?):QAt P ops o (full n a') F v:=by
 have key : ∀ t∈o.looksAt ops.toArray,∀ u,lk ρ t=some u→lk (HL.full n a') t=some u:=fun t ht u hu=>Zkx hs (by rw [he t ht];exact ha.get t u hu)
 have hg : ∀ b,Zu ops ρ o.guard=some b→Zu ops (HL.full n a') o.guard=some b:=fun b hb=>Zq5 (fun j wt t u hgu hj hu=>key t (by
  unfold Oper.looksAt
  rw [hgu]
  simp only [gdst_arr,hj]
  simp) u hu) hb
 have ho : ∀ x∈o.op.operands,∀ u,ev ρ x=some u→ev (HL.full n a') x=some u:=fun x hx u hu=>by
  cases x with
  | tmp t=>exact key t (List.mem_append_left _ (List.mem_filterMap.2 ⟨.tmp t,by simpa using hx,rfl⟩)) u hu
  | const c=>exact hu
  | global c=>exact hu
  | func c=>exact hu
 rcases h with ⟨h1,h2⟩|⟨h1,h2⟩
 ·exact .inl ⟨hg _ h1,fun L hL=>(h2 L hL).le ho⟩
 ·exact .inr ⟨hg _ h1,h2⟩
theorem HAny.ss : ∀ {f:Nat} {Ss Ss':List (Nat × Zm)} {l:Array Bool} {ρ:Zr} {L:Zb},(∀ s∈Ss',s∈Ss)→HAny P n ops Q f Ss l ρ L→HAny P n ops Q f Ss' l ρ L
 | 0,_,_,_,_,_,_,h=>h
 | f+1,Ss,Ss',l,ρ,L,hs,h=>⟨h.1,fun i hi=>(h.2 i hi).mono (fun _ _ h=>h) fun ρ' L' ⟨h1,h2⟩=>⟨ssOk_all.2 fun s hm hk=>ssOk_all.1 h1 s (hs s hm) hk,HAny.ss (fun s hm=>by
   simp only [ssF,List.mem_filter] at hm ⊢
   exact ⟨hs s hm.1,hm.2⟩) h2⟩⟩
theorem Znj {i d:Nat} {oi:Oper} {F:List Zm} {v:Value} (hi:ops.toArray[i]? = some oi) (hd:oi.dst=some d) (hdn:d<n) (hsel : ∀ (j:Nat) (o:Oper) cs b,ops.toArray[j]? = some o→o.op ≠ .select cs b) :
  ∀ (f:Nat) (Ss:List (Nat × Zm)) (l:Array Bool) (ρ:Zr) (L:Zb),
   (∀ j oj,ops.toArray[j]? = some oj→j≠i→l.getD j true=false→(∀ e∈oj.after,Region.binds .any e=true→e.on≠i)→oi.apart ops.toArray oj=true) →
   i∈Region.ready .any ops.toArray l→QAt P ops oi ρ F v→(∀ p∈F,Has L p.1 p.2)→(∀ s∈Ss,Has L s.2.1 s.2.2) →
   HAny P n ops Q f (F.map (fun p=>(i,p))++Ss) (l.setIfInBounds i true) ((d,v)::ρ) L→HAny P n ops Q (f+1) Ss l ρ L:=by
 have self : ∀ (Ss:List (Nat × Zm)) (l:Array Bool) (ρ:Zr) (L:Zb) (K:Zr→Zb→Prop),QAt P ops oi ρ F v→(∀ p∈F,Has L p.1 p.2)→K ((d,v)::ρ) L→HStep P n ops Q i K ρ L:=by
  intro Ss l ρ L K hq hF hK k w a hs ha
  unfold wpOp
  simp only [hi]
  rcases hq with ⟨hg,hq⟩|⟨hg,rfl⟩
  ·rw [if_pos (U9 ha hg)]
   refine .inl (Zf9 hs (hq L hF k a (fun x _ u hu=>ha.ev hu) w hs) fun w' hs'=>?_)
   rw [hd]
   exact ⟨_,L,ha.put hdn v,hs',hK⟩
  ·rw [if_neg (by rw [U9 ha hg];simp)]
   rw [hd]
   exact ⟨_,L,ha.put hdn undef,hs,hK⟩
 intro f
 induction f with
 | zero =>
  intro Ss l ρ L hfree hr hq hF hS H
  refine ⟨fun h=>(by rw [h] at hr;cases hr),fun j hj=>?_⟩
  by_cases hji:j=i
  ·subst hji
   exact self Ss l ρ L _ hq hF ⟨ssOk_all.2 fun s hs _=>hS s hs,HAny.ss (fun s hm=>List.mem_append_right _ (List.mem_filter.1 hm).1) H⟩
  ·have:=ready_mono hj hji
   rw [H.1] at this
   cases this
 | succ f ih =>
  intro Ss l ρ L hfree hr hq hF hS H
  refine ⟨fun h=>(by rw [h] at hr;cases hr),fun j hj=>?_⟩
  by_cases hji:j=i
  ·subst hji
   exact self Ss l ρ L _ hq hF ⟨ssOk_all.2 fun s hs _=>hS s hs,HAny.ss (fun s hm=>List.mem_append_right _ (List.mem_filter.1 hm).1) H⟩
  ·have h1:=H.2 j (ready_mono hj hji)
   obtain ⟨hjun,oj,hoj,hall⟩:=mem_ready.1 hj
   have hnot : ∀ e∈oj.after,Region.binds .any e=true→e.on≠i:=fun e he hb heq=>by
    have h1:=hall e he hb
    have h0:=(mem_ready.1 hr).1
    rw [heq] at h1
    rcases Nat.lt_or_ge i l.size with h'|h'
    ·simp [h'] at h0 h1;rw [h0] at h1;cases h1
    ·simp [Array.getElem?_eq_none h'] at h1
   have hkeep:Qx ops i j=true:=by
    unfold Qx
    rw [show ops[j]? = some oj by simpa using hoj]
    simp only [List.all_eq_true,Bool.not_eq_true',Bool.and_eq_false_iff]
    intro e he
    by_cases hb:Region.binds .any e=true
    ·refine .inr ?_
     have:=hnot e (Array.mem_toList_iff.1 he) hb
     cases hbq:Nat.beq e.on i with
     | false=>rfl
     | true=>exact absurd (Nat.eq_of_beq_eq_true hbq) this
    ·exact .inl (by simpa using hb)
   intro k w a hs ha
   have h2:=Zsl (d:=d) (v:=v) hoj hd (hfree j oj hoj hji hjun hnot) (fun cs b=>hsel j oj cs b hoj) (h1 k w (a.put (some d) v) hs (ha.put hdn v))
   refine wpOp_mono (fun a' w' h3=>?_) h2
   obtain ⟨hsame,ρ',L',ha',hs',hss,hH⟩:=h3
   have hsz:a'.tmps.size=n:=by
    have:=ha'.size
    simpa [Act.put] using this
   have hfree' : ∀ q oq,ops.toArray[q]? = some oq→q≠i→(l.setIfInBounds j true).getD q true=false→(∀ e∈oq.after,Region.binds .any e=true→e.on≠i)→oi.apart ops.toArray oq=true:=fun q oq hq hqi hun hno=>by
    refine hfree q oq hq hqi ?_ hno
    by_cases hjk:j=q
    ·subst hjk;exact hjun
    ·rw [getD_set_ne true hjk] at hun;exact hun
   have hss':=ssOk_all.1 hss
   refine ⟨full n a',L',agr_full hsz (by have:=ha'.defers;simpa [Act.put] using this),hs',ssOk_all.2 fun s hm hk=>hss' s (List.mem_append_right _ hm) hk,?_⟩
   refine ih (ssF ops j Ss) (l.setIfInBounds j true) (full n a') L' hfree' (ready_mono hr (Ne.symm hji)) (hq.full ha hsz hsame) (fun p hp=>hss' (i,p) (List.mem_append_left _ (List.mem_map_of_mem hp)) hkeep)
    (fun s hm=>hss' s (List.mem_append_right _ (List.mem_filter.1 hm).1) (List.mem_filter.1 hm).2) ?_
   rw [Array.setIfInBounds_comm _ _ hji]
   refine HAny.ss (fun s hm=>?_) (HAny.le (fun t u hu=>?_) hH)
   ·simp only [ssF,List.mem_filter,List.mem_append,List.mem_map] at hm ⊢
    rcases hm with ⟨p,hp,rfl⟩|hm
    ·exact ⟨.inl ⟨p,hp,rfl⟩,hkeep⟩
    ·exact ⟨.inr hm.1,hm.2⟩
   ·have hg:=ha'.get t u hu
    by_cases e:d=t
    ·subst e
     rw [Wr]
     have hlt:d<a'.tmps.size:=by omega
     simp [Act.put,Array.getElem?_setIfInBounds,hlt] at hg
     exact congrArg some hg
    ·rw [Ws _ _ e]
     simp [Act.put,Array.getElem?_setIfInBounds,e] at hg
     exact Zkx hsz hg
end any
end Go.HL
end

/-! HLDr -/
section
namespace Go.HL
open Go

structure Unl (ops:List Oper) (l:Array Bool) (rem:List (Nat × Oper)):Prop where
 size:l.size=ops.length
 nodup:(rem.map (·.1)).Nodup
 iff : ∀ j o,(j,o)∈rem↔(ops[j]? = some o∧l.getD j true=false)
def HD (P:Program) (n:Nat) (ops:List Oper) (Q:Exit→Zr→Zb→Prop) (Ss:List (Nat × Zm)) (rem:List (Nat × Oper)) (ρ:Zr) (L:Zb):Prop:=
 (∀ s∈Ss,Has L s.2.1 s.2.2) → ∀ l,Unl ops l rem→HAny P n ops Q rem.length Ss l ρ L
def Zde:Nat→List (Nat × Oper)→Option ((Nat × Oper) × List (Nat × Oper))
 | _,[]=>none
 | 0,x::r=>some (x,r)
 | k+1,x::r=>match Zde k r with
  | some (y,r')=>some (y,x::r')
  | none=>none
theorem Zd3 : ∀ {k:Nat} {l:List (Nat × Oper)} {x:Nat × Oper} {r:List (Nat × Oper)},Zde k l=some (x,r) → ∃ a b,l=a++x::b∧r=a++b
 | k,[],_,_,h=>by cases k<;>simp [Zde] at h
 | 0,x::r,_,_,h=>by simp [Zde] at h;obtain ⟨rfl,rfl⟩:=h;exact ⟨[],_,rfl,rfl⟩
 | k+1,y::l,x,r,h=>by
  simp only [Zde] at h
  split at h
  ·rename_i z r' hz
   simp at h
   obtain ⟨rfl,rfl⟩:=h
   obtain ⟨a,b,rfl,rfl⟩:=Zd3 hz
   exact ⟨y::a,b,rfl,rfl⟩
  ·cases h
def isAct (o:Oper):Bool:=match o.op with
 | .alloc _ | .box _ _ | .store _ _ _ | .buildSlice _ _ _ | .makeSlice _ _ _ | .makeMap _ _ | .mapUpdate _ _ _ _ | .insert _ _ _ _ | .makeChan _ _=>true
 | .call ⟨.builtin .append,_,_⟩=>true
 | .call ⟨.builtin .copy,_,_⟩=>true
 | .call ⟨.builtin .clear,_,_⟩=>true
 | _=>false
def isLoud (o:Oper):Bool:=match o.op with
 | .call ⟨.value _,_,_⟩=>true
 | .call ⟨.invoke _ _,_,_⟩=>true
 | _=>isAct o
def Zh3 (b:Bool):List (Nat × Oper)→Option ((Nat × Oper) × List (Nat × Oper))
 | []=>none
 | x::r=>bif (match isLoud x.2,b with|true,true=>true|false,false=>true|_,_=>false) then some (x,r) else match Zh3 b r with
  | some (y,r')=>some (y,x::r')
  | none=>none
theorem Zb3 {b:Bool} : ∀ {l:List (Nat × Oper)} {x:Nat × Oper} {r:List (Nat × Oper)},Zh3 b l=some (x,r) → ∃ a b,l=a++x::b∧r=a++b
 | [],_,_,h=>by simp [Zh3] at h
 | y::l,x,r,h=>by
  simp only [Zh3] at h
  cases hc:(match isLoud y.2,b with|true,true=>true|false,false=>true|_,_=>false) with
  | true =>
   rw [hc] at h
   simp at h
   obtain ⟨rfl,rfl⟩:=h
   exact ⟨[],_,rfl,rfl⟩
  | false =>
   rw [hc] at h
   simp only [cond_false] at h
   split at h
   ·rename_i z r' hz
    simp at h
    obtain ⟨rfl,rfl⟩:=h
    obtain ⟨a,b,rfl,rfl⟩:=Zb3 hz
    exact ⟨y::a,b,rfl,rfl⟩
   ·cases h
def Wc (k:Nat) (l:List (Nat × Oper)):Option ((Nat × Oper) × List (Nat × Oper)):=
 bif Nat.beq k 100 then Zh3 false l else bif Nat.beq k 101 then Zh3 true l else Zde k l
theorem Zf3 {k:Nat} {l:List (Nat × Oper)} {x:Nat × Oper} {r:List (Nat × Oper)} (h:Wc k l=some (x,r)) : ∃ a b,l=a++x::b∧r=a++b:=by
 unfold Wc at h
 cases h1:Nat.beq k 100 with
 | true=>rw [h1] at h;exact Zb3 h
 | false =>
  rw [h1] at h
  cases h2:Nat.beq k 101 with
  | true=>rw [h2] at h;exact Zb3 h
  | false=>rw [h2] at h;exact Zd3 h
def Qq (m:Nat) (rem:List (Nat × Oper)) (o:Oper):Bool:=o.after.toList.all fun e => !(Region.binds .any e) || (Nat.blt e.on m && rem.all fun q => !Nat.beq q.1 e.on)
def Zju (o:Oper) (i:Nat):Bool:=o.after.toList.any fun e=>Region.binds .any e && Nat.beq e.on i
def Q0 (ops:List Oper) (rem:List (Nat × Oper)) (i:Nat) (o:Oper):Bool:=
 Qq ops.length ((i,o)::rem) o && (rem.all fun q=>Zju q.2 i || o.apart ops.toArray q.2) && Region.noSelect ops.toArray
def chkA (ops:List Oper) (rem:List (Nat × Oper)) (i:Nat) (o:Oper):Bool:=
 Qq ops.length ((i,o)::rem) o && rem.all fun q => !Qq ops.length ((i,o)::rem) q.2
section hd
variable {P:Program} {n:Nat} {ops:List Oper} {Q:Exit→Zr→Zb→Prop} {Ss:List (Nat × Zm)} {rem rem':List (Nat × Oper)} {ρ:Zr} {L:Zb}
theorem beq_no {a b:Nat} (h:Nat.beq a b=false):a≠b:=fun e=>by subst e;simp at h
theorem Unl.ready {l:Array Bool} {i:Nat} {o:Oper} (hu:Unl ops l rem) (hm:(i,o)∈rem) (hr:Qq ops.length rem o=true):i∈Region.ready .any ops.toArray l:=by
 obtain ⟨h1,h2⟩:=(hu.iff i o).1 hm
 refine mem_ready.2 ⟨h2,o,by simpa using h1,fun e he hb=>?_⟩
 have:=List.all_eq_true.1 hr e (Array.mem_toList_iff.2 he)
 rw [hb] at this
 simp only [Bool.not_true,Bool.false_or,Bool.and_eq_true] at this
 have hlt:e.on<ops.length:=Nat.le_of_ble_eq_true this.1
 have hnot : ∀ q∈rem,q.1≠e.on:=fun q hq=>by
  have h3:=List.all_eq_true.1 this.2 q hq
  exact beq_no (by simpa using h3)
 have hlt':e.on<l.size:=by rw [hu.size];exact hlt
 cases hv:l.getD e.on true with
 | false=>exact absurd rfl (hnot (e.on,ops[e.on]) ((hu.iff _ _).2 ⟨List.getElem?_eq_getElem hlt,hv⟩))
 | true=>simpa [Array.getD,hlt'] using hv
theorem Unl.readyR_of {l:Array Bool} {i:Nat} (hu:Unl ops l rem) (hi:i∈Region.ready .any ops.toArray l) : ∃ o,(i,o)∈rem∧Qq ops.length rem o=true:=by
 obtain ⟨h1,o,h2,h3⟩:=mem_ready.1 hi
 refine ⟨o,(hu.iff i o).2 ⟨by simpa using h2,h1⟩,List.all_eq_true.2 fun e he=>?_⟩
 cases hb:Region.binds .any e with
 | false=>rfl
 | true =>
  have h4:=h3 e (Array.mem_toList_iff.1 he) hb
  have hlt:e.on<l.size:=by
   rcases Nat.lt_or_ge e.on l.size with h|h
   ·exact h
   ·simp [Array.getElem?_eq_none h] at h4
  simp only [Bool.not_true,Bool.false_or,Bool.and_eq_true]
  refine ⟨Nat.ble_eq_true_of_le (by have:=hu.size;omega),List.all_eq_true.2 fun q hq=>?_⟩
  have:=((hu.iff q.1 q.2).1 hq).2
  cases hbq:Nat.beq q.1 e.on with
  | false=>rfl
  | true =>
   have e1:=Nat.eq_of_beq_eq_true hbq
   rw [e1] at this
   simp [Array.getD,hlt] at h4 this
   rw [h4] at this
   cases this
theorem Unl.drop {l:Array Bool} {i:Nat} {o:Oper} {a b:List (Nat × Oper)} (hu:Unl ops l (a++(i,o)::b)):Unl ops (l.setIfInBounds i true) (a++b):=by
 have hnd:=hu.nodup
 simp only [List.map_append,List.map_cons] at hnd
 have hd:=List.nodup_append.1 hnd
 have hd2:=List.nodup_cons.1 hd.2.1
 refine ⟨by simp [hu.size],?_,fun j q=>?_⟩
 ·simp only [List.map_append]
  refine List.nodup_append.2 ⟨hd.1,hd2.2,fun x hx y hy=>hd.2.2 x hx y (List.mem_cons_of_mem _ hy)⟩
 ·by_cases e:i=j
  ·subst e
   constructor
   ·intro hm
    exfalso
    rcases List.mem_append.1 hm with hm|hm
    ·exact hd.2.2 i (List.mem_map_of_mem hm) i (by simp) rfl
    ·exact hd2.1 (List.mem_map_of_mem hm)
   ·rintro ⟨h1,h2⟩
    have hlt:i<l.size:=by rw [hu.size];exact (List.getElem?_eq_some_iff.1 h1).1
    simp [Array.getD,hlt] at h2
  ·rw [getD_set_ne true e,← hu.iff j q]
   simp only [List.mem_append,List.mem_cons,Prod.mk.injEq]
   constructor
   ·rintro (h|h)
    ·exact .inl h
    ·exact .inr (.inr h)
   ·rintro (h|⟨h,_⟩|h)
    ·exact .inl h
    ·exact absurd h.symm e
    ·exact .inr h
theorem Zai {m:Nat} {a b:List (Nat × Oper)} {x:Nat × Oper} {o:Oper}:Qq m (x::(a++b)) o=Qq m (a++x::b) o:=by
 unfold Qq
 congr 1
 funext e
 congr 2
 simp only [List.all_cons,List.all_append]
 cases (a.all fun q => !Nat.beq q.1 e.on)<;>cases (!Nat.beq x.1 e.on)<;>rfl
theorem Zop {o:Oper} {i:Nat} (h : ∀ e∈o.after,Region.binds .any e=true→e.on≠i):Zju o i=false:=by
 unfold Zju
 rw [List.any_eq_false]
 intro e he
 simp only [Bool.and_eq_true,not_and]
 intro hb hq
 exact h e (Array.mem_toList_iff.1 he) hb (Nat.eq_of_beq_eq_true hq)
theorem hd_nil (h:Q .normal ρ L):HD P n ops Q Ss [] ρ L:=fun hS l hu=>by
 refine ⟨?_,fun k w a hs ha=>⟨ρ,L,ha,hs,h⟩⟩
 cases hr:Region.ready .any ops.toArray l with
 | nil=>rfl
 | cons i r =>
  obtain ⟨o,hm,_⟩:=hu.readyR_of (i:=i) (by rw [hr];exact .head _)
  cases hm
theorem hd_q {k i d:Nat} {o:Oper} {F:List Zm} {v:Value} (hp:Wc k rem=some ((i,o),rem')) (hc:Q0 ops rem' i o=true) (hd:o.dst=some d) (hn:Nat.blt d n=true) (hq:QAt P ops o ρ F v) (hF : ∀ p∈F,Has L p.1 p.2)
  (hr:HD P n ops Q (F.map (fun p=>(i,p))++Ss) rem' ((d,v)::ρ) L):HD P n ops Q Ss rem ρ L:=fun hS l hu=>by
 obtain ⟨a,b,rfl,rfl⟩:=Zf3 hp
 simp only [Q0,Bool.and_eq_true] at hc
 obtain ⟨⟨c1,c2⟩,c3⟩:=hc
 rw [Zai] at c1
 have hm:(i,o)∈a++(i,o)::b:=by simp
 obtain ⟨h1,h2⟩:=(hu.iff i o).1 hm
 have hlen:(a++(i,o)::b).length=(a++b).length+1:=by simp;omega
 rw [hlen]
 refine Znj (by simpa using h1) hd (Nat.le_of_ble_eq_true hn) (Region.noSelect_spec c3) _ _ _ _ _ (fun j oj hj hji hun hno=>?_) (hu.ready hm c1) hq hF hS (hr (fun s hs=>?_) _ hu.drop)
 ·have hmj:(j,oj)∈a++b:=by
   have:=(hu.iff j oj).2 ⟨by simpa using hj,hun⟩
   simp only [List.mem_append,List.mem_cons,Prod.mk.injEq] at this ⊢
   rcases this with h|⟨h,_⟩|h
   ·exact .inl h
   ·exact absurd h hji
   ·exact .inr h
  have:=List.all_eq_true.1 c2 _ hmj
  rw [Zop hno] at this
  simpa using this
 ·rcases List.mem_append.1 hs with hs|hs
  ·obtain ⟨p,hp,rfl⟩:=List.mem_map.1 hs
   exact hF p hp
  ·exact hS s hs
def Z5 (P:Program) (n:Nat) (ops:List Oper) (Q:Exit→Zr→Zb→Prop) (i:Nat) (Ss:List (Nat × Zm)) (rem:List (Nat × Oper)):Exit→Zr→Zb→Prop
 | .normal,ρ,L=>Zjp ops i L Ss∧HD P n ops Q (ssF ops i Ss) rem ρ L
 | _,_,_=>False
theorem Zco {o:Oper} {a:Act} {w:World} {K:Act→World→Prop} {Q':Exit→Act→World→Prop} {R:Act→World→Prop} (hq : ∀ e a w,Q' e a w→e = .normal) (h:o.wp P a w K Q'):o.wp P a w K (QN R):=by
 unfold Oper.wp at *
 generalize (execOp a.eval o).run P w=r at *
 cases r with
 | ok nx w' =>
  cases nx<;>simp only [Oper.upon] at h ⊢
  all_goals first
   | exact h
   | skip
  refine Calls.mono h fun e w'' he=>?_
  cases e with
  | returned u=>exact he
  | panicked c=>cases hq _ _ _ he
  | outgrown =>
   obtain ⟨a,w,hx⟩:=he
   cases hq _ _ _ hx
 | halt x w' =>
  cases x<;>simp only [Oper.upon] at h ⊢
  case panic u=>cases hq _ _ _ h
theorem hd_act {k i:Nat} {o:Oper} (hp:Wc k rem=some ((i,o),rem')) (hc:chkA ops rem' i o=true) (h:HO P n ops (Z5 P n ops Q i Ss rem') [o] ρ L):HD P n ops Q Ss rem ρ L:=fun hS l hu=>by
 obtain ⟨a,b,rfl,rfl⟩:=Zf3 hp
 simp only [chkA,Bool.and_eq_true] at hc
 obtain ⟨c1,c2⟩:=hc
 rw [Zai] at c1
 have hm:(i,o)∈a++(i,o)::b:=by simp
 obtain ⟨h1,h2⟩:=(hu.iff i o).1 hm
 have hlen:(a++(i,o)::b).length=(a++b).length+1:=by simp;omega
 rw [hlen]
 have hrd:=hu.ready hm c1
 refine ⟨fun h0=>(by rw [h0] at hrd;cases hrd),fun j hj=>?_⟩
 obtain ⟨oj,hmj,hrj⟩:=hu.readyR_of hj
 have hji:j=i:=by
  simp only [List.mem_append,List.mem_cons,Prod.mk.injEq] at hmj
  have key:(j,oj)∈a++b→False:=fun hx=>by
   have:=List.all_eq_true.1 c2 _ hx
   rw [Zai,hrj] at this
   cases this
  rcases hmj with h|⟨h,_⟩|h
  ·exact (key (List.mem_append.2 (.inl h))).elim
  ·exact h
  ·exact (key (List.mem_append.2 (.inr h))).elim
 subst hji
 intro kk w ac hs ha
 have h3:=h kk w ac hs ha
 unfold wpList at h3
 have hnorm : ∀ e a1 w1,post kk n (Z5 P n ops Q j Ss (a++b)) e a1 w1→e = .normal:=fun e a1 w1 hx=>by
  obtain ⟨_,_,_,_,hx⟩:=hx
  cases e<;>first|rfl|exact hx.elim
 have fin : ∀ a1 w1,wpList P ops.toArray (post kk n (Z5 P n ops Q j Ss (a++b))) [] a1 w1 → ∃ ρ' L',Agr n a1 ρ'∧Sat kk w1 L'∧Zjp ops j L' Ss∧HAny P n ops Q (a++b).length (ssF ops j Ss) (l.setIfInBounds j true) ρ' L':=fun a1 w1 hx=>by
  obtain ⟨ρ',L',e1,e2,e3,e4⟩:=hx
  refine ⟨ρ',L',e1,e2,e3,e4 (fun s hs=>?_) _ hu.drop⟩
  have:=List.mem_filter.1 hs
  exact ssOk_all.1 e3 s this.1 this.2
 unfold wpOp
 rw [show ops.toArray[j]? = some o by simpa using h1]
 simp only
 split
 ·rename_i hw
  rw [if_pos hw] at h3
  rcases h3 with h3|⟨_,a1,w1,h3⟩
  ·exact .inl (Oper.wp_mono fin (Zco hnorm h3))
  ·cases hnorm _ _ _ h3
 ·rename_i hw
  rw [if_neg hw] at h3
  exact fin _ _ h3
theorem hd_split {t:Nat} {b:Bool} (ht:lk ρ t=some (.bool b)) (h1:b=true→HD P n ops Q Ss rem ((t,.bool true)::ρ) L) (h0:b=false→HD P n ops Q Ss rem ((t,.bool false)::ρ) L):HD P n ops Q Ss rem ρ L:=fun hS l hu=>by
 have key : ∀ c,b=c→ELe ((t,.bool c)::ρ) ρ:=fun c hc x v hx=>by
  subst hc
  by_cases e:t=x
  ·subst e
   rw [Wr] at hx
   rw [ht,hx]
  ·rw [Ws _ _ e] at hx
   exact hx
 cases hb:b with
 | true=>exact (h1 hb hS l hu).le (key _ hb)
 | false=>exact (h0 hb hS l hu).le (key _ hb)
def Zn2:List Nat:=[0,1,2,3,4,5,6,7,8,9,10,11,12,13,14,15,16,17,18,19,20,21,22,23,24,25,26,27,28,29,30,31,32,33,34,35,36,37,38,39,40,41,42,43,44,45,46,47,48,49,50,51,52,53,54,55,56,57,58,59]
def Zlv:List Nat→List Oper→(List (Nat × Oper)→Option (List (Nat × Oper)))→Option (List (Nat × Oper))
 | _,[],K=>K []
 | k::ks,o::r,K=>Zlv ks r fun l=>K ((k,o)::l)
 | [],_::_,_=>none
def Za8:List Nat→List Oper→Option (List (Nat × Oper))
 | _,[]=>some []
 | k::ks,o::r=>(Za8 ks r).map ((k,o) :: ·)
 | [],_::_=>none
theorem Zpw : ∀ (ks:List Nat) (l:List Oper) (K:List (Nat × Oper)→Option (List (Nat × Oper))),Zlv ks l K=(Za8 ks l).bind K
 | ks,[],K=>by cases ks<;>simp [Zlv,Za8]
 | [],_::_,K=>by simp [Zlv,Za8]
 | k::ks,o::r,K=>by
  simp only [Zlv,Za8,Zpw ks r]
  cases Za8 ks r<;>rfl
theorem Zh0 : ∀ (ks:List Nat) (l:List Oper) (b:Nat) (rem:List (Nat × Oper)),(∀ i k,ks[i]? = some k→k=b+i)→Za8 ks l=some rem→(rem.map (·.1)).Nodup ∧ ∀ j o,(j,o)∈rem↔(b≤j∧l[j-b]? = some o)
 | ks,[],b,rem,_,h=>by cases ks<;>(simp [Za8] at h;subst h;simp)
 | [],_::_,_,_,_,h=>by simp [Za8] at h
 | k :: ks,o::r,b,rem,hk,h=>by
  simp only [Za8,Option.map_eq_some_iff] at h
  obtain ⟨l',hl,rfl⟩:=h
  have hk0:k=b:=by simpa using hk 0 k rfl
  obtain ⟨h1,h2⟩:=Zh0 ks r (b+1) l' (fun i q hq=>by have:=hk (i+1) q (by simpa using hq);omega) hl
  subst hk0
  refine ⟨?_,fun j q=>?_⟩
  ·rw [List.map_cons,List.nodup_cons]
   refine ⟨fun hm=>?_,h1⟩
   obtain ⟨p,hp,e⟩:=List.mem_map.1 hm
   have:=(h2 p.1 p.2).1 hp
   simp only at e
   omega
  ·simp only [List.mem_cons,Prod.mk.injEq,h2]
   constructor
   ·rintro (⟨rfl,rfl⟩|⟨e1,e2⟩)
    ·simp
    ·refine ⟨by omega,?_⟩
     rw [show j-k=(j-(k+1))+1 by omega]
     simpa using e2
   ·rintro ⟨e1,e2⟩
    by_cases e:j=k
    ·subst e
     simp at e2
     exact .inl ⟨rfl,e2.symm⟩
    ·refine .inr ⟨by omega,?_⟩
     rw [show j-k=(j-(k+1))+1 by omega] at e2
     simpa using e2
theorem Zlw : ∀ (ks:List Nat) (l:List Oper) (rem:List (Nat × Oper)),Za8 ks l=some rem→rem.length=l.length
 | ks,[],rem,h=>by cases ks<;>(simp [Za8] at h;subst h;rfl)
 | [],_::_,_,h=>by simp [Za8] at h
 | k::ks,o::r,rem,h=>by
  simp only [Za8,Option.map_eq_some_iff] at h
  obtain ⟨l',hl,rfl⟩:=h
  simp [Zlw ks r l' hl]
theorem Zpj {id:Nat} (S:Tab P) (h0:Zlv Zn2 ops some=some rem) (h:HD P n ops Q [] rem ρ L):HW P n (.region id ops.toArray true) Q ρ L:=by
 intro k w a hs ha
 rw [Zpw] at h0
 have h0':Za8 Zn2 ops=some rem:=by
  cases hx:Za8 Zn2 ops with
  | none=>rw [hx] at h0;cases h0
  | some r=>rw [hx] at h0;exact h0
 obtain ⟨h1,h2⟩:=Zh0 Zn2 ops 0 rem (fun i q hq=>by
  have hlt:i<60:=(List.getElem?_eq_some_iff.1 hq).1
  have : ∀ i,i<60→Zn2[i]? = some i:=by decide
  rw [this i hlt] at hq
  cases hq
  omega) h0'
 have hlen:=Zlw _ _ _ h0'
 have hu:Unl ops (Array.replicate ops.length false) rem:=⟨by simp,h1,fun j o=>by
  rw [h2 j o]
  simp only [Nat.zero_le,true_and,Nat.sub_zero]
  constructor
  ·intro hj
   have hlt:=(List.getElem?_eq_some_iff.1 hj).1
   exact ⟨hj,by simp [Array.getD,hlt]⟩
  ·exact fun h=>h.1⟩
 have hx:=HAny.sound _ _ _ _ _ (h (fun s hs=>by cases hs) _ hu) k w.drew a hs.drew ha
 rw [hlen] at hx
 refine Code.wp_mono (fun e a' w' he=>?_) (wp_region_any (Q:=QN (post k n Q .normal)) S.mixed (by simpa using hx))
 cases e<;>first|exact he|exact he.elim
end hd
end Go.HL
end

/-! HLEq -/
section
namespace Go.HL
open Go

def Zbi:List Nat→List Value→List Value→Option Bool
 | [],[],[]=>some true
 | 1::t,.bool a::xs,.bool b::ys=>match Zbi t xs ys with
  | some r=>some ((a == b) && r)
  | none=>none
 | 2::t,.int k a::xs,.int k' b::ys=>bif Zk8 k k' then (match Zbi t xs ys with
  | some r=>some (decide (a=b) && r)
  | none=>none) else none
 | 3::t,.string ⟨⟨a⟩⟩::xs,.string ⟨⟨b⟩⟩::ys=>match Zbi t xs ys with
  | some r=>some (decide (a=b) && r)
  | none=>none
 | _,_,_=>none
theorem Zo8 : ∀ {t:List Nat} {xs ys:List Value} {r:Bool},Zbi t xs ys=some r→xs.length=t.length∧ys.length=t.length:=by
 intro t
 induction t with
 | nil =>
  intro xs ys r h
  unfold Zbi at h
  split at h<;>simp_all
 | cons a t ih =>
  intro xs ys r h
  unfold Zbi at h
  split at h
  ·rename_i e;cases e
  ·rename_i e
   cases e
   split at h
   ·rename_i hr;have:=ih hr;simp_all
   ·cases h
  ·rename_i e
   cases e
   obtain ⟨_,h⟩:=Zn h
   split at h
   ·rename_i hr;have:=ih hr;simp_all
   ·cases h
  ·rename_i e
   cases e
   split at h
   ·rename_i hr;have:=ih hr;simp_all
   ·cases h
  ·cases h
theorem Ze9 : ∀ {t t2:List Nat} {xs ys:List Value} {r:Bool},Zbi (t++t2) xs ys=some r → ∃ r1 r2,Zbi t (xs.take t.length) (ys.take t.length)=some r1∧Zbi t2 (xs.drop t.length) (ys.drop t.length)=some r2∧r=(r1 && r2):=by
 intro t
 induction t with
 | nil=>intro t2 xs ys r h;exact ⟨true,r,by simp [Zbi],by simpa using h,by simp⟩
 | cons a t ih =>
  intro t2 xs ys r h
  rw [List.cons_append] at h
  unfold Zbi at h
  split at h
  ·rename_i e;cases e
  ·rename_i e
   cases e
   split at h
   ·rename_i hr
    cases h
    obtain ⟨r1,r2,h1,h2,rfl⟩:=ih hr
    exact ⟨_,r2,by simp [Zbi,h1];rfl,by simpa using h2,by simp [Bool.and_assoc]⟩
   ·cases h
  ·rename_i e
   cases e
   obtain ⟨hk,h⟩:=Zn h
   split at h
   ·rename_i hr
    cases h
    obtain ⟨r1,r2,h1,h2,rfl⟩:=ih hr
    exact ⟨_,r2,by simp [Zbi,h1,hk];rfl,by simpa using h2,by simp [Bool.and_assoc]⟩
   ·cases h
  ·rename_i e
   cases e
   split at h
   ·rename_i hr
    cases h
    obtain ⟨r1,r2,h1,h2,rfl⟩:=ih hr
    exact ⟨_,r2,by simp [Zbi,h1];rfl,by simpa using h2,by simp [Bool.and_assoc]⟩
   ·cases h
  ·cases h
section eq
variable {P:Program}
def ofC (P:Program) (t:Nat) (xs:List Value) (v:Value):Prop:=(Zg3 P t=true∧v = .agg ⟨xs⟩)∨(Zg3 P t=false∧xs=[v])
theorem Zq2 {d t:Nat} {l:List Nat} (h:Un P d t=some l) : ∃ i dsc,P.underlying t=some dsc∧P.info? t=some i∧(Zg3 P t=true→i.size=l.length)∧(Zg3 P t=false→l.length=1):=by
 cases d with
 | zero=>simp [Un] at h
 | succ d =>
  unfold Un at h
  unfold Zg3
  split at h
  ·rename_i i hu hi;split at h<;>cases h;exact ⟨i,_,hu,hi,by simp [hu],fun _=>rfl⟩
  ·rename_i i hu hi;split at h<;>cases h;exact ⟨i,_,hu,hi,by simp [hu],fun _=>rfl⟩
  ·rename_i i hu hi;split at h<;>cases h;exact ⟨i,_,hu,hi,by simp [hu],fun _=>rfl⟩
  ·rename_i fs i hu hi
   split at h
   ·cases h
   ·split at h
    ·split at h
     ·rename_i hs;cases h;exact ⟨i,_,hu,hi,fun _=>hs,by simp [hu]⟩
     ·cases h
    ·cases h
  ·rename_i n e i hu hi
   split at h
   ·split at h
    ·rename_i hs;cases h;exact ⟨i,_,hu,hi,fun _=>by simp [hs.1],by simp [hu]⟩
    ·cases h
   ·cases h
  ·cases h
theorem Zrh {t:Nat} {dsc:TypeDesc} (h:P.underlying t=some dsc) (w:World):(isAgg t).run P w = .ok (Zg3 P t) w:=by
 unfold Zg3
 cases dsc<;>simp [isAgg,run_underlying h,h]
theorem Zcp {d t off:Nat} {l:List Nat} {XS:List Value} (h:Un P d t=some l) (hl:off+l.length≤XS.length) (w:World) : ∃ v,(part t ⟨XS⟩ off).run P w = .ok v w∧ofC P t ((XS.drop off).take l.length) v:=by
 obtain ⟨i,dsc,hu,hi,h1,h2⟩:=Zq2 h
 have ha:=Zrh hu w
 cases hA:Zg3 P t with
 | true =>
  rw [hA] at ha
  refine ⟨.agg ⟨(XS.drop off).take l.length⟩,?_,.inl ⟨hA,rfl⟩⟩
  have hs:(sizeOf t).run P w = .ok l.length w:=by simp [sizeOf,typeInfo,hi,h1 hA]
  simp [part,ha,hs,List.take_drop,List.extract_eq_take_drop]
 | false =>
  rw [hA] at ha
  have h3:=h2 hA
  have hlt:off<XS.length:=by omega
  refine ⟨XS[off],?_,.inr ⟨hA,?_⟩⟩
  ·simp [part,ha,hlt]
  ·rw [h3,List.drop_eq_getElem_cons hlt]
   rfl
def EqRun (P:Program) (dd d:Nat):Prop := ∀ (t:Nat) (l:List Nat) (xs ys:List Value) (x y:Value) (r:Bool) (w:World),Un P d t=some l→ofC P t xs x→ofC P t ys y→Zbi l xs ys=some r→(Op.equalIn dd t x y).run P w = .ok r w
theorem Zcc {dd d:Nat} (IH:EqRun P dd d) : ∀ (fs:List Field) (off:Nat) (l:List Nat) (XS YS:List Value) (r:Bool) (w:World),Zfc (Un P d) fs off=some l→Zbi l (XS.drop off) (YS.drop off)=some r→(Op.eqFields dd ⟨XS⟩ ⟨YS⟩ fs).run P w = .ok r w
 | [],off,l,XS,YS,r,w,hf,h=>by
  simp [Zfc] at hf
  subst hf
  unfold Zbi at h
  split at h
  ·cases h;simp [Op.eqFields]
  all_goals simp_all
 | f :: fs,off,l,XS,YS,r,w,hf,h=>by
  simp only [Zfc] at hf
  split at hf
  ·rename_i l1 hl1
   split at hf
   ·rename_i hc
    obtain ⟨hn,ho,hz⟩:=hc
    split at hf
    ·rename_i m hm
     cases hf
     obtain ⟨r1,r2,e1,e2,rfl⟩:=Ze9 h
     have hlen:=Zo8 h
     simp only [List.length_append,List.length_drop] at hlen
     obtain ⟨x,p1,f1⟩:=Zcp (XS:=XS) (off:=off) hl1 (by omega) w
     obtain ⟨y,p2,f2⟩:=Zcp (XS:=YS) (off:=off) hl1 (by omega) w
     have hr:=IH f.type l1 _ _ x y r1 w hl1 f1 f2 e1
     have ih:=Zcc IH fs (off+l1.length) m XS YS r2 w hm (by simpa [List.drop_drop] using e2)
     subst ho
     cases r1<;>simp [Op.eqFields,hn,p1,p2,hr,ih]
    ·cases hf
   ·cases hf
  ·cases hf
theorem Zdu {dd d e:Nat} (IH:EqRun P dd d) {l:List Nat} (hl:Un P d e=some l) (hz:0<l.length) : ∀ (k i0:Nat) (XS YS:List Value) (r:Bool) (w:World),Zbi (List.replicate k l).flatten (XS.drop (i0*l.length)) (YS.drop (i0*l.length))=some r→(Op.eqItems dd e l.length ⟨XS⟩ ⟨YS⟩ ((List.range k).map (· + i0))).run P w = .ok r w
 | 0,i0,XS,YS,r,w,h=>by
  simp [Zbi] at h
  unfold Zbi at h
  split at h
  ·cases h;simp [Op.eqItems]
  all_goals simp_all
 | k+1,i0,XS,YS,r,w,h=>by
  rw [List.replicate_succ,List.flatten_cons] at h
  obtain ⟨r1,r2,e1,e2,rfl⟩:=Ze9 h
  have hlen:=Zo8 h
  simp only [List.length_append,List.length_drop] at hlen
  obtain ⟨x,p1,f1⟩:=Zcp (XS:=XS) (off:=i0*l.length) hl (by omega) w
  obtain ⟨y,p2,f2⟩:=Zcp (XS:=YS) (off:=i0*l.length) hl (by omega) w
  have hr:=IH e l _ _ x y r1 w hl f1 f2 e1
  have ih:=Zdu IH hl hz k (i0+1) XS YS r2 w (by simpa [List.drop_drop,Nat.add_mul] using e2)
  rw [List.range_succ_eq_map,List.map_cons,List.map_map]
  have e9:((fun x=>x+i0) ∘ Nat.succ)=(· + (i0+1)):=by funext q;simp;omega
  rw [e9]
  cases r1<;>simp [Op.eqItems,p1,p2,hr,ih]
theorem eq_leaf1 {t:Nat} {x y:Value} {r:Bool} {w:World} (dd:Nat) (hu:P.underlying t=some .bool) (he:Zbi [1] [x] [y]=some r):(Op.equalIn (dd+1) t x y).run P w = .ok r w:=by
 cases x<;>cases y<;>simp [Zbi] at he
 subst he
 exact run_equalIn_bool w dd t _ _ hu
theorem eq_leaf2 {t:Nat} {k:IntKind} {x y:Value} {r:Bool} {w:World} (dd:Nat) (hu:P.underlying t=some (.int k)) (he:Zbi [2] [x] [y]=some r):(Op.equalIn (dd+1) t x y).run P w = .ok r w:=by
 cases x<;>cases y<;>simp [Zbi] at he
 rename_i k1 a k2 b
 obtain ⟨hk,he⟩:=Zn he
 cases he
 cases Uw hk
 exact run_equalIn_int w dd t k1 k a b hu
theorem eq_leaf3 {t:Nat} {x y:Value} {r:Bool} {w:World} (dd:Nat) (hu:P.underlying t=some .string) (he:Zbi [3] [x] [y]=some r):(Op.equalIn (dd+1) t x y).run P w = .ok r w:=by
 cases x<;>cases y<;>try (simp [Zbi] at he;done)
 rename_i a b
 obtain ⟨⟨a⟩⟩:=a
 obtain ⟨⟨b⟩⟩:=b
 simp [Zbi] at he
 subst he
 rw [run_equalIn_string w dd t _ _ hu,Zem,Zem]
 by_cases e:a=b<;>simp [e]
theorem Zkr : ∀ (d q:Nat),EqRun P (q+d) d
 | 0,q=>by intro t l xs ys x y r w h;simp [Un] at h
 | d + 1,q=>by
  intro t l xs ys x y r w h hx hy he
  have h0:=h
  unfold Un at h
  split at h
  ·rename_i i hu hi
   split at h
   ·cases h
    have hA:Zg3 P t=false:=by simp [Zg3,hu]
    rcases hx with ⟨hx,_⟩|⟨_,rfl⟩
    ·rw [hA] at hx;cases hx
    ·rcases hy with ⟨hy,_⟩|⟨_,rfl⟩
     ·rw [hA] at hy;cases hy
     ·rw [show q+(d+1)=q+d+1 by omega]
      exact eq_leaf1 (q+d) hu he
   ·cases h
  ·rename_i i hu hi
   split at h
   ·cases h
    have hA:Zg3 P t=false:=by simp [Zg3,hu]
    rcases hx with ⟨hx,_⟩|⟨_,rfl⟩
    ·rw [hA] at hx;cases hx
    ·rcases hy with ⟨hy,_⟩|⟨_,rfl⟩
     ·rw [hA] at hy;cases hy
     ·rw [show q+(d+1)=q+d+1 by omega]
      exact eq_leaf2 (q+d) hu he
   ·cases h
  ·rename_i i hu hi
   split at h
   ·cases h
    have hA:Zg3 P t=false:=by simp [Zg3,hu]
    rcases hx with ⟨hx,_⟩|⟨_,rfl⟩
    ·rw [hA] at hx;cases hx
    ·rcases hy with ⟨hy,_⟩|⟨_,rfl⟩
     ·rw [hA] at hy;cases hy
     ·rw [show q+(d+1)=q+d+1 by omega]
      exact eq_leaf3 (q+d) hu he
   ·cases h
  ·rename_i fs i hu hi
   split at h
   ·cases h
   ·rename_i hs
    split at h
    ·rename_i l' hl
     split at h
     ·cases h
      have hA:Zg3 P t=true:=by simp [Zg3,hu]
      rcases hx with ⟨_,rfl⟩|⟨hx,_⟩
      ·rcases hy with ⟨_,rfl⟩|⟨hy,_⟩
       ·have hf:P.fieldsOf t=fs:=by simp [Program.fieldsOf,hu]
        have:=run_equalIn_struct (P:=P) w (q+d) t ⟨xs⟩ ⟨ys⟩ (by rw [hf];exact hu) (by simpa using hs)
        rw [show q+(d+1)=q+d+1 by omega,this,hf]
        exact Zcc (Zkr d q) fs.toList 0 l xs ys r w hl (by simpa using he)
       ·rw [hA] at hy;cases hy
      ·rw [hA] at hx;cases hx
     ·cases h
    ·cases h
  ·rename_i n e i hu hi
   split at h
   ·rename_i l' hl
    split at h
    ·rename_i hc
     cases h
     have hA:Zg3 P t=true:=by simp [Zg3,hu]
     rcases hx with ⟨_,rfl⟩|⟨hx,_⟩
     ·rcases hy with ⟨_,rfl⟩|⟨hy,_⟩
      ·obtain ⟨ie,hie,hse⟩:=Option.map_eq_some_iff.1 hc.2.1
       have hce:P.cellsOf e=l'.length:=by simp [Program.cellsOf,hie,hse]
       have:=run_equalIn_array (P:=P) w (q+d) ⟨xs⟩ ⟨ys⟩ hu hie
       rw [show q+(d+1)=q+d+1 by omega,this,hce]
       have h9:=Zdu (Zkr d q) hl hc.2.2 n 0 xs ys r w (by simpa using he)
       simpa using h9
      ·rw [hA] at hy;cases hy
     ·rw [hA] at hx;cases hx
    ·cases h
   ·cases h
  ·cases h
theorem q_eqA {S:Tab P} {ρ:Zr} {L:Zb} {d:Option Tmp} {ty:TypeId} {pos:String} {af:Array Edge} {g:Option (Nat × Bool)} {t t':Nat} {l:List Nat} {x y:Operand} {xs ys:List Value} {r:Bool}
  (hx:ev ρ x=some (.agg ⟨xs⟩)) (hy:ev ρ y=some (.agg ⟨ys⟩)) (ht:Zt S.eq t=some l) (he:Zbi l xs ys=some r):QOp P ⟨d,.binOp .eql t x y t',ty,pos,af,g⟩ ρ L (.bool r):=by
 have h:=List.all_eq_true.1 S.eq_ok _ (Qn ht)
 simp only [Bool.and_eq_true,decide_eq_true_eq,Bool.not_eq_true'] at h
 refine Qo hx hy (fun w=>run_eqGuard_agg w .eql t x y ⟨xs⟩ ⟨ys⟩ h.2) (fun w=>?_) rfl
 exact Zkr 8 9992 t l xs ys _ _ r w h.1.1 (.inl ⟨h.1.2,rfl⟩) (.inl ⟨h.1.2,rfl⟩) he
theorem q_neA {S:Tab P} {ρ:Zr} {L:Zb} {d:Option Tmp} {ty:TypeId} {pos:String} {af:Array Edge} {g:Option (Nat × Bool)} {t t':Nat} {l:List Nat} {x y:Operand} {xs ys:List Value} {r:Bool}
  (hx:ev ρ x=some (.agg ⟨xs⟩)) (hy:ev ρ y=some (.agg ⟨ys⟩)) (ht:Zt S.eq t=some l) (he:Zbi l xs ys=some r):QOp P ⟨d,.binOp .neq t x y t',ty,pos,af,g⟩ ρ L (.bool (!r)):=by
 have h:=List.all_eq_true.1 S.eq_ok _ (Qn ht)
 simp only [Bool.and_eq_true,decide_eq_true_eq,Bool.not_eq_true'] at h
 refine Uf hx hy (fun w=>run_eqGuard_agg w .neq t x y ⟨xs⟩ ⟨ys⟩ h.2) (fun w=>?_) rfl
 exact Zkr 8 9992 t l xs ys _ _ r w h.1.1 (.inl ⟨h.1.2,rfl⟩) (.inl ⟨h.1.2,rfl⟩) he
end eq
end Go.HL
end

/-! HLMem -/
section
namespace Go.HL
open Go

def uc (b:UInt8):List Value:=[.int .u8 b.toNat]
theorem Zp9 (l:List UInt8):(l.map uc).flatten=l.map fun b=>Value.int .u8 b.toNat:=by
 induction l with
 | nil=>rfl
 | cons b r ih=>simp only [List.map_cons,List.flatten_cons,ih];rfl
theorem Zg5 (z:Value) (n:Nat):madeCells #[z] n=⟨List.replicate n z⟩:=by
 apply Array.ext'
 simp only [madeCells,Array.toList_map,Array.toList_range]
 apply List.ext_getElem?
 intro i
 by_cases h:i<n
 ·simp [h,List.getElem?_replicate,Nat.mod_one]
 ·simp [h,List.getElem?_replicate]
section m
variable {P:Program} (S:Tab P) {n:Nat} {ops:List Oper} {Q:Exit→Zr→Zb→Prop} {rest:List Oper} {ρ:Zr} {L:Zb} {ty:TypeId} {pos:String} {af:Array Edge}
theorem Zjg {d t E y0 s0 b0 k1 x1 y1 by1:Nat} {z zv:Value} {x y:Operand} {kl kc:IntKind} {l c:Int} (hx:ev ρ x=some (.int kl l)) (hy:ev ρ y=some (.int kc c)) (ht:Zt S.ty t=some ⟨5,E,y0,s0,b0⟩) (he:Zt S.ty E=some ⟨k1,x1,y1,1,by1⟩)
  (hz:Zt S.zr E=some z) (hzs:z.cells = #[zv]) (hn:Nat.blt d n=true) (hc:0≤l∧l≤c∧(by1:Int)*c≤281474976710656∧c≤9223372036854775807)
  (h : ∀ b,HO P n ops Q rest ((d,sl b 0 l.toNat c.toNat)::ρ) ([(b,.cells ⟨List.replicate c.toNat zv⟩ E)]::L)):HO P n ops Q (⟨some d,.makeSlice t x y,ty,pos,af,none⟩::rest) ρ L:=by
 refine Vh rfl rfl hn fun ρe he' k w hs=>⟨sl w.heap.size 0 l.toNat c.toNat,w.alloc (.cells ⟨List.replicate c.toNat zv⟩ E),_,?_,hs.new _,h _⟩
 have hdesc:=Z9 (S.tyI ht) rfl
 obtain ⟨de,i,hde,hi,-,hisz,hiby⟩:=Xf (S.tyI he)
 simp only at hisz hiby
 have hiz:i.zero=some z:=by
  have:=S.zeroI hz
  unfold zeroI at this
  simpa [hi] using this
 have hr:=run_make (P:=P) w t E i z hdesc hi hiz kl kc l c hc.1 hc.2.1 (by rw [hiby];exact hc.2.2.1) hc.2.2.2
 rw [hisz,hzs,Nat.mul_one,Zg5] at hr
 simp [execOp,he' x (by simp [Op.operands]) _ hx,he' y (by simp [Op.operands]) _ hy,hr]
theorem Zl1 : ∀ (l:List UInt8) (s:List UInt8),(l.map fun b=>((b.toNat:Nat):Int)).foldl (fun r (n:Int)=>r.push (UInt8.ofNat n.toNat)) (ByteArray.mk ⟨s⟩)=ByteArray.mk ⟨s++l⟩
 | [],s=>by simp
 | b::r,s=>by
  have e:(ByteArray.mk ⟨s⟩).push (UInt8.ofNat (((b.toNat:Nat):Int)).toNat)=ByteArray.mk ⟨s++[b]⟩:=by
   apply ByteArray.ext
   simp [ByteArray.push]
  rw [List.map_cons,List.foldl_cons,e,Zl1 r (s++[b])]
  simp
theorem Zf8 {d:Option Tmp} {g:Option (Nat × Bool)} {t t2 E y0 s0 b0 x1 y1 s1 by1:Nat} {ti:TyI} {x:Operand} {a:Option Addr} {cap:Nat} {l:List UInt8} (hx:ev ρ x=some (.slice a l.length cap)) (ht:Zt S.ty t=some ⟨5,E,y0,s0,b0⟩) (he:Zt S.ty E=some ⟨2,x1,y1,s1,by1⟩) (hu:Nat.beq x1 4=true)
  (ht2:Zt S.ty t2=some ti) (h3:Nat.beq ti.kind 3=true) (hR:Rd uc 1 L a l):QOp P ⟨d,.convert t t2 x,ty,pos,af,g⟩ ρ L (bs l):=
 Ya fun ρe he' k w hs=>by
  have hu':=Nat.eq_of_beq_eq_true hu
  have h1:=Z9 (S.tyI ht) rfl
  have h2:=W0 (S.tyI ht2) (Nat.eq_of_beq_eq_true h3)
  have h4:P.underlying E=some (.int .u8):=by
   have:=Zdj (S.tyI he) rfl
   simpa [hu',Ql] using this
  have hcv:(Conv.bytesToString (.slice a l.length cap)).run P w = .ok (bs l) w:=by
   rcases hR with rfl|⟨b,i,c,E',fr,rfl,hb,hg⟩
   ·cases a with
    | none=>simp [Conv.bytesToString,Sem.run_pure];rfl
    | some a =>
     have:=run_bytesToString (P:=P) w a 0 cap [] (by simp [loadCells,loadCellsFrom])
     exact this
   ·have hg2:Gets c i ((l.map fun b=>((b.toNat:Nat):Int)).map (Value.int .u8)):=by
     have:=Zc7 (enc:=uc) (sz:=1) (fun _=>rfl) l i hg
     rw [Zp9] at this
     rw [List.map_map]
     exact this
    have hld:=Zb1 (P:=P) hs hb hg2
    simp only [List.length_map] at hld
    have:=run_bytesToString (P:=P) w ⟨b,i,none⟩ l.length cap (l.map fun b=>((b.toNat:Nat):Int)) (by simpa using hld)
    rw [this]
    have e:=Zl1 l []
    simp only [List.nil_append] at e
    exact congrArg (fun z=>Result.ok (Value.string z) w) e
  simp [execOp,he' x (by simp [Op.operands]) _ hx,convert,run_underlying h1,run_underlying h2,run_underlying h4,hcv]
theorem Qd (l:List UInt8) (a b:Nat):(ByteArray.mk ⟨l⟩).extract a b=ByteArray.mk ⟨(l.take b).drop a⟩:=by
 apply ByteArray.ext
 simp [ByteArray.data_extract,List.extract_eq_take_drop,List.drop_take]
theorem q_strLo {d:Option Tmp} {g:Option (Nat × Bool)} {t:Nat} {ti:TyI} {x y:Operand} {k:IntKind} {lo:Int} {l:List UInt8} (hx:ev ρ x=some (bs l)) (hy:ev ρ y=some (.int k lo)) (ht:Zt S.ty t=some ti) (hk:Nat.beq ti.kind 3=true) (h:0≤lo∧lo≤l.length) :
  QOp P ⟨d,.slice t x (some y) none none,ty,pos,af,g⟩ ρ L (bs (l.drop lo.toNat)):=
 Ya fun ρe he k' w hs=>by
  have h1:=W0 (S.tyI ht) (Nat.eq_of_beq_eq_true hk)
  have e:(ByteArray.mk ⟨l⟩).extract lo.toNat l.length=ByteArray.mk ⟨l.drop lo.toNat⟩:=by rw [Qd,List.take_length]
  simp [execOp,he x (by simp [Op.operands]) _ hx,he y (by simp [Op.operands]) _ hy,run_sliceAt_string _ _ _ _ _ _ h1,Instr.slice,run_underlying h1,Instr.sliceBounds,run_sliceBound,Qe,h.1,h.2,e]
theorem q_strHi {d:Option Tmp} {g:Option (Nat × Bool)} {t:Nat} {ti:TyI} {x y:Operand} {k:IntKind} {hi:Int} {l:List UInt8} (hx:ev ρ x=some (bs l)) (hy:ev ρ y=some (.int k hi)) (ht:Zt S.ty t=some ti) (hk:Nat.beq ti.kind 3=true) (h:0≤hi∧hi≤l.length) :
  QOp P ⟨d,.slice t x none (some y) none,ty,pos,af,g⟩ ρ L (bs (l.take hi.toNat)):=
 Ya fun ρe he k' w hs=>by
  have h1:=W0 (S.tyI ht) (Nat.eq_of_beq_eq_true hk)
  have e:(ByteArray.mk ⟨l⟩).extract 0 hi.toNat=ByteArray.mk ⟨l.take hi.toNat⟩:=by rw [Qd,List.drop_zero]
  simp [execOp,he x (by simp [Op.operands]) _ hx,he y (by simp [Op.operands]) _ hy,run_sliceAt_string _ _ _ _ _ _ h1,Instr.slice,run_underlying h1,Instr.sliceBounds,run_sliceBound,Qe,h.1,h.2,e]
theorem q_strLH {d:Option Tmp} {g:Option (Nat × Bool)} {t:Nat} {ti:TyI} {x y z:Operand} {k k2:IntKind} {lo hi:Int} {l:List UInt8} (hx:ev ρ x=some (bs l)) (hy:ev ρ y=some (.int k lo)) (hz:ev ρ z=some (.int k2 hi)) (ht:Zt S.ty t=some ti) (hk:Nat.beq ti.kind 3=true) (h:0≤lo∧lo≤hi∧hi≤l.length) :
  QOp P ⟨d,.slice t x (some y) (some z) none,ty,pos,af,g⟩ ρ L (bs ((l.take hi.toNat).drop lo.toNat)):=
 Ya fun ρe he k' w hs=>by
  have h1:=W0 (S.tyI ht) (Nat.eq_of_beq_eq_true hk)
  have e:=Qd l lo.toNat hi.toNat
  have h0:0≤hi:=by omega
  have eh:(hi.toNat:Int)=hi:=Int.toNat_of_nonneg h0
  simp [execOp,he x (by simp [Op.operands]) _ hx,he y (by simp [Op.operands]) _ hy,he z (by simp [Op.operands]) _ hz,run_sliceAt_string _ _ _ _ _ _ h1,Instr.slice,run_underlying h1,Instr.sliceBounds,run_sliceBound,Qe,h.1,h.2.1,h.2.2,h0,eh,e]

/-! struct literals -/
def Y7:Value→List Value
 | .agg ⟨vs⟩=>vs
 | v=>[v]
theorem Zhd (v:Value):v.cells=⟨Y7 v⟩:=by cases v<;>rfl
def Zl2:List Value→Nat→List Value→List Value
 | cells,_,[]=>cells
 | cells,off,v::r=>Zl2 (cells.set off v) (off+1) r
def Zhh (fs:List (Nat × Nat × Nat)):List Value→List (Nat × Value)→Option (List Value)
 | cells,[]=>some cells
 | cells,(i,v)::r=>(fs[i]?).bind fun q=>bif Nat.beq (Y7 v).length q.2.1 && Nat.ble (q.1+(Y7 v).length) cells.length then Zhh fs (Zl2 cells q.1 (Y7 v)) r else none
def nfL {α:Type}:List Value→(List Value→Option α)→Option α
 | [],k=>k []
 | x::r,k=>nfL r fun r'=>k (x::r')
theorem Zdb {α:Type} : ∀ (l:List Value) (k:List Value→Option α),nfL l k=k l
 | [],k=>rfl
 | x::r,k=>Zdb r _
def Wg (ρ:Zr):List (Nat × Operand)→Option (List (Nat × Value))
 | []=>some []
 | (i,x)::r=>match ev ρ x,Wg ρ r with
  | some v,some vs=>some ((i,v)::vs)
  | _,_=>none
theorem Zn9 : ∀ (vs:List Value) (cells:List Value) (off j:Nat),(vs.zipIdx j).foldl (fun (cs:Array Value) (p:Value × Nat)=>cs.setIfInBounds (off+p.2) p.1) ⟨cells⟩=⟨Zl2 cells (off+j) vs⟩
 | [],cells,off,j=>rfl
 | v::r,cells,off,j=>by
  simp only [List.zipIdx_cons,List.foldl_cons,Zl2]
  rw [show (Array.mk cells).setIfInBounds (off+j) v=⟨cells.set (off+j) v⟩ by simp,Zn9 r _ off (j+1)]
  rfl
theorem Um {ρ:Zr} {ρe:Operand→Value} : ∀ {l:List (Nat × Operand)} {vs:List (Nat × Value)},(∀ p∈l,∀ u,ev ρ p.2=some u→ρe p.2=u)→Wg ρ l=some vs→(l.map fun p=>(p.1,ρe p.2))=vs
 | [],vs,_,h=>by simp [Wg] at h;subst h;rfl
 | (i,x)::r,vs,he,h=>by
  simp only [Wg] at h
  cases hx:ev ρ x with
  | none=>simp [hx] at h
  | some v =>
   cases hr:Wg ρ r with
   | none=>simp [hx,hr] at h
   | some us =>
    simp [hx,hr] at h
    subst h
    rw [List.map_cons,Um (fun p hp=>he p (by simp [hp])) hr,he (i,x) (by simp) v hx]
theorem Zpa {fs:List (Nat × Nat × Nat)} {place:Nat→Option (Nat × Nat)} (hp : ∀ i,place i=(fs[i]?).map fun q=>(q.1,q.2.1)) : ∀ (l:List (Nat × Value)) (cells out:List Value),Zhh fs cells l=some out→Instr.fill place ⟨cells⟩ l=some ⟨out⟩
 | [],cells,out,h=>by simp [Zhh] at h;subst h;rfl
 | (i,v)::r,cells,out,h=>by
  simp only [Zhh] at h
  obtain ⟨q,hq,h1⟩:=bind_some h
  obtain ⟨hc,h2⟩:=Zn h1
  simp only [Bool.and_eq_true] at hc
  have e1:=Nat.eq_of_beq_eq_true hc.1
  have e2:=Nat.le_of_ble_eq_true hc.2
  have ih:=Zpa hp r _ out h2
  have e3:=Zn9 (Y7 v) cells q.1 0
  simp only [Nat.add_zero] at e3
  unfold Instr.fill
  rw [hp i,hq]
  simp only [Option.map_some,Zhd]
  have hcond:(decide ((Array.mk (Y7 v)).size≠q.2.1) || decide (q.1+(Array.mk (Y7 v)).size > (Array.mk cells).size))=false:=by simp;omega
  rw [hcond]
  simp only [Bool.false_eq_true,if_false]
  have e4:(Array.zipIdx ⟨Y7 v⟩ 0:Array (Value × Nat))=⟨(Y7 v).zipIdx 0⟩:=by simp
  rw [e4]
  simp only [List.foldl_toArray]
  rw [e3]
  exact ih
theorem Zbp {α β:Type} {f:α→Sem β} {w:World} : ∀ (l:List α) (r:List β),(∀ (i:Nat) (x:α),l[i]? = some x → ∃ y,r[i]? = some y∧(f x).run P w = .ok y w)→l.length=r.length→(l.mapM f).run P w = .ok r w
 | [],r,_,hl=>by
  have:r=[]:=by cases r with|nil=>rfl|cons _ _=>simp at hl
  subst this
  simp [Sem.run_pure]
 | x::l,r,h,hl=>by
  cases r with
  | nil=>simp at hl
  | cons y r =>
   obtain ⟨y',hy,hf⟩:=h 0 x rfl
   simp at hy
   subst hy
   have ih:=Zbp l r (fun i z hz=>h (i+1) z hz) (by simpa using hl)
   simp [List.mapM_cons,Sem.run_bind,hf,ih,Result.andThen,Sem.run_pure]
theorem Zsf {t:Nat} {fs:List (Nat × Nat × Nat)} (h:stI P t=some fs) : ∃ fields,P.underlying t=some (.struct fields) ∧ ∀ w,(fields.mapM fun f=>do pure (f.offset,← sizeOf f.type):Sem (Array (Nat × Nat))).run P w = .ok (fs.map fun q=>(q.1,q.2.1)).toArray w:=by
 unfold stI at h
 split at h
 ·rename_i fields hu
  refine ⟨fields,hu,fun w=>?_⟩
  rw [Array.mapM_eq_mapM_toList]
  have hl : ∀ (l:List Field) (fs:List (Nat × Nat × Nat)),(l.mapM fun f=>(P.info? f.type).map fun i=>(f.offset,i.size,f.type))=some fs→l.length=fs.length ∧ ∀ (i:Nat) (x:Field),l[i]? = some x → ∃ y,fs[i]? = some y ∧ ∃ j,P.info? x.type=some j∧y=(x.offset,j.size,x.type):=by
   intro l
   induction l with
   | nil=>intro fs h;simp at h;subst h;simp
   | cons f l ih =>
    intro fs h
    simp only [List.mapM_cons,bind,Option.bind_eq_some_iff,pure] at h
    obtain ⟨y,hy,r,hr,e⟩:=h
    cases e
    obtain ⟨h1,h2⟩:=ih r hr
    refine ⟨by simp [h1],fun i x hx=>?_⟩
    cases i with
    | zero =>
     simp at hx
     subst hx
     simp only [Option.map_eq_some_iff] at hy
     obtain ⟨j,hj,e⟩:=hy
     exact ⟨y,rfl,j,hj,e.symm⟩
    | succ i=>exact h2 i x hx
  obtain ⟨h1,h2⟩:=hl _ _ h
  have hr:=Zbp (P:=P) (w:=w) (f:=fun f:Field=>(do pure (f.offset,← sizeOf f.type):Sem (Nat × Nat))) fields.toList (fs.map fun q=>(q.1,q.2.1)) (fun i x hx=>by
   obtain ⟨y,hy,j,hj,e⟩:=h2 i x hx
   refine ⟨(y.1,y.2.1),by simp [hy],?_⟩
   subst e
   simp [sizeOf,typeInfo,hj]) (by simpa using h1)
  simp only [map_eq_pure_bind,Sem.run_bind,hr,Result.andThen,Sem.run_pure]
 ·cases h
theorem q_build {d:Option Tmp} {g:Option (Nat × Bool)} {t:Nat} {parts:Array (Nat × Operand)} {zs out:List Value} {vals:List (Nat × Value)} {fs:List (Nat × Nat × Nat)} (hz:Zt S.zr t=some (.agg ⟨zs⟩)) (hs:Zt S.st t=some fs) (hp:Wg ρ parts.toList=some vals)
  (hf:((Zhh fs zs vals).bind fun l=>nfL l some)=some out):QOp P ⟨d,.build t parts,ty,pos,af,g⟩ ρ L (.agg ⟨out⟩):=
 Ya fun ρe he k w hsat=>by
  obtain ⟨l,hl,h1⟩:=bind_some hf
  rw [Zdb] at h1
  cases h1
  obtain ⟨fields,hu,hm⟩:=Zsf (S.stI hs)
  have hzero:=Vq (S.zeroI hz) w
  have hm2:=hm w
  have e1:(parts.map fun p=>(p.1,ρe p.2)).toList=vals:=by
   rw [Array.toList_map]
   exact Um (fun p hp' u hu=>he p.2 (by simp [Op.operands];exact ⟨p.1,by simpa using hp'⟩) u hu) hp
  have hfill:=Zpa (place:=fun i=>((fs.map fun q=>(q.1,q.2.1)).toArray)[i]?) (fun i=>by simp) vals zs out hl
  show (Instr.build t (parts.map fun p=>(p.1,ρe p.2)) >>= fun v=>pure (Next.value v):Sem Next).run P w=_
  simp only [Sem.run_bind,Instr.build,hzero,Result.andThen,run_underlying hu,hm2,e1,Value.cells,hfill]
  rfl
end m
end Go.HL
end

/-! HLGo -/
section
namespace Go.HL
/-! short names for a walk's own simplifications -/
theorem zA {a b:Bool}:((!a)=b)↔a = !b:=Bool.not_eq_eq_eq_not
theorem zB:(!true)=false:=rfl
theorem zC:(!false)=true:=rfl
theorem zD {p:Prop} [Decidable p]:(decide p=true)=p:=decide_eq_true_eq
theorem zE {p:Prop} {x:Decidable p}:decide p=false ↔ ¬ p:=decide_eq_false_iff_not
theorem zF {p:Prop} [Decidable p] : ¬ ¬ p↔p:=Decidable.not_not
theorem zG (a b:Bool):((a && b)=true)=(a=true∧b=true):=Bool.and_eq_true a b
theorem zH {α:Type} [BEq α] [LawfulBEq α] {a b:α}:(a == b)=true↔a=b:=beq_iff_eq
theorem zI (h:Decidable True) : @decide True h=true:=decide_true h
theorem zJ (b:Bool):(b && true)=b:=Bool.and_true b
theorem zK (b:Bool):(true && b)=b:=Bool.true_and b
theorem zL:(¬ True)=False:=not_true_eq_false
theorem zM:(¬ False)=True:=not_false_eq_true
open Go

def Y6:Zr→Bool
 | []=>true
 | _::_=>true
/-! ### control -/
section c
variable {P:Program} {n:Nat} {ops:List Oper} {Q:Exit→Zr→Zb→Prop} {rest:List Oper} {ρ:Zr} {L:Zb}
theorem g_t {c:Operand} {x y:Code} {b:Bool} (h:HW P n x Q ρ L) (h00:Y6 ρ=true:=by exact rfl) (hc:ev ρ c=some (.bool b):=by exact rfl) (hb:b=true:=by with_reducible exact rfl):HW P n (.cond c x y) Q ρ L:=hw_true hc hb h
theorem g_f {c:Operand} {x y:Code} {b:Bool} (h:HW P n y Q ρ L) (h00:Y6 ρ=true:=by exact rfl) (hc:ev ρ c=some (.bool b):=by exact rfl) (hb:b=false:=by with_reducible exact rfl):HW P n (.cond c x y) Q ρ L:=hw_false hc hb h
theorem g_b {c:Operand} {x y:Code} {b:Bool} (ht:b=true→HW P n x Q ρ L) (hf:b=false→HW P n y Q ρ L) (h00:Y6 ρ=true:=by exact rfl) (hc:ev ρ c=some (.bool b):=by exact rfl):HW P n (.cond c x y) Q ρ L:=hw_bool hc ht hf
theorem g_bx {id i:Nat} (h:Q (.exit i) ρ L) (h00:Y6 ρ=true:=by exact rfl) (hn:Nat.beq i id=false:=by exact rfl):Z6 id Q (.exit i) ρ L:=Zqo hn h

/-! ### operations -/
variable {op:Op} {ty:TypeId} {pos:String} {af:Array Edge} {g:Option (Nat × Bool)} {d:Nat}
theorem Vb {v:Value} (h:QOp P ⟨some d,op,ty,pos,af,g⟩ ρ L v) (hr:HO P n ops Q rest ((d,v)::ρ) L) (h00:Y6 ρ=true:=by exact rfl) (hg:Zu ops ρ g=some true:=by exact rfl) (hn:Nat.blt d n=true:=by exact rfl):HO P n ops Q (⟨some d,op,ty,pos,af,g⟩::rest) ρ L:=ho_go hg hn h hr
theorem g_n (hr:HO P n ops Q rest ((d,undef)::ρ) L) (h00:Y6 ρ=true:=by exact rfl) (hg:Zu ops ρ g=some false:=by exact rfl) (hn:Nat.blt d n=true:=by exact rfl):HO P n ops Q (⟨some d,op,ty,pos,af,g⟩::rest) ρ L:=ho_no hg hn hr
theorem g_on {d:Option Tmp} {j:Nat} {wt:Bool} (h:HO P n ops Q (⟨d,op,ty,pos,af,none⟩::rest) ρ L) (h00:Y6 ρ=true:=by exact rfl) (hg:Zu ops ρ (some (j,wt))=some true:=by exact rfl):HO P n ops Q (⟨d,op,ty,pos,af,some (j,wt)⟩::rest) ρ L:=ho_on hg h
theorem g_s {d j t:Nat} {wt:Bool} {b:Bool} (h1:b=true→HO P n ops Q (⟨some d,op,ty,pos,af,some (j,wt)⟩::rest) ((t,.bool true)::ρ) L) (h0:b=false→HO P n ops Q (⟨some d,op,ty,pos,af,some (j,wt)⟩::rest) ((t,.bool false)::ρ) L)
  (h00:Y6 ρ=true:=by exact rfl) (hj:V8 ops j=some t:=by exact rfl) (ht:lk ρ t=some (.bool b):=by exact rfl):HO P n ops Q (⟨some d,op,ty,pos,af,some (j,wt)⟩::rest) ρ L:=Zrb hj ht h1 h0
variable {K:Zr→Prop}
theorem Zc9 {v:Value} (h:QOp P ⟨some d,op,ty,pos,af,g⟩ ρ L v) (hr:HQ P n ops K rest ((d,v)::ρ) L) (h00:Y6 ρ=true:=by exact rfl) (hg:Zu ops ρ g=some true:=by exact rfl) (hn:Nat.blt d n=true:=by exact rfl):HQ P n ops K (⟨some d,op,ty,pos,af,g⟩::rest) ρ L:=hq_go hg hn h hr
theorem k_n (hr:HQ P n ops K rest ((d,undef)::ρ) L) (h00:Y6 ρ=true:=by exact rfl) (hg:Zu ops ρ g=some false:=by exact rfl) (hn:Nat.blt d n=true:=by exact rfl):HQ P n ops K (⟨some d,op,ty,pos,af,g⟩::rest) ρ L:=hq_no hg hn hr
theorem k_s {d j t:Nat} {wt:Bool} {b:Bool} (h1:b=true→HQ P n ops K (⟨some d,op,ty,pos,af,some (j,wt)⟩::rest) ((t,.bool true)::ρ) L) (h0:b=false→HQ P n ops K (⟨some d,op,ty,pos,af,some (j,wt)⟩::rest) ((t,.bool false)::ρ) L)
  (h00:Y6 ρ=true:=by exact rfl) (hj:V8 ops j=some t:=by exact rfl) (ht:lk ρ t=some (.bool b):=by exact rfl):HQ P n ops K (⟨some d,op,ty,pos,af,some (j,wt)⟩::rest) ρ L:=Zrd hj ht h1 h0
def calm:List Oper→Bool
 | []=>true
 | o::r=>bif isAct o then false else calm r
theorem Yd {id:Nat} (S:Tab P) (h:HQ P n ops (fun ρ'=>Q .normal ρ' L) ops ρ L) (h00:Y6 ρ=true:=by exact rfl) (hc:calm ops=true:=by exact rfl) (hB:Region.lexB .any ops.toArray=true:=by decide +kernel):HW P n (.region id ops.toArray true) Q ρ L:=hw_quiet S hB h
theorem Z0 {id:Nat} (S:Tab P) {rem:List (Nat × Oper)} (h:HD P n ops Q [] rem ρ L) (h00:Y6 ρ=true:=by exact rfl) (h0:Zlv Zn2 ops some=some rem:=by exact rfl):HW P n (.region id ops.toArray true) Q ρ L:=Zpj S h0 h
theorem Yu {id:Nat} (S:Tab P) {rem:List (Nat × Oper)} (h:HD P n ops Q [] rem ρ L) (h00:Y6 ρ=true:=by exact rfl) (hc:calm ops=false:=by exact rfl) (h0:Zlv Zn2 ops some=some rem:=by exact rfl):HW P n (.region id ops.toArray true) Q ρ L:=Zpj S h0 h
end c

/-! ### what reads -/
section q
variable {P:Program} {ρ:Zr} {L:Zb} {d:Option Tmp} {ty:TypeId} {pos:String} {af:Array Edge} {g:Option (Nat × Bool)}
theorem qe (S:Tab P) {o:Op} {v:Value} {p:Prop} (h00:Y6 ρ=true:=by exact rfl) (h:opE S.ty S.fl ρ o=some (v,p):=by exact rfl) (hp:p:=by first|exact trivial|omega|assumption|(simp only [List.length_append,List.length_cons,List.length_nil];omega)|(simp only [loE,Q5,wdE,Int.reduceToNat,Int.reducePow] at *;omega)):QOp P ⟨d,o,ty,pos,af,g⟩ ρ L v:=opE_q S h hp
theorem qg (S:Tab P) {t n:Nat} {ti:TyI} {v:Value} (h00:Y6 ρ=true:=by exact rfl) (ht:Zt S.ty t=some ti:=by exact rfl) (h6:Nat.beq ti.kind 6=false:=by exact rfl) (h7:Nat.beq ti.kind 7=false:=by exact rfl) (hg:Gl L n v:=by (repeat (first|assumption|exact Errs.get (by assumption) rfl rfl|apply Gl.cons))) :
  QOp P ⟨d,.load t (.global n),ty,pos,af,g⟩ ρ L v:=q_gload S ht h6 h7 hg
theorem ql (S:Tab P) {t b i E:Nat} {ti:TyI} {x:Operand} {l:List Value} {fr:Nat × Nat} {v:Value} (h00:Y6 ρ=true:=by exact rfl) (hx:ev ρ x=some (pt b i):=by exact rfl) (ht:Zt S.ty t=some ti:=by exact rfl) (h6:Nat.beq ti.kind 6=false:=by exact rfl) (h7:Nat.beq ti.kind 7=false:=by exact rfl)
  (hb:Has L b (.cells ⟨l⟩ E fr):=by (repeat (first|assumption|exact Zh|exact Yi (by assumption)|apply Xq|apply Zc))) (hv:l[i]? = some v:=by (first|exact rfl|assumption|exact Gets.at (by assumption) rfl|exact Gets.at0 (by assumption) rfl)) :
  QOp P ⟨d,.load t x,ty,pos,af,g⟩ ρ L v:=Zjj S hx ht h6 h7 hb hv
theorem Zfe {l vs:List Value} {i n:Nat} (h:Gets l i vs) (hn:n=vs.length):Gets l i vs∧n=vs.length:=⟨h,hn⟩
theorem qs (S:Tab P) {t b i E:Nat} {ti:TyI} {x:Operand} {l vs:List Value} {fr:Nat × Nat} (h00:Y6 ρ=true:=by exact rfl) (hx:ev ρ x=some (pt b i):=by exact rfl) (ht:Zt S.ty t=some ti:=by exact rfl) (h7:(Nat.beq ti.kind 6 || Nat.beq ti.kind 7)=true:=by exact rfl)
  (hb:Has L b (.cells ⟨l⟩ E fr):=by (repeat (first|assumption|exact Zh|exact Yi (by assumption)|apply Xq|apply Zc)))
  (hv:Gets l i vs∧ti.size=vs.length:=by (first|(refine Zfe (by assumption) ?_;rfl)|exact ⟨Zd rfl (Zd rfl (Zd rfl Zx)),rfl⟩|exact ⟨Zd rfl (Zd rfl Zx),rfl⟩|exact ⟨Zd rfl (Zd rfl (Zd rfl (Zd rfl Zx))),rfl⟩|exact ⟨Zd rfl (Zd rfl (Zd rfl (Zd rfl (Zd rfl (Zd rfl (Zd rfl (Zd rfl (Zd rfl Zx)))))))),rfl⟩)) :
  QOp P ⟨d,.load t x,ty,pos,af,g⟩ ρ L (.agg ⟨vs⟩):=Zp1 S hx ht h7 hb hv
theorem qn (S:Tab P) {t:Nat} {x:Operand} {b:Bool} (h00:Y6 ρ=true:=by exact rfl) (hx:ev ρ x=some (.bool b):=by exact rfl):QOp P ⟨d,.unOp .not t x,ty,pos,af,g⟩ ρ L (.bool (!b)):=q_not hx
theorem qb (S:Tab P) {t:Nat} {parts:Array (Nat × Operand)} {zs out:List Value} {vals:List (Nat × Value)} {fs:List (Nat × Nat × Nat)} (h00:Y6 ρ=true:=by exact rfl) (hz:Zt S.zr t=some (.agg ⟨zs⟩):=by exact rfl) (hs:Zt S.st t=some fs:=by exact rfl) (hp:Wg ρ parts.toList=some vals:=by exact rfl)
  (hf:((Zhh fs zs vals).bind fun l=>nfL l some)=some out:=by exact rfl):QOp P ⟨d,.build t parts,ty,pos,af,g⟩ ρ L (.agg ⟨out⟩):=q_build S hz hs hp hf
theorem qSl (S:Tab P) {t:Nat} {ti:TyI} {x y:Operand} {k:IntKind} {lo:Int} {l:List UInt8} (h00:Y6 ρ=true:=by exact rfl) (hx:ev ρ x=some (bs l):=by exact rfl) (hy:ev ρ y=some (.int k lo):=by exact rfl) (ht:Zt S.ty t=some ti:=by exact rfl) (hk:Nat.beq ti.kind 3=true:=by exact rfl) (h:0≤lo∧lo≤l.length:=by omega) :
  QOp P ⟨d,.slice t x (some y) none none,ty,pos,af,g⟩ ρ L (bs (l.drop lo.toNat)):=q_strLo S hx hy ht hk h
theorem qSh (S:Tab P) {t:Nat} {ti:TyI} {x y:Operand} {k:IntKind} {hi:Int} {l:List UInt8} (h00:Y6 ρ=true:=by exact rfl) (hx:ev ρ x=some (bs l):=by exact rfl) (hy:ev ρ y=some (.int k hi):=by exact rfl) (ht:Zt S.ty t=some ti:=by exact rfl) (hk:Nat.beq ti.kind 3=true:=by exact rfl) (h:0≤hi∧hi≤l.length:=by omega) :
  QOp P ⟨d,.slice t x none (some y) none,ty,pos,af,g⟩ ρ L (bs (l.take hi.toNat)):=q_strHi S hx hy ht hk h
theorem qSb (S:Tab P) {t:Nat} {ti:TyI} {x y z:Operand} {k k2:IntKind} {lo hi:Int} {l:List UInt8} (h00:Y6 ρ=true:=by exact rfl) (hx:ev ρ x=some (bs l):=by exact rfl) (hy:ev ρ y=some (.int k lo):=by exact rfl) (hz:ev ρ z=some (.int k2 hi):=by exact rfl) (ht:Zt S.ty t=some ti:=by exact rfl) (hk:Nat.beq ti.kind 3=true:=by exact rfl) (h:0≤lo∧lo≤hi∧hi≤l.length:=by omega) :
  QOp P ⟨d,.slice t x (some y) (some z) none,ty,pos,af,g⟩ ρ L (bs ((l.take hi.toNat).drop lo.toNat)):=q_strLH S hx hy hz ht hk h
theorem qt (S:Tab P) {t t2 E y0 s0 b0 x1 y1 s1 by1:Nat} {ti:TyI} {x:Operand} {a:Option Addr} {cap:Nat} {l:List UInt8} (h00:Y6 ρ=true:=by exact rfl) (hx:ev ρ x=some (.slice a l.length cap):=by exact rfl) (ht:Zt S.ty t=some ⟨5,E,y0,s0,b0⟩:=by exact rfl) (he:Zt S.ty E=some ⟨2,x1,y1,s1,by1⟩:=by exact rfl) (hu:Nat.beq x1 4=true:=by exact rfl)
  (ht2:Zt S.ty t2=some ti:=by exact rfl) (h3:Nat.beq ti.kind 3=true:=by exact rfl) (hR:Rd uc 1 L a l:=by (repeat (first|assumption|apply Rd.cons))):QOp P ⟨d,.convert t t2 x,ty,pos,af,g⟩ ρ L (bs l):=Zf8 S hx ht he hu ht2 h3 hR
theorem qA (S:Tab P) {t t':Nat} {l:List Nat} {x y:Operand} {xs ys:List Value} {r:Bool} (h00:Y6 ρ=true:=by exact rfl) (hx:ev ρ x=some (.agg ⟨xs⟩):=by exact rfl) (hy:ev ρ y=some (.agg ⟨ys⟩):=by exact rfl) (ht:Zt S.eq t=some l:=by exact rfl) (he:Zbi l xs ys=some r:=by exact rfl):QOp P ⟨d,.binOp .eql t x y t',ty,pos,af,g⟩ ρ L (.bool r):=q_eqA (S:=S) hx hy ht he
theorem qB (S:Tab P) {t t':Nat} {l:List Nat} {x y:Operand} {xs ys:List Value} {r:Bool} (h00:Y6 ρ=true:=by exact rfl) (hx:ev ρ x=some (.agg ⟨xs⟩):=by exact rfl) (hy:ev ρ y=some (.agg ⟨ys⟩):=by exact rfl) (ht:Zt S.eq t=some l:=by exact rfl) (he:Zbi l xs ys=some r:=by exact rfl):QOp P ⟨d,.binOp .neq t x y t',ty,pos,af,g⟩ ρ L (.bool (!r)):=q_neA (S:=S) hx hy ht he
theorem qtx (S:Tab P) {t t2 E y0 s0 b0 x1 y1 s1 by1 len:Nat} {ti:TyI} {x:Operand} {a:Option Addr} {cap:Nat} {l:List UInt8} (hR:Rd uc 1 L a l) (hlen:l.length=len) (h00:Y6 ρ=true:=by exact rfl) (hx:ev ρ x=some (.slice a len cap):=by exact rfl) (ht:Zt S.ty t=some ⟨5,E,y0,s0,b0⟩:=by exact rfl) (he:Zt S.ty E=some ⟨2,x1,y1,s1,by1⟩:=by exact rfl) (hu:Nat.beq x1 4=true:=by exact rfl)
  (ht2:Zt S.ty t2=some ti:=by exact rfl) (h3:Nat.beq ti.kind 3=true:=by exact rfl):QOp P ⟨d,.convert t t2 x,ty,pos,af,g⟩ ρ L (bs l):=by subst hlen;exact Zf8 S hx ht he hu ht2 h3 hR
theorem wrap_u8 (n:Int):IntKind.u8.wrap n=n % 256:=by simp [IntKind.wrap,IntKind.bits,IntKind.signed]
theorem Zms (n:Int):IntKind.u32.wrap n=n % 4294967296:=by simp [IntKind.wrap,IntKind.bits,IntKind.signed]
theorem q_cut (S:Tab P) {src dst:Nat} {ti ts:TyI} {x:Operand} {k:IntKind} {n:Int} (hx:ev ρ x=some (.int k n)) (ht:Zt S.ty dst=some ti) (hs:Zt S.ty src=some ts) (hk:Nat.beq ti.kind 2=true):QOp P ⟨d,.convert src dst x,ty,pos,af,g⟩ ρ L (.int (Ql ti.x) ((Ql ti.x).wrap n)):=
 Ya fun ρe he k' w hsat=>by
  have e1:=Zdj (S.tyI ht) (Nat.eq_of_beq_eq_true hk)
  obtain ⟨ds,hds⟩:=Option.isSome_iff_exists.1 (Zih (S.tyI hs))
  simp [execOp,he x (by simp [Op.operands]) _ hx,convert,run_underlying e1,run_underlying hds,Conv.intToInt]
theorem qc8 (S:Tab P) {src dst:Nat} {ti ts:TyI} {x:Operand} {k:IntKind} {n:Int} (h00:Y6 ρ=true:=by exact rfl) (hx:ev ρ x=some (.int k n):=by exact rfl) (ht:Zt S.ty dst=some ti:=by exact rfl) (hs:Zt S.ty src=some ts:=by exact rfl) (hk:Nat.beq ti.kind 2=true:=by exact rfl) (h8:Nat.beq ti.x 4=true:=by exact rfl) :
  QOp P ⟨d,.convert src dst x,ty,pos,af,g⟩ ρ L (.int .u8 (n % 256)):=by
 have:=q_cut (d:=d) (ty:=ty) (pos:=pos) (af:=af) (g:=g) (L:=L) S hx ht hs hk
 rw [Nat.eq_of_beq_eq_true h8] at this
 rw [← wrap_u8]
 exact this
theorem qc32 (S:Tab P) {src dst:Nat} {ti ts:TyI} {x:Operand} {k:IntKind} {n:Int} (h00:Y6 ρ=true:=by exact rfl) (hx:ev ρ x=some (.int k n):=by exact rfl) (ht:Zt S.ty dst=some ti:=by exact rfl) (hs:Zt S.ty src=some ts:=by exact rfl) (hk:Nat.beq ti.kind 2=true:=by exact rfl) (h8:Nat.beq ti.x 6=true:=by exact rfl) :
  QOp P ⟨d,.convert src dst x,ty,pos,af,g⟩ ρ L (.int .u32 (n % 4294967296)):=by
 have:=q_cut (d:=d) (ty:=ty) (pos:=pos) (af:=af) (g:=g) (L:=L) S hx ht hs hk
 rw [Nat.eq_of_beq_eq_true h8] at this
 rw [← Zms]
 exact this
theorem qx32 (S:Tab P) {t:Nat} {x:Operand} {n:Int} (h00:Y6 ρ=true:=by exact rfl) (hx:ev ρ x=some (.int .u32 n):=by exact rfl) (h:0≤n∧n≤4294967295:=by omega):QOp P ⟨d,.unOp .xor t x,ty,pos,af,g⟩ ρ L (.int .u32 (4294967295-n)):=
 Ya fun ρe he k w hs=>by
  have e:IntKind.u32.wrap (BitVec.ofInt IntKind.u32.bits 4294967295 ^^^ BitVec.ofInt IntKind.u32.bits n).toNat=4294967295-n:=by
   have h2:IntKind.u32.bits=32:=rfl
   rw [h2]
   have h1:BitVec.ofInt 32 4294967295=BitVec.allOnes 32:=by decide
   have h3:(BitVec.allOnes 32 ^^^ BitVec.ofInt 32 n) = ~~~ BitVec.ofInt 32 n:=BitVec.allOnes_xor
   have h4:(BitVec.ofInt 32 n).toNat=n.toNat:=Wi (k := .u32) h.1 h.2
   rw [h1,h3,Zms,BitVec.toNat_not,h4]
   omega
  have e2:(if IntKind.u32.signed=true then (-1:Int) else IntKind.u32.max)=4294967295:=by decide
  have e3:(Op.intBits .xor .u32 4294967295 n).run P w = .ok (.int .u32 (4294967295-n)) w:=by
   simp only [Op.intBits]
   exact congrArg (fun z=>Result.ok (Value.int .u32 z) w) e
  simp only [execOp,he x (by simp [Op.operands]) _ hx,Op.unary,e2]
  simp [e3]
theorem qC {f:Operand} {as9:Array Operand} {ts:Array TypeId} {F:Nat} {cap args args':List Value} {v:Value} (hc:HC P F args' L (fun u L'=>u=v∧L'=L)) (h00:Y6 ρ=true:=by exact rfl) (hf:ev ρ f=some (.func (.func F) #[] ⟨cap⟩):=by exact rfl) (ha:Zg1 ρ as9.toList=some args:=by exact rfl) (he:args++cap=args':=by exact rfl) :
  QOp P ⟨d,.call { callee := .value f,args:=as9,argTypes:=ts },ty,pos,af,g⟩ ρ L v:=q_call hf ha (he▸hc)
end q

/-! ### what writes -/
section o
variable {P:Program} (S:Tab P) {n:Nat} {ops:List Oper} {Q:Exit→Zr→Zb→Prop} {rest:List Oper} {ρ:Zr} {L:Zb} {ty:TypeId} {pos:String} {af:Array Edge}
theorem wa {d E:Nat} {z:Value} {zs:List Value} (h : ∀ b,HO P n ops Q rest ((d,pt b 0)::ρ) ([(b,.cells ⟨zs⟩ E)]::L)) (h00:Y6 ρ=true:=by exact rfl) (hz:Zt S.zr E=some z:=by exact rfl) (hc:z.cells=⟨zs⟩:=by exact rfl) (hn:Nat.blt d n=true:=by exact rfl):HO P n ops Q (⟨some d,.alloc E,ty,pos,af,none⟩::rest) ρ L:=o_alloc S hz hc hn h
theorem wb {d E:Nat} {x:Operand} {v:Value} {vs:List Value} (h : ∀ b,HO P n ops Q rest ((d,pt b 0)::ρ) ([(b,.cells ⟨vs⟩ E)]::L)) (h00:Y6 ρ=true:=by exact rfl) (hx:ev ρ x=some v:=by exact rfl) (hc:v.cells=⟨vs⟩:=by exact rfl) (hn:Nat.blt d n=true:=by exact rfl):HO P n ops Q (⟨some d,.box E x,ty,pos,af,none⟩::rest) ρ L:=o_box hx hc hn h
theorem ws {t b i E:Nat} {ti:TyI} {x y:Operand} {v:Value} {vs l l':List Value} {L':Zb} (h:HO P n ops Q rest ρ L') (h00:Y6 ρ=true:=by exact rfl) (hx:ev ρ x=some (pt b i):=by exact rfl) (hy:ev ρ y=some v:=by exact rfl) (ht:Zt S.ty t=some ti:=by exact rfl)
  (hc:v.cells=⟨vs⟩:=by exact rfl) (hsz:ti.size=vs.length:=by exact rfl) (h1:(vs.all Value.oneCell')=true:=by exact rfl) (hu:Upd L b (.cells ⟨l⟩ E (0,0)) (.cells ⟨l'⟩ E (0,0)) L':=by (repeat (first|exact Xr|apply Zoo|apply Zgq)))
  (hp:Zo l i vs l':=by (first|assumption|exact Zf4 rfl|exact Wy|exact Wj Wy|exact Wj (Wj Wy)|(repeat (first|exact Wy|apply Wj)))):HO P n ops Q (⟨none,.store t x y,ty,pos,af,none⟩::rest) ρ L:=o_store S hx hy ht hc hsz h1 hp hu h
theorem wS {d t E y0 s0 b0 k1 x1 y1 by1 len:Nat} {z:Value} {zv:Value} {vals:List Value} {parts:Array (Nat × Operand)} (h : ∀ b,HO P n ops Q rest ((d,sl b 0 len len)::ρ) ([(b,.cells ⟨vals⟩ E)]::L)) (h00:Y6 ρ=true:=by exact rfl) (ht:Zt S.ty t=some ⟨5,E,y0,s0,b0⟩:=by exact rfl) (he:Zt S.ty E=some ⟨k1,x1,y1,1,by1⟩:=by exact rfl) (hz:Zt S.zr E=some z:=by exact rfl) (hzs:z.cells=⟨[zv]⟩:=by exact rfl)
  (hp:Zks ρ 0 parts.toList=some vals:=by exact rfl) (hlen:vals.length=len:=by exact rfl) (hsm:Nat.ble len 16777216=true:=by exact rfl) (h1:(vals.all Value.oneCell')=true:=by exact rfl) (hn:Nat.blt d n=true:=by exact rfl):HO P n ops Q (⟨some d,.buildSlice t len parts,ty,pos,af,none⟩::rest) ρ L:=
 Zg6 S ht he hz hzs hp hlen hsm h1 hn h
theorem wm {d t E y0 s0 b0 k1 x1 y1 by1:Nat} {z zv:Value} {x y:Operand} {kl kc:IntKind} {l c:Int} (h : ∀ b,HO P n ops Q rest ((d,sl b 0 l.toNat c.toNat)::ρ) ([(b,.cells ⟨List.replicate c.toNat zv⟩ E)]::L)) (h00:Y6 ρ=true:=by exact rfl) (hx:ev ρ x=some (.int kl l):=by exact rfl) (hy:ev ρ y=some (.int kc c):=by exact rfl) (ht:Zt S.ty t=some ⟨5,E,y0,s0,b0⟩:=by exact rfl) (he:Zt S.ty E=some ⟨k1,x1,y1,1,by1⟩:=by exact rfl)
  (hz:Zt S.zr E=some z:=by exact rfl) (hzs:z.cells = #[zv]:=by exact rfl) (hn:Nat.blt d n=true:=by exact rfl) (hc:0≤l∧l≤c∧(by1:Int)*c≤281474976710656∧c≤9223372036854775807:=by omega):HO P n ops Q (⟨some d,.makeSlice t x y,ty,pos,af,none⟩::rest) ρ L:=Zjg S hx hy ht he hz hzs hn hc h
theorem gc {d:Nat} {f:Operand} {as9:Array Operand} {ts:Array TypeId} {F:Nat} {cap args args':List Value} {R:Value→Zb→Prop} (hc:HC P F args' L R) (h : ∀ v L',R v L'→HO P n ops Q rest ((d,v)::ρ) L')
  (h00:Y6 ρ=true:=by exact rfl) (hf:ev ρ f=some (.func (.func F) #[] ⟨cap⟩):=by exact rfl) (ha:Zg1 ρ as9.toList=some args:=by exact rfl) (he:args++cap=args':=by exact rfl) (hn:Nat.blt d n=true:=by exact rfl):HO P n ops Q (⟨some d,.call { callee := .value f,args:=as9,argTypes:=ts },ty,pos,af,none⟩::rest) ρ L:=
 o_call hf ha (he▸hc) hn h
def Qy:Nat→Zb→Option (List Zm × Zb)
 | _,[]=>none
 | 0,c::r=>some (c,r)
 | k+1,c::r=>match Qy k r with
  | some (x,r')=>some (x,c::r')
  | none=>none
theorem Xw : ∀ {k:Nat} {L:Zb} {c:List Zm} {L':Zb},Qy k L=some (c,L')→List.Perm L (c::L')
 | k,[],_,_,h=>by cases k<;>simp [Qy] at h
 | 0,c::r,_,_,h=>by simp [Qy] at h;obtain ⟨rfl,rfl⟩:=h;exact .refl _
 | k+1,c::r,x,_,h=>by
  simp only [Qy] at h
  split at h
  ·rename_i y r' hy
   simp at h
   obtain ⟨rfl,rfl⟩:=h
   exact ((Xw hy).cons c).trans (.swap _ _ _)
  ·cases h
theorem fo {c:List Zm} {L':Zb} {l:List Oper} (k0:Nat) (h:HO P n ops Q l ρ (c::L')) (h00:Y6 ρ=true:=by exact rfl) (hp:Qy k0 L=some (c,L'):=by exact rfl):HO P n ops Q l ρ L:=ho_perm h (Xw hp)
theorem fw {c:List Zm} {L':Zb} {x:Code} (k0:Nat) (h:HW P n x Q ρ (c::L')) (h00:Y6 ρ=true:=by exact rfl) (hp:Qy k0 L=some (c,L'):=by exact rfl):HW P n x Q ρ L:=hw_perm h (Xw hp)
theorem Has.perm {L L':Zb} {b:Nat} {o:Obj} (h:Has L b o) (hp:List.Perm L L'):Has L' b o:=by
 unfold Has at *
 exact hp.flatten.mem_iff.1 h
theorem HC.perm {F:Nat} {args:List Value} {L L':Zb} {R:Value→Zb→Prop} (h:HC P F args L' R) (hp:List.Perm L L'):HC P F args L R:=⟨h.1,fun k w hs=>h.2 k w (hs.perm hp)⟩
theorem HC.drop {F:Nat} {args:List Value} {L L':Zb} {R:Value→Zb→Prop} (h:HC P F args L' R) (hp:List.Sublist L' L):HC P F args L R:=⟨h.1,fun k w hs=>h.2 k w (hs.sub hp)⟩
end o

section f
variable {P:Program} {n:Nat} {ops:List Oper} {Q:Exit→Zr→Zb→Prop} {Qv:Value→Zb→Prop} {ρ:Zr} {L:Zb} {fn:Func}
theorem Sat.fl {k:Zgv} {w:World} {L L':Zb} (h:Sat k w L) (hf:L'.flatten=L.flatten):Sat k w L':=⟨h.os,h.out,h.tape,fun p hp=>h.has p (hf▸hp),hf▸h.nodup⟩
theorem Zdx {c:Code} {L':Zb} (h:HW P n c Q ρ L') (hf:LS L'.flatten L.flatten):HW P n c Q ρ L:=fun k w a hs ha=>h k w a (hs.sp hf) ha
theorem Zcf {l:List Oper} {L':Zb} (h:HO P n ops Q l ρ L') (hf:LS L'.flatten L.flatten):HO P n ops Q l ρ L:=fun k w a hs ha=>h k w a (hs.sp hf) ha
theorem HC.fl {F:Nat} {args:List Value} {L L':Zb} {R:Value→Zb→Prop} (h:HC P F args L' R) (hf:L'.flatten=L.flatten:=by exact rfl):HC P F args L R:=⟨h.1,fun k w hs=>h.2 k w (hs.fl hf)⟩
theorem HC.sp {F:Nat} {args:List Value} {L L':Zb} {R:Value→Zb→Prop} (h:HC P F args L' R) (hf:LS L'.flatten L.flatten):HC P F args L R:=⟨h.1,fun k w hs=>h.2 k w (hs.sp hf)⟩
theorem HC.post {F:Nat} {args:List Value} {L:Zb} {R R':Value→Zb→Prop} (h:HC P F args L R) (hr : ∀ v L',R v L' → ∃ L2,LS L2.flatten L'.flatten∧R' v L2):HC P F args L R':=
 ⟨h.1,fun k w hs=>(h.2 k w hs).mono fun e w' ⟨v,L',he,hs',hq⟩=>by obtain ⟨L2,h1,h2⟩:=hr v L' hq;exact ⟨v,L2,he,hs'.sp h1,h2⟩⟩
theorem er0 {L':Zb} (hL:L'.flatten=L.flatten) (h:Qv (.tuple #[]) L') (hr:fn.results = #[]:=by rfl):X0 P fn Qv .ret ρ L:=fun k w a hs ha=>⟨_,L',by simp [results,hr],hs.fl hL,h⟩
theorem ee0 {L':Zb} (hL:L'.flatten=L.flatten) (h:Qv (.tuple #[]) L') (hr:fn.results = #[]:=by rfl):X0 P fn Qv .normal ρ L:=fun k w a hs ha=>⟨_,L',by simp [results,hr],hs.fl hL,h⟩
theorem Uu {r:ResultVar} {v:Value} {L':Zb} (hL:L'.flatten=L.flatten) (h:Qv v L') (hr:fn.results = #[r]:=by rfl) (hv:ResV P ρ L r v:=by rfl):X0 P fn Qv .ret ρ L:=
 fun k w a hs ha=>⟨v,L',by simp [Wv,hr,hv.run hs ha],hs.fl hL,h⟩
theorem Zbj {r s:ResultVar} {x y:Value} {L':Zb} (hL:L'.flatten=L.flatten) (h:Qv (.tuple ⟨[x,y]⟩) L') (hr:fn.results = #[r,s]:=by rfl) (hx:ResV P ρ L r x:=by rfl) (hy:ResV P ρ L s y:=by rfl):X0 P fn Qv .ret ρ L:=
 fun k w a hs ha=>⟨.tuple ⟨[x,y]⟩,L',by simp [Wv,hr,hx.run hs ha,hy.run hs ha],hs.fl hL,h⟩
theorem Xn {r:ResultVar} {v:Value} {L':Zb} (hL:LS L'.flatten L.flatten) (h:Qv v L') (hr:fn.results = #[r]:=by rfl) (hv:ResV P ρ L r v:=by rfl):X0 P fn Qv .ret ρ L:=
 fun k w a hs ha=>⟨v,L',by simp [Wv,hr,hv.run hs ha],hs.sp hL,h⟩
theorem Wz {r s:ResultVar} {x y:Value} {L':Zb} (hL:LS L'.flatten L.flatten) (h:Qv (.tuple ⟨[x,y]⟩) L') (hr:fn.results = #[r,s]:=by rfl) (hx:ResV P ρ L r x:=by rfl) (hy:ResV P ρ L s y:=by rfl):X0 P fn Qv .ret ρ L:=
 fun k w a hs ha=>⟨.tuple ⟨[x,y]⟩,L',by simp [Wv,hr,hx.run hs ha,hy.run hs ha],hs.sp hL,h⟩
theorem sp3 {r s q:ResultVar} {x y z:Value} {L':Zb} (hL:LS L'.flatten L.flatten) (h:Qv (.tuple ⟨[x,y,z]⟩) L') (hr:fn.results = #[r,s,q]:=by rfl) (hx:ResV P ρ L r x:=by rfl) (hy:ResV P ρ L s y:=by rfl) (hz:ResV P ρ L q z:=by rfl):X0 P fn Qv .ret ρ L:=
 fun k w a hs ha=>⟨.tuple ⟨[x,y,z]⟩,L',by simp [Wv,hr,hx.run hs ha,hy.run hs ha,hz.run hs ha],hs.sp hL,h⟩
theorem Vw (S:Tab P) {t T b i E:Nat} {ti:TyI} {l vs:List Value} {fr:Nat × Nat} (hp:lk ρ t=some (pt b i):=by rfl) (ht:Zt S.ty T=some ti:=by rfl) (h7:(Nat.beq ti.kind 6 || Nat.beq ti.kind 7)=true:=by rfl)
  (hb:Has L b (.cells ⟨l⟩ E fr):=by (repeat (first|assumption|exact Zh|exact Yi (by assumption)|apply Xq|apply Zc))) (hg:Gets l i vs) (hn:ti.size=vs.length:=by rfl):ResV P ρ L (.cell t T) (.agg ⟨vs⟩):=
 ⟨⟨b,i,none⟩,hp,fun k w hs=>by
  have h1:=ty_agg (S.tyI ht) h7 w
  have h2:=Zb1 (P:=P) hs hb hg
  have h3:=Y9 (S.tyI ht) w
  simp [loadVar,h1,h2,h3,hn]⟩
end f

/-! ### drawn regions -/
section d
variable {P:Program} (S:Tab P) {n:Nat} {ops:List Oper} {Q:Exit→Zr→Zb→Prop} {Ss:List (Nat × Zm)} {rem rem':List (Nat × Oper)} {ρ:Zr} {L:Zb} {op:Op} {ty:TypeId} {pos:String} {af:Array Edge} {g:Option (Nat × Bool)} {d i:Nat}
theorem Zgw {v:Value} (k:Nat) (hp:Wc k rem=some ((i,⟨some d,op,ty,pos,af,g⟩),rem')) (h : ∀ L,QOp P ⟨some d,op,ty,pos,af,g⟩ ρ L v) (hr:HD P n ops Q Ss rem' ((d,v)::ρ) L) (h00:Y6 ρ=true:=by exact rfl) (hg:Zu ops ρ g=some true:=by exact rfl) (hn:Nat.blt d n=true:=by exact rfl)
  (hc:Q0 ops rem' i ⟨some d,op,ty,pos,af,g⟩=true:=by decide +kernel):HD P n ops Q Ss rem ρ L:=hd_q (F:=[]) hp hc rfl hn (.inl ⟨hg,fun L _=>h L⟩) (by simp) hr
theorem d_n (k:Nat) (hr:HD P n ops Q Ss rem' ((d,undef)::ρ) L) (h00:Y6 ρ=true:=by exact rfl) (hp:Wc k rem=some ((i,⟨some d,op,ty,pos,af,g⟩),rem'):=by exact rfl) (hg:Zu ops ρ g=some false:=by exact rfl) (hn:Nat.blt d n=true:=by exact rfl)
  (hc:Q0 ops rem' i ⟨some d,op,ty,pos,af,g⟩=true:=by decide +kernel):HD P n ops Q Ss rem ρ L:=hd_q (F:=[]) hp hc rfl hn (.inr ⟨hg,rfl⟩) (by simp) hr
theorem d_l {v:Value} {b:Nat} {o:Obj} (k:Nat) (h : ∀ L,Has L b o→QOp P ⟨some d,op,ty,pos,af,g⟩ ρ L v) (hb:Has L b o) (hr:HD P n ops Q ((i,(b,o))::Ss) rem' ((d,v)::ρ) L) (h00:Y6 ρ=true:=by exact rfl) (hp:Wc k rem=some ((i,⟨some d,op,ty,pos,af,g⟩),rem'):=by exact rfl) (hg:Zu ops ρ g=some true:=by exact rfl) (hn:Nat.blt d n=true:=by exact rfl)
  (hc:Q0 ops rem' i ⟨some d,op,ty,pos,af,g⟩=true:=by decide +kernel):HD P n ops Q Ss rem ρ L:=hd_q (F:=[(b,o)]) hp hc rfl hn (.inl ⟨hg,fun L hL=>h L (hL (b,o) (by simp))⟩) (by simpa using hb) hr
theorem dl {t b a E:Nat} {ti:TyI} {x:Operand} {l:List Value} {fr:Nat × Nat} {v:Value} (k:Nat) (hr:HD P n ops Q ((i,(b,.cells ⟨l⟩ E fr))::Ss) rem' ((d,v)::ρ) L) (h00:Y6 ρ=true:=by exact rfl) (hp:Wc k rem=some ((i,⟨some d,.load t x,ty,pos,af,g⟩),rem'):=by exact rfl)
  (hx:ev ρ x=some (pt b a):=by exact rfl) (ht:Zt S.ty t=some ti:=by exact rfl) (h6:Nat.beq ti.kind 6=false:=by exact rfl) (h7:Nat.beq ti.kind 7=false:=by exact rfl) (hg:Zu ops ρ g=some true:=by exact rfl) (hn:Nat.blt d n=true:=by exact rfl)
  (hb:Has L b (.cells ⟨l⟩ E fr):=by (repeat (first|assumption|exact Zh|exact Yi (by assumption)|apply Xq|apply Zc))) (hv:l[a]? = some v:=by (first|exact rfl|assumption|exact Gets.at (by assumption) rfl|exact Gets.at0 (by assumption) rfl))
  (hc:Q0 ops rem' i ⟨some d,.load t x,ty,pos,af,g⟩=true:=by decide +kernel):HD P n ops Q Ss rem ρ L:=d_l k (fun L h=>Zjj S hx ht h6 h7 h hv) hb hr h00 hp hg hn hc
theorem ds {t b a E:Nat} {ti:TyI} {x:Operand} {l vs:List Value} {fr:Nat × Nat} (k:Nat) (hr:HD P n ops Q ((i,(b,.cells ⟨l⟩ E fr))::Ss) rem' ((d,.agg ⟨vs⟩)::ρ) L) (h00:Y6 ρ=true:=by exact rfl) (hp:Wc k rem=some ((i,⟨some d,.load t x,ty,pos,af,g⟩),rem'):=by exact rfl)
  (hx:ev ρ x=some (pt b a):=by exact rfl) (ht:Zt S.ty t=some ti:=by exact rfl) (h7:(Nat.beq ti.kind 6 || Nat.beq ti.kind 7)=true:=by exact rfl) (hg:Zu ops ρ g=some true:=by exact rfl) (hn:Nat.blt d n=true:=by exact rfl)
  (hb:Has L b (.cells ⟨l⟩ E fr):=by (repeat (first|assumption|exact Zh|exact Yi (by assumption)|apply Xq|apply Zc)))
  (hv:Gets l a vs∧ti.size=vs.length:=by (first|(refine Zfe (by assumption) ?_;rfl)|exact ⟨Zd rfl (Zd rfl (Zd rfl Zx)),rfl⟩|exact ⟨Zd rfl (Zd rfl Zx),rfl⟩|exact ⟨Zd rfl (Zd rfl (Zd rfl (Zd rfl Zx))),rfl⟩|exact ⟨Zd rfl (Zd rfl (Zd rfl (Zd rfl (Zd rfl (Zd rfl (Zd rfl (Zd rfl (Zd rfl Zx)))))))),rfl⟩))
  (hc:Q0 ops rem' i ⟨some d,.load t x,ty,pos,af,g⟩=true:=by decide +kernel):HD P n ops Q Ss rem ρ L:=d_l k (fun L h=>Zp1 S hx ht h7 h hv) hb hr h00 hp hg hn hc
theorem dg {t G:Nat} {ti:TyI} {v:Value} {L0:Zb} (k:Nat) (hr : ∀ o,Has L0 G o→HD P n ops Q ((i,(G,o))::Ss) rem' ((d,v)::ρ) L) (h00:Y6 ρ=true:=by exact rfl) (hp:Wc k rem=some ((i,⟨some d,.load t (.global G),ty,pos,af,g⟩),rem'):=by exact rfl)
  (ht:Zt S.ty t=some ti:=by exact rfl) (h6:Nat.beq ti.kind 6=false:=by exact rfl) (h7:Nat.beq ti.kind 7=false:=by exact rfl) (hg:Zu ops ρ g=some true:=by exact rfl) (hn:Nat.blt d n=true:=by exact rfl)
  (hG:Gl L0 G v:=by first|assumption|exact Errs.get (by assumption) rfl rfl) (hL : ∀ o,Has L0 G o→Has L G o:=by (intro o ho;repeat (first|assumption|apply Zc|apply Xq)))
  (hc:Q0 ops rem' i ⟨some d,.load t (.global G),ty,pos,af,g⟩=true:=by decide +kernel):HD P n ops Q Ss rem ρ L:=by
 obtain ⟨l,E,fr,h1,h2⟩:=hG
 exact d_l k (fun L h=>Zjj S (x := .global G) rfl ht h6 h7 h h2) (hL _ h1) (hr _ h1) h00 hp hg hn hc
theorem da {o:Oper} (k:Nat) (h:HO P n ops (Z5 P n ops Q i Ss rem') [o] ρ L) (h00:Y6 ρ=true:=by exact rfl) (hp:Wc k rem=some ((i,o),rem'):=by exact rfl) (hc:chkA ops rem' i o=true:=by decide +kernel):HD P n ops Q Ss rem ρ L:=hd_act hp hc h
def Zj (ops:List Oper) (i:Nat) (L:Zb):List (Nat × Zm)→(List (Nat × Zm)→Prop)→Prop
 | [],K=>K []
 | (i0,p)::r,K=>bif Qx ops i0 i then Has L p.1 p.2∧Zj ops i L r (fun l=>K ((i0,p)::l)) else Zj ops i L r K
theorem Zfx : ∀ {Ss:List (Nat × Zm)} {K:List (Nat × Zm)→Prop},Zj ops i L Ss K→Zjp ops i L Ss∧K (ssF ops i Ss)
 | [],K,h=>⟨trivial,h⟩
 | (i0,p)::r,K,h=>by
  simp only [Zj] at h
  cases hk:Qx ops i0 i with
  | true =>
   rw [hk] at h
   obtain ⟨h1,h2⟩:=Zfx h.2
   refine ⟨⟨.inr h.1,h1⟩,?_⟩
   simpa [ssF,hk] using h2
  | false =>
   rw [hk] at h
   obtain ⟨h1,h2⟩:=Zfx h
   refine ⟨⟨.inl hk,h1⟩,?_⟩
   simpa [ssF,hk] using h2
theorem dx (h:Zj ops i L Ss fun Ss'=>HD P n ops Q Ss' rem ρ L):Z5 P n ops Q i Ss rem .normal ρ L:=Zfx h
theorem dx0 {K:List (Nat × Zm)→Prop} (h:K []):Zj ops i L [] K:=h
theorem dxk {i0:Nat} {p:Zm} {r:List (Nat × Zm)} {K:List (Nat × Zm)→Prop} (h:Zj ops i L r (fun l=>K ((i0,p)::l))) (hk:Qx ops i0 i=true:=by exact rfl) (hb:Has L p.1 p.2:=by (repeat (first|assumption|exact Zh|exact Yi (by assumption)|apply Xq|apply Zc))):Zj ops i L ((i0,p)::r) K:=by
 simp only [Zj,hk];exact ⟨hb,h⟩
theorem dxd {i0:Nat} {p:Zm} {r:List (Nat × Zm)} {K:List (Nat × Zm)→Prop} (h:Zj ops i L r K) (hk:Qx ops i0 i=false:=by exact rfl):Zj ops i L ((i0,p)::r) K:=by
 simp only [Zj,hk];exact h
end d
end Go.HL
end

/-! HLCp -/
section
namespace Go.HL
open Go
def u8 (b:UInt8):Value := .int .u8 b.toNat
theorem Zp8 (l:List UInt8):(l.map uc).flatten=l.map u8:=Zp9 l
theorem u8_one (l:List UInt8):((l.map u8).all Value.oneCell')=true:=by simp [u8,Value.oneCell']
theorem Uc (zs:List Value) : ∀ n:Nat,madeCells ⟨zs⟩ (n*zs.length)=⟨(List.replicate n zs).flatten⟩:=by
 intro n
 apply Array.ext'
 simp only [madeCells,Array.toList_map,Array.toList_range]
 induction n with
 | zero=>simp
 | succ n ih =>
  rw [Nat.add_mul,Nat.one_mul,Nat.add_comm,List.range_add,List.map_append,List.replicate_succ,List.flatten_cons,← ih,List.map_map]
  congr 1
  ·apply List.ext_getElem?
   intro i
   by_cases h:i<zs.length
   ·simp [h,Nat.mod_eq_of_lt h]
   ·simp [h]
  ·apply List.map_congr_left
   intro i hi
   simp
section o
variable {P:Program} (S:Tab P) {n:Nat} {ops:List Oper} {Q:Exit→Zr→Zb→Prop} {rest:List Oper} {ρ:Zr} {L:Zb} {ty:TypeId} {pos:String} {af:Array Edge}
theorem wcs {d t t2 b i E e0 y0 s0 b0 k1 x1 y1 by1 len cap:Nat} {x y:Operand} {src:List UInt8} {l l':List Value} {L':Zb} (h:HO P n ops Q rest ((d,iv (Nat.min src.length len))::ρ) L') (hp:Zo l i ((src.take (Nat.min src.length len)).map u8) l') (h00:Y6 ρ=true:=by exact rfl)
  (hx:ev ρ x=some (sl b i len cap):=by exact rfl) (hy:ev ρ y=some (bs src):=by exact rfl) (ht:Zt S.ty t=some ⟨5,e0,y0,s0,b0⟩:=by exact rfl) (he:Zt S.ty e0=some ⟨k1,x1,y1,1,by1⟩:=by exact rfl) (hn:Nat.blt d n=true:=by exact rfl)
  (hu:Upd L b (.cells ⟨l⟩ E (0,0)) (.cells ⟨l'⟩ E (0,0)) L':=by (repeat (first|exact Xr|apply Zoo|apply Zgq))) :
  HO P n ops Q (⟨some d,.call { callee := .builtin .copy,args := #[x,y],argTypes := #[t,t2] },ty,pos,af,none⟩::rest) ρ L:=
 Vh rfl rfl hn fun ρe he' k w hs=>by
  obtain ⟨hp1,hp2⟩:=hp
  obtain ⟨w',e1,e2,e3,et,e4,e5⟩:=Qr (P:=P) (k:=k) ((src.take (Nat.min src.length len)).map u8) i 0 l w (hs.heap hu.has) rfl (by simpa using hp2) (fun v hv=>List.all_eq_true.1 (u8_one _) v hv)
  refine ⟨_,w',L',?_,hs.upd hu e2 e3 et (by rw [e4,hp1,Nat.add_zero]) e5,h⟩
  have hdesc:=Z9 (S.tyI ht) rfl
  have hsize:(sizeOf e0).run P w = .ok 1 w:=Y9 (S.tyI he) w
  have a1:=he' x (by simp [Op.operands,Call.operands]) _ hx
  have a2:=he' y (by simp [Op.operands,Call.operands]) _ hy
  have hc:(Array.map (fun b=>Value.int .u8 b.toNat) ((ByteArray.mk ⟨src⟩).extract 0 (Nat.min src.length len)).data).toList=(src.take (Nat.min src.length len)).map u8:=by
   rw [Qd]
   simp [u8]
   rfl
  have hr:(Builtin.copy_ #[t,t2] ty #[sl b i len cap,bs src]).run P w = .ok (iv (Nat.min src.length len)) w':=by
   simp only [Builtin.copy_]
   simp only [List.getElem?_toArray,List.getElem?_cons_zero,List.getElem?_cons_succ,Sem.run_bind,run_underlying hdesc,Result.andThen_ok,hsize]
   simp only [Builtin.lenOf,Builtin.firstCells,Sem.run_pure,Result.andThen_ok,Qe]
   rw [hsize]
   simp only [hc,e1,Result.andThen_ok,Sem.run_pure,goInt]
  simp [execOp,resolve,invoke,builtin,a1,a2,hr]
theorem wM {d t E y0 s0 b0 k1 x1 y1 sz by1:Nat} {z:Value} {zs:List Value} {x y:Operand} {kl kc:IntKind} {l c:Int} (h : ∀ b,HO P n ops Q rest ((d,sl b 0 l.toNat c.toNat)::ρ) ([(b,.cells ⟨(List.replicate c.toNat zs).flatten⟩ E)]::L)) (h00:Y6 ρ=true:=by exact rfl) (hx:ev ρ x=some (.int kl l):=by exact rfl) (hy:ev ρ y=some (.int kc c):=by exact rfl) (ht:Zt S.ty t=some ⟨5,E,y0,s0,b0⟩:=by exact rfl) (he:Zt S.ty E=some ⟨k1,x1,y1,sz,by1⟩:=by exact rfl)
  (hz:Zt S.zr E=some z:=by exact rfl) (hzs:z.cells=⟨zs⟩:=by exact rfl) (hzl:Nat.beq zs.length sz=true:=by exact rfl) (hn:Nat.blt d n=true:=by exact rfl) (hc:0≤l∧l≤c∧(by1:Int)*c≤281474976710656∧c≤9223372036854775807:=by omega):HO P n ops Q (⟨some d,.makeSlice t x y,ty,pos,af,none⟩::rest) ρ L:=by
 refine Vh rfl rfl hn fun ρe he' k w hs=>⟨sl w.heap.size 0 l.toNat c.toNat,w.alloc (.cells ⟨(List.replicate c.toNat zs).flatten⟩ E),_,?_,hs.new _,h _⟩
 have hdesc:=Z9 (S.tyI ht) rfl
 obtain ⟨de,i,hde,hi,-,hisz,hiby⟩:=Xf (S.tyI he)
 simp only at hisz hiby
 have hiz:i.zero=some z:=by
  have:=S.zeroI hz
  unfold zeroI at this
  simpa [hi] using this
 have hr:=run_make (P:=P) w t E i z hdesc hi hiz kl kc l c hc.1 hc.2.1 (by rw [hiby];exact hc.2.2.1) hc.2.2.2
 have hl:=Nat.eq_of_beq_eq_true hzl
 rw [hisz,hzs,← hl,Uc] at hr
 simp [execOp,he' x (by simp [Op.operands]) _ hx,he' y (by simp [Op.operands]) _ hy,hr]
end o
end Go.HL
end

/-! HLVec -/
section
namespace Go.HL
open Go
def Zab (sz:Nat):List Value→List (Nat × Value)→Option (List Value)
 | cells,[]=>some cells
 | cells,(i,v)::r=>bif Nat.beq (Y7 v).length sz && Nat.ble (i*sz+(Y7 v).length) cells.length then Zab sz (Zl2 cells (i*sz) (Y7 v)) r else none
theorem Zfb {sz:Nat} : ∀ (l:List (Nat × Value)) (cells out:List Value),Zab sz cells l=some out→Instr.fill (fun i=>some (i*sz,sz)) ⟨cells⟩ l=some ⟨out⟩
 | [],cells,out,h=>by simp [Zab] at h;subst h;rfl
 | (i,v)::r,cells,out,h=>by
  simp only [Zab] at h
  obtain ⟨hc,h2⟩:=Zn h
  simp only [Bool.and_eq_true] at hc
  have e1:=Nat.eq_of_beq_eq_true hc.1
  have e2:=Nat.le_of_ble_eq_true hc.2
  have ih:=Zfb r _ out h2
  have e3:=Zn9 (Y7 v) cells (i*sz) 0
  simp only [Nat.add_zero] at e3
  unfold Instr.fill
  simp only [Zhd]
  have hcond:(decide ((Array.mk (Y7 v)).size≠sz) || decide (i*sz+(Array.mk (Y7 v)).size > (Array.mk cells).size))=false:=by simp;omega
  rw [hcond]
  simp only [Bool.false_eq_true,if_false]
  have e4:(Array.zipIdx ⟨Y7 v⟩ 0:Array (Value × Nat))=⟨(Y7 v).zipIdx 0⟩:=by simp
  rw [e4]
  simp only [List.foldl_toArray]
  rw [e3]
  exact ih
theorem Zp0 : ∀ (vs pre zs:List Value),vs.length≤zs.length→Zl2 (pre++zs) pre.length vs=pre++(vs++zs.drop vs.length)
 | [],pre,zs,_=>by simp [Zl2]
 | v::r,pre,[],h=>by simp at h
 | v::r,pre,z::zs,h=>by
  have e:(pre++z::zs).set pre.length v=(pre++[v])++zs:=by simp
  have ih:=Zp0 r (pre++[v]) zs (by simpa using h)
  simp only [Zl2,e]
  rw [show pre.length+1=(pre++[v]).length by simp,ih]
  simp
def Ux (sz:Nat):Nat→List (Nat × Value)→Option (List Value)
 | _,[]=>some []
 | k,(i,v)::r=>bif Nat.beq i k && Nat.beq (Y7 v).length sz then (Ux sz (k+1) r).bind fun l=>some (Y7 v++l) else none
theorem Zhg {sz:Nat} : ∀ (l:List (Nat × Value)) (k:Nat) (pre zs out:List Value),Ux sz k l=some out→pre.length=k*sz→zs.length=out.length→Zab sz (pre++zs) l=some (pre++out)
 | [],k,pre,zs,out,h,hp,hz=>by
  simp [Ux] at h;subst h
  have:zs=[]:=List.eq_nil_of_length_eq_zero hz
  subst this
  simp [Zab]
 | (i,v)::r,k,pre,zs,out,h,hp,hz=>by
  simp only [Ux] at h
  obtain ⟨hc,h2⟩:=Zn h
  simp only [Bool.and_eq_true] at hc
  have e1:=Nat.eq_of_beq_eq_true hc.1
  have e2:=Nat.eq_of_beq_eq_true hc.2
  subst e1
  obtain ⟨l',hl,h3⟩:=bind_some h2
  cases h3
  simp only [List.length_append] at hz
  have hle:(Y7 v).length≤zs.length:=by omega
  simp only [Zab]
  have hcond:(Nat.beq (Y7 v).length sz && Nat.ble (i*sz+(Y7 v).length) (pre++zs).length)=true:=by
   rw [Bool.and_eq_true]
   refine ⟨hc.2,Nat.ble_eq_true_of_le ?_⟩
   simp;omega
  rw [hcond,cond_true,← hp,Zp0 _ _ _ hle,← List.append_assoc]
  have ih:=Zhg r (i+1) (pre++Y7 v) (zs.drop (Y7 v).length) l' hl (by simp [hp,e2,Nat.add_mul]) (by simp;omega)
  rw [ih,List.append_assoc]
section v
variable {P:Program} (S:Tab P) {n:Nat} {ops:List Oper} {Q:Exit→Zr→Zb→Prop} {rest:List Oper} {ρ:Zr} {L:Zb} {ty:TypeId} {pos:String} {af:Array Edge}
theorem wSn {d t E y0 s0 b0 k1 x1 y1 sz by1 len:Nat} {z:Value} {zs out:List Value} {vals:List (Nat × Value)} {parts:Array (Nat × Operand)} (h : ∀ b,HO P n ops Q rest ((d,sl b 0 len len)::ρ) ([(b,.cells ⟨out⟩ E)]::L)) (h00:Y6 ρ=true:=by exact rfl) (ht:Zt S.ty t=some ⟨5,E,y0,s0,b0⟩:=by exact rfl) (he:Zt S.ty E=some ⟨k1,x1,y1,sz,by1⟩:=by exact rfl)
  (hz:Zt S.zr E=some z:=by exact rfl) (hzs:z.cells=⟨zs⟩:=by exact rfl) (hzl:Nat.beq zs.length sz=true:=by exact rfl) (hp:Wg ρ parts.toList=some vals:=by exact rfl) (hf:((Zab sz (List.replicate len zs).flatten vals).bind fun l=>nfL l some)=some out:=by exact rfl)
  (hsm:Nat.ble (len*sz) 16777216=true:=by exact rfl) (h1:Nat.ble 1 (len*sz)=true:=by exact rfl) (hn:Nat.blt d n=true:=by exact rfl):HO P n ops Q (⟨some d,.buildSlice t len parts,ty,pos,af,none⟩::rest) ρ L:=by
 refine Vh rfl rfl hn fun ρe he' k w hs=>⟨sl w.heap.size 0 len len,w.alloc (.cells ⟨out⟩ E),_,?_,hs.new _,h _⟩
 have hdesc:=Z9 (S.tyI ht) rfl
 have hsize:(sizeOf E).run P w = .ok sz w:=Y9 (S.tyI he) w
 have hzero:=Vq (S.zeroI hz) w
 have hle:len*sz≤16777216:=Nat.le_of_ble_eq_true hsm
 have hge:1≤len*sz:=Nat.le_of_ble_eq_true h1
 obtain ⟨l,hl,h2⟩:=bind_some hf
 rw [Zdb] at h2
 cases h2
 have hzl':=Nat.eq_of_beq_eq_true hzl
 have hm:((Array.range (len*sz)).map fun j=>(Array.mk zs)[j % (Array.mk zs).size]!)=⟨(List.replicate len zs).flatten⟩:=by
  have:=Uc zs len
  rw [hzl'] at this
  exact this
 have e1:(parts.map fun p=>(p.1,ρe p.2)).toList=vals:=by
  rw [Array.toList_map]
  exact Um (fun p hp' u hu=>he' p.2 (by simp [Op.operands];exact ⟨p.1,by simpa using hp'⟩) u hu) hp
 have hfill:=Zfb vals _ out hl
 have hbs:(Instr.buildSlice t len (parts.map fun p=>(p.1,ρe p.2))).run P w = .ok (sl w.heap.size 0 len len) (w.alloc (.cells ⟨out⟩ E)):=by
  have hl2 : ¬ (16777216<len*sz):=by omega
  have hl3 : ¬ (len*sz=0):=by omega
  have hm2:((Array.range (len*sz)).map fun j=>(z.cells)[j % z.cells.size]!)=⟨(List.replicate len zs).flatten⟩:=by rw [hzs];exact hm
  unfold Instr.buildSlice
  simp only [Sem.run_bind,run_underlying hdesc,Result.andThen_ok,hsize,Nat.reducePow,gt_iff_lt,if_neg hl2,if_neg hl3,Sem.run_pure,hzero,hm2,e1,hfill]
  rfl
 simp only [execOp,Sem.run_bind,hbs,Result.andThen_ok,Sem.run_pure]
theorem wSa {d t E y0 s0 b0 k1 x1 y1 sz by1 len:Nat} {z:Value} {zs out:List Value} {vals:List (Nat × Value)} {parts:Array (Nat × Operand)} (h : ∀ b,HO P n ops Q rest ((d,sl b 0 len len)::ρ) ([(b,.cells ⟨out⟩ E)]::L)) (h00:Y6 ρ=true:=by exact rfl) (ht:Zt S.ty t=some ⟨5,E,y0,s0,b0⟩:=by exact rfl) (he:Zt S.ty E=some ⟨k1,x1,y1,sz,by1⟩:=by exact rfl)
  (hz:Zt S.zr E=some z:=by exact rfl) (hzs:z.cells=⟨zs⟩:=by exact rfl) (hzl:Nat.beq zs.length sz=true:=by exact rfl) (hp:Wg ρ parts.toList=some vals:=by exact rfl) (hf:((Ux sz 0 vals).bind fun l=>nfL l some)=some out:=by exact rfl) (hol:Nat.beq out.length (len*sz)=true:=by exact rfl)
  (hsm:Nat.ble (len*sz) 16777216=true:=by exact rfl) (h1:Nat.ble 1 (len*sz)=true:=by exact rfl) (hn:Nat.blt d n=true:=by exact rfl):HO P n ops Q (⟨some d,.buildSlice t len parts,ty,pos,af,none⟩::rest) ρ L:=by
 obtain ⟨l,hl,h2⟩:=bind_some hf
 rw [Zdb] at h2
 cases h2
 have hlen:(List.replicate len zs).flatten.length=out.length:=by
  have e1:=Nat.eq_of_beq_eq_true hol
  have e2:=Nat.eq_of_beq_eq_true hzl
  simp [e1,e2]
 have:=Zhg vals 0 [] (List.replicate len zs).flatten out hl (by simp) hlen
 exact wSn S h h00 ht he hz hzs hzl hp (by simp only [List.nil_append] at this;rw [this];simp [Zdb]) hsm h1 hn
theorem Zob {d:Option Tmp} {g:Option (Nat × Bool)} {t len E s0 b0 k1 x1 y1 sz by1:Nat} {parts:Array (Nat × Operand)} {zs out:List Value} {vals:List (Nat × Value)} (hz:Zt S.zr t=some (.agg ⟨zs⟩)) (ht:Zt S.ty t=some ⟨6,len,E,s0,b0⟩) (he:Zt S.ty E=some ⟨k1,x1,y1,sz,by1⟩) (hp:Wg ρ parts.toList=some vals)
  (hf:((Zab sz zs vals).bind fun l=>nfL l some)=some out):QOp P ⟨d,.build t parts,ty,pos,af,g⟩ ρ L (.agg ⟨out⟩):=
 Ya fun ρe he' k w hsat=>by
  obtain ⟨l,hl,h1⟩:=bind_some hf
  rw [Zdb] at h1
  cases h1
  have hu:=Zgo (S.tyI ht) rfl
  have hsize:(sizeOf E).run P w = .ok sz w:=Y9 (S.tyI he) w
  have hzero:=Vq (S.zeroI hz) w
  have e1:(parts.map fun p=>(p.1,ρe p.2)).toList=vals:=by
   rw [Array.toList_map]
   exact Um (fun p hp' u hu=>he' p.2 (by simp [Op.operands];exact ⟨p.1,by simpa using hp'⟩) u hu) hp
  have hfill:=Zfb vals zs out hl
  show (Instr.build t (parts.map fun p=>(p.1,ρe p.2)) >>= fun v=>pure (Next.value v):Sem Next).run P w=_
  simp only [Sem.run_bind,Instr.build,hzero,Result.andThen_ok,run_underlying hu,hsize,e1,Value.cells,hfill,Sem.run_pure]
theorem qbA {d:Option Tmp} {g:Option (Nat × Bool)} {t len E s0 b0 k1 x1 y1 sz by1:Nat} {parts:Array (Nat × Operand)} {zs out:List Value} {vals:List (Nat × Value)} (h00:Y6 ρ=true:=by exact rfl) (hz:Zt S.zr t=some (.agg ⟨zs⟩):=by exact rfl) (ht:Zt S.ty t=some ⟨6,len,E,s0,b0⟩:=by exact rfl) (he:Zt S.ty E=some ⟨k1,x1,y1,sz,by1⟩:=by exact rfl) (hp:Wg ρ parts.toList=some vals:=by exact rfl)
  (hf:((Zab sz zs vals).bind fun l=>nfL l some)=some out:=by exact rfl):QOp P ⟨d,.build t parts,ty,pos,af,g⟩ ρ L (.agg ⟨out⟩):=Zob S hz ht he hp hf

/-! ### a slice of one's own -/
def Vec {α:Type} (E sz:Nat) (enc:α→List Value) (v:Value) (xs:List α) (c:List Zm):Prop:=Own E sz v xs.length (xs.map enc).flatten c
theorem Yg {α:Type} {E sz:Nat} {enc:α→List Value}:Vec E sz enc Wn [] []:=own_nil
theorem Vec.rd {α:Type} {E sz:Nat} {enc:α→List Value} {v:Value} {xs:List α} {c:List Zm} (h:Vec E sz enc v xs c) (hsz : ∀ x,(enc x).length=sz) : ∃ a cap,v = .slice a xs.length cap∧xs.length≤cap ∧ ∀ L,Rd enc sz (c::L) a xs:=by
 have h':=h
 rcases h with ⟨rfl,h0,hcs,rfl⟩|⟨b,cap,sp,rfl,rfl,hcs,hle,hall⟩
 ·exact ⟨none,0,by rw [h0],by omega,fun L => .inl (List.eq_nil_of_length_eq_zero h0)⟩
 ·refine ⟨some ⟨b,0,none⟩,cap,rfl,hle,fun L => .inr ⟨b,0,_,E,(0,0),rfl,Zh,fun k x hx=>?_⟩⟩
  have:=Wa hsz xs sp [] k x hx
  simpa using this
theorem Zaw (l:List Value):Gets l 0 l:=fun j v h=>by simpa using h
theorem wp1 {α:Type} {enc:α→List Value} {d t E y0 s0 b0 k1 x1 y1 sz by1 b i cap F:Nat} {z v:Value} {zs l:List Value} {fr:Nat × Nat} {c:List Zm} {x y:Operand} {xs:List α} (e:α) (ho:Vec E sz enc v xs c) (hsz : ∀ x,(enc x).length=sz) (hone : ∀ x,(enc x).all Value.oneCell'=true)
  (h : ∀ v' c',Vec E sz enc v' (xs++[e]) c'→HO P n ops Q rest ((d,v')::ρ) (c'::L)) (h00:Y6 ρ=true:=by exact rfl)
  (hx:ev ρ x=some v:=by exact rfl) (hy:ev ρ y=some (sl b i 1 cap):=by exact rfl) (ht:Zt S.ty t=some ⟨5,E,y0,s0,b0⟩:=by exact rfl) (he:Zt S.ty E=some ⟨k1,x1,y1,sz,by1⟩:=by exact rfl) (hz:Zt S.zr E=some z:=by exact rfl) (hzs:z.cells=⟨zs⟩:=by exact rfl) (hzl:zs.length=sz:=by exact rfl)
  (hn:Nat.blt d n=true:=by exact rfl) (hb:Has L b (.cells ⟨l⟩ F fr):=by (repeat (first|assumption|exact Zh|exact Yi (by assumption)|apply Xq|apply Zc))) (hg:Gets l i (enc e):=by first|exact Zaw _|assumption) (hby:(xs.length+1)*by1≤140737488355328:=by omega) (hmax:xs.length+1≤9223372036854775807:=by omega) :
  HO P n ops Q (⟨some d,.call { callee := .builtin .append,args := #[x,y],argTypes := #[t,t] },ty,pos,af,none⟩::rest) ρ (c::L):=
 Zlx S hx hy ht he hz hzs hzl hn ho (src_one (Zc hb) hg (hsz e)) (hone e) hby hmax fun v' c' ho'=>h v' c' (by
  unfold Vec
  simp only [List.length_append,List.length_cons,List.length_nil,List.map_append,List.map_cons,List.map_nil,List.flatten_append,List.flatten_cons,List.flatten_nil,List.append_nil]
  exact ho')
theorem wpA {α:Type} {enc:α→List Value} {d t E y0 s0 b0 k1 x1 y1 sz by1 cap:Nat} {z v:Value} {zs:List Value} {a:Option Addr} {c:List Zm} {x y:Operand} {xs ys:List α} (ho:Vec E sz enc v xs c) (hR:Rd enc sz (c::L) a ys) (hsz : ∀ x,(enc x).length=sz) (hone : ∀ x,(enc x).all Value.oneCell'=true)
  (h : ∀ v' c',Vec E sz enc v' (xs++ys) c'→HO P n ops Q rest ((d,v')::ρ) (c'::L)) (h00:Y6 ρ=true:=by exact rfl)
  (hx:ev ρ x=some v:=by exact rfl) (hy:ev ρ y=some (.slice a ys.length cap):=by exact rfl) (ht:Zt S.ty t=some ⟨5,E,y0,s0,b0⟩:=by exact rfl) (he:Zt S.ty E=some ⟨k1,x1,y1,sz,by1⟩:=by exact rfl) (hz:Zt S.zr E=some z:=by exact rfl) (hzs:z.cells=⟨zs⟩:=by exact rfl) (hzl:zs.length=sz:=by exact rfl)
  (hn:Nat.blt d n=true:=by exact rfl) (hby:(xs.length+ys.length)*by1≤140737488355328:=by omega) (hmax:xs.length+ys.length≤9223372036854775807:=by omega) :
  HO P n ops Q (⟨some d,.call { callee := .builtin .append,args := #[x,y],argTypes := #[t,t] },ty,pos,af,none⟩::rest) ρ (c::L):=
 Zlx S hx hy ht he hz hzs hzl hn ho (Zia hsz hR) (Zbu hone ys) hby hmax fun v' c' ho'=>h v' c' (by
  unfold Vec
  simp only [List.length_append,List.map_append,List.flatten_append]
  exact ho')
end v
theorem Zf6 {α:Type} {enc:α→List Value} {sz:Nat} (hsz : ∀ x,(enc x).length=sz) : ∀ (xs:List α) (sp pre:List Value) (k i:Nat) (x:α),k<xs.length→i=pre.length+k*sz→Zo (pre++(xs.map enc).flatten++sp) i (enc x) (pre++((xs.set k x).map enc).flatten++sp)
 | [],sp,pre,k,i,x,h,_=>by simp at h
 | y::r,sp,pre,0,i,x,h,hi=>by
  have hp:Zo ((enc y)++((r.map enc).flatten++sp)) 0 (enc x) (enc x++((r.map enc).flatten++sp)):=Zoa (by rw [hsz,hsz])
  have key : ∀ (p l vs l':List Value) (j:Nat),Zo l j vs l'→Zo (p++l) (p.length+j) vs (p++l'):=by
   intro p
   induction p with
   | nil=>intro l vs l' j h;simpa using h
   | cons a p ih =>
    intro l vs l' j h
    have:=Wj (x:=a) (ih l vs l' j h)
    simpa [Nat.add_assoc,Nat.add_comm,Nat.add_left_comm] using this
  have:=key pre _ _ _ 0 hp
  subst hi
  simpa using this
 | y::r,sp,pre,k+1,i,x,h,hi=>by
  have:=Zf6 hsz r sp (pre++enc y) k i x (by simpa using h) (by rw [hi];simp [hsz,Nat.add_mul];omega)
  simpa using this
theorem V0 {P:Program} {F:Nat} {args:List Value} {c:List Zm} {L L1:Zb} {V:Value} (h : ∀ L,HC P F args (c::L) (fun v L'=>v=V∧L'=c::L)) (k0:Nat) (hp:Qy k0 L=some (c,L1):=by exact rfl):HC P F args L (fun v L'=>v=V∧L'=L):=
 ⟨(h L1).1,fun k w hs=>((h L1).2 k w (hs.perm (Xw hp))).mono fun e w' ⟨v,L',he,hs',hv,hL⟩=>⟨v,L,he,(hL▸hs').perm (Xw hp).symm,hv,rfl⟩⟩
theorem LS.pick {c:List Zm} {A L L1:Zb} (k0:Nat) (h:LS A.flatten L1.flatten) (hp:Qy k0 L=some (c,L1):=by exact rfl):LS (c::A).flatten L.flatten:=
 LS.trans (LS.k h) (LS.of_perm (Xw hp).symm.flatten)
theorem LS.e {A L:Zb} (h:LS A.flatten L.flatten):LS (([]:List Zm)::A).flatten L.flatten:=h
theorem LS.p0 {c:List Zm} {A L:Zb} (h:LS A.flatten L.flatten):LS (c::A).flatten (c::L).flatten:=LS.k h
theorem LS.p1 {x0 c:List Zm} {A L:Zb} (h:LS A.flatten (x0::L).flatten):LS (c::A).flatten (x0::c::L).flatten:=LS.pick 1 h
theorem LS.p2 {x0 x1 c:List Zm} {A L:Zb} (h:LS A.flatten (x0::x1::L).flatten):LS (c::A).flatten (x0::x1::c::L).flatten:=LS.pick 2 h
theorem LS.p3 {x0 x1 x2 c:List Zm} {A L:Zb} (h:LS A.flatten (x0::x1::x2::L).flatten):LS (c::A).flatten (x0::x1::x2::c::L).flatten:=LS.pick 3 h
theorem LS.p4 {x0 x1 x2 x3 c:List Zm} {A L:Zb} (h:LS A.flatten (x0::x1::x2::x3::L).flatten):LS (c::A).flatten (x0::x1::x2::x3::c::L).flatten:=LS.pick 4 h
theorem LS.p5 {x0 x1 x2 x3 x4 c:List Zm} {A L:Zb} (h:LS A.flatten (x0::x1::x2::x3::x4::L).flatten):LS (c::A).flatten (x0::x1::x2::x3::x4::c::L).flatten:=LS.pick 5 h
theorem LS.p6 {x0 x1 x2 x3 x4 x5 c:List Zm} {A L:Zb} (h:LS A.flatten (x0::x1::x2::x3::x4::x5::L).flatten):LS (c::A).flatten (x0::x1::x2::x3::x4::x5::c::L).flatten:=LS.pick 6 h
theorem LS.p7 {x0 x1 x2 x3 x4 x5 x6 c:List Zm} {A L:Zb} (h:LS A.flatten (x0::x1::x2::x3::x4::x5::x6::L).flatten):LS (c::A).flatten (x0::x1::x2::x3::x4::x5::x6::c::L).flatten:=LS.pick 7 h
theorem LS.p8 {x0 x1 x2 x3 x4 x5 x6 x7 c:List Zm} {A L:Zb} (h:LS A.flatten (x0::x1::x2::x3::x4::x5::x6::x7::L).flatten):LS (c::A).flatten (x0::x1::x2::x3::x4::x5::x6::x7::c::L).flatten:=LS.pick 8 h
theorem LS.p9 {x0 x1 x2 x3 x4 x5 x6 x7 x8 c:List Zm} {A L:Zb} (h:LS A.flatten (x0::x1::x2::x3::x4::x5::x6::x7::x8::L).flatten):LS (c::A).flatten (x0::x1::x2::x3::x4::x5::x6::x7::x8::c::L).flatten:=LS.pick 9 h
theorem LS.p10 {x0 x1 x2 x3 x4 x5 x6 x7 x8 x9 c:List Zm} {A L:Zb} (h:LS A.flatten (x0::x1::x2::x3::x4::x5::x6::x7::x8::x9::L).flatten):LS (c::A).flatten (x0::x1::x2::x3::x4::x5::x6::x7::x8::x9::c::L).flatten:=LS.pick 10 h
theorem LS.p11 {x0 x1 x2 x3 x4 x5 x6 x7 x8 x9 x10 c:List Zm} {A L:Zb} (h:LS A.flatten (x0::x1::x2::x3::x4::x5::x6::x7::x8::x9::x10::L).flatten):LS (c::A).flatten (x0::x1::x2::x3::x4::x5::x6::x7::x8::x9::x10::c::L).flatten:=LS.pick 11 h
theorem LS.p12 {x0 x1 x2 x3 x4 x5 x6 x7 x8 x9 x10 x11 c:List Zm} {A L:Zb} (h:LS A.flatten (x0::x1::x2::x3::x4::x5::x6::x7::x8::x9::x10::x11::L).flatten):LS (c::A).flatten (x0::x1::x2::x3::x4::x5::x6::x7::x8::x9::x10::x11::c::L).flatten:=LS.pick 12 h
theorem once_w {ι:Type} {P:Program} {n:Nat} {c:Code} {Q:Exit→Zr→Zb→Prop} (I:ι→Prop) (ρ:ι→Zr) (L:ι→Zb) {R:Prop} (main:(∀ i,I i→HW P n c Q (ρ i) (L i))→R) (key : ∀ i,I i→HW P n c Q (ρ i) (L i)):R:=main key
end Go.HL
end
