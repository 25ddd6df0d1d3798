/- Texts laid into one, without what the claim does not use. Conditions: none. -/
import Derived.Test.YtkookaogdkdegacGreatDoorSPA
import Derived.Orders
import Derived.Still
set_option linter.unusedVariables false
set_option linter.unusedSimpArgs false
set_option linter.unusedSectionVars false
set_option maxHeartbeats 4000000
set_option maxRecDepth 100000
namespace Go.HL
open Go Go.Proofs Go.Proofs.Tryz
variable[Tasks]
abbrev iv(n:Int):Value:=.int .i64 n
abbrev bs(l:List UInt8):Value:=.string ⟨⟨l⟩⟩
abbrev pt(b i:Nat):Value:=.pointer (some ⟨b,i,none⟩)
abbrev sl(b i len cap:Nat):Value:=.slice (some ⟨b,i,none⟩) len cap
abbrev Yt:Value:=.slice none 0 0
theorem Gets.at0{l vs:List Value}{i:Nat}{v:Value}(h:Gets l i vs)(hv:vs[0]?=some v):l[i]?=some v:=h 0 v hv
theorem Gets.at{l vs:List Value}{i j:Nat}{v:Value}(h:Gets l i vs)(hv:vs[j]?=some v):l[i+j]?=some v:=h j v hv
def Rd{α:Type}(enc:α→List Value)(sz:Nat)(L:Za)(a:Option Addr)(xs:List α):Prop:=
 xs=[]∨∃b i l E fr,a=some ⟨b,i,none⟩∧Has L b (.cells ⟨l⟩ E fr)∧∀(k:Nat) (x:α),xs[k]?=some x→Gets l (i+k*sz) (enc x)
theorem Rd.cons{α:Type}{enc:α→List Value}{sz:Nat}{L:Za}{a:Option Addr}{xs:List α}(h:Rd enc sz L a xs)(c:List Zp):Rd enc sz (c::L) a xs:=by
 rcases h with h|⟨b,i,l,E,fr,h1,h2,h3⟩
 ·exact .inl h
 ·exact .inr ⟨b,i,l,E,fr,h1,Zb h2,h3⟩
theorem Rd.at{α:Type}{enc:α→List Value}{sz:Nat}{L:Za}{a:Option Addr}{xs:List α}(h:Rd enc sz L a xs){j:Int}(h0:0≤j)(h1:j<xs.length):
  ∃b i l E fr,a=some ⟨b,i,none⟩∧Has L b (.cells ⟨l⟩ E fr)∧Gets l (i+j.toNat*sz) (enc (xs[j.toNat]'(by omega))):=by
 rcases h with h|⟨b,i,l,E,fr,h2,h3,h4⟩
 ·subst h;simp at h1;omega
 ·exact⟨b,i,l,E,fr,h2,h3,h4 j.toNat _ (Z2c (by omega))⟩
theorem Rd.at1{α:Type}{enc:α→List Value}{L:Za}{a:Option Addr}{xs:List α}(h:Rd enc 1 L a xs){j:Int}(h0:0≤j)(h1:j<xs.length):
  ∃b i l E fr,a=some ⟨b,i,none⟩∧Has L b (.cells ⟨l⟩ E fr)∧Gets l (i+j.toNat) (enc (xs[j.toNat]'(by omega))):=by
 obtain⟨b,i,l,E,fr,h2,h3,h4⟩:=h.at h0 h1
 rw[Z5t]at h4
 exact⟨b,i,l,E,fr,h2,h3,h4⟩
theorem Zsj{l:List Value}{i:Nat}{vs us:List Value}(h:Gets l i vs)(h2:Gets l (i+vs.length) us):Gets l i (vs++us):=by
 intro j v hj
 by_cases hlt:j<vs.length
 ·rw[Z3n hlt]at hj
  exact h j v hj
 ·rw[Z3f (by omega)]at hj
  have:=h2 _ v hj
  rw[show i+j=i+vs.length+(j-vs.length) by omega]
  exact this
theorem Zh0{α:Type}{enc:α→List Value}{sz:Nat}{l:List Value}(hsz:∀x,(enc x).length=sz):∀(xs:List α) (i:Nat),(∀(k:Nat) (x:α),xs[k]?=some x→Gets l (i+k*sz) (enc x))→Gets l i (xs.map enc).flatten
 | [],i,_=>by simpa using Z6
 | x::r,i,h=>by
  simp only[Z2s,Z17]
  refine Zsj (by simpa using h 0 x rfl) ?_
  rw[hsz]
  refine Zh0 hsz r (i+sz) fun k y hy=>?_
  have:=h (k+1) y (by simpa using hy)
  rw[Z32,Z59]at this
  rw[show i+sz+k*sz=i+(k*sz+sz) by omega]
  exact this
theorem U4{α:Type}{xs:List α}{j:Int}(h0:0≤j)(h:j<xs.length):xs.take (j+1).toNat=xs.take j.toNat++[xs[j.toNat]'(by omega)]:=by
 rw[show (j+1).toNat=j.toNat+1 by omega,Z2n (by omega)]
theorem Zad{α:Type}{xs:List α}{j:Int}(h:¬ j<xs.length):xs.take j.toNat=xs:=Z3d (by omega)
theorem Rd.nil{α:Type}{enc:α→List Value}{sz:Nat}{L:Za}{a:Option Addr}:Rd enc sz L a []:=.inl rfl
section q
variable{P:Program}(S:Tab P){ρ:Z9}{L:Za}{d:Option Tmp}{ty:TypeId}{pos:String}{af:Array Edge}{g:Option (Nat × Bool)}
theorem Zmg{t b i E:Nat}{ti:TyI}{x:Operand}{l:List Value}{fr:Nat × Nat}{v:Value}(hx:ev ρ x=some (pt b i))(ht:Yj S.ty t=some ti)
  (h6:Nat.beq ti.kind 6=false)(h7:Nat.beq ti.kind 7=false)(hb:Has L b (.cells ⟨l⟩ E fr))(hv:l[i]?=some v):QOp P ⟨d,.load t x,ty,pos,af,g⟩ ρ L v:=
 Ws fun ρe he k w hs=>by
  have h1:=Z1v (S.tyI ht) h6 h7 w
  have h2:w.cell? ⟨b,i,none⟩=some v:=by rw[hs.cell hb,hv]
  simp[execOp,he x (by simp[Op.operands]) _ hx,Instr.loadAt,Instr.sureAddr,loadVar,h1,h2]
theorem Zy2{t b i E:Nat}{ti:TyI}{x:Operand}{l vs:List Value}{fr:Nat × Nat}(hx:ev ρ x=some (pt b i))(ht:Yj S.ty t=some ti)
  (h7:(Nat.beq ti.kind 6 || Nat.beq ti.kind 7)=true)(hb:Has L b (.cells ⟨l⟩ E fr))(hv:Gets l i vs∧ti.size=vs.length):QOp P ⟨d,.load t x,ty,pos,af,g⟩ ρ L (.agg ⟨vs⟩):=
 Ws fun ρe he k w hs=>by
  obtain⟨hv,hn⟩:=hv
  have h1:=ty_agg (S.tyI ht) h7 w
  have h2:=Zf4 (P:=P) hs hb hv
  have h3:=X9 (S.tyI ht) w
  simp[execOp,he x (by simp[Op.operands]) _ hx,Instr.loadAt,Instr.sureAddr,loadVar,h1,h2,h3,hn]
theorem Ztz{s f b i o ft:Nat}{x:Operand}(hx:ev ρ x=some (pt b i))(hf:Yj S.fl (s*64+f)=some (o,ft))(hlt:Nat.blt f 64=true):QOp P ⟨d,.fieldAddr s x f,ty,pos,af,g⟩ ρ L (pt b (i+o)):=
 Vi (fun ρe he N=>by
  obtain⟨h,-⟩:=S.fldI hf hlt
  unfold fldI at h
  split at h
  ·rename_i fs hfs
   split at h
   ·rename_i fd hfd
    split at h
    ·rename_i inf hinf
     split at h
     ·cases h
     ·rename_i hsz
      simp only[execOp]
      exact Plo.bind (Zwl hfs hfd hinf hsz) fun _=>trivial
    ·cases h
   ·cases h
  ·cases h) fun ρe he k w hs=>by
  obtain⟨h,-⟩:=S.fldI hf hlt
  unfold fldI at h
  split at h
  ·rename_i fs hfs
   split at h
   ·rename_i fd hfd
    split at h
    ·rename_i inf hinf
     split at h
     ·cases h
     ·rename_i hsz
      cases h
      simp[execOp,he x (by simp[Op.operands]) _ hx,Instr.fieldAt,Z2k hfs,hfd,Instr.sureAddr,fieldPlace,sizeOf,typeInfo,hinf,hsz,Vp]
    ·cases h
   ·cases h
  ·cases h
theorem Zje{t b i len cap e y0 s0 b0 k1 x1 y1 sz b1:Nat}{x y:Operand}{k:IntKind}{j:Int}(hx:ev ρ x=some (sl b i len cap))(hy:ev ρ y=some (.int k j))(ht:Yj S.ty t=some ⟨5,e,y0,s0,b0⟩)
  (he':Yj S.ty e=some ⟨k1,x1,y1,sz,b1⟩)(hj:0≤j∧j<len):QOp P ⟨d,.indexAddr t x y,ty,pos,af,g⟩ ρ L (pt b (i+j.toNat*sz)):=
 Ws fun ρe he k w hs=>by
  have h1:=Z7 (S.tyI ht) rfl
  have h2:=X9 (S.tyI he') w
  simp[execOp,he x (by simp[Op.operands]) _ hx,he y (by simp[Op.operands]) _ hy,Instr.indexAt,asIntOf,Z2k h1,hj,h2,Vp]
theorem Zqr{t b i len cap e y0 s0 b0 k1 x1 y1 b1:Nat}{x y:Operand}{k:IntKind}{j:Int}(hx:ev ρ x=some (sl b i len cap))(hy:ev ρ y=some (.int k j))(ht:Yj S.ty t=some ⟨5,e,y0,s0,b0⟩)
  (he':Yj S.ty e=some ⟨k1,x1,y1,1,b1⟩)(hj:0≤j∧j<len):QOp P ⟨d,.indexAddr t x y,ty,pos,af,g⟩ ρ L (pt b (i+j.toNat)):=by
 have:=Zje (d:=d) (ty:=ty) (pos:=pos) (af:=af) (g:=g) (L:=L) S hx hy ht he' hj
 rw[Z5t]at this
 exact this
theorem Zqs{t b i len e s0 b0 k1 x1 y1 sz b1:Nat}{x y:Operand}{k:IntKind}{j:Int}(hx:ev ρ x=some (pt b i))(hy:ev ρ y=some (.int k j))(ht:Yj S.ty t=some ⟨6,len,e,s0,b0⟩)
  (he':Yj S.ty e=some ⟨k1,x1,y1,sz,b1⟩)(hj:0≤j∧j<len):QOp P ⟨d,.indexAddr t x y,ty,pos,af,g⟩ ρ L (pt b (i+j.toNat*sz)):=
 Ws fun ρe he k w hs=>by
  have h1:=Zm2 (S.tyI ht) rfl
  have h2:=X9 (S.tyI he') w
  simp[execOp,he x (by simp[Op.operands]) _ hx,he y (by simp[Op.operands]) _ hy,Instr.indexAt,asIntOf,Instr.sureAddr,Z2k h1,hj,h2,Vp]
/-! arithmetic -/
theorem Ze1{a:Int}(h:-9223372036854775808≤a∧a≤9223372036854775807):IntKind.i64.wrap a=a:=IntWalk.i64_in a h
theorem Ziu{op:BinOp}{t:Nat}{x y:Operand}{k k':IntKind}{a b:Int}(w:World):(eqGuard op t x y (.int k a) (.int k' b)).run P w=.ok () w:=by
 cases op<;>simp[eqGuard]
theorem Zbs{op:BinOp}{t t':Nat}{x y:Operand}{ρe:Operand→Value}{B W:Nat→Prop}{N:Nat}(hg:Plo P B W N (eqGuard op t x y (ρe x) (ρe y)))(hb:Plo P B W N (binOp op t (ρe x) (ρe y))):Plo P B W N (execOp ρe ⟨d,.binOp op t x y t',ty,pos,af,g⟩):=by
 simp only[execOp]
 exact Plo.bind (Plo.bind hg fun _=>hb) fun _=>trivial
theorem Zi9{op:BinOp}{t:Nat}{x y:Operand}{k k':IntKind}{a b:Int}{B W:Nat→Prop}{N:Nat}:Plo P B W N (eqGuard op t x y (.int k a) (.int k' b)):=by cases op<;>exact trivial
theorem Zow{op:BinOp}{t:Nat}{k k':IntKind}{a b:Int}{B W:Nat→Prop}{N:Nat}:Plo P B W N (binOp op t (.int k a) (.int k' b)):=by
 cases op<;>simp only[binOp]<;>first|exact pl_shift _ _ _ _ _|(split;exact trivial;first|exact Zja _ _ _ _|exact Z02 _ _ _ _|exact Zma _ _ _ _|exact Z01 _ _ _)
theorem Wo{op:BinOp}{t t':Nat}{x y:Operand}{k:IntKind}{a b:Int}{v:Value}(hx:ev ρ x=some (.int k a))(hy:ev ρ y=some (.int k b))(hv:∀w,(binOp op t (.int k a) (.int k b)).run P w=.ok v w):
  QOp P ⟨d,.binOp op t x y t',ty,pos,af,g⟩ ρ L v:=
 Vi (fun ρe he N=>by
  refine Zbs ?_ ?_
  ·rw[he x (by simp[Op.operands]) _ hx,he y (by simp[Op.operands]) _ hy];exact Zi9
  ·rw[he x (by simp[Op.operands]) _ hx,he y (by simp[Op.operands]) _ hy];exact Zow) fun ρe he k w hs=>by simp[execOp,he x (by simp[Op.operands]) _ hx,he y (by simp[Op.operands]) _ hy,Ziu,hv w]
theorem q_add{t t':Nat}{x y:Operand}{a b:Int}(hx:ev ρ x=some (iv a))(hy:ev ρ y=some (iv b))(h:-9223372036854775808≤a+b∧a+b≤9223372036854775807):QOp P ⟨d,.binOp .add t x y t',ty,pos,af,g⟩ ρ L (iv (a+b)):=
 Wo hx hy fun w=>by simp[binOp,Op.intArith,Ze1 h]
theorem q_sub{t t':Nat}{x y:Operand}{a b:Int}(hx:ev ρ x=some (iv a))(hy:ev ρ y=some (iv b))(h:-9223372036854775808≤a-b∧a-b≤9223372036854775807):QOp P ⟨d,.binOp .sub t x y t',ty,pos,af,g⟩ ρ L (iv (a-b)):=
 Wo hx hy fun w=>by simp[binOp,Op.intArith,Ze1 h]
theorem q_mul{t t':Nat}{x y:Operand}{a b:Int}(hx:ev ρ x=some (iv a))(hy:ev ρ y=some (iv b))(h:-9223372036854775808≤a*b∧a*b≤9223372036854775807):QOp P ⟨d,.binOp .mul t x y t',ty,pos,af,g⟩ ρ L (iv (a*b)):=
 Wo hx hy fun w=>by simp[binOp,Op.intArith,Ze1 h]
theorem q_quo{t t':Nat}{x y:Operand}{a b:Int}(hx:ev ρ x=some (iv a))(hy:ev ρ y=some (iv b))(h:0≤a∧a≤9223372036854775807∧1≤b):QOp P ⟨d,.binOp .quo t x y t',ty,pos,af,g⟩ ρ L (iv (a / b)):=
 Wo hx hy fun w=>by
  have h2:b≠0:=by omega
  simp[binOp,Op.intDiv,IntWalk.i64_quo a b h,h2]
theorem q_rem{t t':Nat}{x y:Operand}{a b:Int}(hx:ev ρ x=some (iv a))(hy:ev ρ y=some (iv b))(h:0≤a∧a≤9223372036854775807∧1≤b):QOp P ⟨d,.binOp .rem t x y t',ty,pos,af,g⟩ ρ L (iv (a % b)):=
 Wo hx hy fun w=>by
  have h2:b≠0:=by omega
  simp[binOp,Op.intDiv,IntWalk.rem_in a b h.1,h2]
theorem q_lss{t t':Nat}{x y:Operand}{k:IntKind}{a b:Int}(hx:ev ρ x=some (.int k a))(hy:ev ρ y=some (.int k b)):QOp P ⟨d,.binOp .lss t x y t',ty,pos,af,g⟩ ρ L (.bool (decide (a<b))):=
 Wo hx hy fun w=>by simp[binOp,Op.intCmp]
theorem q_leq{t t':Nat}{x y:Operand}{k:IntKind}{a b:Int}(hx:ev ρ x=some (.int k a))(hy:ev ρ y=some (.int k b)):QOp P ⟨d,.binOp .leq t x y t',ty,pos,af,g⟩ ρ L (.bool (decide (a≤b))):=
 Wo hx hy fun w=>by simp[binOp,Op.intCmp]
theorem q_gtr{t t':Nat}{x y:Operand}{k:IntKind}{a b:Int}(hx:ev ρ x=some (.int k a))(hy:ev ρ y=some (.int k b)):QOp P ⟨d,.binOp .gtr t x y t',ty,pos,af,g⟩ ρ L (.bool (decide (b<a))):=
 Wo hx hy fun w=>by simp[binOp,Op.intCmp]
theorem q_geq{t t':Nat}{x y:Operand}{k:IntKind}{a b:Int}(hx:ev ρ x=some (.int k a))(hy:ev ρ y=some (.int k b)):QOp P ⟨d,.binOp .geq t x y t',ty,pos,af,g⟩ ρ L (.bool (decide (b≤a))):=
 Wo hx hy fun w=>by simp[binOp,Op.intCmp]
theorem q_eql{t t':Nat}{x y:Operand}{k:IntKind}{a b:Int}(hx:ev ρ x=some (.int k a))(hy:ev ρ y=some (.int k b)):QOp P ⟨d,.binOp .eql t x y t',ty,pos,af,g⟩ ρ L (.bool (decide (a=b))):=
 Wo hx hy fun w=>by simp[binOp,Op.intCmp];rfl
theorem q_neq{t t':Nat}{x y:Operand}{k:IntKind}{a b:Int}(hx:ev ρ x=some (.int k a))(hy:ev ρ y=some (.int k b)):QOp P ⟨d,.binOp .neq t x y t',ty,pos,af,g⟩ ρ L (.bool (decide (a≠b))):=
 Wo hx hy fun w=>by
  simp only[binOp,Op.intCmp,ne_eq,Z36,Z3h]
  by_cases e:a=b
  ·simp[e]
  ·simp[e,bne_iff_ne.2 e]
theorem q_not{t:Nat}{x:Operand}{b:Bool}(hx:ev ρ x=some (.bool b)):QOp P ⟨d,.unOp .not t x,ty,pos,af,g⟩ ρ L (.bool (!b)):=
 Ws fun ρe he k w hs=>by simp[execOp,he x (by simp[Op.operands]) _ hx,Op.unary]
theorem q_not_t{t:Nat}{x:Operand}{b:Bool}(hx:ev ρ x=some (.bool b))(hb:b=true):QOp P ⟨d,.unOp .not t x,ty,pos,af,g⟩ ρ L (.bool false):=by subst hb;exact q_not hx
theorem q_not_f{t:Nat}{x:Operand}{b:Bool}(hx:ev ρ x=some (.bool b))(hb:b=false):QOp P ⟨d,.unOp .not t x,ty,pos,af,g⟩ ρ L (.bool true):=by subst hb;exact q_not hx
theorem Yk{t:Nat}{x y:Value}{B W:Nat→Prop}{N:Nat}(h:∀dd,Plo P B W N (Op.equalIn (dd+1) t x y)):Plo P B W N (Op.equal t x y):=h 9999
theorem q_eqlB{t t':Nat}{ti:TyI}{x y:Operand}{a b:Bool}(hx:ev ρ x=some (.bool a))(hy:ev ρ y=some (.bool b))(ht:Yj S.ty t=some ti)(h1:ti.kind=1):QOp P ⟨d,.binOp .eql t x y t',ty,pos,af,g⟩ ρ L (.bool (decide (a=b))):=
 Vi (fun ρe he N=>by
  refine Zbs ?_ ?_
  ·rw[he x (by simp[Op.operands]) _ hx,he y (by simp[Op.operands]) _ hy];exact trivial
  ·rw[he x (by simp[Op.operands]) _ hx,he y (by simp[Op.operands]) _ hy]
   refine Plo.bind (Yk fun dd=>?_) fun _=>trivial
   unfold Op.equalIn
   exact Zf (Zks (S.tyI ht) h1) trivial) fun ρe he k w hs=>by
  have e:(a == b)=decide (a=b):=by cases a<;>cases b<;>rfl
  simp[execOp,he x (by simp[Op.operands]) _ hx,he y (by simp[Op.operands]) _ hy,eqGuard,run_eql_bool w t a b (Zks (S.tyI ht) h1),e]
theorem q_neqB{t t':Nat}{ti:TyI}{x y:Operand}{a b:Bool}(hx:ev ρ x=some (.bool a))(hy:ev ρ y=some (.bool b))(ht:Yj S.ty t=some ti)(h1:ti.kind=1):QOp P ⟨d,.binOp .neq t x y t',ty,pos,af,g⟩ ρ L (.bool (decide (a≠b))):=
 Vi (fun ρe he N=>by
  refine Zbs ?_ ?_
  ·rw[he x (by simp[Op.operands]) _ hx,he y (by simp[Op.operands]) _ hy];exact trivial
  ·rw[he x (by simp[Op.operands]) _ hx,he y (by simp[Op.operands]) _ hy]
   refine Plo.bind (Yk fun dd=>?_) fun _=>trivial
   unfold Op.equalIn
   exact Zf (Zks (S.tyI ht) h1) trivial) fun ρe he k w hs=>by
  have e:(!(a == b))=decide (a≠b):=by cases a<;>cases b<;>rfl
  simp only[execOp,he x (by simp[Op.operands]) _ hx,he y (by simp[Op.operands]) _ hy]
  simp[eqGuard,run_neq_bool w t a b (Zks (S.tyI ht) h1)]
  cases a<;>cases b<;>rfl
theorem Zj4(a:List UInt8):(ByteArray.mk ⟨a⟩).toList=a:=by
 exact Go.ByteArray.toList_mk a
theorem Zcn(a:List UInt8):(ByteArray.mk ⟨a⟩).size=a.length:=by simp[ByteArray.size]
theorem Zzn(a b:List UInt8):(ByteArray.mk ⟨a⟩)++(ByteArray.mk ⟨b⟩)=ByteArray.mk ⟨a++b⟩:=by
 apply ByteArray.ext
 simp[ByteArray.data_append]
theorem q_eqlS{t t':Nat}{x y:Operand}{a b:List UInt8}(hx:ev ρ x=some (bs a))(hy:ev ρ y=some (bs b)):QOp P ⟨d,.binOp .eql t x y t',ty,pos,af,g⟩ ρ L (.bool (decide (a=b))):=
 Vi (fun ρe he N=>by
  refine Zbs ?_ ?_
  ·rw[he x (by simp[Op.operands]) _ hx,he y (by simp[Op.operands]) _ hy];exact trivial
  ·rw[he x (by simp[Op.operands]) _ hx,he y (by simp[Op.operands]) _ hy];simp only[binOp];exact Zaa _ _ _) fun ρe he k w hs=>by
  simp only[execOp,he x (by simp[Op.operands]) _ hx,he y (by simp[Op.operands]) _ hy]
  simp[eqGuard,binOp,Op.stringOp,Zj4]
  by_cases e:a=b<;>simp[e]
theorem q_neqS{t t':Nat}{x y:Operand}{a b:List UInt8}(hx:ev ρ x=some (bs a))(hy:ev ρ y=some (bs b)):QOp P ⟨d,.binOp .neq t x y t',ty,pos,af,g⟩ ρ L (.bool (decide (a≠b))):=
 Vi (fun ρe he N=>by
  refine Zbs ?_ ?_
  ·rw[he x (by simp[Op.operands]) _ hx,he y (by simp[Op.operands]) _ hy];exact trivial
  ·rw[he x (by simp[Op.operands]) _ hx,he y (by simp[Op.operands]) _ hy];simp only[binOp];exact Zaa _ _ _) fun ρe he k w hs=>by
  simp only[execOp,he x (by simp[Op.operands]) _ hx,he y (by simp[Op.operands]) _ hy]
  simp[eqGuard,binOp,Op.stringOp,Zj4]
  by_cases e:a=b<;>simp[e]
theorem q_addS{t t':Nat}{x y:Operand}{a b:List UInt8}(hx:ev ρ x=some (bs a))(hy:ev ρ y=some (bs b))(h:a.length+b.length≤9223372036854775807):QOp P ⟨d,.binOp .add t x y t',ty,pos,af,g⟩ ρ L (bs (a++b)):=
 Vi (fun ρe he N=>by
  refine Zbs ?_ ?_
  ·rw[he x (by simp[Op.operands]) _ hx,he y (by simp[Op.operands]) _ hy];exact trivial
  ·rw[he x (by simp[Op.operands]) _ hx,he y (by simp[Op.operands]) _ hy];simp only[binOp];exact Zaa _ _ _) fun ρe he k w hs=>by
  simp only[execOp,he x (by simp[Op.operands]) _ hx,he y (by simp[Op.operands]) _ hy]
  have h2:=run_string_add_sum (P:=P) w ⟨⟨a⟩⟩ ⟨⟨b⟩⟩ (by simp only[Zcn];exact h)
  simp[eqGuard,binOp,h2,Zzn]
/-! nil -/
theorem Vq{t:Nat}{x y:Value}{b:Bool}{w:World}(h:∀dd,(Op.equalIn (dd+1) t x y).run P w=.ok b w):(Op.equal t x y).run P w=.ok b w:=h 9999
theorem Zj7{t e:Nat}{p:Option Addr}(h:P.underlying t=some (.pointer e))(dd:Nat)(w:World):(Op.equalIn (dd+1) t (.pointer p) (.pointer none)).run P w=.ok p.isNone w:=by
 cases p<;>simp[Op.equalIn,Z2k h]
theorem Zx5{t:Nat}{ms:Array (String × TypeId)}{u:Nat}{v:Value}(h:P.underlying t=some (.interface ms))(dd:Nat)(w:World):(Op.equalIn (dd+1) t (.iface u v) .nilIface).run P w=.ok false w:=by
 simp[Op.equalIn,Z2k h]
theorem Zr8{t:Nat}{ms:Array (String × TypeId)}(h:P.underlying t=some (.interface ms))(dd:Nat)(w:World):(Op.equalIn (dd+1) t .nilIface .nilIface).run P w=.ok true w:=by
 simp[Op.equalIn,Z2k h]
theorem Zj8{t e:Nat}{p:Option Addr}{len cap:Nat}(h:P.underlying t=some (.slice e))(dd:Nat)(w:World):(Op.equalIn (dd+1) t (.slice p len cap) Yt).run P w=.ok p.isNone w:=by
 cases p<;>simp[Op.equalIn,Z2k h]
theorem Zkk{t e:Nat}{p:Option Addr}{B W:Nat→Prop}{N:Nat}(h:P.underlying t=some (.pointer e))(dd:Nat):Plo P B W N (Op.equalIn (dd+1) t (.pointer p) (.pointer none)):=by
 unfold Op.equalIn;refine Zf h ?_;cases p<;>exact trivial
theorem Zyx{t:Nat}{ms:Array (String × TypeId)}{u:Nat}{v:Value}{B W:Nat→Prop}{N:Nat}(h:P.underlying t=some (.interface ms))(dd:Nat):Plo P B W N (Op.equalIn (dd+1) t (.iface u v) .nilIface):=by
 unfold Op.equalIn;exact Zf h trivial
theorem Ztk{t:Nat}{ms:Array (String × TypeId)}{B W:Nat→Prop}{N:Nat}(h:P.underlying t=some (.interface ms))(dd:Nat):Plo P B W N (Op.equalIn (dd+1) t .nilIface .nilIface):=by
 unfold Op.equalIn;exact Zf h trivial
theorem Zkl{t e:Nat}{p:Option Addr}{len cap:Nat}{B W:Nat→Prop}{N:Nat}(h:P.underlying t=some (.slice e))(dd:Nat):Plo P B W N (Op.equalIn (dd+1) t (.slice p len cap) Yt):=by
 unfold Op.equalIn;refine Zf h ?_;cases p<;>exact trivial
theorem Zc3{t t':Nat}{x y:Operand}{u v:Value}{b:Bool}(hx:ev ρ x=some u)(hy:ev ρ y=some v)(hg:∀w:World,(eqGuard .eql t x y u v).run P w=.ok () w)(hb:∀w,(Op.equal t u v).run P w=.ok b w)
  (hgp:∀B W N,Plo P B W N (eqGuard .eql t x y u v))(hp:∀B W N,Plo P B W N (Op.equal t u v))(hop:binOp .eql t u v=(do pure (.bool (← Op.equal t u v)))):QOp P ⟨d,.binOp .eql t x y t',ty,pos,af,g⟩ ρ L (.bool b):=
 Vi (fun ρe he N=>by
  refine Zbs ?_ ?_
  ·rw[he x (by simp[Op.operands]) _ hx,he y (by simp[Op.operands]) _ hy];exact hgp _ _ _
  ·rw[he x (by simp[Op.operands]) _ hx,he y (by simp[Op.operands]) _ hy,hop];exact Plo.bind (hp _ _ _) fun _=>trivial) fun ρe he k w hs=>by
  simp only[execOp,he x (by simp[Op.operands]) _ hx,he y (by simp[Op.operands]) _ hy]
  simp[hg w,hop,hb w]
theorem Za7{t t':Nat}{x y:Operand}{u v:Value}{b:Bool}(hx:ev ρ x=some u)(hy:ev ρ y=some v)(hg:∀w:World,(eqGuard .neq t x y u v).run P w=.ok () w)(hb:∀w,(Op.equal t u v).run P w=.ok b w)
  (hgp:∀B W N,Plo P B W N (eqGuard .neq t x y u v))(hp:∀B W N,Plo P B W N (Op.equal t u v))(hop:binOp .neq t u v=(do pure (.bool (!(← Op.equal t u v))))):QOp P ⟨d,.binOp .neq t x y t',ty,pos,af,g⟩ ρ L (.bool (!b)):=
 Vi (fun ρe he N=>by
  refine Zbs ?_ ?_
  ·rw[he x (by simp[Op.operands]) _ hx,he y (by simp[Op.operands]) _ hy];exact hgp _ _ _
  ·rw[he x (by simp[Op.operands]) _ hx,he y (by simp[Op.operands]) _ hy,hop];exact Plo.bind (hp _ _ _) fun _=>trivial) fun ρe he k w hs=>by
  simp only[execOp,he x (by simp[Op.operands]) _ hx,he y (by simp[Op.operands]) _ hy]
  simp[hg w,hop,hb w]
theorem q_eqlPn{t t':Nat}{ti:TyI}{x y:Operand}{p:Addr}(hx:ev ρ x=some (.pointer (some p)))(hy:ev ρ y=some (.pointer none))(ht:Yj S.ty t=some ti)(h4:ti.kind=4):QOp P ⟨d,.binOp .eql t x y t',ty,pos,af,g⟩ ρ L (.bool false):=
 Zc3 (b:=false) hx hy (fun w=>by simp[eqGuard]) (fun w=>Vq fun dd=>Zj7 (Ub (S.tyI ht) h4) dd w) (fun _ _ _=>trivial) (fun _ _ _=>Yk fun dd=>Zkk (Ub (S.tyI ht) h4) dd) rfl
theorem q_eqlPnn{t t':Nat}{ti:TyI}{x y:Operand}(hx:ev ρ x=some (.pointer none))(hy:ev ρ y=some (.pointer none))(ht:Yj S.ty t=some ti)(h4:ti.kind=4):QOp P ⟨d,.binOp .eql t x y t',ty,pos,af,g⟩ ρ L (.bool true):=
 Zc3 (b:=true) hx hy (fun w=>by simp[eqGuard]) (fun w=>Vq fun dd=>Zj7 (Ub (S.tyI ht) h4) dd w) (fun _ _ _=>trivial) (fun _ _ _=>Yk fun dd=>Zkk (Ub (S.tyI ht) h4) dd) rfl
theorem q_neqPn{t t':Nat}{ti:TyI}{x y:Operand}{p:Addr}(hx:ev ρ x=some (.pointer (some p)))(hy:ev ρ y=some (.pointer none))(ht:Yj S.ty t=some ti)(h4:ti.kind=4):QOp P ⟨d,.binOp .neq t x y t',ty,pos,af,g⟩ ρ L (.bool true):=
 Za7 (b:=false) hx hy (fun w=>by simp[eqGuard]) (fun w=>Vq fun dd=>Zj7 (Ub (S.tyI ht) h4) dd w) (fun _ _ _=>trivial) (fun _ _ _=>Yk fun dd=>Zkk (Ub (S.tyI ht) h4) dd) rfl
theorem q_neqPnn{t t':Nat}{ti:TyI}{x y:Operand}(hx:ev ρ x=some (.pointer none))(hy:ev ρ y=some (.pointer none))(ht:Yj S.ty t=some ti)(h4:ti.kind=4):QOp P ⟨d,.binOp .neq t x y t',ty,pos,af,g⟩ ρ L (.bool false):=
 Za7 (b:=true) hx hy (fun w=>by simp[eqGuard]) (fun w=>Vq fun dd=>Zj7 (Ub (S.tyI ht) h4) dd w) (fun _ _ _=>trivial) (fun _ _ _=>Yk fun dd=>Zkk (Ub (S.tyI ht) h4) dd) rfl
theorem Zho{t:Nat}{i:TyI}(h:tyI P t=some i)(hk:i.kind=9):∃ms,P.underlying t=some (.interface ms):=by
 obtain⟨d,j,hd,hj,he,hs,_⟩:=X8 h
 rw[hd]
 cases d<;>simp[Za1,hk]at he
 exact⟨_,rfl⟩
theorem q_eqlIn{t t' u:Nat}{ti:TyI}{x y:Operand}{v:Value}(hx:ev ρ x=some (.iface u v))(hy:ev ρ y=some .nilIface)(ht:Yj S.ty t=some ti)(h9:ti.kind=9):QOp P ⟨d,.binOp .eql t x y t',ty,pos,af,g⟩ ρ L (.bool false):=by
 obtain⟨ms,hms⟩:=Zho (S.tyI ht) h9
 exact Zc3 (b:=false) hx hy (fun w=>by simp[eqGuard]) (fun w=>Vq fun dd=>Zx5 hms dd w) (fun _ _ _=>trivial) (fun _ _ _=>Yk fun dd=>Zyx hms dd) rfl
theorem q_neqIn{t t' u:Nat}{ti:TyI}{x y:Operand}{v:Value}(hx:ev ρ x=some (.iface u v))(hy:ev ρ y=some .nilIface)(ht:Yj S.ty t=some ti)(h9:ti.kind=9):QOp P ⟨d,.binOp .neq t x y t',ty,pos,af,g⟩ ρ L (.bool true):=by
 obtain⟨ms,hms⟩:=Zho (S.tyI ht) h9
 exact Za7 (b:=false) hx hy (fun w=>by simp[eqGuard]) (fun w=>Vq fun dd=>Zx5 hms dd w) (fun _ _ _=>trivial) (fun _ _ _=>Yk fun dd=>Zyx hms dd) rfl
theorem q_eqlInn{t t':Nat}{ti:TyI}{x:Operand}(hx:ev ρ x=some .nilIface)(ht:Yj S.ty t=some ti)(h9:ti.kind=9):QOp P ⟨d,.binOp .eql t x (.const .nilIface) t',ty,pos,af,g⟩ ρ L (.bool true):=by
 obtain⟨ms,hms⟩:=Zho (S.tyI ht) h9
 exact Zc3 (b:=true) hx rfl (fun w=>by cases x<;>simp[eqGuard]) (fun w=>Vq fun dd=>Zr8 hms dd w) (fun _ _ _=>by cases x<;>exact trivial) (fun _ _ _=>Yk fun dd=>Ztk hms dd) rfl
theorem q_neqInn{t t':Nat}{ti:TyI}{x:Operand}(hx:ev ρ x=some .nilIface)(ht:Yj S.ty t=some ti)(h9:ti.kind=9):QOp P ⟨d,.binOp .neq t x (.const .nilIface) t',ty,pos,af,g⟩ ρ L (.bool false):=by
 obtain⟨ms,hms⟩:=Zho (S.tyI ht) h9
 exact Za7 (b:=true) hx rfl (fun w=>by cases x<;>simp[eqGuard]) (fun w=>Vq fun dd=>Zr8 hms dd w) (fun _ _ _=>by cases x<;>exact trivial) (fun _ _ _=>Yk fun dd=>Ztk hms dd) rfl
/-! lengths, parts -/
theorem q_lenS{t:Nat}{ti:TyI}{x:Operand}{a:Option Addr}{len cap:Nat}(hx:ev ρ x=some (.slice a len cap))(ht:Yj S.ty t=some ti)(h5:ti.kind=5):
  QOp P ⟨d,.call { callee:=.builtin .len,args:=#[x],argTypes:=#[t] },ty,pos,af,g⟩ ρ L (iv len):=
 Ws fun ρe he k w hs=>by
  have h1:=Z7 (S.tyI ht) h5
  simp[execOp,resolve,invoke,builtin,he x (by simp[Op.operands,Call.operands]) _ hx,Builtin.len_,Z2k h1,goInt]
theorem q_lenT{t:Nat}{ti:TyI}{x:Operand}{l:List UInt8}(hx:ev ρ x=some (bs l))(ht:Yj S.ty t=some ti)(h3:ti.kind=3):
  QOp P ⟨d,.call { callee:=.builtin .len,args:=#[x],argTypes:=#[t] },ty,pos,af,g⟩ ρ L (iv l.length):=
 Ws fun ρe he k w hs=>by
  have h1:=Qz (S.tyI ht) h3
  have h2:(Builtin.len_ #[t] ty #[bs l]).run P w=.ok (iv l.length) w:=by rw[run_len_string w t ty _ h1,Zcn];rfl
  simp[execOp,resolve,invoke,builtin,he x (by simp[Op.operands,Call.operands]) _ hx,h2]
theorem q_lenA{t len e s0 b0:Nat}{x:Operand}{v:Value}(hx:ev ρ x=some v)(ht:Yj S.ty t=some ⟨6,len,e,s0,b0⟩):
  QOp P ⟨d,.call { callee:=.builtin .len,args:=#[x],argTypes:=#[t] },ty,pos,af,g⟩ ρ L (iv len):=
 Ws fun ρe he k w hs=>by
  have h1:=Zm2 (S.tyI ht) rfl
  have h3:(Builtin.len_ #[t] ty #[ρe x]).run P w=.ok (iv len) w:=by
   simp[Builtin.len_,Z2k h1,goInt]
  simp[execOp,resolve,invoke,builtin,h3]
theorem q_max{ts:Array TypeId}{x y:Operand}{k:IntKind}{a b:Int}(hx:ev ρ x=some (.int k a))(hy:ev ρ y=some (.int k b)):
  QOp P ⟨d,.call { callee:=.builtin .max,args:=#[x,y],argTypes:=ts },ty,pos,af,g⟩ ρ L (.int k (max a b)):=
 Ws fun ρe he k w hs=>by
  have e:(if a<b then b else a)=max a b:=by simp only[Int.max_def];split<;>split<;>omega
  simp[execOp,resolve,invoke,builtin,he x (by simp[Op.operands,Call.operands]) _ hx,he y (by simp[Op.operands,Call.operands]) _ hy,run_max_int2,e]
theorem q_min{ts:Array TypeId}{x y:Operand}{k:IntKind}{a b:Int}(hx:ev ρ x=some (.int k a))(hy:ev ρ y=some (.int k b)):
  QOp P ⟨d,.call { callee:=.builtin .min,args:=#[x,y],argTypes:=ts },ty,pos,af,g⟩ ρ L (.int k (min a b)):=
 Ws fun ρe he k w hs=>by
  have e:(if b<a then b else a)=min a b:=by simp only[Int.min_def];split<;>split<;>omega
  simp[execOp,resolve,invoke,builtin,he x (by simp[Op.operands,Call.operands]) _ hx,he y (by simp[Op.operands,Call.operands]) _ hy,run_min_int2,e]
end q
theorem Xx{b:Nat}{o o':Obj}{c:List Zp}{L:Za}:Upd (((b,o)::c)::L) b o o' (((b,o')::c)::L):=⟨[],c++L.flatten,by simp,by simp⟩
theorem Zxk{b:Nat}{o o':Obj}{e:Zp}{c c':List Zp}{L L':Za}(h:Upd (c::L) b o o' (c'::L')):Upd ((e::c)::L) b o o' ((e::c')::L'):=by
 obtain⟨l,r,h1,h2⟩:=h
 simp only[Z17]at h1 h2
 exact⟨e::l,r,by simp[h1],by simp[h2]⟩
theorem Zeb{b:Nat}{o o':Obj}{c:List Zp}{L L':Za}(h:Upd L b o o' L'):Upd (c::L) b o o' (c::L'):=by
 obtain⟨l,r,h1,h2⟩:=h
 exact⟨c++l,r,by simp[h1],by simp[h2]⟩
theorem Upd.has{L L':Za}{b:Nat}{o o':Obj}(h:Upd L b o o' L'):Has L b o:=by
 obtain⟨l,r,h1,h2⟩:=h
 simp[Has,h1]
structure Nx(k:Zaz)(w:World)(L:Za)(w':World)(L':Za):Prop where
 sat:Sat k w' L'
 gr:Gr w.heap.size L L'
theorem Sat.id{k:Zaz}{w:World}{L:Za}(h:Sat k w L):Nx k w L w L:=⟨h,.refl _ _⟩
theorem Nx.wk{k:Zaz}{w w':World}{L L1 L':Za}(h:Nx k w L1 w' L')(hw:Wk L L1):Nx k w L w' L':=⟨h.sat,h.gr.wk hw⟩
theorem Nx.base{k:Zaz}{w w1 w':World}{L L1 L':Za}(h:Nx k w1 L1 w' L')(hw:Wk L L1)(he:w1.heap.size=w.heap.size:=by rfl):Nx k w L w' L':=⟨h.sat,by rw[← he];exact h.gr.wk hw⟩
theorem Wk.tl{c:List Zp}{L:Za}:Wk (c::L) L:=.ls (.of_sub (Yw (.cons _ (.refl _))))
theorem Upd.tok{L L':Za}{b:Nat}{o o':Obj}(h:Upd L b o o' L')(ho':gho o'=false):∀p∈L'.flatten,gho p.2=true→p∈L.flatten:=by
 obtain⟨l,r,e1,e2⟩:=h
 intro p hp hg
 rw[e2]at hp
 rw[e1]
 simp only[Z2f,Z2h]at hp ⊢
 rcases hp with hp|hp|hp
 ·exact .inl hp
 ·subst hp;simp only at hg;rw[ho']at hg;cases hg
 ·exact .inr (.inr hp)
theorem Upd.inW{L L':Za}{b:Nat}{o o':Obj}(h:Upd L b o o' L')(ho:Zet o=true):∀c,InW L' c→InW L c:=by
 obtain⟨l,r,e1,e2⟩:=h
 rintro c ⟨q,hq,hp⟩
 rw[e2]at hq
 simp only[Z2f,Z2h,Z3m]at hq
 rcases hq with hq|⟨rfl,rfl⟩|hq
 ·exact⟨q,by rw[e1];simp[hq],hp⟩
 ·exact⟨o,by rw[e1];simp,ho⟩
 ·exact⟨q,by rw[e1];simp[hq],hp⟩
theorem Upd.inB{L L':Za}{b:Nat}{o o':Obj}(h:Upd L b o o' L')(ho:Zet o=true):∀c,InB L' c→InB L c:=by
 obtain⟨l,r,e1,e2⟩:=h
 rintro c ⟨q,hq,hp⟩
 rw[e2]at hq
 simp only[Z2f,Z2h,Z3m]at hq
 rcases hq with hq|⟨rfl,rfl⟩|hq
 ·exact⟨q,by rw[e1];simp[hq],hp⟩
 ·exact⟨o,by rw[e1];simp,Zas ho⟩
 ·exact⟨q,by rw[e1];simp[hq],hp⟩
theorem Sat.upd{k:Zaz}{w w':World}{L L':Za}{b:Nat}{o o':Obj}(h:Sat k w L)(hu:Upd L b o o' L')(h1:w'.os=w.os)(h2:w'.output=w.output)(ht:w'.tape=w.tape)
  (h3:w'.heap[b]?=some o')(h4:∀j,j≠b→w'.heap[j]?=w.heap[j]?)(ho:Zet o=true:=by rfl)(ho':Zet o'=true:=by rfl)(hv':noView o'=true:=by rfl):Nx k w L w' L':=by
 have hu':=hu
 obtain⟨l,r,e1,e2⟩:=hu
 have hnd:=h.nodup
 have hh:=h.has
 rw[e1]at hnd hh
 simp only[Z20,Z2s]at hnd
 have hd:=Z4o.1 hnd
 have hd2:=Z3w.1 hd.2.1
 have hsz:w.heap.size≤w'.heap.size:=by
  rcases Z5x w'.heap.size w.heap.size with hlt|hge
  ·exfalso
   have hbl:b<w'.heap.size:=(Z2g.1 h3).1
   have:=h4 w'.heap.size (by omega)
   rw[Z3u (Z21 _),Z3x hlt]at this
   cases this
  ·exact hge
 refine⟨⟨h1.trans h.os,h2.trans h.out,ht.trans h.tape,?_,?_,?_,?_⟩,fun c hc=>.inl (hu'.inW ho c hc),fun c hc=>.inl (hu'.inB ho c hc),hu'.tok (Zas ho')⟩
 ·rw[e2]
  intro p hp hg
  rcases Z2f.1 hp with hp|hp
  ·rw[h4 p.1 (fun e=>hd.2.2 p.1 (Z5l hp) b (by simp) e)]
   exact hh p (Z2f.2 (.inl hp)) hg
  ·rcases Z2h.1 hp with hp|hp
   ·subst hp;rw[Zgm ho'];exact h3
   ·rw[h4 p.1 (fun e=>hd2.1 (e▸Z5l hp))]
    exact hh p (Z2f.2 (.inr (Z2h.2 (.inr hp)))) hg
 ·rw[e2]
  simpa using hnd
 ·rw[e2]
  intro p hp
  rcases Z2f.1 hp with hp|hp
  ·exact h.nv p (by rw[e1];simp[hp])
  ·rcases Z2h.1 hp with hp|hp
   ·subst hp;exact hv'
   ·exact h.nv p (by rw[e1];simp[hp])
 ·rw[e2]
  intro p hp
  refine Z3k ?_ hsz
  rcases Z2f.1 hp with hp|hp
  ·exact h.lt p (by rw[e1];simp[hp])
  ·rcases Z2h.1 hp with hp|hp
   ·subst hp;exact h.lt (b,o) (by rw[e1];simp)
   ·exact h.lt p (by rw[e1];simp[hp])
theorem Sat.new{k:Zaz}{w:World}{L:Za}(h:Sat k w L)(o:Obj)(ho:Zet o=true:=by rfl)(hv:noView o=true:=by rfl):Nx k w L (w.alloc o) ([(w.heap.size,o)]::L):=by
 refine⟨⟨h.os,h.out,h.tape,fun p hp hg=>?_,?_,fun p hp=>?_,fun p hp=>?_⟩,fun c hc=>?_,fun c hc=>?_,fun p hp hg=>?_⟩
 ·simp only[Z17,Z19,Z2b,Z2h]at hp
  rcases hp with hp|hp
  ·subst hp;rw[Zgm ho];exact heap_alloc_new w o
  ·rw[Go.heap_alloc_old w o (h.lt p hp)]
   exact h.has p hp hg
 ·simp only[Z17,Z19,Z2b,Z2s,Z3w]
  refine⟨fun hm=>?_,h.nodup⟩
  obtain⟨p,hp,e⟩:=Z2v.1 hm
  have:=h.lt p hp
  omega
 ·simp only[Z17,Z19,Z2b,Z2h]at hp
  rcases hp with rfl|hp
  ·exact hv
  ·exact h.nv p hp
 ·simp only[Z17,Z19,Z2b,Z2h]at hp
  rw[World.size_alloc]
  rcases hp with rfl|hp
  ·exact Nat.lt_succ_self _
  ·exact Nat.lt_succ_of_lt (h.lt p hp)
 ·obtain⟨q,hq,hp⟩:=hc
  simp only[Z17,Z19,Z2b,Z2h,Z3m]at hq
  rcases hq with⟨rfl,rfl⟩|hq
  ·exact .inr (Z21 _)
  ·exact .inl ⟨q,hq,hp⟩
 ·obtain⟨q,hq,hp⟩:=hc
  simp only[Z17,Z19,Z2b,Z2h,Z3m]at hq
  rcases hq with⟨rfl,rfl⟩|hq
  ·exact .inr (Z21 _)
  ·exact .inl ⟨q,hq,hp⟩
 ·simp only[Z17,Z19,Z2b,Z2h]at hp
  rcases hp with rfl|hp
  ·simp only at hg;rw[Zas ho]at hg;cases hg
  ·exact hp
theorem Sat.drew{k:Zaz}{w:World}{L:Za}(h:Sat k w L):Sat k w.drew L:=⟨h.os,h.out,h.tape,h.has,h.nodup,h.nv,h.lt⟩
def Zbd:List Value→Nat→List Value→List Value
 | l,_,[]=>l
 | l,i,v::r=>Zbd (l.set i v) (i+1) r
def Yi(l:List Value)(i:Nat)(vs l':List Value):Prop:=l'=Zbd l i vs∧i+vs.length≤l.length
theorem Wz{l:List Value}{i:Nat}{v:Value}(h:i<l.length):Yi l i [v] (l.set i v):=⟨rfl,by simp;omega⟩
theorem Zeu{x v:Value}{l:List Value}:Yi (x::l) 0 [v] (v::l):=⟨by simp[Zbd],by simp⟩
theorem Zc9(vs:List Value):∀(x:Value) (l:List Value) (i:Nat),Zbd (x::l) (i+1) vs=x::Zbd l i vs:=by
 induction vs with
 | nil=>intro x l i;rfl
 | cons v r ih=>intro x l i;simp[Zbd,ih]
theorem Zcc{x:Value}{l vs l':List Value}{i:Nat}(h:Yi l i vs l'):Yi (x::l) (i+1) vs (x::l'):=by
 obtain⟨h1,h2⟩:=h
 exact⟨by rw[Zc9,h1],by simp;omega⟩
theorem Z1o(vs:List Value):∀(l:List Value),l.length=vs.length→Zbd l 0 vs=vs:=by
 induction vs with
 | nil=>intro l h;simpa[Zbd] using h
 | cons v r ih=>
  intro l h
  match l,h with
  | x::l,h=>
   simp only[Zbd,Z6f]
   rw[Zc9,ih l (by simpa using h)]
theorem Ztw{l vs:List Value}(h:l.length=vs.length):Yi l 0 vs vs:=⟨(Z1o vs l h).symm,by omega⟩
theorem Zhk(vs:List Value):∀(l r:List Value),l.length=vs.length→Zbd (l++r) 0 vs=vs++r:=by
  induction vs with
  | nil => intro l r h;have:l=[]:=by simpa using h
           subst this;simp[Zbd]
  | cons v vs ih=>
    intro l r h
    match l,h with
    | x::l,h=>
      simp only[Zbd,Z19,Z6f]
      rw[Zc9,ih l r (by simpa using h)]
theorem Zwq{l r vs:List Value}(h:l.length=vs.length):Yi (l++r) 0 vs (vs++r):=⟨(Zhk vs l r h).symm,by simp;omega⟩
theorem Zra{w:World}{b:Nat}{l:List Value}{E:Nat}{fr:Nat × Nat}(h:w.heap[b]?=some (.cells ⟨l⟩ E fr))(j:Nat)(v:Value):
  (w.setCell ⟨b,j,none⟩ v).heap[b]?=some (.cells ⟨l.set j v⟩ E fr):=by
 have hb:=(Z2g.1 h).1
 have h':=(Z2g.1 h).2
 simp only[World.setCell,Z33,h,Z42,Z4d]
 simp
theorem Zc7{P:Program}{k:Zaz}{b E:Nat}{fr:Nat × Nat}(vs:List Value):∀(i0 i:Nat) (l:List Value) (w:World),
  w.heap[b]?=some (.cells ⟨l⟩ E fr)→(fr=(0,0))→i0+i+vs.length≤l.length→(∀v∈vs,v.oneCell'=true)→
  ∃w',(storeCells ⟨b,i0,none⟩ vs i).run P w=.ok () w'∧w'.os=w.os∧w'.output=w.output∧w'.tape=w.tape∧w'.heap[b]?=some (.cells ⟨Zbd l (i0+i) vs⟩ E fr)∧∀j,j≠b→w'.heap[j]?=w.heap[j]?:=by
 induction vs with
 | nil=>intro i0 i l w hb hf hl hc;exact⟨w,by simp[storeCells],rfl,rfl,rfl,hb,fun _ _=>rfl⟩
 | cons v r ih=>
  intro i0 i l w hb hf hl hc
  simp only[Z2y]at hl
  have hcell:w.cell? ⟨b,i0+i,none⟩=some (l[i0+i]'(by omega)):=by
   rw[cell_of_row w b _ ⟨l⟩ E fr hb]
   simp
  have hfz:w.frozen? ⟨b,i0+i,none⟩=false:=by
   subst hf
   exact frozen_of_row w b _ ⟨l⟩ E hb
  have hst:(store (Addr.mk b (i0+i) none) v).run P w=.ok () (w.setCell ⟨b,i0+i,none⟩ v):=by
   rw[run_store P w _ v _ (hc v (by simp))]
   simp[hcell,hfz]
  have hb':=Zra hb (i0+i) v
  obtain⟨w',h1,h2,h3,ht,h4,h5⟩:=ih i0 (i+1) (l.set (i0+i) v) (w.setCell ⟨b,i0+i,none⟩ v) hb' hf (by simp;omega) (fun u hu=>hc u (by simp[hu]))
  refine⟨w',?_,h2,h3,ht,?_,fun j hj=>?_⟩
  ·simp only[storeCells,Vp]
   simp[hst,h1]
  ·rw[h4]
   simp only[Zbd]
   rw[show i0+(i+1)=i0+i+1 by omega]
  ·rw[h5 j hj]
   exact heap_setCell_other w _ j v hj
section o
variable{P:Program}(S:Tab P){n:Nat}{ops:List Oper}{Q:Exit→Z9→Za→Prop}{rest:List Oper}{ρ:Z9}{L:Za}{ty:TypeId}{pos:String}{af:Array Edge}
theorem Ut{o:Oper}{d:Nat}(hg:o.guard=none)(hd:o.dst=some d)(hn:Nat.blt d n=true)
  (h:∀(ρe:Operand→Value),(∀x∈o.op.operands,∀u,ev ρ x=some u→ρe x=u)→∀k w,Sat k w L→∃v w' L',(execOp ρe o).run P w=.ok (.value v) w'∧Nx k w L w' L'∧HO P n ops Q rest ((d,v)::ρ) L')
  (hp:∀(ρe:Operand→Value),(∀x∈o.op.operands,∀u,ev ρ x=some u→ρe x=u)→∀N,Plo P (InB L) (InW L) N (execOp ρe o):=by exact fun e _ _=>pl_op e _ rfl):HO P n ops Q (o::rest) ρ L:=
 Zb4 (fun a _=>Yv o hg _) fun a ha=>.plain fun k w hs=>by
  obtain⟨v,w',L',hr,hs',hK⟩:=h a.eval (fun x _ u hu=>ha.ev hu) k w hs
  refine⟨_,v,w',L',hr,.inl rfl,Zm0 hs (hp a.eval (fun x _ u hu=>ha.ev hu) _) (fun w2 hs2=>?_) hr hs'.gr,hs'.sat,_,by rw[hd];exact ha.put (Z2m hn) v,hK⟩
  obtain⟨v2,w2',_,hr2,_⟩:=h a.eval (fun x _ u hu=>ha.ev hu) k w2 hs2
  exact⟨_,w2',hr2⟩
theorem ho_do{o:Oper}(hg:o.guard=none)(hd:o.dst=none)
  (h:∀(ρe:Operand→Value),(∀x∈o.op.operands,∀u,ev ρ x=some u→ρe x=u)→∀k w,Sat k w L→∃w' L',((execOp ρe o).run P w=.ok .skip w'∨∃v,(execOp ρe o).run P w=.ok (.value v) w')∧Nx k w L w' L'∧HO P n ops Q rest ρ L')
  (hp:∀(ρe:Operand→Value),(∀x∈o.op.operands,∀u,ev ρ x=some u→ρe x=u)→∀N,Plo P (InB L) (InW L) N (execOp ρe o):=by exact fun e _ _=>pl_op e _ rfl):HO P n ops Q (o::rest) ρ L:=
 Zb4 (fun a _=>Yv o hg _) fun a ha=>.plain fun k w hs=>by
  obtain⟨w',L',hr,hs',hK⟩:=h a.eval (fun x _ u hu=>ha.ev hu) k w hs
  have hok:∀w2,Sat k w2 L→∃v w',(execOp a.eval o).run P w2=.ok v w':=fun w2 hs2=>by
   obtain⟨w2',_,hr2,_⟩:=h a.eval (fun x _ u hu=>ha.ev hu) k w2 hs2
   rcases hr2 with hr2|⟨v,hr2⟩<;>exact⟨_,w2',hr2⟩
  rcases hr with hr|⟨v,hr⟩
  ·exact⟨_,undef,w',L',hr,.inr ⟨rfl,rfl⟩,Zm0 hs (hp a.eval (fun x _ u hu=>ha.ev hu) _) hok hr hs'.gr,hs'.sat,ρ,by rw[hd];exact ha.none _,hK⟩
  ·exact⟨_,v,w',L',hr,.inl rfl,Zm0 hs (hp a.eval (fun x _ u hu=>ha.ev hu) _) hok hr hs'.gr,hs'.sat,ρ,by rw[hd];exact ha.none _,hK⟩
theorem o_alloc{d E:Nat}{z:Value}{zs:List Value}(hz:Yj S.zr E=some z)(hc:z.cells=⟨zs⟩)(hn:Nat.blt d n=true)
  (h:∀b,HO P n ops Q rest ((d,pt b 0)::ρ) ([(b,.cells ⟨zs⟩ E)]::L)):HO P n ops Q (⟨some d,.alloc E,ty,pos,af,none⟩::rest) ρ L:=
 Ut rfl rfl hn fun ρe he k w hs=>⟨pt w.heap.size 0,w.alloc (.cells ⟨zs⟩ E),_,by
  have h1:=Zbe (S.zeroI hz) w
  simp[execOp,Instr.alloc,h1,newVar,newRow,hc],hs.new _,h _⟩
theorem o_box{d E:Nat}{x:Operand}{v:Value}{vs:List Value}(hx:ev ρ x=some v)(hc:v.cells=⟨vs⟩)(hn:Nat.blt d n=true)
  (h:∀b,HO P n ops Q rest ((d,pt b 0)::ρ) ([(b,.cells ⟨vs⟩ E)]::L)):HO P n ops Q (⟨some d,.box E x,ty,pos,af,none⟩::rest) ρ L:=
 Ut rfl rfl hn fun ρe he k w hs=>⟨pt w.heap.size 0,w.alloc (.cells ⟨vs⟩ E),_,by
  simp[execOp,Instr.box,he x (by simp[Op.operands]) _ hx,newVar,newRow,hc],hs.new _,h _⟩
theorem o_store{t b i E:Nat}{ti:TyI}{x y:Operand}{v:Value}{vs l l':List Value}{L':Za}(hx:ev ρ x=some (pt b i))(hy:ev ρ y=some v)(ht:Yj S.ty t=some ti)
  (hc:v.cells=⟨vs⟩)(hsz:ti.size=vs.length)(h1:(vs.all Value.oneCell')=true)(hp:Yi l i vs l')(hu:Upd L b (.cells ⟨l⟩ E (0,0)) (.cells ⟨l'⟩ E (0,0)) L')
  (h:HO P n ops Q rest ρ L'):HO P n ops Q (⟨none,.store t x y,ty,pos,af,none⟩::rest) ρ L:=
 ho_do rfl rfl (fun ρe he k w hs=>by
  obtain⟨hp1,hp2⟩:=hp
  obtain⟨w',e1,e2,e3,et,e4,e5⟩:=Zc7 (P:=P) (k:=k) vs i 0 l w (hs.heap hu.has) rfl (by simpa using hp2) (fun v hv=>Z2u.1 h1 v hv)
  refine⟨w',L',.inl ?_,hs.upd hu e2 e3 et (by rw[e4,hp1,Z4t]) e5,h⟩
  have h2:=X9 (S.tyI ht) w
  have h3:v.cells.size=vs.length:=by rw[hc];rfl
  have h4:v.cells.toList=vs:=by rw[hc]
  simp[execOp,Instr.storeAt,he x (by simp[Op.operands]) _ hx,he y (by simp[Op.operands]) _ hy,Instr.sureAddr,storeVar,h2,h3,hsz,h4,e1]) fun ρe he N=>by
  simp only[execOp,he x (by simp[Op.operands]) _ hx]
  exact(Plo.bind (Ztq (.inl (⟨_,hu.has,rfl⟩:InW L b))) fun _=>trivial:Plo P _ (InW L) _ (storeVar t ⟨b,i,none⟩ (ρe y) >>= fun _=>pure Next.skip))
/-! ### calls -/
theorem Zgw{l:List Operand}{ρe:Operand→Value}:∀{us:List Value},(∀x∈l,∀u,ev ρ x=some u→ρe x=u)→evs ρ l=some us→l.map ρe=us:=by
 induction l with
 | nil=>intro us _ h;simp[evs]at h;simp[← h]
 | cons x r ih=>
  intro us hl h
  simp only[evs]at h
  cases hx:ev ρ x with
  | none=>simp[hx]at h
  | some u=>
   cases hr:evs ρ r with
   | none=>simp[hx,hr]at h
   | some us'=>
    simp[hx,hr]at h
    rw[Z2s,hl x (by simp) u hx,ih (fun y hy=>hl y (by simp[hy])) hr]
    exact h
theorem Zk5{f:Operand}{as9:Array Operand}{ts:Array TypeId}{o:Oper}{ρe:Operand→Value}{F:Nat}{cap args:List Value}(hf:ev ρ f=some (.func (.func F) #[] ⟨cap⟩))(ha:evs ρ as9.toList=some args)
  (he:∀x∈(Op.call { callee:=.value f,args:=as9,argTypes:=ts }).operands,∀u,ev ρ x=some u→ρe x=u)(hop:o.op=.call { callee:=.value f,args:=as9,argTypes:=ts })(hen:Enters P F)(w:World):
  (execOp ρe o).run P w=.ok (.enter F ⟨args++cap⟩) w:=by
 have e1:ρe f=.func (.func F) #[] ⟨cap⟩:=he f (by simp[Op.operands,Call.operands]) _ hf
 have e2:as9.map ρe=⟨args⟩:=by
  have:=Zgw (l:=as9.toList) (ρe:=ρe) (fun x hx u hu=>he x (by simp[Op.operands,Call.operands];exact .inr (Z25.1 hx)) u hu) ha
  apply Z4r.1
  simpa using this
 have e3:=hen.run ⟨args++cap⟩ w
 simp only[execOp,hop,resolve,e1,e2]
 simp[Deferred.ofValue,invoke,e3]
theorem call_pl{f:Operand}{as9:Array Operand}{ts:Array TypeId}{o:Oper}{ρe:Operand→Value}{F:Nat}{cap args:List Value}(hf:ev ρ f=some (.func (.func F) #[] ⟨cap⟩))(ha:evs ρ as9.toList=some args)
  (he:∀x∈(Op.call { callee:=.value f,args:=as9,argTypes:=ts }).operands,∀u,ev ρ x=some u→ρe x=u)(hop:o.op=.call { callee:=.value f,args:=as9,argTypes:=ts })(hen:Enters P F)(B W:Nat→Prop)(N:Nat):
  Plo P B W N (execOp ρe o):=by
 have e1:ρe f=.func (.func F) #[] ⟨cap⟩:=he f (by simp[Op.operands,Call.operands]) _ hf
 simp only[execOp,hop,resolve,e1,Deferred.ofValue]
 exact hen.pl _ B W N
theorem Zr3{f:Operand}{as9:Array Operand}{ts:Array TypeId}{o:Oper}{ρe:Operand→Value}{F:Nat}{cap args:List Value}{R:Value→Za→Prop}(hf:ev ρ f=some (.func (.func F) #[] ⟨cap⟩))(ha:evs ρ as9.toList=some args)
  (he:∀x∈(Op.call { callee:=.value f,args:=as9,argTypes:=ts }).operands,∀u,ev ρ x=some u→ρe x=u)(hop:o.op=.call { callee:=.value f,args:=as9,argTypes:=ts })(hc:HC P F (args++cap) L R):OpW P o ρe L R:=
 .call F (args++cap) (fun k w hs=>⟨Zk5 hf ha he hop hc.1 w,Zm0 hs (call_pl hf ha he hop hc.1 _ _ _) (fun w2 hs2=>⟨_,w2,Zk5 hf ha he hop hc.1 w2⟩) (Zk5 hf ha he hop hc.1 w) (.refl _ _)⟩) hc
theorem q_call{d:Option Tmp}{g:Option (Nat × Bool)}{f:Operand}{as9:Array Operand}{ts:Array TypeId}{F:Nat}{cap args:List Value}{v:Value}(hf:ev ρ f=some (.func (.func F) #[] ⟨cap⟩))(ha:evs ρ as9.toList=some args)
  (hc:HC P F (args++cap) L (fun u L'=>u=v∧L'=L)):QOp P ⟨d,.call { callee:=.value f,args:=as9,argTypes:=ts },ty,pos,af,g⟩ ρ L v:=by
 intro e he
 exact Zr3 hf ha he rfl hc
theorem o_call{d:Nat}{f:Operand}{as9:Array Operand}{ts:Array TypeId}{F:Nat}{cap args:List Value}{R:Value→Za→Prop}(hf:ev ρ f=some (.func (.func F) #[] ⟨cap⟩))(ha:evs ρ as9.toList=some args)
  (hc:HC P F (args++cap) L R)(hn:Nat.blt d n=true)(h:∀v L',R v L'→HO P n ops Q rest ((d,v)::ρ) L'):HO P n ops Q (⟨some d,.call { callee:=.value f,args:=as9,argTypes:=ts },ty,pos,af,none⟩::rest) ρ L:=by
 exact Zb4 (fun a _=>Yv _ rfl _) fun a haa=>(Zr3 hf ha (fun x _ u hu=>haa.ev hu) rfl hc).mono fun v L' hv=>⟨_,haa.put (Z2m hn) v,h v L' hv⟩
theorem Zx8:∀{l:List Oper} {ρ:Z9} {L L':Za},HO P n ops Q l ρ L'→LS L'.flatten L.flatten→HO P n ops Q l ρ L
 | [],ρ,L,L',h,hw=>let ⟨L2,h1,h2⟩:=h;⟨L2,h1.trans hw,h2⟩
 | o::l,ρ,L,L',h,hw=>Zep fun a ha=>by
  have h1:=Zav h a ha
  split
  ·rename_i hq;rw[Z2d hq]at h1;exact h1.wk (.ls hw)
  ·rename_i hq;rw[Z16 hq]at h1;obtain⟨ρ',h2,h3⟩:=h1;exact⟨ρ',h2,Zx8 h3 hw⟩
theorem ho_perm{l:List Oper}{L':Za}(h:HO P n ops Q l ρ L')(hs:List.Perm L L'):HO P n ops Q l ρ L:=Zx8 h (.of_perm hs.symm.flatten)
end o
/-! ### whatever order is picked -/
section any
variable{P:Program}{ops:Array Oper}{md:Region.Mode}
theorem OpW.congr{o o':Oper}{e e':Operand→Value}{L:Za}{R:Value→Za→Prop}(he:execOp e' o'=execOp e o)(h:OpW P o e L R)(hop:o'.op=o.op:=by rfl):OpW P o' e' L R:=by
 cases h with
 | plain h=>exact .plain (by rw[he];exact h)
 | call f args h1 h2=>exact .call f args (by rw[he];exact h1) h2
 | raw h=>exact .raw fun main Φ b k cs a ops i is o2 h1 h2 h3 h4 h5 h6=>h main Φ b k cs a ops i is o2 (h1.trans he) (h2.trans hop) h3 h4 h5 h6
def KOp(P:Program)(ops:Array Oper)(i:Nat)(K:Act→Za→Prop)(a:Act)(L:Za):Prop:=
 match ops[i]? with
 | none=>K a L
 | some o=>if Region.wanted o (yielded ops a.tmps)=true then OpW P o a.eval L (fun v L'=>K (a.put o.dst v) L') else K (a.put o.dst undef) L
def Zru(P:Program)(ops:Array Oper)(Q:Act→Za→Prop):List Nat→Act→Za→Prop
 | [],a,L=>Q a L
 | i::is,a,L=>KOp P ops i (Zru P ops Q is) a L
def KAny(P:Program)(md:Region.Mode)(ops:Array Oper)(Q:Act→Za→Prop):Nat→Array Bool→Act→Za→Prop
 | 0,l,a,L=>Region.ready md ops l=[]∧Q a L
 | f+1,l,a,L=>(Region.ready md ops l=[]→Q a L)∧∀i∈Region.ready md ops l,KOp P ops i (KAny P md ops Q f (l.setIfInBounds i true)) a L
theorem KOp.mono{i:Nat}{a:Act}{L:Za}{K K':Act→Za→Prop}(h:∀a L,K a L→K' a L)(hh:KOp P ops i K a L):KOp P ops i K' a L:=by
 unfold KOp at*
 split
 ·exact h _ _ (by simpa[*] using hh)
 ·rename_i o ho
  simp only[ho]at hh
  split
  ·rename_i hw;rw[Z2d hw]at hh;exact hh.mono fun v L'=>h _ _
  ·rename_i hw;rw[Z16 hw]at hh;exact h _ _ hh
theorem KAny.sound{Q:Act→Za→Prop}:∀(f t:Nat) (l:Array Bool) (a:Act) (L:Za),KAny P md ops Q f l a L→Zru P ops Q (Region.linearise.go md ops f t l []) a L:=by
 intro f
 induction f with
 | zero=>intro t l a L h;simpa[Region.linearise.go,Zru] using h.2
 | succ f ih=>
  intro t l a L h
  obtain⟨h₀,h₁⟩:=h
  simp only[Region.linearise.go]
  change Zru P ops Q (match (Region.ready md ops l)[t % (Region.ready md ops l).length]? with
   | some i=>Region.linearise.go md ops f (t / (Region.ready md ops l).length) (l.setIfInBounds i true) [i]
   | none=>[].reverse) a L
  cases hi:(Region.ready md ops l)[t % (Region.ready md ops l).length]? with
  | none=>
   have hnil:Region.ready md ops l=[]:=by
    cases hr:Region.ready md ops l with
    | nil=>rfl
    | cons x xs=>
     rw[hr]at hi
     have hlt:t % (x::xs).length<(x::xs).length:=Z7a _ (by simp)
     simp at hi
     simp at hlt
     omega
   simpa[Zru] using h₀ hnil
  | some i=>
   simp only[]
   rw[linearise_go_acc,List.reverse_singleton,List.singleton_append]
   exact KOp.mono (fun a L=>ih _ _ a L) (h₁ i (Z3a hi))
theorem Zeq{Q:Act→Za→Prop}:∀(is:List Nat) (a:Act) (L:Za),Zru P ops Q is a L→∀(main:Bool) (Φ:Goroutine→Za→Prop) (b:Frame) (k:List Item) (cs:List Frame),b.kind≠.early→
  (∀a' L',Q a' L'→a'.defers=a.defers→Lo P main Φ (Conc.G (b.at a' k) cs) L')→Lo P main Φ (Conc.G (b.at a (.inRegion ops is::k)) cs) L
 | [],a,L,h,main,Φ,b,k,cs,hb,hc=>.ctl rfl rfl (fun w=>Z51) (hc a L h rfl)
 | i :: is,a,L,h,main,Φ,b,k,cs,hb,hc=>by
  have hd:∀(d:Option Nat) v,(a.put d v).defers=a.defers:=fun d v=>by cases d<;>rfl
  simp only[Zru,KOp]at h
  split at h
  ·rename_i ho
   refine .ctl (g':=Conc.G (b.at a (.inRegion ops is::k)) cs) rfl rfl (fun w=>?_) (Zeq is a L h main Φ b k cs hb hc)
   have hf:(b.at a (.inRegion ops (i::is)::k)).finish undef=b.at a (.inRegion ops is::k):=by rw[Z4p,ho];rfl
   rw[← hf]
   simp[Conc.G,stepG,stepG.exec,Frame.at,ho]
  ·rename_i o ho
   split at h
   ·rename_i hw
    cases h with
    | plain h2=>
     refine .own (fun g' L'=>∃v,g'=Conc.G (b.at (a.put o.dst v) (.inRegion ops is::k)) cs∧Zru P ops Q is (a.put o.dst v) L') rfl (fun kk w hs=>?_) ?_
     ·obtain⟨nx,v,w',L',e1,e2,e3,e4,e5⟩:=h2 kk w hs
      refine⟨_,w',_,L',?_,rfl,e3.seen (P:=P) (fn:=b.fn),Za5,e4,v,rfl,e5⟩
      rcases e2 with rfl|⟨rfl,rfl⟩
      ·exact Z54 ho hw hb e1
      ·exact Conc.stepG_none ho hw hb e1
     ·rintro g' L' ⟨v,rfl,h3⟩
      exact Zeq is _ L' h3 main Φ b k cs hb (by rw[hd];exact hc)
    | call f args h2 h3=>
     refine .own (fun g' L'=>g'=Conc.G (Frame.enter P f ⟨args⟩ .normal) (b.at a (.inRegion ops (i::is)::k)::cs)∧L'=L) rfl (fun kk w hs=>?_) ?_
     ·obtain⟨e1,e2⟩:=h2 kk w hs
      exact⟨_,w,_,L,Conc.stepG_enter ho hw hb e1,rfl,e2.seen (P:=P) (fn:=b.fn),Za5,hs,rfl,rfl⟩
     ·rintro _ _ ⟨rfl,rfl⟩
      refine h3.2 main Φ _ cs fun v L' e6=>?_
      rw[Z4p,ho]
      exact Zeq is (a.put o.dst v) L' e6 main Φ b k cs hb (by rw[hd];exact hc)
    | raw h2=>
     refine h2 main Φ b k cs a ops i is o rfl rfl ho hw hb fun v L' e6=>?_
     exact Zeq is (a.put o.dst v) L' e6 main Φ b k cs hb (by rw[hd];exact hc)
   ·rename_i hw
    refine .ctl rfl rfl (fun w=>Conc.stepG_unwanted ho (by simpa using hw)) ?_
    exact Zeq is _ L h main Φ b k cs hb (by rw[hd];exact hc)
theorem Zuo{main:Bool}{b:Frame}{a:Act}{k:List Item}{cs:List Frame}{w:World}{id:Nat}:
  stepG P main (Conc.G (b.at a (.code (.region id ops true)::k)) cs) w=.go (Conc.G (b.at a (.inRegion ops (Region.schedule (P.follows .mixedOrders) ops (w.tape w.drawn (.order b.fn id)))::k)) cs) w.drew #[]:=by
 simp[Conc.G,stepG,stepG.exec,Frame.at,choose,Sem.run,Question.forced,Question.cut]
theorem hw_any{n id:Nat}{Q:Exit→Z9→Za→Prop}{ρ:Z9}{L:Za}(hm:P.follows .mixedOrders=true)(h:∀a,Agr n a ρ→KAny P .any ops (fun a' L'=>∃ρ' L2,Agr n a' ρ'∧Wk L' L2∧Q .normal ρ' L2) ops.size (Array.replicate ops.size false) a L):
  HW P n (.region id ops true) Q ρ L:=fun main Φ b k cs a hb hc ha=>by
 refine .own (fun g' L'=>∃t,g'=Conc.G (b.at a (.inRegion ops (Region.linearise .any ops t)::k)) cs∧L'=L) rfl (fun kk w hs=>?_) ?_
 ·refine⟨_,w.drew,#[],L,Zuo,rfl,⟨Z21 _,fun _ _ _=>rfl,.refl _ _,fun e he=>by simp at he⟩,Zkf,⟨hs.os,hs.out,hs.tape,hs.has,hs.nodup,hs.nv,hs.lt⟩,w.tape w.drawn (.order b.fn id),?_,rfl⟩
  simp only[Region.schedule,hm,Bool.true_or,Z4d]
 ·rintro _ _ ⟨t,rfl,rfl⟩
  exact Zeq _ a _ (KAny.sound _ t _ a _ (h a ha)) main Φ b k cs hb fun a' L2 ⟨ρ',L3,h1,h2,h3⟩ hd=>.weak h2 (hc _ _ _ h3 a' hd h1)
end any
section draw
variable{P:Program}{n:Nat}{ops:List Oper}{K:Z9→Prop}{rest:List Oper}{o:Oper}{ρ:Z9}{L:Za}
/-! ### operations that leave the blocks: the text's order serves every order -/
def Qt(P:Program)(o:Oper)(a:Act)(L:Za)(v:Value):Prop:=OpW P o a.eval L (fun u L'=>u=v∧L'=L)
def Zf3(P:Program)(ops:Array Oper)(L:Za)(Q:Act→Prop):List Oper→Act→Prop
 | [],a=>Q a
 | o::rest,a=>if Region.wanted o (yielded ops a.tmps)=true then ∃v,Qt P o a L v∧Zf3 P ops L Q rest (a.put o.dst v) else Zf3 P ops L Q rest (a.put o.dst undef)
def kOp(P:Program)(ops:Array Oper)(L:Za)(i:Nat)(K:Act→Prop)(a:Act):Prop:=
 match ops[i]? with
 | none=>K a
 | some o=>if Region.wanted o (yielded ops a.tmps)=true then ∃v,Qt P o a L v∧K (a.put o.dst v) else K (a.put o.dst undef)
theorem kOp_mono{ops:Array Oper}{i:Nat}{a:Act}{K K':Act→Prop}(h:∀a,K a→K' a)(hh:kOp P ops L i K a):kOp P ops L i K' a:=by
 unfold kOp at*
 split
 ·exact h _ (by simpa[*] using hh)
 ·rename_i o ho
  simp only[ho]at hh
  split
  ·rename_i hw;rw[Z2d hw]at hh;obtain⟨v,h1,h2⟩:=hh;exact⟨v,h1,h _ h2⟩
  ·rename_i hw;rw[Z16 hw]at hh;exact h _ hh
def Zsw(P:Program)(md:Region.Mode)(ops:Array Oper)(L:Za)(Q:Act→Prop):Nat→Array Bool→Act→Prop
 | 0,l,a=>Region.ready md ops l=[]∧Q a
 | f+1,l,a=>(Region.ready md ops l=[]→Q a)∧∀i∈Region.ready md ops l,kOp P ops L i (Zsw P md ops L Q f (l.setIfInBounds i true)) a
theorem Q1{ops:Array Oper}{md:Region.Mode}{Q:Act→Prop}{Q':Act→Za→Prop}(hQ:∀a,Q a→Q' a L):∀(f:Nat) (l:Array Bool) (a:Act),Zsw P md ops L Q f l a→KAny P md ops Q' f l a L
 | 0,_,_,h=>⟨h.1,hQ _ h.2⟩
 | f+1,l,a,h=>⟨fun h0=>hQ _ (h.1 h0),fun i hi=>by
  have h1:=h.2 i hi
  unfold kOp at h1
  unfold KOp
  split
  ·rename_i ho;simp only[ho]at h1;exact Q1 hQ f _ _ h1
  ·rename_i o ho
   simp only[ho]at h1
   split
   ·rename_i hw
    rw[Z2d hw]at h1
    obtain⟨v,h2,h3⟩:=h1
    exact OpW.mono h2 fun u L' ⟨e1,e2⟩=>by rw[e1,e2];exact Q1 hQ f _ _ h3
   ·rename_i hw
    rw[Z16 hw]at h1
    exact Q1 hQ f _ _ h1⟩
def YieldsK(P:Program)(ops:Array Oper)(L:Za)(o:Oper)(v:Value)(a:Act):Prop:=
 (Region.wanted o (yielded ops a.tmps)=true∧Qt P o a L v)∨(Region.wanted o (yielded ops a.tmps)=false∧v=undef)
theorem YieldsK.kOp{ops:Array Oper}{i:Nat}{o:Oper}{v:Value}{a:Act}(hi:ops[i]?=some o)(hy:YieldsK P ops L o v a){K:Act→Prop}(h:K (a.put o.dst v)):kOp P ops L i K a:=by
 unfold HL.kOp
 simp only[hi]
 rcases hy with⟨hw,hv⟩|⟨hw,rfl⟩
 ·rw[Z2d hw];exact⟨v,hv,h⟩
 ·rw[Z16 (by rw[hw];simp)];exact h
theorem YieldsK.of_same{ops:Array Oper}{o:Oper}{v:Value}{a a':Act}(hy:YieldsK P ops L o v a)(he:execOp a'.eval o=execOp a.eval o)
  (hw:Region.wanted o (yielded ops a'.tmps)=Region.wanted o (yielded ops a.tmps)):YieldsK P ops L o v a':=by
 unfold YieldsK Qt at*
 rw[hw]
 exact hy.imp (fun h=>⟨h.1,h.2.congr he⟩) _root_.id
theorem Znd{ops:Array Oper}{i:Nat}{o:Oper}{a:Act}{K:Act→Prop}(hi:ops[i]?=some o)(h:kOp P ops L i K a):∃v,YieldsK P ops L o v a∧K (a.put o.dst v):=by
 unfold kOp at h
 simp only[hi]at h
 by_cases hw:Region.wanted o (yielded ops a.tmps)=true
 ·rw[Z2d hw]at h
  obtain⟨v,h1,h2⟩:=h
  exact⟨v,.inl ⟨hw,h1⟩,h2⟩
 ·rw[Z16 hw]at h
  exact⟨undef,.inr ⟨by simpa using hw,rfl⟩,h⟩
theorem kOp_put{ops:Array Oper}{j:Nat}{oi oj:Oper}{v:Value}(hj:ops[j]?=some oj)(hap:oi.apart ops oj=true)
  (hsi:∀cs b,oi.op≠.select cs b)(hsj:∀cs b,oj.op≠.select cs b){K:Act→Prop}{a:Act}
  (hy:YieldsK P ops L oi v a)(h:kOp P ops L j K (a.put oi.dst v)):
  kOp P ops L j (fun a'=>YieldsK P ops L oi v a'∧K (a'.put oi.dst v)) a:=by
 obtain⟨h1,h2,h3⟩:=Oper.apart_spec hap
 have keep:∀(a:Act),YieldsK P ops L oi v a→∀u,YieldsK P ops L oi v (a.put oj.dst u):=fun a hy u=>
  hy.of_same (execOp_put oi hsi a oj.dst u h3) (wanted_put oi a oj.dst u h3)
 unfold kOp at*
 simp only[hj] at*
 rw[wanted_put oj a oi.dst v h1]at h
 split
 ·rename_i hw
  rw[Z2d hw]at h
  obtain⟨u,hu,hn⟩:=h
  exact⟨u,hu.congr (execOp_put oj hsj a oi.dst v h1).symm,keep a hy u,by rw[← Act.put_comm a v u h2];exact hn⟩
 ·rename_i hw
  rw[Z16 hw]at h
  exact⟨keep a hy _,by rw[← Act.put_comm a v undef h2];exact h⟩
theorem Zsx{ops:Array Oper}{md:Region.Mode}{Q:Act→Prop}{i:Nat}{oi:Oper}{v:Value}(hi:ops[i]?=some oi)(hsel:∀(j:Nat) (o:Oper) cs b,ops[j]?=some o→o.op≠.select cs b):
  ∀(f:Nat) (l:Array Bool) (a:Act),
   (∀j oj,ops[j]?=some oj→j≠i→l.getD j true=false→(∀e∈oj.after,Region.binds md e=true→e.on≠i)→oi.apart ops oj=true)→
   i∈Region.ready md ops l→YieldsK P ops L oi v a→
   Zsw P md ops L Q f (l.setIfInBounds i true) (a.put oi.dst v)→Zsw P md ops L Q (f+1) l a:=by
 intro f
 induction f with
 | zero=>
  intro l a _ hr hy H
  refine⟨fun h=>(by rw[h]at hr;cases hr),fun j hj=>?_⟩
  by_cases hji:j=i
  ·subst hji;exact hy.kOp hi H
  ·have:=Z7n hj hji
   rw[H.1]at this
   cases this
 | succ f ih=>
  intro l a hfree hr hy H
  refine⟨fun h=>(by rw[h]at hr;cases hr),fun j hj=>?_⟩
  by_cases hji:j=i
  ·subst hji;exact hy.kOp hi H
  ·have h1:=H.2 j (Z7n hj hji)
   obtain⟨hjun,oj,hoj,hall⟩:=mem_ready.1 hj
   have hnot:∀e∈oj.after,Region.binds md e=true→e.on≠i:=fun e he hb heq=>by
    have h1:=hall e he hb
    have h0:=(mem_ready.1 hr).1
    rw[heq]at h1
    rcases Z5x i l.size with h'|h'
    ·simp[h']at h0 h1;rw[h0]at h1;cases h1
    ·simp[Z3u h']at h1
   have h2:=kOp_put hoj (hfree j oj hoj hji hjun hnot) (fun cs b=>hsel i oi cs b hi) (fun cs b=>hsel j oj cs b hoj) hy h1
   have hfree':∀k ok,ops[k]?=some ok→k≠i→(l.setIfInBounds j true).getD k true=false→
     (∀e∈ok.after,Region.binds md e=true→e.on≠i)→oi.apart ops ok=true:=fun k ok hk hki hun hno=>by
    refine hfree k ok hk hki ?_ hno
    by_cases hjk:j=k
    ·subst hjk;exact hjun
    ·rw[getD_set_ne true hjk]at hun;exact hun
   refine kOp_mono (fun a' h3=>ih (l.setIfInBounds j true) a' hfree' (Z7n hr (Ne.symm hji)) h3.1 ?_) h2
   rw[Array.setIfInBounds_comm _ _ hji]
   exact h3.2
theorem Zol{ops:Array Oper}{md:Region.Mode}{Q:Act→Prop}(hs:Region.noSelect ops=true):∀(l:List Oper) (k:Nat) (listed:Array Bool) (a:Act),(∀j,l[j]?=ops[k+j]?)→
  Region.lexFrom md ops l.length k listed=true→Zf3 P ops L Q l a→Zsw P md ops L Q l.length listed a
 | [],_,_,_,_,hB,h=>⟨by simpa[Region.lexFrom] using hB,h⟩
 | o::l,k,listed,a,hl,hB,h=>by
  have h0:ops[k]?=some o:=by simpa using (hl 0).symm
  simp only[Z2y,Region.lexFrom,Z27]at hB
  obtain⟨⟨hr,hf⟩,hB'⟩:=hB
  have hst:kOp P ops L k (Zf3 P ops L Q l) a:=by unfold kOp;simp only[h0];exact h
  obtain⟨v,hy,hK⟩:=Znd h0 hst
  exact Zsx h0 (Region.noSelect_spec hs) l.length listed a (Region.free_spec h0 hf) (by simpa using hr) hy
   (Zol hs l (k+1) _ _ (fun j=>by have:=hl (j+1);simpa[Z6t,Z6g 1 j] using this) hB' hK)
def HQ(P:Program)(n:Nat)(ops:List Oper)(K:Z9→Prop)(l:List Oper)(ρ:Z9)(L:Za):Prop:=
 ∀a,Agr n a ρ→Zf3 P ops.toArray L (fun a'=>∃ρ',Agr n a' ρ'∧K ρ') l a
theorem hq_nil(h:K ρ):HQ P n ops K [] ρ L:=fun a ha=>⟨ρ,ha,h⟩
theorem hq_on{v:Value}{d:Nat}(hd:o.dst=some d)(hn:Nat.blt d n=true)(hw:∀a:Act,Agr n a ρ→Region.wanted o (yielded ops.toArray a.tmps)=true)(h:QOp P o ρ L v)(hr:HQ P n ops K rest ((d,v)::ρ) L):HQ P n ops K (o::rest) ρ L:=by
 intro a ha
 unfold Zf3
 rw[Z2d (hw a ha)]
 exact⟨v,h a.eval fun x _ u hu=>ha.ev hu,by rw[hd];exact hr _ (ha.put (Z2m hn) v)⟩
theorem hq_off{d:Nat}(hd:o.dst=some d)(hn:Nat.blt d n=true)(hw:∀a:Act,Agr n a ρ→Region.wanted o (yielded ops.toArray a.tmps)=false)(hr:HQ P n ops K rest ((d,undef)::ρ) L):HQ P n ops K (o::rest) ρ L:=by
 intro a ha
 unfold Zf3
 rw[Z16 (by rw[hw a ha];simp)]
 rw[hd];exact hr _ (ha.put (Z2m hn) undef)
theorem hq_q{v:Value}{d:Nat}{op:Op}{ty:TypeId}{pos:String}{af:Array Edge}(hn:Nat.blt d n=true)(h:QOp P ⟨some d,op,ty,pos,af,none⟩ ρ L v)(hr:HQ P n ops K rest ((d,v)::ρ) L):
  HQ P n ops K (⟨some d,op,ty,pos,af,none⟩::rest) ρ L:=hq_on rfl hn (fun a _=>Yv _ rfl _) h hr
theorem Zyd{v:Value}{d j t:Nat}{wt:Bool}{op:Op}{ty:TypeId}{pos:String}{af:Array Edge}(hn:Nat.blt d n=true)(hj:Zb2 ops j=some t)(ht:lk ρ t=some (.bool wt))(h:QOp P ⟨some d,op,ty,pos,af,some (j,wt)⟩ ρ L v)
  (hr:HQ P n ops K rest ((d,v)::ρ) L):HQ P n ops K (⟨some d,op,ty,pos,af,some (j,wt)⟩::rest) ρ L:=hq_on rfl hn (fun a ha=>by rw[Uf ha rfl hj ht];simp) h hr
theorem Zyc{d j t:Nat}{wt b:Bool}{op:Op}{ty:TypeId}{pos:String}{af:Array Edge}(hn:Nat.blt d n=true)(hj:Zb2 ops j=some t)(ht:lk ρ t=some (.bool b))(hb:(!wt)=b)
  (hr:HQ P n ops K rest ((d,undef)::ρ) L):HQ P n ops K (⟨some d,op,ty,pos,af,some (j,wt)⟩::rest) ρ L:=by
 subst hb
 exact hq_off rfl hn (fun a ha=>by rw[Uf ha rfl hj ht];cases wt<;>simp) hr
theorem Z0c{l:List Oper}(t:Nat){b:Bool}(ht:lk ρ t=some (.bool b))(h1:b=true→HQ P n ops K l ((t,.bool true)::ρ) L)(h0:b=false→HQ P n ops K l ((t,.bool false)::ρ) L):HQ P n ops K l ρ L:=by
 intro a ha
 cases hb:b with
 | true=>exact h1 hb a (ha.name ht hb)
 | false=>exact h0 hb a (ha.name ht hb)
theorem hq_skipu{d j t:Nat}{wt:Bool}{v:Value}{op:Op}{ty:TypeId}{pos:String}{af:Array Edge}(hj:Zb2 ops j=some t)(ht:lk ρ t=some v)(hb:v=undef)(hn:Nat.blt d n=true)
  (hr:HQ P n ops K rest ((d,undef)::ρ) L):HQ P n ops K (⟨some d,op,ty,pos,af,some (j,wt)⟩::rest) ρ L:=by
 subst hb
 refine hq_off rfl hn (fun a ha=>?_) hr
 unfold Zb2 at hj
 simp[Region.wanted,yielded,hj,ha.get _ _ ht,undef]
theorem Z0b{d j t:Nat}{wt:Bool}{op:Op}{ty:TypeId}{pos:String}{af:Array Edge}{b:Bool}(hj:Zb2 ops j=some t)(ht:lk ρ t=some (.bool b))
  (h1:b=true→HQ P n ops K (⟨some d,op,ty,pos,af,some (j,wt)⟩::rest) ((t,.bool true)::ρ) L)(h0:b=false→HQ P n ops K (⟨some d,op,ty,pos,af,some (j,wt)⟩::rest) ((t,.bool false)::ρ) L):
  HQ P n ops K (⟨some d,op,ty,pos,af,some (j,wt)⟩::rest) ρ L:=Z0c t ht h1 h0
theorem Zss{id:Nat}{Q:Exit→Z9→Za→Prop}(S:Tab P)(hB:Region.lexB .any ops.toArray=true)(h:HQ P n ops (fun ρ'=>Q .normal ρ' L) ops ρ L):HW P n (.region id ops.toArray true) Q ρ L:=by
 simp only[Region.lexB,Z27]at hB
 refine hw_any S.mixed fun a ha=>Q1 (Q:=fun a'=>∃ρ',Agr n a' ρ'∧Q .normal ρ' L) (fun a' ⟨ρ',h1,h2⟩=>⟨ρ',L,h1,.refl L,h2⟩) _ _ _ ?_
 have:=Zol (L:=L) (P:=P) (md:=.any) hB.1 ops 0 (Array.replicate ops.toArray.size false) a (by simp) (by simpa using hB.2) (h a ha)
 simpa using this
end draw
def Own(E sz:Nat)(v:Value)(n:Nat)(cs:List Value)(c:List Zp):Prop:=
 (v=Yt∧n=0∧cs=[]∧c=[])∨
 ∃b cap sp,v=sl b 0 n cap∧c=[(b,.cells ⟨cs++sp⟩ E)]∧cs.length=n*sz∧n≤cap∧(cs++sp).length=cap*sz
theorem Zyv{E sz:Nat}:Own E sz Yt 0 [] []:=.inl ⟨rfl,rfl,rfl,rfl⟩
def Src(sz:Nat)(L:Za)(u:Value)(n:Nat)(new:List Value):Prop:=
 (∃a cap,u=.slice a 0 cap∧n=0∧new=[])∨∃b i cap l F fr,0<n∧u=sl b i n cap∧Has L b (.cells ⟨l⟩ F fr)∧Gets l i new∧new.length=n*sz
theorem Yn{α:Type}{enc:α→List Value}{sz:Nat}(hsz:∀x,(enc x).length=sz):∀ys:List α,((ys.map enc).flatten).length=ys.length*sz
 | []=>by simp
 | y::ys=>by simp[Yn hsz ys,hsz,Z32,Z6g]
theorem Zii{α:Type}{enc:α→List Value}{sz:Nat}{L:Za}{a:Option Addr}{cap:Nat}{xs:List α}(hsz:∀x,(enc x).length=sz)(h:Rd enc sz L a xs):Src sz L (.slice a xs.length cap) xs.length (xs.map enc).flatten:=by
 cases xs with
 | nil=>exact .inl ⟨a,cap,rfl,rfl,rfl⟩
 | cons x r=>
  rcases h with h|⟨b,i,l,E,fr,rfl,hb,hg⟩
  ·cases h
  ·exact .inr ⟨b,i,cap,l,E,fr,by simp,rfl,hb,Zh0 hsz _ _ hg,Yn hsz _⟩
theorem src_one{sz b i cap F:Nat}{L:Za}{l new:List Value}{fr:Nat × Nat}(hb:Has L b (.cells ⟨l⟩ F fr))(hg:Gets l i new)(hl:new.length=sz):Src sz L (sl b i 1 cap) 1 new:=
 .inr ⟨b,i,cap,l,F,fr,by omega,rfl,hb,hg,by omega⟩
theorem Zef(zs:List Value)(n:Nat):∃sp:List Value,Builtin.zeroCells ⟨zs⟩ n=⟨sp⟩∧sp.length=n*zs.length:=by
 refine⟨(Builtin.zeroCells ⟨zs⟩ n).toList,rfl,?_⟩
 rw[Array.length_toList,size_zeroCells]
 rfl
theorem take_left{a b:List Value}{n:Nat}(h:a.length=n):(a++b).take n=a:=by subst h;simp
section app
variable{P:Program}(S:Tab P){n:Nat}{ops:List Oper}{Q:Exit→Z9→Za→Prop}{rest:List Oper}{ρ:Z9}{L:Za}{ty:TypeId}{pos:String}{af:Array Edge}
theorem Zdv(w:World)(need old e:Nat):need≤grownCap w need old e:=Nat.le_add_right _ _
theorem Zmb(v:Value){B W:Nat→Prop}{N:Nat}:Plo P B W N (Builtin.lenOf v):=by unfold Builtin.lenOf;split<;>exact trivial
theorem Zbt(s n:Nat)(v:Value){B W:Nat→Prop}{N:Nat}:Plo P B W N (Builtin.firstCells s n v):=by unfold Builtin.firstCells;split<;>first|exact trivial|exact Ye _ _
theorem Halts.of_bind{α β:Type}{x:Sem α}{f:α→Sem β}(hf:∀a,Halts P (f a)):Halts P (x >>= f):=fun w=>by
 cases hx:x.run P w with
 | ok a w'=>
  obtain⟨h,w2,h2⟩:=hf a w'
  exact⟨h,w2,by simp[hx,h2]⟩
 | halt h w'=>exact⟨h,w',by simp[hx]⟩
theorem Zi0{α:Type}(u:Unsupported):Halts P (unsupported u:Sem α):=fun w=>⟨_,_,rfl⟩
theorem Ztp{α:Type}{x:Sem Bool}{u:Unsupported}{B W:Nat→Prop}{N:Nat}:Plo P B W N (x >>= fun b=>if (!b)=true then (mark .noRoom >>= fun _=>(unsupported u:Sem α)) else unsupported u):=
 Ztn (Halts.of_bind fun b=>by
  split
  ·exact Halts.of_bind fun _=>Zi0 _
  ·exact Zi0 _)
theorem add_w{a:Addr}{x y k:Nat}{W:Nat→Prop}{N:Nat}(h:∀(a':Addr) (n c:Nat),Value.slice (some a) x y=.slice (some a') n c→W a'.block∨N≤a'.block):W (a.add k).block∨N≤(a.add k).block:=by
 have:=h a x y rfl
 unfold Addr.add
 split<;>exact this
theorem Zov{t ty:TypeId}{v u:Value}{B W:Nat→Prop}{N:Nat}(hv:∀a n c,v=.slice (some a) n c→W a.block∨N≤a.block):Plo P B W N (Builtin.append_ #[t,t] ty #[v,u]):=by
 unfold Builtin.append_
 simp only[Z4g,Z38,Z4n]
 repeat' first|(with_reducible first|exact Zmb _|exact Zbt _ _ _|exact W9 (add_w hv) _ _|exact Ztp)|(with_reducible first|assumption|exact Vf _|exact Wy _|exact Xe _|exact Vz _|exact Yq|exact Zg _|exact Yd _|exact Yf _|exact Z4 _|exact X5 _|exact Ve _ _|exact Y0 _ _|exact Ye _ _|exact Xl _|exact Xc _ _|exact Xd _ _|exact Xb rfl|exact Yx _|exact Y8 _|exact Zs _|exact Xi _|exact Z2 _ _ _ _|exact Yp _|exact Xv _|exact Xa _|exact Y2 _|exact Wi _|exact Xk _|exact Wn _ _ _|exact Xr _|refine Plo.bind ?_ (fun _=>?_)|refine Plo.ite ?_ ?_)|split|dsimp only
theorem Zl4{d t E y0 s0 b0 k1 x1 y1 sz by1 m nn:Nat}{z v u:Value}{zs cs new:List Value}{c:List Zp}{x y:Operand}
  (hx:ev ρ x=some v)(hy:ev ρ y=some u)(ht:Yj S.ty t=some ⟨5,E,y0,s0,b0⟩)(he:Yj S.ty E=some ⟨k1,x1,y1,sz,by1⟩)(hz:Yj S.zr E=some z)(hzs:z.cells=⟨zs⟩)(hzl:zs.length=sz)
  (hn:Nat.blt d n=true)(ho:Own E sz v nn cs c)(hs:Src sz (c::L) u m new)(h1:(new.all Value.oneCell')=true)(hby:(nn+m)*by1≤140737488355328)(hmax:nn+m≤9223372036854775807)
  (h:∀v' c',Own E sz v' (nn+m) (cs++new) c'→HO P n ops Q rest ((d,v')::ρ) (c'::L)):
  HO P n ops Q (⟨some d,.call { callee:=.builtin .append,args:=#[x,y],argTypes:=#[t,t] },ty,pos,af,none⟩::rest) ρ (c::L):=by
 refine Ut rfl rfl hn (fun ρe he' k w hsat=>?_) (fun ρe he' N=>?_)
 case refine_2=>
  have e1:=he' x (by simp[Op.operands,Call.operands]) _ hx
  have e2:=he' y (by simp[Op.operands,Call.operands]) _ hy
  simp only[execOp,resolve,Z5g,Z2s,Z3z,e1,e2]
  refine(Plo.bind (Zov ?_) fun _=>trivial:Plo P _ _ _ (Builtin.append_ #[t,t] ty #[v,u] >>= fun v=>pure (Next.value v)))
  rintro a n c' rfl
  rcases ho with⟨h1,-,-,-⟩|⟨b,cap,sp,h1,rfl,-⟩
  ·cases h1
  ·cases h1;exact .inl ⟨_,Z2x _ (.head _),rfl⟩
 have hdesc:=Z7 (S.tyI ht) rfl
 obtain⟨de,i,hde,hi,-,hisz,hiby⟩:=X8 (S.tyI he)
 simp only at hisz hiby
 have hiz:i.zero=some z:=by
  have:=S.zeroI hz
  unfold zeroI at this
  simpa[hi] using this
 have hsize:(sizeOf E).run P w=.ok sz w:=X9 (S.tyI he) w
 have hone:∀u∈new,u.oneCell'=true:=fun u hu=>Z2u.1 h1 u hu
 have e1:=he' x (by simp[Op.operands,Call.operands]) _ hx
 have e2:=he' y (by simp[Op.operands,Call.operands]) _ hy
 suffices ∃v' w' c',(Builtin.append_ #[t,t] ty #[v,u]).run P w=.ok v' w'∧Nx k w (c::L) w' (c'::L)∧Own E sz v' (nn+m) (cs++new) c' by
  obtain⟨v',w',c',hr,hs',ho'⟩:=this
  refine⟨v',w',c'::L,?_,hs',h v' c' ho'⟩
  simp[execOp,resolve,invoke,builtin,e1,e2,hr]
 have hdrop:Sat k w L:=hsat.sub (.cons _ (.refl _))
 rcases hs with⟨a,cap,rfl,rfl,rfl⟩|⟨b,j,cap,l,F,fr,hm,rfl,hb,hg,hlen⟩
 ·
  rcases ho with⟨rfl,rfl,rfl,rfl⟩|⟨b',cap',sp,rfl,rfl,hcs,hle,hall⟩
  ·refine⟨Yt,w,[],?_,hsat.id,.inl ⟨rfl,rfl,rfl,rfl⟩⟩
   cases a<;>simp[Builtin.append_,Z2k hdesc,hsize,Builtin.lenOf,Builtin.firstCells,loadCells,loadCellsFrom]
  ·refine⟨sl b' 0 nn cap',w,[(b',.cells ⟨cs++sp⟩ E)],?_,hsat.id,.inr ⟨b',cap',sp,by simp,by simp,by simp[hcs],by omega,by simpa using hall⟩⟩
   cases a<;>simp[Builtin.append_,Z2k hdesc,hsize,Builtin.lenOf,Builtin.firstCells,loadCells,loadCellsFrom,hle,storeCells]
 ·have hnews:∀(q:Nat) (v:Value),new[q]?=some v→w.cell? ((Addr.mk b j none).add q)=some v:=fun q v hq=>by
   rw[Vp,hsat.cell hb];exact hg q v hq
  rcases ho with⟨rfl,rfl,rfl,rfl⟩|⟨b',cap',sp,rfl,rfl,hcs,hle,hall⟩
  ·have hr:=run_append_nil (P:=P) w t ty E i z hdesc hi hiz ⟨b,j,none⟩ m cap new (by rw[hisz];exact hlen) hnews hm (by omega) (by rw[hiby];simp at hby;omega)
   obtain⟨sp,hsp,hspl⟩:=Zef zs (grownCap w m 0 E-m)
   rw[hzs,hsp]at hr
   have hcap:=Zdv w m 0 E
   refine⟨_,_,[(w.heap.size,.cells ⟨new++sp⟩ E)],by simpa using hr,?_,.inr ⟨w.heap.size,grownCap w m 0 E,sp,by simp,by simp,by simpa using hlen,by omega,?_⟩⟩
   ·have:=((hdrop.drew).new (.cells ⟨new++sp⟩ E)).base (w:=w) (L:=[]::L) Wk.tl
    simpa using this
   ·simp only[Z2b,Z2i,hspl,hlen,hzl]
    rw[Nat.sub_mul]
    have:m*sz≤grownCap w m 0 E*sz:=Z5e _ hcap
    omega
  ·have hb':w.heap[b']?=some (.cells ⟨cs++sp⟩ E):=hsat.heap Zk
   by_cases hroom:nn+m≤cap'
   ·have hsplit:nn*sz+new.length≤(cs++sp).length:=by
     rw[hlen,hall,← Z32]
     exact Z5e _ hroom
    have hr:=run_append_room (P:=P) w t ty E i hdesc hi b' nn cap' ⟨cs++sp⟩ hb' ⟨b,j,none⟩ m cap new (by rw[hisz];exact hlen) hnews hone hroom (by rw[hisz];simpa using hsplit)
    rw[hisz]at hr
    have e3:(cs++sp).take (nn*sz)++new++(cs++sp).drop (nn*sz+new.length)=(cs++new)++sp.drop new.length:=by
     rw[take_left hcs,← hcs,List.drop_append,Z5s (by omega)]
     simp
    simp only[]at hr
    rw[e3]at hr
    refine⟨_,_,[(b',.cells ⟨(cs++new)++sp.drop new.length⟩ E)],hr,?_,.inr ⟨b',cap',sp.drop new.length,rfl,rfl,by simp[hcs,hlen,Z32],hroom,?_⟩⟩
    ·refine hsat.upd (o:=.cells ⟨cs++sp⟩ E) (o':=.cells ⟨(cs++new)++sp.drop new.length⟩ E) Xx rfl rfl rfl (setRow_heap w b' _ _ E _ hb') (fun q hq=>?_)
     simp only[World.setRow,Z33]
     rw[Z16 (fun e=>hq e.symm)]
    ·simp only[Z2i,Z3l]at hall hsplit ⊢
     omega
   ·have hfit:Builtin.nextslicecap (nn+m) cap'*i.bytes≤281474976710656:=by
     rw[hiby];exact growslice_fits (by omega) hby
    have holds:∀(q:Nat) (v:Value),cs[q]?=some v→w.cell? ((Addr.mk b' 0 none).add q)=some v:=fun q v hq=>by
     rw[Vp,hsat.cell Zk,Z3o]
     rw[Z3n (Z2j.1 hq).1];exact hq
    have hr:=run_append_grow (P:=P) w t ty E i z hdesc hi hiz ⟨b',0,none⟩ nn cap' cs (by rw[hisz];exact hcs) holds ⟨b,j,none⟩ m cap new (by rw[hisz];exact hlen) hnews (by omega) (by omega) hfit
    obtain⟨sp',hsp,hspl⟩:=Zef zs (grownCap w (nn+m) cap' E-(nn+m))
    rw[hzs,hsp]at hr
    have hcap:=Zdv w (nn+m) cap' E
    refine⟨sl w.heap.size 0 (nn+m) (grownCap w (nn+m) cap' E),w.drew.alloc (.cells ⟨(cs++new)++sp'⟩ E),[(w.heap.size,.cells ⟨(cs++new)++sp'⟩ E)],?_,?_,.inr ⟨w.heap.size,grownCap w (nn+m) cap' E,sp',rfl,rfl,by simp[hcs,hlen,Z32],hcap,?_⟩⟩
    ·rw[hr];simp
    ·exact((hdrop.drew).new (.cells ⟨(cs++new)++sp'⟩ E)).base Wk.tl
    ·simp only[Z2i,hspl,hlen,hcs,hzl]
     rw[← Z32,Nat.sub_mul]
     have:(nn+m)*sz≤grownCap w (nn+m) cap' E*sz:=Z5e _ hcap
     omega
def Zvn(ρ:Z9):Nat→List (Nat × Operand)→Option (List Value)
 | _,[]=>some []
 | k,(i,x)::r=>bif Nat.beq i k then (match ev ρ x,Zvn ρ (k+1) r with
  | some v,some vs=>some (v::vs)
  | _,_=>none) else none
theorem Zse{ρe:Operand→Value}:∀(parts:List (Nat × Operand)) (k:Nat) (vals pre zs:List Value),(∀p∈parts,∀u,ev ρ p.2=some u→ρe p.2=u)→Zvn ρ k parts=some vals→pre.length=k→zs.length=vals.length→
  (vals.all Value.oneCell')=true→Instr.fill (fun i=>some (i,1)) ⟨pre++zs⟩ (parts.map fun p=>(p.1,ρe p.2))=some ⟨pre++vals⟩
 | [],k,vals,pre,zs,_,h,_,hz,_=>by
  simp[Zvn]at h;subst h
  have:zs=[]:=by simpa using hz
  subst this
  simp[Instr.fill]
 | (i, x)::r,k,vals,pre,zs,he,h,hp,hz,h1=>by
  simp only[Zvn]at h
  cases hb:Nat.beq i k with
  | false=>rw[hb]at h;cases h
  | true=>
   rw[hb]at h
   have hik:=Z2a hb
   subst hik
   cases hx:ev ρ x with
   | none=>simp[hx]at h
   | some v=>
    cases hr:Zvn ρ (i+1) r with
    | none=>simp[hx,hr]at h
    | some vs=>
     simp[hx,hr]at h
     subst h
     match zs,hz with
     | z::zs,hz=>
      simp only[List.all_cons,Z27]at h1
      have hev:=he (i,x) (by simp) v hx
      have hc:v.cells=#[v]:=by cases v<;>first|rfl|(simp[Value.oneCell']at h1)
      have ih:=Zse r (i+1) vs (pre++[v]) zs (fun p hp=>he p (by simp[hp])) hr (by simp[hp]) (by simpa using hz) h1.2
      simp only[Z2s,Instr.fill,hev,hc]
      simp only[Z18,Z19,Z2b]at ih
      have e:(Array.mk (pre++z::zs)).setIfInBounds i v=⟨pre++v::zs⟩:=by
       apply Z4r.1
       simp[List.set_append,hp]
      simp[hp,e,ih]
theorem Znp{d t E y0 s0 b0 k1 x1 y1 by1 len:Nat}{z:Value}{zv:Value}{vals:List Value}{parts:Array (Nat × Operand)}(ht:Yj S.ty t=some ⟨5,E,y0,s0,b0⟩)(he:Yj S.ty E=some ⟨k1,x1,y1,1,by1⟩)(hz:Yj S.zr E=some z)(hzs:z.cells=⟨[zv]⟩)
  (hp:Zvn ρ 0 parts.toList=some vals)(hlen:vals.length=len)(hsm:Nat.ble len 16777216=true)(h1:(vals.all Value.oneCell')=true)(hn:Nat.blt d n=true)
  (h:∀b,HO P n ops Q rest ((d,sl b 0 len len)::ρ) ([(b,.cells ⟨vals⟩ E)]::L)):HO P n ops Q (⟨some d,.buildSlice t len parts,ty,pos,af,none⟩::rest) ρ L:=by
 refine Ut rfl rfl hn fun ρe he' k w hs=>⟨sl w.heap.size 0 len len,w.alloc (.cells ⟨vals⟩ E),_,?_,hs.new _,h _⟩
 have hdesc:=Z7 (S.tyI ht) rfl
 have hsize:(sizeOf E).run P w=.ok 1 w:=X9 (S.tyI he) w
 have hzero:=Zbe (S.zeroI hz) w
 have hle:len≤16777216:=Z2m hsm
 have hparts:∀p∈parts.toList,∀u,ev ρ p.2=some u→ρe p.2=u:=fun p hp u hu=>he' p.2 (by simp[Op.operands];exact⟨p.1,by simpa using Z25.1 hp⟩) u hu
 have hfill:=Zse (ρ:=ρ) parts.toList 0 vals [] (List.replicate len zv) hparts hp rfl (by simp[hlen]) h1
 have hm:(parts.map fun p=>(p.1,ρe p.2)).toList=parts.toList.map fun p=>(p.1,ρe p.2):=by simp
 have hbs:∀pp:Array (Nat × Value),pp.toList=parts.toList.map (fun p=>(p.1,ρe p.2))→(Instr.buildSlice t len pp).run P w=.ok (sl w.heap.size 0 len len) (w.alloc (.cells ⟨vals⟩ E)):=by
  intro pp hpp
  have hl2:¬ (16777216<len):=by omega
  simp only[Z2b]at hfill
  by_cases h0:len=0
  ·subst h0
   have hv:vals=[]:=by simpa using hlen
   subst hv
   simp only[List.replicate_zero]at hfill
   have hf2:Instr.fill (fun i=>some (i,1)) #[] (List.map (fun p=>(p.fst,ρe p.snd)) parts.toList)=some ⟨[]⟩:=hfill
   have e0:Array.range 0=#[]:=rfl
   simp only[Instr.buildSlice]
   simp[Z2k hdesc,hsize,hpp,e0,hf2,newRow]
  ·have harr:Array.map (fun j=>(z.cells)[j % z.cells.size]!) (Array.range len)=⟨List.replicate len zv⟩:=by
    rw[hzs]
    apply Z4r.1
    simp[List.map_const',Z6u]
   have hf2:Instr.fill (fun i=>some (i,1)) (Array.replicate len zv) (List.map (fun p=>(p.fst,ρe p.snd)) parts.toList)=some ⟨vals⟩:=by
    have e1:Array.replicate len zv=⟨List.replicate len zv⟩:=by simp
    rw[e1];exact hfill
   simp only[Instr.buildSlice]
   simp[Z2k hdesc,hsize,hzero,h0,hl2,harr,hpp,hf2,newRow]
 have:=hbs (parts.map fun p=>(p.1,ρe p.2)) (by simp)
 simp[execOp,this]
theorem LS.nilc:LS ([]::L).flatten L.flatten:=.of_eq (by simp)
theorem Zka{l:List Oper}(h:HO P n ops Q l ρ ([]::L)):HO P n ops Q l ρ L:=Zx8 h .nilc
theorem Zkb{c:Code}(h:HW P n c Q ρ ([]::L)):HW P n c Q ρ L:=fun main Φ b k cs a hb hc ha=>.weak (.ls .nilc) (h main Φ b k cs a hb hc ha)
theorem Zco{α:Type}{enc:α→List Value}(he:∀x,(enc x).all Value.oneCell'=true)(xs:List α):((xs.map enc).flatten.all Value.oneCell')=true:=by
 simp only[Z2u,Z6x,Z2v]
 rintro v ⟨l,⟨x,_,rfl⟩,hv⟩
 exact Z2u.1 (he x) v hv
theorem Uj{α:Type}{enc:α→List Value}{sz:Nat}(hsz:∀x,(enc x).length=sz):∀(xs:List α) (sp:List Value) (pre:List Value) (k:Nat) (x:α),xs[k]?=some x→Gets (pre++(xs.map enc).flatten++sp) (pre.length+k*sz) (enc x)
 | [],sp,pre,k,x,h=>by simp at h
 | y::r,sp,pre,0,x,h=>by
  simp at h;subst h
  intro j v hj
  have hlt:j<(enc y).length:=(Z2j.1 hj).1
  simp only[Z2s,Z17,Nat.zero_mul,Z4t,Z18]
  rw[Z3f (by omega),Z3n (by simpa using hlt)]
  simpa using hj
 | y::r,sp,pre,k+1,x,h=>by
  have:=Uj hsz r sp (pre++enc y) k x (by simpa using h)
  simp only[Z2s,Z17,Z18,Z2i,hsz]at this ⊢
  rw[show pre.length+(k+1)*sz=pre.length+sz+k*sz by rw[Z32,Z59];omega]
  exact this
theorem Own.rd{α:Type}{enc:α→List Value}{E sz:Nat}(hsz:∀x,(enc x).length=sz){v:Value}{nn:Nat}{xs:List α}{c:List Zp}(h:Own E sz v nn (xs.map enc).flatten c)(hl:xs.length=nn):
  ∃a cap,v=.slice a xs.length cap∧Rd enc sz (c::L) a xs:=by
 rcases h with⟨rfl,h0,hcs,rfl⟩|⟨b,cap,sp,rfl,rfl,hcs,hle,hall⟩
 ·refine⟨none,0,by rw[hl,h0],.inl ?_⟩
  exact Z3v (by omega)
 ·refine⟨some ⟨b,0,none⟩,cap,by rw[hl],.inr ⟨b,0,_,E,(0,0),rfl,Zk,fun k x hx=>?_⟩⟩
  have:=Uj hsz xs sp [] k x hx
  simpa using this
end app
def cut(a:Option Addr)(cap l sz:Nat):Option Addr:=if cap=l then a else a.map (·.add (l*sz))
theorem Rd.drop{α:Type}{enc:α→List Value}{sz:Nat}{L:Za}{a:Option Addr}{xs:List α}{cap l:Nat}(h:Rd enc sz L a xs)(hc:xs.length≤cap):Rd enc sz L (cut a cap l sz) (xs.drop l):=by
 by_cases hl:xs.length≤l
 ·exact .inl (Z5s hl)
 ·rcases h with h|⟨b,i,c,E,fr,rfl,hb,hg⟩
  ·exact .inl (by simp[h])
  ·refine .inr ⟨b,i+l*sz,c,E,fr,?_,hb,fun k x hx=>?_⟩
   ·unfold cut
    rw[Z16 (by omega)]
    simp only[Z42,Vp]
   ·rw[List.getElem?_drop]at hx
    have:=hg _ _ hx
    rw[Z32,← Z6t]at this
    exact this
theorem Rd.take{α:Type}{enc:α→List Value}{sz:Nat}{L:Za}{a:Option Addr}{xs:List α}{n:Nat}(h:Rd enc sz L a xs):Rd enc sz L a (xs.take n):=by
 rcases h with h|⟨b,i,c,E,fr,rfl,hb,hg⟩
 ·exact .inl (by simp[h])
 ·refine .inr ⟨b,i,c,E,fr,rfl,hb,fun k x hx=>?_⟩
  rw[List.getElem?_take]at hx
  split at hx
  ·exact hg _ _ hx
  ·cases hx
theorem Zp0{P:Program}{t e:Nat}(h:P.underlying t=some (.slice e)):P.elem t=e∧P.underlying t=some (.slice (P.elem t)):=by
 have:P.elem t=e:=by simp[Program.elem,h]
 exact⟨this,by rw[this];exact h⟩
section q
variable{P:Program}(S:Tab P){ρ:Z9}{L:Za}{d:Option Tmp}{ty:TypeId}{pos:String}{af:Array Edge}{g:Option (Nat × Bool)}
theorem Z1c{t E y0 s0 b0 k1 x1 y1 sz b1 len cap:Nat}{a:Option Addr}{x y:Operand}{k:IntKind}{l:Int}(hx:ev ρ x=some (.slice a len cap))(hy:ev ρ y=some (.int k l))(ht:Yj S.ty t=some ⟨5,E,y0,s0,b0⟩)
  (he':Yj S.ty E=some ⟨k1,x1,y1,sz,b1⟩)(h:0≤l∧l≤len):QOp P ⟨d,.slice t x (some y) none none,ty,pos,af,g⟩ ρ L (.slice (cut a cap l.toNat sz) (len-l.toNat) (cap-l.toNat)):=
 Ws fun ρe he k w hs=>by
  obtain⟨e1,e2⟩:=Zp0 (Z7 (S.tyI ht) rfl)
  have h2:=X9 (S.tyI he') w
  simp[execOp,he x (by simp[Op.operands]) _ hx,he y (by simp[Op.operands]) _ hy,run_sliceAt_slice _ _ _ _ _ _ e2,run_slice_l _ _ _ _ _ e2 _ _ h.1 h.2,e1,h2,Result.andThen,sliced,cut]
theorem Z1a{t E y0 s0 b0 k1 x1 y1 sz b1 len cap:Nat}{a:Option Addr}{x y:Operand}{k:IntKind}{l:Int}(hx:ev ρ x=some (.slice a len cap))(hy:ev ρ y=some (.int k l))(ht:Yj S.ty t=some ⟨5,E,y0,s0,b0⟩)
  (he':Yj S.ty E=some ⟨k1,x1,y1,sz,b1⟩)(h:0≤l∧l≤cap):QOp P ⟨d,.slice t x none (some y) none,ty,pos,af,g⟩ ρ L (.slice a l.toNat cap):=
 Ws fun ρe he k w hs=>by
  obtain⟨e1,e2⟩:=Zp0 (Z7 (S.tyI ht) rfl)
  have h2:=X9 (S.tyI he') w
  have:(if cap=0 then a else a.map (·.add (0*sz)))=a:=by
   split
   ·rfl
   ·cases a<;>simp[Addr.add]
  simp[execOp,he x (by simp[Op.operands]) _ hx,he y (by simp[Op.operands]) _ hy,run_sliceAt_slice _ _ _ _ _ _ e2,run_slice_h _ _ _ _ _ e2 _ _ h.1 h.2,e1,h2,Result.andThen,sliced]
  simpa using this
theorem Z1b{t E y0 s0 b0 k1 x1 y1 sz b1 len cap:Nat}{a:Option Addr}{x y z:Operand}{k k2:IntKind}{l hh:Int}(hx:ev ρ x=some (.slice a len cap))(hy:ev ρ y=some (.int k l))(hz:ev ρ z=some (.int k2 hh))(ht:Yj S.ty t=some ⟨5,E,y0,s0,b0⟩)
  (he':Yj S.ty E=some ⟨k1,x1,y1,sz,b1⟩)(h:0≤l∧l≤hh∧hh≤cap):QOp P ⟨d,.slice t x (some y) (some z) none,ty,pos,af,g⟩ ρ L (.slice (cut a cap l.toNat sz) (hh.toNat-l.toNat) (cap-l.toNat)):=
 Ws fun ρe he k w hs=>by
  obtain⟨e1,e2⟩:=Zp0 (Z7 (S.tyI ht) rfl)
  have h2:=X9 (S.tyI he') w
  simp[execOp,he x (by simp[Op.operands]) _ hx,he y (by simp[Op.operands]) _ hy,he z (by simp[Op.operands]) _ hz,run_sliceAt_slice _ _ _ _ _ _ e2,run_slice_lh _ _ _ _ _ e2 _ _ _ _ h.1 h.2.1 h.2.2,e1,h2,Result.andThen,sliced,cut]
end q
def Zsy(k k':IntKind):Bool:=Nat.beq (Zqf k) (Zqf k')
theorem Zbq{k k':IntKind}(h:Zsy k k'=true):k=k':=by
 have:=congrArg Zbr (Z2a h)
 rwa [Zh3,Zh3]at this
def Ze6:IntKind→Int
 | .i8=>127|.i16=>32767|.i32=>2147483647|.i64=>9223372036854775807|.u8=>255|.u16=>65535|.u32=>4294967295|.u64=>18446744073709551615
def loE:IntKind→Int
 | .i8=>-128|.i16=>-32768|.i32=>-2147483648|.i64=>-9223372036854775808|_=>0
def wdE:IntKind→Int
 | .i8=>8|.i16=>16|.i32=>32|.i64=>64|.u8=>8|.u16=>16|.u32=>32|.u64=>64
def wdN:IntKind→Nat
 | .i8=>7|.i16=>15|.i32=>31|.i64=>63|.u8=>8|.u16=>16|.u32=>32|.u64=>64
theorem Ze2{k:IntKind}{n:Int}(h0:loE k≤n)(h1:n≤Ze6 k):k.wrap n=n:=by
 cases k<;>simp only[loE,Ze6]at h0 h1<;>simp[IntKind.wrap,IntKind.bits,IntKind.signed]<;>(try split)<;>omega
theorem Ud{k:IntKind}{n:Int}(h0:0≤n)(h1:n≤Ze6 k):(BitVec.ofInt k.bits n).toNat=n.toNat:=by
 rw[BitVec.toNat_ofInt]
 cases k<;>simp only[Ze6]at h1<;>simp only[IntKind.bits]<;>omega
theorem Zlv{k:IntKind}{n:Int}(h0:0≤n)(h1:n≤Ze6 k):n.toNat<2 ^ wdN k:=by
 cases k<;>simp only[Ze6]at h1<;>simp only[wdN]<;>omega
theorem Zyk{k:IntKind}{n:Nat}(h:n<2 ^ wdN k):(n:Int)≤Ze6 k:=by
 cases k<;>simp only[wdN]at h<;>simp only[Ze6]<;>omega
theorem Zyl{k:IntKind}{n:Nat}:loE k≤(n:Int):=by
 cases k<;>simp only[loE]<;>omega
theorem bits_and{k:IntKind}{a b:Int}(h:0≤a∧a≤Ze6 k∧0≤b∧b≤Ze6 k):k.wrap (BitVec.ofInt k.bits a &&& BitVec.ofInt k.bits b).toNat=((a.toNat &&& b.toNat:Nat):Int):=by
 rw[BitVec.toNat_and,Ud h.1 h.2.1,Ud h.2.2.1 h.2.2.2]
 exact Ze2 Zyl (Zyk (Z6h Nat.and_le_left (Zlv h.1 h.2.1)))
theorem bits_or{k:IntKind}{a b:Int}(h:0≤a∧a≤Ze6 k∧0≤b∧b≤Ze6 k):k.wrap (BitVec.ofInt k.bits a ||| BitVec.ofInt k.bits b).toNat=((a.toNat ||| b.toNat:Nat):Int):=by
 rw[BitVec.toNat_or,Ud h.1 h.2.1,Ud h.2.2.1 h.2.2.2]
 exact Ze2 Zyl (Zyk (Nat.or_lt_two_pow (Zlv h.1 h.2.1) (Zlv h.2.2.1 h.2.2.2)))
theorem bits_xor{k:IntKind}{a b:Int}(h:0≤a∧a≤Ze6 k∧0≤b∧b≤Ze6 k):k.wrap (BitVec.ofInt k.bits a ^^^ BitVec.ofInt k.bits b).toNat=((a.toNat ^^^ b.toNat:Nat):Int):=by
 rw[BitVec.toNat_xor,Ud h.1 h.2.1,Ud h.2.2.1 h.2.2.2]
 exact Ze2 Zyl (Zyk (Z4j (Zlv h.1 h.2.1) (Zlv h.2.2.1 h.2.2.2)))
theorem Zr0{k:IntKind}{a b:Int}(h:0≤a∧a≤Ze6 k∧0≤b∧b≤Ze6 k):k.wrap (BitVec.ofInt k.bits a &&& ~~~ BitVec.ofInt k.bits b).toNat=((a.toNat ^^^ (a.toNat &&& b.toNat):Nat):Int):=by
 have e:BitVec.ofInt k.bits a &&& ~~~ BitVec.ofInt k.bits b=BitVec.ofInt k.bits a ^^^ (BitVec.ofInt k.bits a &&& BitVec.ofInt k.bits b):=by
  apply BitVec.eq_of_getLsbD_eq
  intro i hi
  simp only[BitVec.getLsbD_and,BitVec.getLsbD_not,BitVec.getLsbD_xor,hi,decide_true,Bool.true_and]
  cases (BitVec.ofInt k.bits a).getLsbD i<;>cases (BitVec.ofInt k.bits b).getLsbD i<;>rfl
 rw[e,BitVec.toNat_xor,BitVec.toNat_and,Ud h.1 h.2.1,Ud h.2.2.1 h.2.2.2]
 exact Ze2 Zyl (Zyk (Z4j (Zlv h.1 h.2.1) (Z6h Nat.and_le_left (Zlv h.1 h.2.1))))
def wrV(k:IntKind)(n:Int):Value:=
 match k with
 | .u8=>.int .u8 (n % 256)
 | .u16=>.int .u16 (n % 65536)
 | .u32=>.int .u32 (n % 4294967296)
 | .u64=>.int .u64 (n % 18446744073709551616)
 | .i8=>.int .i8 (IntKind.i8.wrap n)
 | .i16=>.int .i16 (IntKind.i16.wrap n)
 | .i32=>.int .i32 (IntKind.i32.wrap n)
 | .i64=>.int .i64 (IntKind.i64.wrap n)
theorem Zrq(k:IntKind)(n:Int):wrV k n=.int k (k.wrap n):=by cases k<;>simp[wrV,IntKind.wrap,IntKind.bits,IntKind.signed]
def intE(op:BinOp)(k:IntKind)(a b:Int):Option (Value × Prop):=
 match op with
 | .lss=>some (.bool (decide (a<b)),True)
 | .leq=>some (.bool (decide (a≤b)),True)
 | .gtr=>some (.bool (decide (b<a)),True)
 | .geq=>some (.bool (decide (b≤a)),True)
 | .eql=>some (.bool (decide (a=b)),True)
 | .neq=>some (.bool (decide (a≠b)),True)
 | .add=>bif Zsy k .i64 then some (.int .i64 (a+b),-9223372036854775808≤a+b∧a+b≤9223372036854775807) else some (wrV k (a+b),True)
 | .sub=>bif Zsy k .i64 then some (.int .i64 (a-b),-9223372036854775808≤a-b∧a-b≤9223372036854775807) else some (wrV k (a-b),True)
 | .mul=>bif Zsy k .i64 then some (.int .i64 (a*b),-9223372036854775808≤a*b∧a*b≤9223372036854775807) else some (wrV k (a*b),True)
 | .quo=>bif Zsy k .i64 then some (.int .i64 (a / b),0≤a∧a≤9223372036854775807∧1≤b) else none
 | .rem=>bif Zsy k .i64 then some (.int .i64 (a % b),0≤a∧a≤9223372036854775807∧1≤b) else none
 | .and=>some (.int k ((a.toNat &&& b.toNat:Nat):Int),0≤a∧a≤Ze6 k∧0≤b∧b≤Ze6 k)
 | .or=>some (.int k ((a.toNat ||| b.toNat:Nat):Int),0≤a∧a≤Ze6 k∧0≤b∧b≤Ze6 k)
 | .xor=>some (.int k ((a.toNat ^^^ b.toNat:Nat):Int),0≤a∧a≤Ze6 k∧0≤b∧b≤Ze6 k)
 | .andNot=>some (.int k ((a.toNat ^^^ (a.toNat &&& b.toNat):Nat):Int),0≤a∧a≤Ze6 k∧0≤b∧b≤Ze6 k)
 | _=>none
def shE(op:BinOp)(k:IntKind)(a b:Int):Option (Value × Prop):=
 match op with
 | .shr=>some (.int k (a / 2 ^ b.toNat),0≤b∧b≤wdE k)
 | .shl=>bif Zsy k .i64 then some (.int .i64 (a*2 ^ b.toNat),0≤b∧b≤64∧-9223372036854775808≤a*2 ^ b.toNat∧a*2 ^ b.toNat≤9223372036854775807) else some (wrV k (a*2 ^ b.toNat),0≤b∧b≤wdE k)
 | _=>none
def isSh:BinOp→Bool
 | .shr=>true
 | .shl=>true
 | _=>false
def binE(ty:List (Nat × TyI))(op:BinOp)(t:Nat)(u v:Value):Option (Value × Prop):=
 match u,v with
 | .int k a,.int k' b=>bif isSh op then shE op k a b else bif Zsy k k' then intE op k a b else none
 | .bool a,.bool b=>(Yj ty t).bind fun ti=>bif Nat.beq ti.kind 1 then (match op with
  | .eql=>some (.bool (decide (a=b)),True)
  | .neq=>some (.bool (decide (a≠b)),True)
  | _=>none) else none
 | .string ⟨⟨a⟩⟩,.string ⟨⟨b⟩⟩=>(match op with
  | .eql=>some (.bool (decide (a=b)),True)
  | .neq=>some (.bool (decide (a≠b)),True)
  | .add=>some (bs (a++b),a.length+b.length≤9223372036854775807)
  | _=>none)
 | .pointer (some _),.pointer none=>(Yj ty t).bind fun ti=>bif Nat.beq ti.kind 4 then (match op with
  | .eql=>some (.bool false,True)
  | .neq=>some (.bool true,True)
  | _=>none) else none
 | .pointer none,.pointer none=>(Yj ty t).bind fun ti=>bif Nat.beq ti.kind 4 then (match op with
  | .eql=>some (.bool true,True)
  | .neq=>some (.bool false,True)
  | _=>none) else none
 | .slice (some _) _ _,.slice none 0 0=>(Yj ty t).bind fun ti=>bif Nat.beq ti.kind 5 then (match op with
  | .eql=>some (.bool false,True)
  | .neq=>some (.bool true,True)
  | _=>none) else none
 | .slice none _ _,.slice none 0 0=>(Yj ty t).bind fun ti=>bif Nat.beq ti.kind 5 then (match op with
  | .eql=>some (.bool true,True)
  | .neq=>some (.bool false,True)
  | _=>none) else none
 | .iface _ _,.nilIface=>(Yj ty t).bind fun ti=>bif Nat.beq ti.kind 9 then (match op with
  | .eql=>some (.bool false,True)
  | .neq=>some (.bool true,True)
  | _=>none) else none
 | _,_=>none
def isNil:Operand→Bool
 | .const .nilIface=>true
 | _=>false
def nilE(ty:List (Nat × TyI))(op:BinOp)(t:Nat):Option (Value × Prop):=
 (Yj ty t).bind fun ti=>bif Nat.beq ti.kind 9 then (match op with
  | .eql=>some (.bool true,True)
  | .neq=>some (.bool false,True)
  | _=>none) else none
def Zqa:Value→Bool
 | .nilIface=>true
 | _=>false
def Zih(ty:List (Nat × TyI))(t:Nat)(a:Option Addr)(len cap:Nat)(lo hi:Option Value):Option (Value × Prop):=
 (Yj ty t).bind fun ti=>bif Nat.beq ti.kind 5 then (Yj ty ti.x).bind fun te=>(match lo,hi with
  | some (.int _ l),none=>some (.slice (cut a cap l.toNat te.size) (len-l.toNat) (cap-l.toNat),0≤l∧l≤len)
  | none,some (.int _ h)=>some (.slice a h.toNat cap,0≤h∧h≤cap)
  | some (.int _ l),some (.int _ h)=>some (.slice (cut a cap l.toNat te.size) (h.toNat-l.toNat) (cap-l.toNat),0≤l∧l≤h∧h≤cap)
  | _,_=>none) else none
def Zvy(ty:List (Nat × TyI))(t:Nat)(u v:Value):Option (Value × Prop):=
 (Yj ty t).bind fun ti=>match u,v with
  | .slice (some ⟨b,i,none⟩) len _,.int _ j=>bif Nat.beq ti.kind 5 then (Yj ty ti.x).bind fun te=>(match te with|⟨_,_,_,sz,_⟩=>bif Nat.beq sz 1 then some (pt b (i+j.toNat),0≤j∧j<len) else some (pt b (i+j.toNat*sz),0≤j∧j<len)) else none
  | .pointer (some ⟨b,i,none⟩),.int _ j=>bif Nat.beq ti.kind 6 then (match ti with|⟨_,n,e,_,_⟩=>(Yj ty e).bind fun te=>(match te with|⟨_,_,_,sz,_⟩=>some (pt b (i+j.toNat*sz),0≤j∧j<n))) else none
  | _,_=>none
def callE(ty:List (Nat × TyI))(ρ:Z9)(b:Builtin)(args:List Operand)(ts:List Nat):Option (Value × Prop):=
 match b,args,ts with
 | .len,[x],[t]=>(ev ρ x).bind fun u=>(Yj ty t).bind fun ti=>(match u with
  | .slice _ n _=>bif Nat.beq ti.kind 5 then some (iv n,True) else none
  | .string ⟨⟨l⟩⟩=>bif Nat.beq ti.kind 3 then some (iv l.length,True) else none
  | _=>bif Nat.beq ti.kind 6 then some (iv ti.x,True) else none)
 | .max,[x,y],_=>(match ev ρ x,ev ρ y with
  | some (.int k a),some (.int k' b)=>bif Zsy k k' then some (.int k (max a b),True) else none
  | _,_=>none)
 | .min,[x,y],_=>(match ev ρ x,ev ρ y with
  | some (.int k a),some (.int k' b)=>bif Zsy k k' then some (.int k (min a b),True) else none
  | _,_=>none)
 | _,_,_=>none
def notE:Value→Option (Value × Prop)
 | .bool b=>(match b with
  | true=>some (.bool false,True)
  | false=>some (.bool true,True))
 | _=>none
def Zff(k:IntKind)(n:Int):Value × Prop:=
 match k with
 | .i8=>(.int .i8 n,-128≤n∧n≤127)
 | .i16=>(.int .i16 n,-32768≤n∧n≤32767)
 | .i32=>(.int .i32 n,-2147483648≤n∧n≤2147483647)
 | .i64=>(.int .i64 n,-9223372036854775808≤n∧n≤9223372036854775807)
 | .u8=>(.int .u8 n,0≤n∧n≤255)
 | .u16=>(.int .u16 n,0≤n∧n≤65535)
 | .u32=>(.int .u32 n,0≤n∧n≤4294967295)
 | .u64=>(.int .u64 n,0≤n∧n≤18446744073709551615)
theorem convK_eq(k:IntKind)(n:Int):Zff k n=(.int k n,loE k≤n∧n≤Ze6 k):=by cases k<;>rfl
def convE(ty:List (Nat × TyI))(src dst:Nat)(u:Value):Option (Value × Prop):=
 (Yj ty dst).bind fun ti=>(Yj ty src).bind fun _=>match u with
  | .int _ n=>bif Nat.beq ti.kind 2 then (match Zbr ti.x with|.i8=>some (Zff .i8 n)|.i16=>some (Zff .i16 n)|.i32=>some (Zff .i32 n)|.i64=>some (Zff .i64 n)|.u8=>some (Zff .u8 n)|.u16=>some (Zff .u16 n)|.u32=>some (Zff .u32 n)|.u64=>some (Zff .u64 n)) else none
  | _=>none
def ixE(ty:List (Nat × TyI))(t:Nat)(u v:Value):Option (Value × Prop):=
 (Yj ty t).bind fun ti=>match u,v with
  | .string ⟨⟨l⟩⟩,.int _ j=>bif Nat.beq ti.kind 3 then some (.int .u8 ((l.getD j.toNat 0).toNat:Int),0≤j∧j<l.length) else none
  | _,_=>none
def opE(ty:List (Nat × TyI))(fl:List (Nat × Nat × Nat))(ρ:Z9)(o:Op):Option (Value × Prop):=
 match o with
 | .move x=>(ev ρ x).bind fun v=>some (v,True)
 | .assign x=>(ev ρ x).bind fun v=>some (v,True)
 | .pick c x y=>(match ev ρ c with
  | some (.bool b)=>(match b with
   | true=>(ev ρ x).bind fun v=>some (v,True)
   | false=>(ev ρ y).bind fun v=>some (v,True))
  | _=>none)
 | .extract x j=>(match ev ρ x with
  | some (.tuple ⟨vs⟩)=>(vs[j]?).bind fun v=>some (v,True)
  | _=>none)
 | .nilCheck x=>(match ev ρ x with
  | some (.pointer (some p))=>some (.pointer (some p),True)
  | _=>none)
 | .fieldAddr s x f=>(match ev ρ x with
  | some (.pointer (some ⟨b,i,none⟩))=>(Yj fl (s*64+f)).bind fun q=>(match q with|(o,_)=>bif Nat.blt f 64 then some (pt b (i+o),True) else none)
  | _=>none)
 | .indexAddr t x y=>(ev ρ x).bind fun u=>(ev ρ y).bind fun v=>Zvy ty t u v
 | .binOp op t x y _=>(ev ρ x).bind fun u=>bif isNil y && Zqa u then nilE ty op t else (ev ρ y).bind fun v=>binE ty op t u v
 | .unOp .not _ x=>(ev ρ x).bind notE
 | .slice t x lo hi none=>(match ev ρ x with
  | some (.slice a len cap)=>(match lo,hi with
   | some l,none=>(ev ρ l).bind fun l=>Zih ty t a len cap (some l) none
   | none,some h=>(ev ρ h).bind fun h=>Zih ty t a len cap none (some h)
   | some l,some h=>(ev ρ l).bind fun l=>(ev ρ h).bind fun h=>Zih ty t a len cap (some l) (some h)
   | none,none=>none)
  | _=>none)
 | .convert src dst x=>(ev ρ x).bind fun u=>convE ty src dst u
 | .index t x y=>(ev ρ x).bind fun u=>(ev ρ y).bind fun v=>ixE ty t u v
 | .makeInterface t x=>(ev ρ x).bind fun u=>(Yj ty t).bind fun ti=>bif Nat.beq ti.kind 9 then none else some (.iface t u,True)
 | .makeFunc (.func f) ⟨[]⟩ ⟨cap⟩=>(evs ρ cap).bind fun vs=>some (.func (.func f) #[] ⟨vs⟩,True)
 | .call ⟨.builtin b,⟨args⟩,⟨ts⟩⟩=>callE ty ρ b args ts
 | _=>none
section sound
variable{P:Program}(S:Tab P){ρ:Z9}{L:Za}{d:Option Tmp}{ty:TypeId}{pos:String}{af:Array Edge}{g:Option (Nat × Bool)}
theorem Zx{α:Type}{c:Bool}{x:Option α}{v:α}(h:(bif c then x else none)=some v):c=true∧x=some v:=by
 cases c with
 | true=>exact⟨rfl,h⟩
 | false=>cases h
theorem bind_some{α β:Type}{x:Option α}{f:α→Option β}{v:β}(h:x.bind f=some v):∃y,x=some y∧f y=some v:=by
 cases x with
 | none=>cases h
 | some y=>exact⟨y,rfl,h⟩
theorem intE_q{op:BinOp}{t t':Nat}{x y:Operand}{k:IntKind}{a b:Int}{v:Value}{p:Prop}(hx:ev ρ x=some (.int k a))(hy:ev ρ y=some (.int k b))(h:intE op k a b=some (v,p))(hp:p):
  QOp P ⟨d,.binOp op t x y t',ty,pos,af,g⟩ ρ L v:=by
 unfold intE at h
 split at h
 case h_1=>cases h;exact q_lss hx hy
 case h_2=>cases h;exact q_leq hx hy
 case h_3=>cases h;exact q_gtr hx hy
 case h_4=>cases h;exact q_geq hx hy
 case h_5=>cases h;exact q_eql hx hy
 case h_6=>cases h;exact q_neq hx hy
 case h_7=>
  cases hk:Zsy k .i64 with
  | true=>rw[hk]at h;cases h;cases Zbq hk;exact q_add hx hy hp
  | false=>rw[hk]at h;cases h;rw[Zrq];exact Wo hx hy fun w=>by simp[binOp,Op.intArith]
 case h_8=>
  cases hk:Zsy k .i64 with
  | true=>rw[hk]at h;cases h;cases Zbq hk;exact q_sub hx hy hp
  | false=>rw[hk]at h;cases h;rw[Zrq];exact Wo hx hy fun w=>by simp[binOp,Op.intArith]
 case h_9=>
  cases hk:Zsy k .i64 with
  | true=>rw[hk]at h;cases h;cases Zbq hk;exact q_mul hx hy hp
  | false=>rw[hk]at h;cases h;rw[Zrq];exact Wo hx hy fun w=>by simp[binOp,Op.intArith]
 case h_10=>
  obtain⟨hk,h2⟩:=Zx h
  clear h
  cases h2;cases Zbq hk;exact q_quo hx hy hp
 case h_11=>
  obtain⟨hk,h2⟩:=Zx h
  clear h
  cases h2;cases Zbq hk;exact q_rem hx hy hp
 case h_12=>cases h;exact Wo hx hy fun w=>by simp only[binOp,ne_eq,Z36,Z3h,Op.intBits,bits_and hp];rfl
 case h_13=>cases h;exact Wo hx hy fun w=>by simp only[binOp,ne_eq,Z36,Z3h,Op.intBits,bits_or hp];rfl
 case h_14=>cases h;exact Wo hx hy fun w=>by simp only[binOp,ne_eq,Z36,Z3h,Op.intBits,bits_xor hp];rfl
 case h_15=>cases h;exact Wo hx hy fun w=>by simp only[binOp,ne_eq,Z36,Z3h,Op.intBits,Zr0 hp];rfl
 case h_16=>cases h
theorem Zxa{k:IntKind}{b:Int}(h0:0≤b)(h1:b≤wdE k):min b.toNat k.bits=b.toNat:=by
 cases k<;>simp only[wdE]at h1<;>simp only[IntKind.bits]<;>omega
theorem Zmf{op:BinOp}{t t':Nat}{x y:Operand}{k k':IntKind}{a b:Int}{v:Value}(hx:ev ρ x=some (.int k a))(hy:ev ρ y=some (.int k' b))(hv:∀w,(binOp op t (.int k a) (.int k' b)).run P w=.ok v w):
  QOp P ⟨d,.binOp op t x y t',ty,pos,af,g⟩ ρ L v:=
 Vi (fun ρe he N=>by
  refine Zbs ?_ ?_
  ·rw[he x (by simp[Op.operands]) _ hx,he y (by simp[Op.operands]) _ hy];exact Zi9
  ·rw[he x (by simp[Op.operands]) _ hx,he y (by simp[Op.operands]) _ hy];exact Zow) fun ρe he k w hs=>by simp[execOp,he x (by simp[Op.operands]) _ hx,he y (by simp[Op.operands]) _ hy,Ziu,hv w]
theorem shE_q{op:BinOp}{t t':Nat}{x y:Operand}{k k':IntKind}{a b:Int}{v:Value}{p:Prop}(hx:ev ρ x=some (.int k a))(hy:ev ρ y=some (.int k' b))(h:shE op k a b=some (v,p))(hp:p):
  QOp P ⟨d,.binOp op t x y t',ty,pos,af,g⟩ ρ L v:=by
 unfold shE at h
 split at h
 ·cases h
  refine Zmf hx hy fun w=>?_
  have hnn:(0:Int)≤2 ^ b.toNat:=Int.pow_nonneg (by decide)
  have h1:¬ b<0:=by omega
  simp[binOp,Op.shift,h1,Zxa hp.1 hp.2,Int.fdiv_eq_ediv_of_nonneg _ hnn]
 ·cases hk:Zsy k .i64 with
  | true=>
   rw[hk]at h;cases h;cases Zbq hk
   refine Zmf hx hy fun w=>?_
   have h1:¬ b<0:=by omega
   simp[binOp,Op.shift,h1,Zxa (k:=.i64) hp.1 hp.2.1,Ze2 (k:=.i64) hp.2.2.1 hp.2.2.2]
  | false=>
   rw[hk]at h;cases h
   refine Zmf hx hy fun w=>?_
   have h1:¬ b<0:=by omega
   simp[binOp,Op.shift,h1,Zxa hp.1 hp.2,Zrq]
 ·cases h
theorem binE_q{op:BinOp}{t t':Nat}{x y:Operand}{u u' v:Value}{p:Prop}(hx:ev ρ x=some u)(hy:ev ρ y=some u')(h:binE S.ty op t u u'=some (v,p))(hp:p):
  QOp P ⟨d,.binOp op t x y t',ty,pos,af,g⟩ ρ L v:=by
 unfold binE at h
 split at h
 case h_1=>
  rename_i k a k' b
  cases hs:isSh op with
  | true=>rw[hs]at h;exact shE_q hx hy h hp
  | false=>
   rw[hs]at h
   obtain⟨hk,h2⟩:=Zx (show (bif Zsy k k' then intE op k a b else none)=some (v,p) from h)
   clear h
   cases Zbq hk;exact intE_q hx hy h2 hp
 case h_2=>
  obtain⟨ti,ht,h⟩:=bind_some h
  obtain⟨hk,h⟩:=Zx h
  have hk:=Z2a hk
  split at h<;>cases h
  ·exact q_eqlB S hx hy ht hk
  ·exact q_neqB S hx hy ht hk
 case h_3=>
  split at h<;>cases h
  ·exact q_eqlS hx hy
  ·exact q_neqS hx hy
  ·exact q_addS hx hy hp
 case h_4=>
  obtain⟨ti,ht,h⟩:=bind_some h
  obtain⟨hk,h⟩:=Zx h
  have hk:=Z2a hk
  split at h<;>cases h
  ·exact q_eqlPn S hx hy ht hk
  ·exact q_neqPn S hx hy ht hk
 case h_5=>
  obtain⟨ti,ht,h⟩:=bind_some h
  obtain⟨hk,h⟩:=Zx h
  have hk:=Z2a hk
  split at h<;>cases h
  ·exact q_eqlPnn S hx hy ht hk
  ·exact q_neqPnn S hx hy ht hk
 case h_6=>
  obtain⟨ti,ht,h⟩:=bind_some h
  obtain⟨hk,h⟩:=Zx h
  have hk:=Z2a hk
  split at h<;>cases h
  ·exact Zc3 (b:=false) hx hy (fun w=>by simp[eqGuard]) (fun w=>Vq fun dd=>Zj8 (Z7 (S.tyI ht) hk) dd w) (fun _ _ _=>trivial) (fun _ _ _=>Yk fun dd=>Zkl (Z7 (S.tyI ht) hk) dd) rfl
  ·exact Za7 (b:=false) hx hy (fun w=>by simp[eqGuard]) (fun w=>Vq fun dd=>Zj8 (Z7 (S.tyI ht) hk) dd w) (fun _ _ _=>trivial) (fun _ _ _=>Yk fun dd=>Zkl (Z7 (S.tyI ht) hk) dd) rfl
 case h_7=>
  obtain⟨ti,ht,h⟩:=bind_some h
  obtain⟨hk,h⟩:=Zx h
  have hk:=Z2a hk
  split at h<;>cases h
  ·exact Zc3 (b:=true) hx hy (fun w=>by simp[eqGuard]) (fun w=>Vq fun dd=>Zj8 (Z7 (S.tyI ht) hk) dd w) (fun _ _ _=>trivial) (fun _ _ _=>Yk fun dd=>Zkl (Z7 (S.tyI ht) hk) dd) rfl
  ·exact Za7 (b:=true) hx hy (fun w=>by simp[eqGuard]) (fun w=>Vq fun dd=>Zj8 (Z7 (S.tyI ht) hk) dd w) (fun _ _ _=>trivial) (fun _ _ _=>Yk fun dd=>Zkl (Z7 (S.tyI ht) hk) dd) rfl
 case h_8=>
  obtain⟨ti,ht,h⟩:=bind_some h
  obtain⟨hk,h⟩:=Zx h
  have hk:=Z2a hk
  split at h<;>cases h
  ·exact q_eqlIn S hx hy ht hk
  ·exact q_neqIn S hx hy ht hk
 case h_9=>cases h
theorem isNil_eq{y:Operand}(h:isNil y=true):y=.const .nilIface:=by
 unfold isNil at h
 split at h
 ·rfl
 ·cases h
theorem Z0i{y:Value}(h:Zqa y=true):y=.nilIface:=by
 unfold Zqa at h
 split at h
 ·rfl
 ·cases h
theorem nilE_q{op:BinOp}{t t':Nat}{x:Operand}{v:Value}{p:Prop}(hx:ev ρ x=some .nilIface)(h:nilE S.ty op t=some (v,p)):
  QOp P ⟨d,.binOp op t x (.const .nilIface) t',ty,pos,af,g⟩ ρ L v:=by
 unfold nilE at h
 obtain⟨ti,ht,h⟩:=bind_some h
 obtain⟨hk,h⟩:=Zx h
 have hk:=Z2a hk
 split at h<;>cases h
 ·exact q_eqlInn S hx ht hk
 ·exact q_neqInn S hx ht hk
theorem indexE_q{t:Nat}{x y:Operand}{u u' v:Value}{p:Prop}(hx:ev ρ x=some u)(hy:ev ρ y=some u')(h:Zvy S.ty t u u'=some (v,p))(hp:p):QOp P ⟨d,.indexAddr t x y,ty,pos,af,g⟩ ρ L v:=by
 unfold Zvy at h
 obtain⟨ti,ht,h⟩:=bind_some h
 split at h
 ·obtain⟨hk0,h2⟩:=Zx h
  clear h
  have hk:=Z2a hk0
  clear hk0
  obtain⟨te,he,h⟩:=bind_some h2
  clear h2
  obtain⟨k0,x0,y0,s0,b0⟩:=ti
  obtain⟨k1,x1,y1,s1,b1⟩:=te
  simp only at hk h he
  subst hk
  cases hc:Nat.beq s1 1 with
  | true=>
   rw[hc]at h
   have:=Z2a hc
   subst this
   cases h
   exact Zqr S hx hy ht he hp
  | false=>rw[hc]at h;cases h;exact Zje S hx hy ht he hp
 ·obtain⟨hk0,h2⟩:=Zx h
  clear h
  have hk:=Z2a hk0
  clear hk0
  obtain⟨te,he,h⟩:=bind_some h2
  clear h2
  obtain⟨k0,x0,y0,s0,b0⟩:=ti
  obtain⟨k1,x1,y1,s1,b1⟩:=te
  simp only at hk h he
  subst hk
  cases h
  exact Zqs S hx hy ht he hp
 ·cases h
theorem callE_q{b:Builtin}{args:List Operand}{ts:List Nat}{v:Value}{p:Prop}(h:callE S.ty ρ b args ts=some (v,p))(hp:p):QOp P ⟨d,.call ⟨.builtin b,⟨args⟩,⟨ts⟩⟩,ty,pos,af,g⟩ ρ L v:=by
 unfold callE at h
 split at h
 ·obtain⟨u,hu,h⟩:=bind_some h
  obtain⟨ti,ht,h⟩:=bind_some h
  split at h
  ·obtain⟨hk,h⟩:=Zx h
   cases h
   exact q_lenS S hu ht (Z2a hk)
  ·obtain⟨hk,h⟩:=Zx h
   cases h
   exact q_lenT S hu ht (Z2a hk)
  ·obtain⟨hk0,h2⟩:=Zx h
   clear h
   have hk:=Z2a hk0
   clear hk0
   have h:=h2
   clear h2
   obtain⟨k0,x0,y0,s0,b0⟩:=ti
   simp only at hk h
   subst hk
   cases h
   exact q_lenA S hu ht
 ·split at h
  ·rename_i h1 h2
   obtain⟨hk,h3⟩:=Zx h
   clear h
   cases Zbq hk
   cases h3
   exact q_max h1 h2
  ·cases h
 ·split at h
  ·rename_i h1 h2
   obtain⟨hk,h3⟩:=Zx h
   clear h
   cases Zbq hk
   cases h3
   exact q_min h1 h2
  ·cases h
 ·cases h
theorem Zl9{src dst:Nat}{k k':IntKind}{n:Int}{B W:Nat→Prop}{N:Nat}(h:P.underlying dst=some (.int k')):Plo P B W N (convert src dst (.int k n)):=by
 unfold convert
 refine Plo.bind (Zg _) fun d=>Zf h ?_
 split<;>first|exact trivial|(rename_i e _;cases e;done)|(rename_i e;cases e;done)|skip
theorem convE_q{src dst:Nat}{x:Operand}{u v:Value}{p:Prop}(hx:ev ρ x=some u)(h:convE S.ty src dst u=some (v,p))(hp:p):QOp P ⟨d,.convert src dst x,ty,pos,af,g⟩ ρ L v:=by
 unfold convE at h
 obtain⟨ti,ht,h1⟩:=bind_some h
 obtain⟨ts,hs,h2⟩:=bind_some h1
 clear h h1
 split at h2
 ·rename_i k0 n
  obtain⟨hk,h3⟩:=Zx h2
  clear h2
  have h:some (Zff (Zbr ti.x) n)=some (v,p):=by
   rw[← h3]
   cases Zbr ti.x<;>rfl
  rw[convK_eq]at h
  cases h
  refine Vi (fun ρe he N=>?_) fun ρe he k w hsat=>?_
  ·simp only[execOp,he x (by simp[Op.operands]) _ hx]
   have e1:=Zdc (S.tyI ht) (Z2a hk)
   obtain⟨ds,hds⟩:=Z4k.1 (Zil (S.tyI hs))
   exact Plo.bind (Zl9 e1) fun _=>trivial
  have e1:=Zdc (S.tyI ht) (Z2a hk)
  obtain⟨ds,hds⟩:=Z4k.1 (Zil (S.tyI hs))
  simp[execOp,he x (by simp[Op.operands]) _ hx,convert,Z2k e1,Z2k hds,Conv.intToInt,Ze2 hp.1 hp.2]
 ·cases h2
theorem ixE_q{t:Nat}{x y:Operand}{u u' v:Value}{p:Prop}(hx:ev ρ x=some u)(hy:ev ρ y=some u')(h:ixE S.ty t u u'=some (v,p))(hp:p):QOp P ⟨d,.index t x y,ty,pos,af,g⟩ ρ L v:=by
 unfold ixE at h
 obtain⟨ti,ht,h1⟩:=bind_some h
 clear h
 split at h1
 ·rename_i l k j
  obtain⟨hk,h⟩:=Zx h1
  cases h
  refine Ws fun ρe he k w hsat=>?_
  have e1:=Qz (S.tyI ht) (Z2a hk)
  have hlt:j.toNat<l.length:=by omega
  have e2:(ByteArray.mk ⟨l⟩)[j.toNat]?=some (l.getD j.toNat 0):=by
   have h3:j.toNat<(ByteArray.mk ⟨l⟩).size:=by rw[Zcn];exact hlt
   rw[getElem?_pos (ByteArray.mk ⟨l⟩) j.toNat h3]
   simp[ByteArray.getElem_eq_getElem_data,List.getD,hlt]
  simp[execOp,he x (by simp[Op.operands]) _ hx,he y (by simp[Op.operands]) _ hy,Instr.index,asIntOf,Z2k e1,hp.1,e2]
 ·cases h1
theorem opE_q{o:Op}{v:Value}{p:Prop}(h:opE S.ty S.fl ρ o=some (v,p))(hp:p):QOp P ⟨d,o,ty,pos,af,g⟩ ρ L v:=by
 unfold opE at h
 split at h
 ·obtain⟨u,hu,h⟩:=bind_some h
  cases h
  exact q_move hu
 ·obtain⟨u,hu,h⟩:=bind_some h
  cases h
  exact Zty hu
 ·split at h
  ·rename_i b hb
   split at h
   ·obtain⟨u,hu,h⟩:=bind_some h
    cases h
    exact q_pickt hb rfl hu
   ·obtain⟨u,hu,h⟩:=bind_some h
    cases h
    exact q_pickf hb rfl hu
  ·cases h
 ·split at h
  ·rename_i hx
   obtain⟨u,hu,h⟩:=bind_some h
   cases h
   exact Z09 hx hu
  ·cases h
 ·split at h
  ·rename_i hx
   cases h
   exact Zws hx
  ·cases h
 ·split at h
  ·rename_i hx
   obtain⟨q,hq,h⟩:=bind_some h
   obtain⟨hk,h⟩:=Zx h
   cases h
   exact Ztz S hx hq hk
  ·cases h
 ·obtain⟨u,hu,h⟩:=bind_some h
  obtain⟨u',hu',h⟩:=bind_some h
  exact indexE_q S hu hu' h hp
 ·obtain⟨u,hu,h⟩:=bind_some h
  cases hc:(isNil _ && Zqa u) with
  | true=>
   rw[hc]at h
   simp only[Z27]at hc
   rw[isNil_eq hc.1]
   rw[Z0i hc.2]at hu
   exact nilE_q S hu h
  | false=>
   rw[hc]at h
   obtain⟨u',hu',h⟩:=bind_some h
   exact binE_q S hu hu' h hp
 ·obtain⟨u,hu,h⟩:=bind_some h
  unfold notE at h
  split at h
  ·split at h
   ·cases h
    exact q_not_t hu rfl
   ·cases h
    exact q_not_f hu rfl
  ·cases h
 ·split at h
  ·rename_i hx
   split at h
   ·obtain⟨u,hu,h⟩:=bind_some h
    unfold Zih at h
    obtain⟨ti,ht,h1⟩:=bind_some h
    clear h
    obtain⟨hk0,h2⟩:=Zx h1
    clear h1
    have hk:=Z2a hk0
    clear hk0
    obtain⟨te,he,h⟩:=bind_some h2
    clear h2
    obtain⟨k0,x0,y0,s0,b0⟩:=ti
    obtain⟨k1,x1,y1,s1,b1⟩:=te
    simp only at hk h he
    subst hk
    split at h
    all_goals try (rename_i e1 e2;cases e2;done)
    all_goals try (rename_i e1 e2;cases e1;done)
    all_goals try (cases h;done)
    all_goals (rename_i e1 e2;cases e1;cases h;exact Z1c S hx hu ht he hp)
   ·obtain⟨u,hu,h⟩:=bind_some h
    unfold Zih at h
    obtain⟨ti,ht,h1⟩:=bind_some h
    clear h
    obtain⟨hk0,h2⟩:=Zx h1
    clear h1
    have hk:=Z2a hk0
    clear hk0
    obtain⟨te,he,h⟩:=bind_some h2
    clear h2
    obtain⟨k0,x0,y0,s0,b0⟩:=ti
    obtain⟨k1,x1,y1,s1,b1⟩:=te
    simp only at hk h he
    subst hk
    split at h
    all_goals try (rename_i e1 e2;cases e1;done)
    all_goals try (cases h;done)
    all_goals (rename_i e1 e2;cases e2;cases h;exact Z1a S hx hu ht he hp)
   ·obtain⟨u,hu,h⟩:=bind_some h
    obtain⟨u',hu',h9⟩:=bind_some h
    clear h
    have h:=h9
    clear h9
    unfold Zih at h
    obtain⟨ti,ht,h1⟩:=bind_some h
    clear h
    obtain⟨hk0,h2⟩:=Zx h1
    clear h1
    have hk:=Z2a hk0
    clear hk0
    obtain⟨te,he,h⟩:=bind_some h2
    clear h2
    obtain⟨k0,x0,y0,s0,b0⟩:=ti
    obtain⟨k1,x1,y1,s1,b1⟩:=te
    simp only at hk h he
    subst hk
    split at h
    all_goals try (rename_i e1 e2;cases e2;done)
    all_goals try (rename_i e1 e2;cases e1;done)
    all_goals try (cases h;done)
    all_goals (rename_i e1 e2;cases e1;cases e2;cases h;exact Z1b S hx hu hu' ht he hp)
   ·cases h
  ·cases h
 ·obtain⟨u,hu,h1⟩:=bind_some h
  exact convE_q S hu h1 hp
 ·obtain⟨u,hu,h1⟩:=bind_some h
  obtain⟨u',hu',h2⟩:=bind_some h1
  exact ixE_q S hu hu' h2 hp
 ·obtain⟨u,hu,h1⟩:=bind_some h
  obtain⟨ti,ht,h2⟩:=bind_some h1
  clear h h1
  rename_i t x
  cases hk:Nat.beq ti.kind 9 with
  | true=>rw[hk]at h2;cases h2
  | false=>
   rw[hk]at h2
   cases h2
   refine Ws fun ρe he k w hsat=>?_
   obtain⟨dd,j,hd,hj,he2,-,-⟩:=X8 (S.tyI ht)
   have:∀ms,dd≠.interface ms:=fun ms e=>by
    subst e
    simp only[Za1,Z3m]at he2
    rw[← he2.1]at hk
    cases hk
   cases dd<;>first|(exact absurd rfl (this _))|simp[execOp,he x (by simp[Op.operands]) _ hu,Instr.makeInterface,Z2k hd]
 ·obtain⟨u,hu,h⟩:=bind_some h
  cases h
  exact Zmh hu
 ·exact callE_q S h hp
 ·cases h
end sound
def Zqb:Value→Bool
 | .tuple ⟨[]⟩=>true
 | _=>false
theorem Zf2{v:Value}(h:Zqb v=true):v=undef:=by
 unfold Zqb at h
 split at h
 ·rfl
 ·cases h
def Y3(ops:List Oper)(ρ:Z9):Option (Nat × Bool)→Option Bool
 | none=>some true
 | some (j,wt)=>(match Zb2 ops j with
  | some t=>(match lk ρ t with
   | some (.bool b)=>(match b with
    | true=>some wt
    | false=>some (!wt))
   | some v=>bif Zqb v then some false else none
   | none=>none)
  | none=>none)
section go
variable{P:Program}{n:Nat}{ops:List Oper}{Q:Exit→Z9→Za→Prop}{rest:List Oper}{ρ:Z9}{L:Za}{op:Op}{ty:TypeId}{pos:String}{af:Array Edge}{g:Option (Nat × Bool)}{d:Nat}
theorem ho_go{v:Value}(hg:Y3 ops ρ g=some true)(hn:Nat.blt d n=true)(h:QOp P ⟨some d,op,ty,pos,af,g⟩ ρ L v)(hr:HO P n ops Q rest ((d,v)::ρ) L):HO P n ops Q (⟨some d,op,ty,pos,af,g⟩::rest) ρ L:=by
 unfold Y3 at hg
 split at hg
 ·exact ho_q hn h hr
 ·rename_i j wt
  split at hg
  ·rename_i hj
   split at hg
   ·rename_i ht
    split at hg
    ·cases hg;exact Zyb hn hj ht h hr
    ·cases wt with
     | true=>simp at hg
     | false=>exact Zyb hn hj ht h hr
   ·obtain⟨_,h1⟩:=Zx hg
    cases h1
   ·cases hg
  ·cases hg
theorem ho_no(hg:Y3 ops ρ g=some false)(hn:Nat.blt d n=true)(hr:HO P n ops Q rest ((d,undef)::ρ) L):HO P n ops Q (⟨some d,op,ty,pos,af,g⟩::rest) ρ L:=by
 unfold Y3 at hg
 split at hg
 ·cases hg
 ·rename_i j wt
  split at hg
  ·rename_i hj
   split at hg
   ·rename_i ht
    split at hg
    ·cases hg;exact Zya hn hj ht rfl hr
    ·cases wt with
     | true=>exact Zya hn hj ht rfl hr
     | false=>simp at hg
   ·rename_i ht
    obtain⟨h1,_⟩:=Zx hg
    exact ho_skipu hj ht (Zf2 h1) hn hr
   ·cases hg
  ·cases hg
theorem ho_on{d:Option Tmp}{j:Nat}{wt:Bool}(hg:Y3 ops ρ (some (j,wt))=some true)(h:HO P n ops Q (⟨d,op,ty,pos,af,none⟩::rest) ρ L):HO P n ops Q (⟨d,op,ty,pos,af,some (j,wt)⟩::rest) ρ L:=by
 refine Zep fun a ha=>?_
 have hw:Region.wanted (Oper.mk d op ty pos af (some (j,wt))) (yielded ops.toArray a.tmps)=true:=by
  unfold Y3 at hg
  simp only at hg
  split at hg
  ·rename_i t hj
   split at hg
   ·rename_i b ht
    rw[Uf ha rfl hj ht]
    cases b<;>cases wt<;>simp at hg<;>rfl
   ·obtain⟨_,h1⟩:=Zx hg
    cases h1
   ·cases hg
  ·cases hg
 have h1:=Zav h a ha
 rw[Z2d (Yv _ rfl _)]at h1
 rw[Z2d hw]
 exact OpW.congr (o:=⟨d,op,ty,pos,af,none⟩) (e:=a.eval) rfl h1
end go
section hgo
variable{P:Program}{n:Nat}{ops:List Oper}{K:Z9→Prop}{rest:List Oper}{ρ:Z9}{L:Za}{op:Op}{ty:TypeId}{pos:String}{af:Array Edge}{g:Option (Nat × Bool)}{d:Nat}
theorem hq_go{v:Value}(hg:Y3 ops ρ g=some true)(hn:Nat.blt d n=true)(h:QOp P ⟨some d,op,ty,pos,af,g⟩ ρ L v)(hr:HQ P n ops K rest ((d,v)::ρ) L):HQ P n ops K (⟨some d,op,ty,pos,af,g⟩::rest) ρ L:=by
 unfold Y3 at hg
 split at hg
 ·exact hq_q hn h hr
 ·rename_i j wt
  split at hg
  ·rename_i hj
   split at hg
   ·rename_i ht
    split at hg
    ·cases hg;exact Zyd hn hj ht h hr
    ·cases wt with
     | true=>simp at hg
     | false=>exact Zyd hn hj ht h hr
   ·obtain⟨_,h1⟩:=Zx hg
    cases h1
   ·cases hg
  ·cases hg
theorem hq_no(hg:Y3 ops ρ g=some false)(hn:Nat.blt d n=true)(hr:HQ P n ops K rest ((d,undef)::ρ) L):HQ P n ops K (⟨some d,op,ty,pos,af,g⟩::rest) ρ L:=by
 unfold Y3 at hg
 split at hg
 ·cases hg
 ·rename_i j wt
  split at hg
  ·rename_i hj
   split at hg
   ·rename_i ht
    split at hg
    ·cases hg;exact Zyc hn hj ht rfl hr
    ·cases wt with
     | true=>exact Zyc hn hj ht rfl hr
     | false=>simp at hg
   ·rename_i ht
    obtain⟨h1,_⟩:=Zx hg
    exact hq_skipu hj ht (Zf2 h1) hn hr
   ·cases hg
  ·cases hg
end hgo
/-! ### package variables -/
def Gl(L:Za)(g:Nat)(v:Value):Prop:=∃l E fr,Has L g (.cells ⟨l⟩ E fr)∧l[0]?=some v
theorem Gl.cons{L:Za}{g:Nat}{v:Value}{c:List Zp}(h:Gl L g v):Gl (c::L) g v:=
 let ⟨l,E,fr,h1,h2⟩:=h
 ⟨l,E,fr,Zb h1,h2⟩
def errV(T:Nat)(E:Nat→Addr)(g:Nat):Value:=.iface T (.pointer (some (E g)))
def eV(T:Nat)(E:Nat→Addr):Option Nat→Value
 | none=>.nilIface
 | some g=>.iface T (.pointer (some (E g)))
def Errs(tab:List (Nat × Nat))(T:Nat)(E:Nat→Addr)(cs:List Nat)(L:Za):Prop:=∀g c,Yj tab g=some c→List.elem c cs=true→Gl L g (.iface T (.pointer (some (E c))))
theorem Errs.cons{tab:List (Nat × Nat)}{T:Nat}{E:Nat→Addr}{cs:List Nat}{L:Za}(h:Errs tab T E cs L)(c:List Zp):Errs tab T E cs (c::L):=fun g c hg hc=>(h g c hg hc).cons
theorem Errs.get{tab:List (Nat × Nat)}{T:Nat}{E:Nat→Addr}{cs:List Nat}{L:Za}{g c:Nat}(h:Errs tab T E cs L)(hg:Yj tab g=some c)(hm:List.elem c cs=true):Gl L g (.iface T (.pointer (some (E c)))):=h g c hg hm
theorem Errs.sub{tab:List (Nat × Nat)}{T:Nat}{E:Nat→Addr}{cs cs':List Nat}{L:Za}(h:Errs tab T E cs L)(hm:(cs'.all fun g=>cs.elem g)=true:=by rfl):Errs tab T E cs' L:=fun g c hg hc=>h g c hg (Z2u.1 hm c (Z5o.1 hc))
theorem Gl.mono{L L':Za}{g:Nat}{v:Value}(h:Gl L g v)(hl:∀b o,Has L b o→Has L' b o):Gl L' g v:=
 let ⟨l,E,fr,h1,h2⟩:=h
 ⟨l,E,fr,hl _ _ h1,h2⟩
theorem Errs.mono{tab:List (Nat × Nat)}{T:Nat}{E:Nat→Addr}{cs:List Nat}{L L':Za}(h:Errs tab T E cs L)(hl:∀b o,Has L b o→Has L' b o):Errs tab T E cs L':=fun g c hg hc=>(h g c hg hc).mono hl
section tab
variable{P:Program}(S:Tab P){ρ:Z9}{L:Za}{d:Option Tmp}{ty:TypeId}{pos:String}{af:Array Edge}{g:Option (Nat × Bool)}
theorem q_ixT{t:Nat}{l:List UInt8}{k:IntKind}{j:Int}{ti:TyI}{y:Operand}{c:Value}(hc:c=bs l)(hy:ev ρ y=some (.int k j))(ht:Yj S.ty t=some ti)(hk:Nat.beq ti.kind 3=true)(hl:Nat.beq l.length 256=true)(hj:0≤j∧j<256):
  QOp P ⟨d,.index t (.const c) y,ty,pos,af,g⟩ ρ L (.int .u8 ((l.getD j.toNat 0).toNat:Int)):=by
 subst hc
 refine ixE_q S (u:=bs l) (u':=.int k j) rfl hy ?_ (p:=0≤j∧j<l.length) ?_
 ·simp[ixE,ht,hk]
 ·have:=Z2a hl
  omega
end tab
section gl
variable{P:Program}(S:Tab P){ρ:Z9}{L:Za}{d:Option Tmp}{ty:TypeId}{pos:String}{af:Array Edge}{g:Option (Nat × Bool)}
theorem q_gload{t n:Nat}{ti:TyI}{v:Value}(ht:Yj S.ty t=some ti)(h6:Nat.beq ti.kind 6=false)(h7:Nat.beq ti.kind 7=false)(hg:Gl L n v):QOp P ⟨d,.load t (.global n),ty,pos,af,g⟩ ρ L v:=by
 obtain⟨l,E,fr,h1,h2⟩:=hg
 exact Zmg S (x:=.global n) rfl ht h6 h7 h1 h2
end gl
def full(n:Nat)(a:Act):Z9:=(List.range n).map fun t=>(t,a.tmps.getD t undef)
theorem Zv4(f:Nat→Value):∀(l:List Nat) (t:Nat),lk (l.map fun t=>(t,f t)) t=if t∈l then some (f t) else none
 | [],t=>by simp[lk]
 | x::r,t=>by
  simp only[Z2s]
  by_cases e:x=t
  ·subst e;rw[Uv];simp
  ·rw[Uw _ _ e,Zv4 f r t]
   have:t≠x:=fun h=>e h.symm
   simp[this]
theorem agr_full{n:Nat}{a:Act}(hs:a.tmps.size=n):Agr n a (full n a):=by
 refine⟨hs,fun t v h=>?_⟩
 unfold full at h
 rw[Zv4]at h
 split at h
 ·rename_i hm
  have hlt:=Z4w.1 hm
  cases h
  rw[Z3x (by omega)]
  simp[Array.getD,hs,hlt]
 ·cases h
theorem Zsi{n:Nat}{a:Act}(hs:a.tmps.size=n){t:Nat}{v:Value}(h:a.tmps[t]?=some v):lk (full n a) t=some v:=by
 obtain⟨hlt,he⟩:=Z2g.1 h
 unfold full
 rw[Zv4,Z2d (Z4w.2 (by omega))]
 simp[Array.getD,hlt,he]
def ELe(ρ ρ':Z9):Prop:=∀t v,lk ρ t=some v→lk ρ' t=some v
theorem Agr.le{n:Nat}{a:Act}{ρ ρ':Z9}(h:Agr n a ρ')(hl:ELe ρ ρ'):Agr n a ρ:=⟨h.size,fun t v hv=>h.get t v (hl t v hv)⟩
section any
variable(P:Program)(n:Nat)(ops:List Oper)(Q:Exit→Z9→Za→Prop)
def Zfj(i0 i:Nat):Bool:=match ops[i]? with
 | some o=>o.after.toList.all fun e => !(Region.binds .any e && Nat.beq e.on i0)
 | none=>true
def Zij(i:Nat)(L:Za):List (Nat × Zp)→Prop
 | []=>True
 | (i0,p)::r=>(Zfj ops i0 i=false∨Has L p.1 p.2)∧Zij i L r
def ssF(i:Nat)(Ss:List (Nat × Zp)):List (Nat × Zp):=Ss.filter fun s=>Zfj ops s.1 i
def Fin(ρ:Z9)(L:Za):Prop:=∀a,Agr n a ρ→∃ρ' L2,Agr n a ρ'∧Wk L L2∧Q .normal ρ' L2
def HStep(i:Nat)(K:Z9→Za→Prop)(ρ:Z9)(L:Za):Prop:=
 ∀a,Agr n a ρ→KOp P ops.toArray i (fun a' L'=>∃ρ',Agr n a' ρ'∧K ρ' L') a L
def HAny:Nat→List (Nat × Zp)→Array Bool→Z9→Za→Prop
 | 0,_,l,ρ,L=>Region.ready .any ops.toArray l=[]∧Fin n Q ρ L
 | f+1,Ss,l,ρ,L=>(Region.ready .any ops.toArray l=[]→Fin n Q ρ L)∧
  ∀i∈Region.ready .any ops.toArray l,HStep P n ops i (fun ρ' L'=>Zij ops i L' Ss∧HAny f (ssF ops i Ss) (l.setIfInBounds i true) ρ' L') ρ L
end any
section any
variable{P:Program}{n:Nat}{ops:List Oper}{Q:Exit→Z9→Za→Prop}
theorem HStep.mono{i:Nat}{K K':Z9→Za→Prop}{ρ ρ':Z9}{L:Za}(hl:ELe ρ ρ')(hk:∀ρ L,K ρ L→K' ρ L)(h:HStep P n ops i K ρ L):HStep P n ops i K' ρ' L:=
 fun a ha=>KOp.mono (fun a' L' ⟨ρ1,h1,h3⟩=>⟨ρ1,h1,hk _ _ h3⟩) (h a (ha.le hl))
theorem HAny.sound:∀(f:Nat) (Ss:List (Nat × Zp)) (l:Array Bool) (ρ:Z9) (L:Za),HAny P n ops Q f Ss l ρ L→∀a,Agr n a ρ→KAny P .any ops.toArray (fun a' L'=>∃ρ' L2,Agr n a' ρ'∧Wk L' L2∧Q .normal ρ' L2) f l a L
 | 0,_,_,_,_,h,a,ha=>⟨h.1,h.2 a ha⟩
 | f+1,Ss,l,ρ,L,h,a,ha=>⟨fun h0=>h.1 h0 a ha,fun i hi=>KOp.mono (fun a' L' ⟨ρ',h1,h3⟩=>HAny.sound f _ _ ρ' L' h3.2 a' h1) (h.2 i hi a ha)⟩
theorem Fin.le{ρ ρ':Z9}{L:Za}(hl:ELe ρ ρ')(h:Fin n Q ρ L):Fin n Q ρ' L:=fun a ha=>h a (ha.le hl)
theorem HAny.le:∀{f:Nat} {Ss:List (Nat × Zp)} {l:Array Bool} {ρ ρ':Z9} {L:Za},ELe ρ ρ'→HAny P n ops Q f Ss l ρ L→HAny P n ops Q f Ss l ρ' L
 | 0,_,_,_,_,_,hl,h=>⟨h.1,h.2.le hl⟩
 | f+1,_,_,_,_,_,hl,h=>⟨fun h0=>(h.1 h0).le hl,fun i hi=>(h.2 i hi).mono hl fun _ _ h=>h⟩
theorem KOp.wk{ops:Array Oper}{i:Nat}{K:Act→Za→Prop}{a:Act}{L L':Za}(hK:∀a,K a L'→K a L)(hw:Wk L L')(h:KOp P ops i K a L'):KOp P ops i K a L:=by
 unfold KOp at*
 split
 ·rename_i ho;simp only[ho]at h;exact hK _ h
 ·rename_i o ho
  simp only[ho]at h
  split
  ·rename_i hq;rw[Z2d hq]at h;exact h.wk hw
  ·rename_i hq;rw[Z16 hq]at h;exact hK _ h
theorem Zkr{i:Nat}{L L':Za}(hl:LS L'.flatten L.flatten):∀{Ss:List (Nat × Zp)},Zij ops i L' Ss→Zij ops i L Ss
 | [],_=>trivial
 | (i0,p)::r,h=>⟨h.1.imp _root_.id fun h=>hl.mem h,Zkr hl h.2⟩
theorem HAny.ls:∀{f:Nat} {Ss:List (Nat × Zp)} {l:Array Bool} {ρ:Z9} {L L':Za},HAny P n ops Q f Ss l ρ L'→LS L'.flatten L.flatten→HAny P n ops Q f Ss l ρ L
 | 0,_,_,_,_,_,h,hl=>⟨h.1,fun a ha=>let ⟨ρ',L2,h1,h2,h3⟩:=h.2 a ha;⟨ρ',L2,h1,(Wk.ls hl).trans h2,h3⟩⟩
 | f+1,_,_,_,_,_,h,hl=>⟨fun h0 a ha=>let ⟨ρ',L2,h1,h2,h3⟩:=h.1 h0 a ha;⟨ρ',L2,h1,(Wk.ls hl).trans h2,h3⟩,fun i hi a ha=>
  KOp.wk (fun a' ⟨ρ',h1,h2,h3⟩=>⟨ρ',h1,Zkr hl h2,HAny.ls h3 hl⟩) (.ls hl) (h.2 i hi a ha)⟩
def QAt(P:Program)(ops:List Oper)(o:Oper)(ρ:Z9)(F:List Zp)(v:Value):Prop:=
 (Y3 ops ρ o.guard=some true∧∀L,(∀p∈F,Has L p.1 p.2)→QOp P o ρ L v)∨(Y3 ops ρ o.guard=some false∧v=undef)
theorem ssOk_all{i:Nat}{L:Za}:∀{Ss:List (Nat × Zp)},Zij ops i L Ss↔∀s∈Ss,Zfj ops s.1 i=true→Has L s.2.1 s.2.2
 | []=>by simp[Zij]
 | s::r=>by
  obtain⟨i0,p⟩:=s
  simp only[Zij,ssOk_all (Ss:=r),Z2h,forall_eq_or_imp]
  constructor
  ·rintro⟨h1,h2⟩
   refine⟨fun hk=>?_,h2⟩
   rcases h1 with h1|h1
   ·rw[h1]at hk;cases hk
   ·exact h1
  ·rintro⟨h1,h2⟩
   refine⟨?_,h2⟩
   cases hk:Zfj ops i0 i with
   | false=>exact .inl rfl
   | true=>exact .inr (h1 hk)
theorem Zz3{ρ ρ':Z9}{g:Option (Nat × Bool)}{b:Bool}(hl:∀j wt t v,g=some (j,wt)→Zb2 ops j=some t→lk ρ t=some v→lk ρ' t=some v)(h:Y3 ops ρ g=some b):Y3 ops ρ' g=some b:=by
 unfold Y3 at*
 split at h
 ·exact h
 ·rename_i j wt
  split at h
  ·rename_i t hj
   split at h
   ·rename_i c ht
    rw[hl j wt t _ rfl hj ht]
    exact h
   ·rename_i v hv ht
    rw[hl j wt t _ rfl hj ht]
    obtain⟨h1,h2⟩:=Zx h
    split
    ·rename_i heq
     cases heq
     exact absurd rfl (hv _)
    ·rename_i heq
     cases heq
     rw[h1]
     exact h2
    ·rename_i heq
     cases heq
   ·cases h
  ·cases h
theorem Zcj{a:Act}{ρ:Z9}(ha:Agr n a ρ){o:Oper}{b:Bool}(h:Y3 ops ρ o.guard=some b):Region.wanted o (yielded ops.toArray a.tmps)=b:=by
 unfold Y3 at h
 split at h
 ·rename_i hg
  cases h
  simp[Region.wanted,hg]
 ·rename_i j wt hg
  split at h
  ·rename_i t hj
   split at h
   ·rename_i c ht
    rw[Uf ha hg hj ht]
    cases c<;>cases wt<;>simp at h<;>subst h<;>rfl
   ·rename_i v hv ht
    obtain⟨h1,h2⟩:=Zx h
    cases h2
    have:=Zf2 h1
    subst this
    unfold Zb2 at hj
    simp[Region.wanted,hg,yielded,hj,ha.get _ _ ht,undef]
   ·cases h
  ·cases h
theorem QOp.le{o:Oper}{ρ ρ':Z9}{L:Za}{v:Value}(hl:∀x∈o.op.operands,∀u,ev ρ x=some u→ev ρ' x=some u)(h:QOp P o ρ L v):QOp P o ρ' L v:=
 fun e he=>h e (fun x hx u hu=>he x hx u (hl x hx u hu))
theorem kop_swap{j:Nat}{oi oj:Oper}{d:Nat}{v:Value}(hj:ops.toArray[j]?=some oj)(hd:oi.dst=some d)(hap:oi.apart ops.toArray oj=true)
  (hsj:∀cs b,oj.op≠.select cs b){K:Act→Za→Prop}{a:Act}{L:Za}(h:KOp P ops.toArray j K (a.put (some d) v) L):
  KOp P ops.toArray j (fun a' L'=>(∀t∈oi.looksAt ops.toArray,a'.tmps[t]?=a.tmps[t]?)∧K (a'.put (some d) v) L') a L:=by
 obtain⟨h1,h2,h3⟩:=Oper.apart_spec hap
 rw[hd]at h1 h2
 have keep:∀(a0:Act) (u:Value),(∀t∈oi.looksAt ops.toArray,a0.tmps[t]?=a.tmps[t]?)→∀t∈oi.looksAt ops.toArray,(a0.put oj.dst u).tmps[t]?=a.tmps[t]?:=by
  intro a0 u h0 t ht
  rw[← h0 t ht]
  cases hq:oj.dst with
  | none=>rfl
  | some e=>
   have hne:e≠t:=fun he=>h3 e hq (he▸ht)
   simp[Act.put,Z2e hne]
 unfold KOp at*
 simp only[hj] at*
 rw[wanted_put oj a (some d) v h1]at h
 split
 ·rename_i hw
  rw[Z2d hw]at h
  exact(h.congr (execOp_put oj hsj a (some d) v h1).symm).mono fun u L' hk=>⟨keep a u (fun _ _=>rfl),by rw[← Act.put_comm a v u h2];exact hk⟩
 ·rename_i hw
  rw[Z16 hw]at h
  exact⟨keep a _ (fun _ _=>rfl),by rw[← Act.put_comm a v undef h2];exact h⟩
theorem gdst_arr{j:Nat}:(ops.toArray[j]?).bind (·.dst)=Zb2 ops j:=by simp[Zb2]
theorem QAt.full{o:Oper}{ρ:Z9}{F:List Zp}{v:Value}{a a':Act}(h:QAt P ops o ρ F v)(ha:Agr n a ρ)(hs:a'.tmps.size=n)(he:∀t∈o.looksAt ops.toArray,a'.tmps[t]?=a.tmps[t]?):QAt P ops o (full n a') F v:=by
 have key:∀t∈o.looksAt ops.toArray,∀u,lk ρ t=some u→lk (HL.full n a') t=some u:=fun t ht u hu=>Zsi hs (by rw[he t ht];exact ha.get t u hu)
 have hg:∀b,Y3 ops ρ o.guard=some b→Y3 ops (HL.full n a') o.guard=some b:=fun b hb=>Zz3 (fun j wt t u hgu hj hu=>key t (by
  unfold Oper.looksAt
  rw[hgu]
  simp only[gdst_arr,hj]
  simp) u hu) hb
 have ho:∀x∈o.op.operands,∀u,ev ρ x=some u→ev (HL.full n a') x=some u:=fun x hx u hu=>by
  cases x with
  | tmp t=>exact key t (Z2x _ (Z6d.2 ⟨.tmp t,by simpa using hx,rfl⟩)) u hu
  | const c=>exact hu
  | global c=>exact hu
  | func c=>exact hu
 rcases h with⟨h1,h2⟩|⟨h1,h2⟩
 ·exact .inl ⟨hg _ h1,fun L hL=>(h2 L hL).le ho⟩
 ·exact .inr ⟨hg _ h1,h2⟩
theorem HAny.ss:∀{f:Nat} {Ss Ss':List (Nat × Zp)} {l:Array Bool} {ρ:Z9} {L:Za},(∀s∈Ss',s∈Ss)→HAny P n ops Q f Ss l ρ L→HAny P n ops Q f Ss' l ρ L
 | 0,_,_,_,_,_,_,h=>h
 | f+1,Ss,Ss',l,ρ,L,hs,h=>⟨h.1,fun i hi=>(h.2 i hi).mono (fun _ _ h=>h) fun ρ' L' ⟨h1,h2⟩=>⟨ssOk_all.2 fun s hm hk=>ssOk_all.1 h1 s (hs s hm) hk,HAny.ss (fun s hm=>by
   simp only[ssF,Z3s]at hm ⊢
   exact⟨hs s hm.1,hm.2⟩) h2⟩⟩
theorem Zvs{i d:Nat}{oi:Oper}{F:List Zp}{v:Value}(hi:ops.toArray[i]?=some oi)(hd:oi.dst=some d)(hdn:d<n)(hsel:∀(j:Nat) (o:Oper) cs b,ops.toArray[j]?=some o→o.op≠.select cs b):
  ∀(f:Nat) (Ss:List (Nat × Zp)) (l:Array Bool) (ρ:Z9) (L:Za),
   (∀j oj,ops.toArray[j]?=some oj→j≠i→l.getD j true=false→(∀e∈oj.after,Region.binds .any e=true→e.on≠i)→oi.apart ops.toArray oj=true)→
   i∈Region.ready .any ops.toArray l→QAt P ops oi ρ F v→(∀p∈F,Has L p.1 p.2)→(∀s∈Ss,Has L s.2.1 s.2.2)→
   HAny P n ops Q f (F.map (fun p=>(i,p))++Ss) (l.setIfInBounds i true) ((d,v)::ρ) L→HAny P n ops Q (f+1) Ss l ρ L:=by
 have self:∀(Ss:List (Nat × Zp)) (l:Array Bool) (ρ:Z9) (L:Za) (K:Z9→Za→Prop),QAt P ops oi ρ F v→(∀p∈F,Has L p.1 p.2)→K ((d,v)::ρ) L→HStep P n ops i K ρ L:=by
  intro Ss l ρ L K hq hF hK a ha
  unfold KOp
  simp only[hi]
  rcases hq with⟨hg,hq⟩|⟨hg,rfl⟩
  ·rw[Z2d (Zcj ha hg)]
   refine(hq L hF a.eval (fun x _ u hu=>ha.ev hu)).mono fun u L' ⟨e1,e2⟩=>?_
   rw[e1,e2,hd]
   exact⟨_,ha.put hdn v,hK⟩
  ·rw[Z16 (by rw[Zcj ha hg];simp)]
   rw[hd]
   exact⟨_,ha.put hdn undef,hK⟩
 intro f
 induction f with
 | zero=>
  intro Ss l ρ L hfree hr hq hF hS H
  refine⟨fun h=>(by rw[h]at hr;cases hr),fun j hj=>?_⟩
  by_cases hji:j=i
  ·subst hji
   exact self Ss l ρ L _ hq hF ⟨ssOk_all.2 fun s hs _=>hS s hs,HAny.ss (fun s hm=>Z2q _ (Z3s.1 hm).1) H⟩
  ·have:=Z7n hj hji
   rw[H.1]at this
   cases this
 | succ f ih=>
  intro Ss l ρ L hfree hr hq hF hS H
  refine⟨fun h=>(by rw[h]at hr;cases hr),fun j hj=>?_⟩
  by_cases hji:j=i
  ·subst hji
   exact self Ss l ρ L _ hq hF ⟨ssOk_all.2 fun s hs _=>hS s hs,HAny.ss (fun s hm=>Z2q _ (Z3s.1 hm).1) H⟩
  ·have h1:=H.2 j (Z7n hj hji)
   obtain⟨hjun,oj,hoj,hall⟩:=mem_ready.1 hj
   have hnot:∀e∈oj.after,Region.binds .any e=true→e.on≠i:=fun e he hb heq=>by
    have h1:=hall e he hb
    have h0:=(mem_ready.1 hr).1
    rw[heq]at h1
    rcases Z5x i l.size with h'|h'
    ·simp[h']at h0 h1;rw[h0]at h1;cases h1
    ·simp[Z3u h']at h1
   have hkeep:Zfj ops i j=true:=by
    unfold Zfj
    rw[show ops[j]?=some oj by simpa using hoj]
    simp only[Z2u,Z6m,Bool.and_eq_false_iff]
    intro e he
    by_cases hb:Region.binds .any e=true
    ·refine .inr ?_
     have:=hnot e (Z25.1 he) hb
     cases hbq:Nat.beq e.on i with
     | false=>rfl
     | true=>exact absurd (Z2a hbq) this
    ·exact .inl (by simpa using hb)
   intro a ha
   have h2:=kop_swap (d:=d) (v:=v) hoj hd (hfree j oj hoj hji hjun hnot) (fun cs b=>hsel j oj cs b hoj) (h1 (a.put (some d) v) (ha.put hdn v))
   refine KOp.mono (fun a' L' h3=>?_) h2
   obtain⟨hsame,ρ',ha',hss,hH⟩:=h3
   have hsz:a'.tmps.size=n:=by
    have:=ha'.size
    simpa[Act.put] using this
   have hfree':∀q oq,ops.toArray[q]?=some oq→q≠i→(l.setIfInBounds j true).getD q true=false→(∀e∈oq.after,Region.binds .any e=true→e.on≠i)→oi.apart ops.toArray oq=true:=fun q oq hq hqi hun hno=>by
    refine hfree q oq hq hqi ?_ hno
    by_cases hjk:j=q
    ·subst hjk;exact hjun
    ·rw[getD_set_ne true hjk]at hun;exact hun
   have hss':=ssOk_all.1 hss
   refine⟨full n a',agr_full hsz,ssOk_all.2 fun s hm hk=>hss' s (Z2q _ hm) hk,?_⟩
   refine ih (ssF ops j Ss) (l.setIfInBounds j true) (full n a') L' hfree' (Z7n hr (Ne.symm hji)) (hq.full ha hsz hsame) (fun p hp=>hss' (i,p) (Z2x _ (Z5l hp)) hkeep)
    (fun s hm=>hss' s (Z2q _ (Z3s.1 hm).1) (Z3s.1 hm).2) ?_
   rw[Array.setIfInBounds_comm _ _ hji]
   refine HAny.ss (fun s hm=>?_) (HAny.le (fun t u hu=>?_) hH)
   ·simp only[ssF,Z3s,Z2f,Z2v]at hm ⊢
    rcases hm with⟨p,hp,rfl⟩|hm
    ·exact⟨.inl ⟨p,hp,rfl⟩,hkeep⟩
    ·exact⟨.inr hm.1,hm.2⟩
   ·have hg:=ha'.get t u hu
    by_cases e:d=t
    ·subst e
     rw[Uv]
     have hlt:d<a'.tmps.size:=by omega
     simp[Act.put,Z48,hlt]at hg
     exact congrArg some hg
    ·rw[Uw _ _ e]
     simp[Act.put,Z48,e]at hg
     exact Zsi hsz hg
end any
structure Unl(ops:List Oper)(l:Array Bool)(rem:List (Nat × Oper)):Prop where
 size:l.size=ops.length
 nodup:(rem.map (·.1)).Nodup
 iff:∀j o,(j,o)∈rem↔(ops[j]?=some o∧l.getD j true=false)
def HD(P:Program)(n:Nat)(ops:List Oper)(Q:Exit→Z9→Za→Prop)(Ss:List (Nat × Zp))(rem:List (Nat × Oper))(ρ:Z9)(L:Za):Prop:=
 (∀s∈Ss,Has L s.2.1 s.2.2)→∀l,Unl ops l rem→HAny P n ops Q rem.length Ss l ρ L
def Zh8:Nat→List (Nat × Oper)→Option ((Nat × Oper) × List (Nat × Oper))
 | _,[]=>none
 | 0,x::r=>some (x,r)
 | k+1,x::r=>match Zh8 k r with
  | some (y,r')=>some (y,x::r')
  | none=>none
theorem Zi7:∀{k:Nat} {l:List (Nat × Oper)} {x:Nat × Oper} {r:List (Nat × Oper)},Zh8 k l=some (x,r)→∃a b,l=a++x::b∧r=a++b
 | k,[],_,_,h=>by cases k<;>simp[Zh8]at h
 | 0,x::r,_,_,h=>by simp[Zh8]at h;obtain⟨rfl,rfl⟩:=h;exact⟨[],_,rfl,rfl⟩
 | k+1,y::l,x,r,h=>by
  simp only[Zh8]at h
  split at h
  ·rename_i z r' hz
   simp at h
   obtain⟨rfl,rfl⟩:=h
   obtain⟨a,b,rfl,rfl⟩:=Zi7 hz
   exact⟨y::a,b,rfl,rfl⟩
  ·cases h
def isAct(o:Oper):Bool:=match o.op with
 | .alloc _|.box _ _|.store _ _ _|.buildSlice _ _ _|.makeSlice _ _ _|.makeMap _ _|.mapUpdate _ _ _ _|.insert _ _ _ _|.makeChan _ _=>true
 | .call ⟨.builtin .append,_,_⟩=>true
 | .call ⟨.builtin .copy,_,_⟩=>true
 | .call ⟨.builtin .clear,_,_⟩=>true
 | _=>false
def Zvz(o:Oper):Bool:=match o.op with
 | .call ⟨.value _,_,_⟩=>true
 | .call ⟨.invoke _ _,_,_⟩=>true
 | _=>isAct o
def Zou(b:Bool):List (Nat × Oper)→Option ((Nat × Oper) × List (Nat × Oper))
 | []=>none
 | x::r=>bif (match Zvz x.2,b with|true,true=>true|false,false=>true|_,_=>false) then some (x,r) else match Zou b r with
  | some (y,r')=>some (y,x::r')
  | none=>none
theorem Zga{b:Bool}:∀{l:List (Nat × Oper)} {x:Nat × Oper} {r:List (Nat × Oper)},Zou b l=some (x,r)→∃a b,l=a++x::b∧r=a++b
 | [],_,_,h=>by simp[Zou]at h
 | y::l,x,r,h=>by
  simp only[Zou]at h
  cases hc:(match Zvz y.2,b with|true,true=>true|false,false=>true|_,_=>false) with
  | true=>
   rw[hc]at h
   simp at h
   obtain⟨rfl,rfl⟩:=h
   exact⟨[],_,rfl,rfl⟩
  | false=>
   rw[hc]at h
   simp only[Z7c]at h
   split at h
   ·rename_i z r' hz
    simp at h
    obtain⟨rfl,rfl⟩:=h
    obtain⟨a,b,rfl,rfl⟩:=Zga hz
    exact⟨y::a,b,rfl,rfl⟩
   ·cases h
def Zbk(k:Nat)(l:List (Nat × Oper)):Option ((Nat × Oper) × List (Nat × Oper)):=
 bif Nat.beq k 100 then Zou false l else bif Nat.beq k 101 then Zou true l else Zh8 k l
theorem Zl8{k:Nat}{l:List (Nat × Oper)}{x:Nat × Oper}{r:List (Nat × Oper)}(h:Zbk k l=some (x,r)):∃a b,l=a++x::b∧r=a++b:=by
 unfold Zbk at h
 cases h1:Nat.beq k 100 with
 | true=>rw[h1]at h;exact Zga h
 | false=>
  rw[h1]at h
  cases h2:Nat.beq k 101 with
  | true=>rw[h2]at h;exact Zga h
  | false=>rw[h2]at h;exact Zi7 h
def Zc4(m:Nat)(rem:List (Nat × Oper))(o:Oper):Bool:=o.after.toList.all fun e => !(Region.binds .any e) || (Nat.blt e.on m && rem.all fun q => !Nat.beq q.1 e.on)
def Zrm(o:Oper)(i:Nat):Bool:=o.after.toList.any fun e=>Region.binds .any e && Nat.beq e.on i
def Znk(ops:List Oper)(rem:List (Nat × Oper))(i:Nat)(o:Oper):Bool:=
 Zc4 ops.length ((i,o)::rem) o && (rem.all fun q=>Zrm q.2 i || o.apart ops.toArray q.2) && Region.noSelect ops.toArray
def chkA(ops:List Oper)(rem:List (Nat × Oper))(i:Nat)(o:Oper):Bool:=
 Zc4 ops.length ((i,o)::rem) o && rem.all fun q => !Zc4 ops.length ((i,o)::rem) q.2
section hd
variable{P:Program}{n:Nat}{ops:List Oper}{Q:Exit→Z9→Za→Prop}{Ss:List (Nat × Zp)}{rem rem':List (Nat × Oper)}{ρ:Z9}{L:Za}
theorem beq_no{a b:Nat}(h:Nat.beq a b=false):a≠b:=fun e=>by subst e;simp at h
theorem Unl.ready{l:Array Bool}{i:Nat}{o:Oper}(hu:Unl ops l rem)(hm:(i,o)∈rem)(hr:Zc4 ops.length rem o=true):i∈Region.ready .any ops.toArray l:=by
 obtain⟨h1,h2⟩:=(hu.iff i o).1 hm
 refine mem_ready.2 ⟨h2,o,by simpa using h1,fun e he hb=>?_⟩
 have:=Z2u.1 hr e (Z25.2 he)
 rw[hb]at this
 simp only[Bool.not_true,Bool.false_or,Z27]at this
 have hlt:e.on<ops.length:=Z2m this.1
 have hnot:∀q∈rem,q.1≠e.on:=fun q hq=>by
  have h3:=Z2u.1 this.2 q hq
  exact beq_no (by simpa using h3)
 have hlt':e.on<l.size:=by rw[hu.size];exact hlt
 cases hv:l.getD e.on true with
 | false=>exact absurd rfl (hnot (e.on,ops[e.on]) ((hu.iff _ _).2 ⟨Z2c hlt,hv⟩))
 | true=>simpa[Array.getD,hlt'] using hv
theorem Unl.readyR_of{l:Array Bool}{i:Nat}(hu:Unl ops l rem)(hi:i∈Region.ready .any ops.toArray l):∃o,(i,o)∈rem∧Zc4 ops.length rem o=true:=by
 obtain⟨h1,o,h2,h3⟩:=mem_ready.1 hi
 refine⟨o,(hu.iff i o).2 ⟨by simpa using h2,h1⟩,Z2u.2 fun e he=>?_⟩
 cases hb:Region.binds .any e with
 | false=>rfl
 | true=>
  have h4:=h3 e (Z25.1 he) hb
  have hlt:e.on<l.size:=by
   rcases Z5x e.on l.size with h|h
   ·exact h
   ·simp[Z3u h]at h4
  simp only[Bool.not_true,Bool.false_or,Z27]
  refine⟨Z5w (by have:=hu.size;omega),Z2u.2 fun q hq=>?_⟩
  have:=((hu.iff q.1 q.2).1 hq).2
  cases hbq:Nat.beq q.1 e.on with
  | false=>rfl
  | true=>
   have e1:=Z2a hbq
   rw[e1]at this
   simp[Array.getD,hlt]at h4 this
   rw[h4]at this
   cases this
theorem Unl.drop{l:Array Bool}{i:Nat}{o:Oper}{a b:List (Nat × Oper)}(hu:Unl ops l (a++(i,o)::b)):Unl ops (l.setIfInBounds i true) (a++b):=by
 have hnd:=hu.nodup
 simp only[Z20,Z2s]at hnd
 have hd:=Z4o.1 hnd
 have hd2:=Z3w.1 hd.2.1
 refine⟨by simp[hu.size],?_,fun j q=>?_⟩
 ·simp only[Z20]
  refine Z4o.2 ⟨hd.1,hd2.2,fun x hx y hy=>hd.2.2 x hx y (Z5d _ hy)⟩
 ·by_cases e:i=j
  ·subst e
   constructor
   ·intro hm
    exfalso
    rcases Z2f.1 hm with hm|hm
    ·exact hd.2.2 i (Z5l hm) i (by simp) rfl
    ·exact hd2.1 (Z5l hm)
   ·rintro⟨h1,h2⟩
    have hlt:i<l.size:=by rw[hu.size];exact(Z2j.1 h1).1
    simp[Array.getD,hlt]at h2
  ·rw[getD_set_ne true e,← hu.iff j q]
   simp only[Z2f,Z2h,Z3m]
   constructor
   ·rintro(h|h)
    ·exact .inl h
    ·exact .inr (.inr h)
   ·rintro(h|⟨h,_⟩|h)
    ·exact .inl h
    ·exact absurd h.symm e
    ·exact .inr h
theorem Zd3{m:Nat}{a b:List (Nat × Oper)}{x:Nat × Oper}{o:Oper}:Zc4 m (x::(a++b)) o=Zc4 m (a++x::b) o:=by
 unfold Zc4
 congr 1
 funext e
 congr 2
 simp only[List.all_cons,List.all_append]
 cases (a.all fun q => !Nat.beq q.1 e.on)<;>cases (!Nat.beq x.1 e.on)<;>rfl
theorem Zxn{o:Oper}{i:Nat}(h:∀e∈o.after,Region.binds .any e=true→e.on≠i):Zrm o i=false:=by
 unfold Zrm
 rw[Z4y]
 intro e he
 simp only[Z27,not_and]
 intro hb hq
 exact h e (Z25.1 he) hb (Z2a hq)
theorem Zlf(h:Q .normal ρ L):HD P n ops Q Ss [] ρ L:=fun hS l hu=>by
 refine⟨?_,fun a ha=>⟨ρ,L,ha,.refl L,h⟩⟩
 cases hr:Region.ready .any ops.toArray l with
 | nil=>rfl
 | cons i r=>
  obtain⟨o,hm,_⟩:=hu.readyR_of (i:=i) (by rw[hr];exact .head _)
  cases hm
theorem hd_q{k i d:Nat}{o:Oper}{F:List Zp}{v:Value}(hp:Zbk k rem=some ((i,o),rem'))(hc:Znk ops rem' i o=true)(hd:o.dst=some d)(hn:Nat.blt d n=true)(hq:QAt P ops o ρ F v)(hF:∀p∈F,Has L p.1 p.2)
  (hr:HD P n ops Q (F.map (fun p=>(i,p))++Ss) rem' ((d,v)::ρ) L):HD P n ops Q Ss rem ρ L:=fun hS l hu=>by
 obtain⟨a,b,rfl,rfl⟩:=Zl8 hp
 simp only[Znk,Z27]at hc
 obtain⟨⟨c1,c2⟩,c3⟩:=hc
 rw[Zd3]at c1
 have hm:(i,o)∈a++(i,o)::b:=by simp
 obtain⟨h1,h2⟩:=(hu.iff i o).1 hm
 have hlen:(a++(i,o)::b).length=(a++b).length+1:=by simp;omega
 rw[hlen]
 refine Zvs (by simpa using h1) hd (Z2m hn) (Region.noSelect_spec c3) _ _ _ _ _ (fun j oj hj hji hun hno=>?_) (hu.ready hm c1) hq hF hS (hr (fun s hs=>?_) _ hu.drop)
 ·have hmj:(j,oj)∈a++b:=by
   have:=(hu.iff j oj).2 ⟨by simpa using hj,hun⟩
   simp only[Z2f,Z2h,Z3m]at this ⊢
   rcases this with h|⟨h,_⟩|h
   ·exact .inl h
   ·exact absurd h hji
   ·exact .inr h
  have:=Z2u.1 c2 _ hmj
  rw[Zxn hno]at this
  simpa using this
 ·rcases Z2f.1 hs with hs|hs
  ·obtain⟨p,hp,rfl⟩:=Z2v.1 hs
   exact hF p hp
  ·exact hS s hs
def Wa(P:Program)(n:Nat)(ops:List Oper)(Q:Exit→Z9→Za→Prop)(i:Nat)(Ss:List (Nat × Zp))(rem:List (Nat × Oper)):Exit→Z9→Za→Prop
 | .normal,ρ,L=>Zij ops i L Ss∧HD P n ops Q (ssF ops i Ss) rem ρ L
 | _,_,_=>False
theorem hd_act{k i:Nat}{o:Oper}(hp:Zbk k rem=some ((i,o),rem'))(hc:chkA ops rem' i o=true)(h:HO P n ops (Wa P n ops Q i Ss rem') [o] ρ L):HD P n ops Q Ss rem ρ L:=fun hS l hu=>by
 obtain⟨a,b,rfl,rfl⟩:=Zl8 hp
 simp only[chkA,Z27]at hc
 obtain⟨c1,c2⟩:=hc
 rw[Zd3]at c1
 have hm:(i,o)∈a++(i,o)::b:=by simp
 obtain⟨h1,h2⟩:=(hu.iff i o).1 hm
 have hlen:(a++(i,o)::b).length=(a++b).length+1:=by simp;omega
 rw[hlen]
 have hrd:=hu.ready hm c1
 refine⟨fun h0=>(by rw[h0]at hrd;cases hrd),fun j hj=>?_⟩
 obtain⟨oj,hmj,hrj⟩:=hu.readyR_of hj
 have hji:j=i:=by
  simp only[Z2f,Z2h,Z3m]at hmj
  have key:(j,oj)∈a++b→False:=fun hx=>by
   have:=Z2u.1 c2 _ hx
   rw[Zd3,hrj]at this
   cases this
  rcases hmj with h|⟨h,_⟩|h
  ·exact(key (Z2f.2 (.inl h))).elim
  ·exact h
  ·exact(key (Z2f.2 (.inr h))).elim
 subst hji
 intro ac ha
 have h3:=Zav h ac ha
 have fin:∀(a1:Act) (L1:Za),(∃ρ',Agr n a1 ρ'∧HO P n ops (Wa P n ops Q j Ss (a++b)) [] ρ' L1)→∃ρ',Agr n a1 ρ'∧Zij ops j L1 Ss∧HAny P n ops Q (a++b).length (ssF ops j Ss) (l.setIfInBounds j true) ρ' L1:=fun a1 L1 hx=>by
  obtain⟨ρ',e1,L2,hw,e3,e4⟩:=hx
  have e5:Zij ops j L1 Ss:=Zkr hw e3
  refine⟨ρ',e1,e5,HAny.ls (e4 (fun s hs=>?_) _ hu.drop) hw⟩
  have:=Z3s.1 hs
  exact ssOk_all.1 e3 s this.1 this.2
 unfold KOp
 rw[show ops.toArray[j]?=some o by simpa using h1]
 simp only
 split
 ·rename_i hw
  rw[Z2d hw]at h3
  exact h3.mono fun v L1 hx=>fin _ _ hx
 ·rename_i hw
  rw[Z16 hw]at h3
  exact fin _ _ h3
theorem hd_split{t:Nat}{b:Bool}(ht:lk ρ t=some (.bool b))(h1:b=true→HD P n ops Q Ss rem ((t,.bool true)::ρ) L)(h0:b=false→HD P n ops Q Ss rem ((t,.bool false)::ρ) L):HD P n ops Q Ss rem ρ L:=fun hS l hu=>by
 have key:∀c,b=c→ELe ((t,.bool c)::ρ) ρ:=fun c hc x v hx=>by
  subst hc
  by_cases e:t=x
  ·subst e
   rw[Uv]at hx
   rw[ht,hx]
  ·rw[Uw _ _ e]at hx
   exact hx
 cases hb:b with
 | true=>exact(h1 hb hS l hu).le (key _ hb)
 | false=>exact(h0 hb hS l hu).le (key _ hb)
def nums:List Nat:=[0,1,2,3,4,5,6,7,8,9,10,11,12,13,14,15,16,17,18,19,20,21,22,23,24,25,26,27,28,29,30,31,32,33,34,35,36,37,38,39,40,41,42,43,44,45,46,47,48,49,50,51,52,53,54,55,56,57,58,59]
def Ztg:List Nat→List Oper→(List (Nat × Oper)→Option (List (Nat × Oper)))→Option (List (Nat × Oper))
 | _,[],K=>K []
 | k::ks,o::r,K=>Ztg ks r fun l=>K ((k,o)::l)
 | [],_::_,_=>none
def Ze8:List Nat→List Oper→Option (List (Nat × Oper))
 | _,[]=>some []
 | k::ks,o::r=>(Ze8 ks r).map ((k,o) :: ·)
 | [],_::_=>none
theorem Zys:∀(ks:List Nat) (l:List Oper) (K:List (Nat × Oper)→Option (List (Nat × Oper))),Ztg ks l K=(Ze8 ks l).bind K
 | ks,[],K=>by cases ks<;>simp[Ztg,Ze8]
 | [],_::_,K=>by simp[Ztg,Ze8]
 | k::ks,o::r,K=>by
  simp only[Ztg,Ze8,Zys ks r]
  cases Ze8 ks r<;>rfl
theorem Zor:∀(ks:List Nat) (l:List Oper) (b:Nat) (rem:List (Nat × Oper)),(∀i k,ks[i]?=some k→k=b+i)→Ze8 ks l=some rem→(rem.map (·.1)).Nodup∧∀j o,(j,o)∈rem↔(b≤j∧l[j-b]?=some o)
 | ks,[],b,rem,_,h=>by cases ks<;>(simp[Ze8]at h;subst h;simp)
 | [],_::_,_,_,_,h=>by simp[Ze8]at h
 | k :: ks,o::r,b,rem,hk,h=>by
  simp only[Ze8,Z28]at h
  obtain⟨l',hl,rfl⟩:=h
  have hk0:k=b:=by simpa using hk 0 k rfl
  obtain⟨h1,h2⟩:=Zor ks r (b+1) l' (fun i q hq=>by have:=hk (i+1) q (by simpa using hq);omega) hl
  subst hk0
  refine⟨?_,fun j q=>?_⟩
  ·rw[Z2s,Z3w]
   refine⟨fun hm=>?_,h1⟩
   obtain⟨p,hp,e⟩:=Z2v.1 hm
   have:=(h2 p.1 p.2).1 hp
   simp only at e
   omega
  ·simp only[Z2h,Z3m,h2]
   constructor
   ·rintro(⟨rfl,rfl⟩|⟨e1,e2⟩)
    ·simp
    ·refine⟨by omega,?_⟩
     rw[show j-k=(j-(k+1))+1 by omega]
     simpa using e2
   ·rintro⟨e1,e2⟩
    by_cases e:j=k
    ·subst e
     simp at e2
     exact .inl ⟨rfl,e2.symm⟩
    ·refine .inr ⟨by omega,?_⟩
     rw[show j-k=(j-(k+1))+1 by omega]at e2
     simpa using e2
theorem Zth:∀(ks:List Nat) (l:List Oper) (rem:List (Nat × Oper)),Ze8 ks l=some rem→rem.length=l.length
 | ks,[],rem,h=>by cases ks<;>(simp[Ze8]at h;subst h;rfl)
 | [],_::_,_,h=>by simp[Ze8]at h
 | k::ks,o::r,rem,h=>by
  simp only[Ze8,Z28]at h
  obtain⟨l',hl,rfl⟩:=h
  simp[Zth ks r l' hl]
theorem Zye{id:Nat}(S:Tab P)(h0:Ztg nums ops some=some rem)(h:HD P n ops Q [] rem ρ L):HW P n (.region id ops.toArray true) Q ρ L:=by
 rw[Zys]at h0
 have h0':Ze8 nums ops=some rem:=by
  cases hx:Ze8 nums ops with
  | none=>rw[hx]at h0;cases h0
  | some r=>rw[hx]at h0;exact h0
 obtain⟨h1,h2⟩:=Zor nums ops 0 rem (fun i q hq=>by
  have hlt:i<60:=(Z2j.1 hq).1
  have:∀i,i<60→nums[i]?=some i:=by decide
  rw[this i hlt]at hq
  cases hq
  omega) h0'
 have hlen:=Zth _ _ _ h0'
 have hu:Unl ops (Array.replicate ops.length false) rem:=⟨by simp,h1,fun j o=>by
  rw[h2 j o]
  simp only[Z6v,true_and,Nat.sub_zero]
  constructor
  ·intro hj
   have hlt:=(Z2j.1 hj).1
   exact⟨hj,by simp[Array.getD,hlt]⟩
  ·exact fun h=>h.1⟩
 refine hw_any S.mixed fun a ha=>?_
 have hx:=HAny.sound _ _ _ _ _ (h (fun s hs=>by cases hs) _ hu) a ha
 rw[hlen]at hx
 simpa using hx
end hd
end Go.HL
