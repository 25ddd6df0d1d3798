/- Texts laid into one, without what the claim does not use. Conditions: none. -/
import Derived.Test.YtkookaogdkdegacGreatDoorMSaF
set_option linter.unusedVariables false
set_option linter.unusedSimpArgs false
/-! HLMs -/
section
namespace Go.HL
open Go
set_option linter.unusedSectionVars false
def Zee (es:List MapEntry) (l:List (List UInt8 × Value)):Prop:=es.map (fun e=>(e.key,e.val))=l.map fun p=>(bs p.1,p.2)
def Zcd (a:List UInt8):List (List UInt8 × Value)→Nat→Option (Nat × Value)
 | [],_=>none
 | (x,v)::r,i=>if a=x then some (i,v) else Zcd a r (i+1)
def Wx (a:List UInt8):List (List UInt8 × Value)→Option Value
 | []=>none
 | (x,v)::r=>if a=x then some v else Wx a r
theorem Zbx (a:List UInt8) : ∀ (l:List (List UInt8 × Value)) (i:Nat),(Zcd a l i).map (·.2)=Wx a l
 | [],i=>rfl
 | (x,v)::r,i=>by
  simp only [Zcd,Wx]
  split
  ·rfl
  ·exact Zbx a r (i+1)
theorem Zqr (a b:List UInt8):((⟨⟨a⟩⟩:ByteArray) == ⟨⟨b⟩⟩)=decide (a=b):=by
 by_cases h:a=b
 ·subst h
  simp only [decide_true]
  show ByteArray.beq _ _=true
  unfold ByteArray.beq
  simp
 ·simp only [h,decide_false]
  show ByteArray.beq _ _=false
  unfold ByteArray.beq
  simp [h]
section k
variable {P:Program} (S:Tab P) {n:Nat} {ops:List Oper} {Q:Exit→Zr→Zb→Prop} {rest:List Oper} {ρ:Zr} {L:Zb} {ty:TypeId} {pos:String} {af:Array Edge}
theorem Zhi {kt:TypeId} (hd:P.underlying kt=some .string) (w:World) (a:List UInt8) {es:List MapEntry} {l:List (List UInt8 × Value)} (h:Zee es l):(Instr.findKey kt (bs a) es).run P w = .ok (Zcd a l 0) w:=by
 refine MapKept.run_findKey hd ?_
 have key : ∀ (es:List MapEntry) (l:List (List UInt8 × Value)) (i:Nat),Zee es l→Instr.findNow .string (bs a) es i=some (Zcd a l i):=by
  intro es
  induction es with
  | nil =>
   intro l i h
   cases l with
   | nil=>rfl
   | cons p r=>simp [Zee] at h
  | cons e es ih =>
   intro l i h
   cases l with
   | nil=>simp [Zee] at h
   | cons p r =>
    obtain ⟨x,b⟩:=p
    simp only [Zee,List.map_cons,List.cons.injEq,Prod.mk.injEq] at h
    obtain ⟨⟨h1,h2⟩,h3⟩:=h
    simp only [Instr.findNow,h1,bs,Instr.sameNow,Zqr,Zcd]
    by_cases hax:a=x
    ·subst hax;simp [h2]
    ·simp [hax,← ih r (i+1) h3,bs]
 exact key es l 0 h
theorem Zk5 (a:List UInt8):MapKept.IsKey .string (bs a):=trivial
theorem qmS {d:Option Tmp} {g:Option (Nat × Bool)} {t kt et s0 b0 x1 y1 s1 b1 r ck:Nat} {x y:Operand} {es:List MapEntry} {l:List (List UInt8 × Value)} {a:List UInt8} {z:Value} (hF:Zee es l) (h00:Y6 ρ=true:=by exact rfl) (hx:ev ρ x=some (.map (some r)):=by exact rfl) (hy:ev ρ y=some (bs a):=by exact rfl)
  (ht:Zt S.ty t=some ⟨8,kt,et,s0,b0⟩:=by exact rfl) (hk:Zt S.ty kt=some ⟨3,x1,y1,s1,b1⟩:=by exact rfl) (hz:Zt S.zr et=some z:=by exact rfl) (hb:Has L r (.map ⟨es⟩ ck):=by (repeat (first|assumption|exact Zh|exact Yi (by assumption)|apply Xq|apply Zc))) :
  QOp P ⟨d,.lookup t x y true,ty,pos,af,g⟩ ρ L (.tuple ⟨[(Wx a l).getD z,.bool (Wx a l).isSome]⟩):=
 Ya fun ρe he k w hs=>by
  have hm:=Zjt (S.tyI ht) rfl
  have hd:=W0 (S.tyI hk) rfl
  have hzero:=Vq (S.zeroI hz) w
  have hh:=MapKept.run_getObj_map (P:=P) (hs.heap hb)
  have hfind:=Zhi hd w a hF
  have hl:(Instr.lookup t (.map (some r)) (bs a) true).run P w = .ok (.tuple ⟨[(Wx a l).getD z,.bool (Wx a l).isSome]⟩) w:=by
   unfold Instr.lookup
   simp only [Sem.run_bind,run_underlying hm,Result.andThen_ok,hh,Sem.run_pure,MapKept.run_checkKey hd (Zk5 a) _ 9999,hfind]
   rw [← Zbx a l 0]
   cases Zcd a l 0 with
   | none=>simp [hzero]
   | some q=>simp
  simp only [execOp,he x (by simp [Op.operands]) _ hx,he y (by simp [Op.operands]) _ hy,Sem.run_bind,hl,Result.andThen_ok,Sem.run_pure]
theorem Zj2 {t kt et s0 b0 x1 y1 s1 b1 r ck:Nat} {x y z:Operand} {es:List MapEntry} {l:List (List UInt8 × Value)} {a:List UInt8} {v:Value} (hF:Zee es l) (hn:Wx a l=none) (h : ∀ es' ck',Zee es' (l++[(a,v)])→HO P n ops Q rest ρ ([(r,.map ⟨es'⟩ ck')]::L)) (h00:Y6 ρ=true:=by exact rfl) (hx:ev ρ x=some (.map (some r)):=by exact rfl) (hy:ev ρ y=some (bs a):=by exact rfl) (hzz:ev ρ z=some v:=by exact rfl)
  (ht:Zt S.ty t=some ⟨8,kt,et,s0,b0⟩:=by exact rfl) (hk:Zt S.ty kt=some ⟨3,x1,y1,s1,b1⟩:=by exact rfl) :
  HO P n ops Q (⟨none,.insert t x y z,ty,pos,af,none⟩::rest) ρ ([(r,.map ⟨es⟩ ck)]::L):=by
 refine Zpd rfl rfl fun ρe he k w hs=>?_
 have hm:=Zjt (S.tyI ht) rfl
 have hd:=W0 (S.tyI hk) rfl
 have hb0:w.heap[r]? = some (.map ⟨es⟩ ck):=hs.heap Zh
 have hh:=MapKept.run_getObj_map (P:=P) hb0
 have hfind:=Zhi hd w a hF
 have e1:=he x (by simp [Op.operands]) _ hx
 have e2:=he y (by simp [Op.operands]) _ hy
 have e3:=he z (by simp [Op.operands]) _ hzz
 have hfb:Zcd a l 0=none:=by
  have:=Zbx a l 0
  rw [hn] at this
  cases hf:Zcd a l 0 with
  | none=>rfl
  | some q=>rw [hf] at this;cases this
 rw [hfb] at hfind
 have hs2:=MapKept.heap_set (o' := .map ⟨es++[{ key:=bs a,val:=v,born:=ck }]⟩ (ck+1)) hb0
 refine ⟨_,_,.inl ?_,hs.upd (w':={ w with heap:=w.heap.setIfInBounds r (.map ⟨es++[{ key:=bs a,val:=v,born:=ck }]⟩ (ck+1)) }) Xr rfl rfl rfl hs2.1 (fun j hj=>hs2.2 j hj),h _ _ ?_⟩
 ·have hr:(Instr.mapUpdate t (.map (some r)) (bs a) v).run P w = .ok () { w with heap:=w.heap.setIfInBounds r (.map ⟨es++[{ key:=bs a,val:=v,born:=ck }]⟩ (ck+1)) }:=by
   unfold Instr.mapUpdate
   simp only [Sem.run_bind,run_underlying hm,Result.andThen_ok,hh,MapKept.run_checkKey hd (Zk5 a) _ 9999,hfind,MapKept.run_setObj_map _ hb0]
   simp
  simp [execOp,e1,e2,e3,hr]
 ·unfold Zee at *
  simp [hF]
theorem qLF {d:Option Tmp} {g:Option (Nat × Bool)} {t b i E:Nat} {x:Operand} {l:List Value} {fr:Nat × Nat} {v:Value} (hn : ∀ w,(isAgg t).run P w = .ok false w) (h00:Y6 ρ=true:=by exact rfl) (hx:ev ρ x=some (pt b i):=by exact rfl)
  (hb:Has L b (.cells ⟨l⟩ E fr):=by (repeat (first|assumption|exact Zh|exact Yi (by assumption)|apply Xq|apply Zc))) (hv:l[i]? = some v:=by exact rfl):QOp P ⟨d,.load t x,ty,pos,af,g⟩ ρ L v:=
 Ya fun ρe he k w hs=>by
  have h1:=hn w
  have h2:w.cell? ⟨b,i,none⟩=some v:=by rw [hs.cell hb,hv]
  simp [execOp,he x (by simp [Op.operands]) _ hx,Instr.loadAt,Instr.sureAddr,loadVar,h1,h2]
theorem qQn {d:Option Tmp} {g:Option (Nat × Bool)} {t t':Nat} {x y:Operand} {u m:Nat} (hm:1≤m) (hu:u≤9223372036854775807) (h00:Y6 ρ=true:=by exact rfl) (hx:ev ρ x=some (iv (-(u:Int))):=by exact rfl) (hy:ev ρ y=some (iv m):=by exact rfl):QOp P ⟨d,.binOp .quo t x y t',ty,pos,af,g⟩ ρ L (iv (-((u / m:Nat):Int))):=
 Yx hx hy fun w=>by
  have h1:u / m≤u:=Nat.div_le_self u m
  have e:(-(u:Int)).tdiv m = -((u / m:Nat):Int):=by rw [Int.neg_tdiv,Int.ofNat_tdiv]
  have hb:(m:Int)≠0:=by omega
  have key:IntKind.i64.wrap ((-(u:Int)).tdiv m) = -((u / m:Nat):Int):=by
   rw [e]
   generalize u / m=q at h1 ⊢
   exact V4 ⟨by omega,by omega⟩
  simp only [binOp,Op.intDiv]
  rw [if_neg (by simp),if_neg hb,key]
  rfl
theorem qRn {d:Option Tmp} {g:Option (Nat × Bool)} {t t':Nat} {x y:Operand} {u m:Nat} (hm:1≤m) (hu:u≤9223372036854775807) (h00:Y6 ρ=true:=by exact rfl) (hx:ev ρ x=some (iv (-(u:Int))):=by exact rfl) (hy:ev ρ y=some (iv m):=by exact rfl):QOp P ⟨d,.binOp .rem t x y t',ty,pos,af,g⟩ ρ L (iv (-((u % m:Nat):Int))):=
 Yx hx hy fun w=>by
  have h1:u % m≤u:=Nat.mod_le u m
  have e:(-(u:Int)).tmod m = -((u % m:Nat):Int):=by rw [Int.neg_tmod,Int.ofNat_tmod]
  have hb:(m:Int)≠0:=by omega
  simp only [binOp,Op.intDiv]
  rw [if_neg (by simp),if_neg hb,e]
  rfl
theorem qNeg {d:Option Tmp} {g:Option (Nat × Bool)} {t:Nat} {x:Operand} {u:Nat} (hu:u≤9223372036854775807) (h00:Y6 ρ=true:=by exact rfl) (hx:ev ρ x=some (iv u):=by exact rfl):QOp P ⟨d,.unOp .neg t x,ty,pos,af,g⟩ ρ L (iv (-(u:Int))):=
 Ya fun ρe he k w hs=>by
  have h1:IntKind.i64.wrap (-(u:Int)) = -(u:Int):=V4 ⟨by omega,by omega⟩
  simp [execOp,he x (by simp [Op.operands]) _ hx,Op.unary,Op.intArith,h1]
theorem gi {d:Nat} {x:Operand} {name:String} {ts:Array TypeId} {F t:Nat} {pv:Value} {R:Value→Zb→Prop} (hm : ∀ w,(callMethod (.iface t pv) name #[]).run P w = .ok (.enter F #[pv]) w) (hc:HC P F [pv] L R) (h : ∀ v L',R v L'→HO P n ops Q rest ((d,v)::ρ) L')
  (h00:Y6 ρ=true:=by exact rfl) (hx:ev ρ x=some (.iface t pv):=by exact rfl) (hn:Nat.blt d n=true:=by exact rfl):HO P n ops Q (⟨some d,.call { callee := .invoke x name,args := #[],argTypes:=ts },ty,pos,af,none⟩::rest) ρ L:=by
 intro k w a hs haa
 have hlt:d<n:=Nat.le_of_ble_eq_true hn
 unfold wpList
 rw [if_pos (Wd _ rfl _)]
 refine .inl ?_
 unfold Oper.wp
 have e1:a.eval x = .iface t pv:=haa.ev hx
 have hr:(execOp a.eval ⟨some d,.call { callee := .invoke x name,args := #[],argTypes:=ts },ty,pos,af,none⟩).run P w = .ok (.enter F #[pv]) w:=by
  simp only [execOp,resolve,e1]
  simp [invoke,hm]
 rw [hr]
 refine (hc.2 k w hs).mono fun e w' ⟨u,L',h1,h2,h3⟩=>?_
 subst h1
 exact h u L' h3 k w' _ h2 (haa.put hlt u)
end k
section d
variable {P:Program} (S:Tab P) {n:Nat} {ops:List Oper} {Q:Exit→Zr→Zb→Prop} {Ss:List (Nat × Zm)} {rem rem':List (Nat × Oper)} {ρ:Zr} {L:Zb} {ty:TypeId} {pos:String} {af:Array Edge} {g:Option (Nat × Bool)} {d i:Nat}
theorem dqS {t kt et s0 b0 x1 y1 s1 b1 r ck:Nat} {x y:Operand} {es:List MapEntry} {l:List (List UInt8 × Value)} {a:List UInt8} {z:Value} (k:Nat) (hF:Zee es l) (hb:Has L r (.map ⟨es⟩ ck)) (hr:HD P n ops Q ((i,(r,.map ⟨es⟩ ck))::Ss) rem' ((d,.tuple ⟨[(Wx a l).getD z,.bool (Wx a l).isSome]⟩)::ρ) L)
  (h00:Y6 ρ=true:=by exact rfl) (hp:Wc k rem=some ((i,⟨some d,.lookup t x y true,ty,pos,af,g⟩),rem'):=by exact rfl) (hx:ev ρ x=some (.map (some r)):=by exact rfl) (hy:ev ρ y=some (bs a):=by exact rfl) (ht:Zt S.ty t=some ⟨8,kt,et,s0,b0⟩:=by exact rfl) (hk:Zt S.ty kt=some ⟨3,x1,y1,s1,b1⟩:=by exact rfl) (hz:Zt S.zr et=some z:=by exact rfl)
  (hg:Zu ops ρ g=some true:=by exact rfl) (hn:Nat.blt d n=true:=by exact rfl) (hc:Q0 ops rem' i ⟨some d,.lookup t x y true,ty,pos,af,g⟩=true:=by decide +kernel):HD P n ops Q Ss rem ρ L:=
 d_l k (fun L h=>qmS S hF h00 hx hy ht hk hz h) hb hr h00 hp hg hn hc
end d
end Go.HL
end

/-! ScC -/
section
namespace Go.HL
open Go Go.Proofs
def actTab:List (List UInt8 × List UInt8 × Nat):=[([98,101,103,105,110],[100,100],230),
 ([114,101,102,117,115,101],[100,100],231),
 ([116,105,99,107],[100],232),
 ([103,111],[110],233),
 ([108,111,115,101],[110],234),
 ([116,119,105,99,101],[110],235),
 ([108,105,110,107],[100,100],236),
 ([98,114,101,97,107],[100,100],237),
 ([99,117,116],[100,110],238),
 ([100,111,119,110],[100],239),
 ([117,112],[100],240)]
def lookTab:List (List UInt8 × List UInt8 × Nat):=[([97,108,108],[],241),
 ([102,108,121],[],243),
 ([115,116,97,116,101],[100,100],244),
 ([108,101,97,100],[100,100],246),
 ([105,115],[100],247),
 ([101,118,101,110,116,115],[],248),
 ([99,104,101,99,107],[],250)]
def Zq3 (F:Nat):Value := .func (.func F) #[] #[]
def Ze2 (F:Nat):Obj := .cells ⟨[Zq3 F]⟩ 310
def Za9 (f:List UInt8) (b:Nat):Value := .agg ⟨[bs f,.func (.func 282) #[] ⟨[pt b 0]⟩]⟩
def actL:List (List UInt8 × List UInt8 × Nat)→List Nat→List (List UInt8 × Value)
 | (w,f,_)::r,b::q=>(w,Za9 f b)::actL r q
 | _,_=>[]
def W3:List (List UInt8 × List UInt8 × Nat)→List Nat→List Zm
 | (_,_,F)::r,b::q=>(b,Ze2 F)::W3 r q
 | _,_=>[]
def Zll:List (List UInt8 × Value):=lookTab.map fun x=>(x.1,.agg ⟨[bs x.2.1,Zq3 x.2.2]⟩)
set_option maxHeartbeats 2000000 attribute [local irreducible] HW HO HQ HD HC QOp Has Upd Zo Gets Ye Z6 Zq X0 Z5 Zj X7 Zw
theorem Zcn (v:Value) (L:Zb):HC Tryz.prog 172 [v] L (fun u L'=>u = .tuple ⟨[bs [111,107],v]⟩∧L'=L):=by
 refine Za (fun _ _=>Tryz.call172 _ _) Tryz.func172 rfl Tryz.ntmps172 (Nat.le_of_ble_eq_true rfl) ?_;simp only [Ze,Nat.reduceAdd]
 repeat' (first|refine uN ?_)
 exact Zbj rfl ⟨rfl,rfl⟩
theorem one_form (f:List UInt8) (F:Nat) (L:Zb):HC Tryz.prog 229 [bs f,Zq3 F] L (fun u L' => ∃ b,u=Za9 f b∧L'=[(b,Ze2 F)]::L):=by
 unfold Zq3
 refine Za (fun _ _=>Tryz.call229 _ _) Tryz.func229 rfl Tryz.ntmps229 (Nat.le_of_ble_eq_true rfl) ?_;simp only [Ze,Nat.reduceAdd]
 repeat' (first|refine uN ?_|(refine uB ?_;intro b)|fail)
 rename_i b1
 exact Xn (L':=[(b1,Ze2 F)]::L) uL ⟨b1,rfl,rfl⟩ (hv:=Vw S (hg:=Zaw _))
theorem Zd0 (L:Zb):HC Tryz.prog 174 [] L (fun u L' => ∃ r es ck,u = .map (some r)∧Zee es Zll∧L'=[(r,.map ⟨es⟩ ck)]::L):=by
 refine Za (fun _ _=>Tryz.call174 _ _) Tryz.func174 rfl Tryz.ntmps174 (Nat.le_of_ble_eq_true rfl) ?_;simp only [Ze,Nat.reduceAdd]
 repeat' (first|refine uN ?_|(refine uB ?_;intro b)|fail)
 refine Zj2 S (es:=[]) (l:=[]) rfl rfl ?_
 intro es1 ck1 h1
 repeat' (first|refine uN ?_|(refine uB ?_;intro b)|fail)
 refine Zj2 S h1 rfl ?_
 intro es2 ck2 h2
 repeat' (first|refine uN ?_|(refine uB ?_;intro b)|fail)
 refine Zj2 S h2 rfl ?_
 intro es3 ck3 h3
 repeat' (first|refine uN ?_|(refine uB ?_;intro b)|fail)
 refine Zj2 S h3 rfl ?_
 intro es4 ck4 h4
 repeat' (first|refine uN ?_|(refine uB ?_;intro b)|fail)
 refine Zj2 S h4 rfl ?_
 intro es5 ck5 h5
 repeat' (first|refine uN ?_|(refine uB ?_;intro b)|fail)
 refine Zj2 S h5 rfl ?_
 intro es6 ck6 h6
 repeat' (first|refine uN ?_|(refine uB ?_;intro b)|fail)
 refine Zj2 S h6 rfl ?_
 intro es7 ck7 h7
 repeat' (first|refine uN ?_|(refine uB ?_;intro b)|fail)
 exact Uu rfl ⟨_,_,_,rfl,h7,rfl⟩
theorem Qc (L:Zb):HC Tryz.prog 173 [] L (fun u L' => ∃ (r:Nat) (es:List MapEntry) (ck:Nat) (q:List Nat),u = .map (some r)∧Zee es (actL actTab q)∧q.length=11∧L'=((r,.map ⟨es⟩ ck)::(W3 actTab q).reverse)::L):=by
 have ko:=fun f F L=>one_form f F L
 unfold Zq3 at ko
 refine Za (fun _ _=>Tryz.call173 _ _) Tryz.func173 rfl Tryz.ntmps173 (Nat.le_of_ble_eq_true rfl) ?_;simp only [Ze,Nat.reduceAdd]
 repeat' (first|refine uN ?_|(refine uB ?_;intro b)|fail)
 refine gc (ko [100,100] 230 _) ?_
 rintro v1 L1 ⟨b1,rfl,rfl⟩
 unfold Za9
 refine fo 1 ?_
 refine Zj2 S (es:=[]) (l:=[]) rfl rfl ?_
 intro es1 ck1 h1
 repeat' (first|refine uN ?_|(refine uB ?_;intro b)|fail)
 refine gc (ko [100,100] 231 _) ?_
 rintro v2 L2 ⟨b2,rfl,rfl⟩
 unfold Za9
 refine fo 1 ?_
 refine Zj2 S h1 rfl ?_
 intro es2 ck2 h2
 repeat' (first|refine uN ?_|(refine uB ?_;intro b)|fail)
 refine gc (ko [100] 232 _) ?_
 rintro v3 L3 ⟨b3,rfl,rfl⟩
 unfold Za9
 refine fo 1 ?_
 refine Zj2 S h2 rfl ?_
 intro es3 ck3 h3
 repeat' (first|refine uN ?_|(refine uB ?_;intro b)|fail)
 refine gc (ko [110] 233 _) ?_
 rintro v4 L4 ⟨b4,rfl,rfl⟩
 unfold Za9
 refine fo 1 ?_
 refine Zj2 S h3 rfl ?_
 intro es4 ck4 h4
 repeat' (first|refine uN ?_|(refine uB ?_;intro b)|fail)
 refine gc (ko [110] 234 _) ?_
 rintro v5 L5 ⟨b5,rfl,rfl⟩
 unfold Za9
 refine fo 1 ?_
 refine Zj2 S h4 rfl ?_
 intro es5 ck5 h5
 repeat' (first|refine uN ?_|(refine uB ?_;intro b)|fail)
 refine gc (ko [110] 235 _) ?_
 rintro v6 L6 ⟨b6,rfl,rfl⟩
 unfold Za9
 refine fo 1 ?_
 refine Zj2 S h5 rfl ?_
 intro es6 ck6 h6
 repeat' (first|refine uN ?_|(refine uB ?_;intro b)|fail)
 refine gc (ko [100,100] 236 _) ?_
 rintro v7 L7 ⟨b7,rfl,rfl⟩
 unfold Za9
 refine fo 1 ?_
 refine Zj2 S h6 rfl ?_
 intro es7 ck7 h7
 repeat' (first|refine uN ?_|(refine uB ?_;intro b)|fail)
 refine gc (ko [100,100] 237 _) ?_
 rintro v8 L8 ⟨b8,rfl,rfl⟩
 unfold Za9
 refine fo 1 ?_
 refine Zj2 S h7 rfl ?_
 intro es8 ck8 h8
 repeat' (first|refine uN ?_|(refine uB ?_;intro b)|fail)
 refine gc (ko [100,110] 238 _) ?_
 rintro v9 L9 ⟨b9,rfl,rfl⟩
 unfold Za9
 refine fo 1 ?_
 refine Zj2 S h8 rfl ?_
 intro es9 ck9 h9
 repeat' (first|refine uN ?_|(refine uB ?_;intro b)|fail)
 refine gc (ko [100] 239 _) ?_
 rintro v10 L10 ⟨b10,rfl,rfl⟩
 unfold Za9
 refine fo 1 ?_
 refine Zj2 S h9 rfl ?_
 intro es10 ck10 h10
 repeat' (first|refine uN ?_|(refine uB ?_;intro b)|fail)
 refine gc (ko [100] 240 _) ?_
 rintro v11 L11 ⟨b11,rfl,rfl⟩
 unfold Za9
 refine fo 1 ?_
 refine Zj2 S h10 rfl ?_
 intro es11 ck11 h11
 repeat' (first|refine uN ?_|(refine uB ?_;intro b)|fail)
 exact Uu (L':=((b,.map ⟨es11⟩ ck11)::(W3 actTab [b1,b2,b3,b4,b5,b6,b7,b8,b9,b10,b11]).reverse)::L) rfl ⟨b,es11,ck11,[b1,b2,b3,b4,b5,b6,b7,b8,b9,b10,b11],rfl,h11,rfl,rfl⟩
end Go.HL
end

/-! ScD -/
section
namespace Go.HL
open Go Go.Proofs
theorem Zpv {s:List UInt8} {k:Int} (ha:Lib.atoiAll s = .ok k):Zb2 s=if (s.length:Int)≤5∧0≤k∧Lib.itoa k=s then some k else none:=by
 unfold Zb2
 rw [ha]
 simp only
 congr 1
 exact propext ⟨fun ⟨h1,h2,h3⟩=>⟨by omega,h2,h3⟩,fun ⟨h1,h2,h3⟩=>⟨by omega,h2,h3⟩⟩
theorem numC_no {s:List UInt8} (ha : ∀ n,Lib.atoiAll s ≠ .ok n):Zb2 s=none:=by
 unfold Zb2
 split
 ·rename_i v hv
  exact absurd hv (ha v)
 ·rfl
def W6:List UInt8→List (List UInt8)→Option (List Int)
 | f::fr,w::wr=>match Zb2 w with
  | none=>none
  | some k=>if f.toNat=100∧9<k then none else (W6 fr wr).map (k :: ·)
 | _,_=>some []
def Vf (form:List UInt8) (ws:List (List UInt8)):Option (List Int):=if form.length=ws.length then W6 form ws else none
theorem Qp : ∀ (f1:List UInt8) (w1:List (List UInt8)) (f2:List UInt8) (w2:List (List UInt8)),f1.length=w1.length→W6 (f1++f2) (w1++w2)=(W6 f1 w1).bind fun a=>(W6 f2 w2).map (a ++ ·)
 | [],[],f2,w2,_=>by simp [W6]
 | f::fr,w::wr,f2,w2,h=>by
  have ih:=Qp fr wr f2 w2 (by simpa using h)
  simp only [List.cons_append,W6,ih]
  cases Zb2 w with
  | none=>rfl
  | some k =>
   simp only
   split
   ·rfl
   ·cases W6 fr wr with
    | none=>rfl
    | some m=>cases W6 f2 w2<;>simp
theorem U4 : ∀ {f:List UInt8} {w:List (List UInt8)} {n:List Int},f.length=w.length→W6 f w=some n→n.length=w.length ∧ ∀ x∈n,0≤x∧x≤99999
 | [],[],n,_,h=>by cases h;simp
 | f :: fr,w::wr,n,hl,h=>by
  simp only [W6] at h
  cases hk:Zb2 w with
  | none=>rw [hk] at h;cases h
  | some k =>
   rw [hk] at h
   simp only at h
   split at h
   ·cases h
   ·rw [Option.map_eq_some_iff] at h
    obtain ⟨m,hm,rfl⟩:=h
    obtain ⟨h1,h2⟩:=U4 (by simpa using hl) hm
    refine ⟨by simp [h1],fun x hx=>?_⟩
    rcases List.mem_cons.1 hx with rfl|hx
    ·unfold Zb2 at hk
     split at hk
     ·rename_i v hv
      split at hk
      ·rename_i hc
       cases hk
       obtain ⟨c1,c2,c3⟩:=hc
       refine ⟨c2,?_⟩
       obtain ⟨u,rfl⟩:=Int.eq_ofNat_of_zero_le c2
       have h9:=congrArg List.length c3
       have h8:Lib.itoa (u:Int)=Lib.decDigits u:=by unfold Lib.itoa;rw [if_neg (by omega)];simp
       rw [h8,Lib.decDigits_length] at h9
       have h7:=Lib.lt_pow_nDigits u
       have h6:10 ^ Lib.nDigits u≤10 ^ 5:=Nat.pow_le_pow_right (by decide) (by omega)
       omega
      ·cases hk
     ·cases hk
    ·exact h2 x hx
theorem V3 {α:Type} {l:List α} {i:Nat} (h:i<l.length):l.take (i+1)=l.take i++[l[i]]:=by
 rw [List.take_add_one,List.getElem?_eq_getElem h,Option.toList_some]
theorem Zog {f:List UInt8} {w:List (List UInt8)} {i:Nat} (hl:f.length=w.length) (h:W6 (f.take i) (w.take i)=none):W6 f w=none:=by
 have:=Qp (f.take i) (w.take i) (f.drop i) (w.drop i) (by simp [hl])
 rw [List.take_append_drop,List.take_append_drop,h] at this
 exact this
theorem Zoh {f:List UInt8} {w:List (List UInt8)} {i:Nat} {a:List Int} (hl:f.length=w.length) (hi:i<w.length) (h:W6 (f.take i) (w.take i)=some a) :
  W6 (f.take (i+1)) (w.take (i+1))=match Zb2 (w[i]) with
   | none=>none
   | some k=>if (f.getD i 0).toNat=100∧9<k then none else some (a++[k]):=by
 have hg:f.getD i 0=f[i]'(by omega):=by simp [List.getD,List.getElem?_eq_getElem (show i<f.length by omega)]
 rw [V3 hi,V3 (show i<f.length by omega),Qp _ _ _ _ (by simp [hl]),h,hg]
 simp only [Option.bind_some,W6]
 cases Zb2 w[i] with
 | none=>rfl
 | some k =>
  simp only
  split<;>simp
set_option maxHeartbeats 2000000 attribute [local irreducible] HW HO HQ HD HC QOp Has Upd Zo Gets Ye Z6 Zq X0 Z5 Zj X7 Zw
theorem Zg9 (s:List UInt8) (hs:s.length≤1000000) (L:Zb) (hS:Sz L):HC Tryz.prog 222 [bs s] L (fun v L'=>(∃ k,v = .tuple ⟨[iv k,.bool (Zb2 s).isSome]⟩ ∧ ∀ n,Zb2 s=some n→k=n)∧L'=L):=by
 refine Za (fun _ _=>Tryz.call222 _ _) Tryz.func222 rfl Tryz.ntmps222 (Nat.le_of_ble_eq_true rfl) ?_;simp only [Ze,Nat.reduceAdd]
 repeat' (first|refine uN ?_|(refine uP ?_ ?_<;>(intro h;((try simp only [zs,zq,reduceCtorEq] at h);try exact zx)))|fail)
 refine gc (Zm9 s hs _ hS) ?_
 rintro v L' ⟨⟨k,e,rfl,h⟩,rfl⟩
 rcases h with ⟨ha,rfl⟩|⟨ha,t,N,rfl⟩
 ·obtain ⟨h0,h1⟩:=Lib.atoiAll_bounds ha
  have kI:=Zb0 k h0 h1 L' hS
  have hk : ∀ n,Zb2 s=some n→k=n:=fun n hn=>by
   rw [Zpv ha] at hn
   split at hn
   ·exact Option.some.inj hn
   ·cases hn
  have hb:(Zb2 s).isSome=decide ((s.length:Int)≤5∧0≤k∧Lib.itoa k=s):=by
   rw [Zpv ha]
   split<;>simp_all
  rw [hb]
  repeat' (first|refine uN ?_|refine uC (kI) ?_|(refine uP ?_ ?_<;>(intro h;((try simp only [zs,zq,reduceCtorEq] at h);try exact zx)))|fail)
  all_goals (refine Zbj rfl ⟨⟨k,?_,hk⟩,rfl⟩;simp [*])
 ·rw [numC_no ha]
  repeat' (first|refine uN ?_|(refine uP ?_ ?_<;>(intro h;((try simp only [zs,zq,reduceCtorEq] at h);try exact zx)))|fail)
  exact Zbj rfl ⟨⟨k,rfl,fun n h=>by cases h⟩,rfl⟩
theorem Zak (form:List UInt8) (a:Option Addr) (cap:Nat) (ws:List (List UInt8)) (L:Zb) (hS:Sz L) (hR:Rd V1 1 L a ws) (hcap:ws.length≤cap) (hl:ws.length≤1000000) (hf:form.length≤1000000) (hw : ∀ x∈ws,x.length≤1000000) :
  HC Tryz.prog 170 [bs form,.slice a ws.length cap] L (fun v L' => ∃ c u,v = .tuple ⟨[u,.bool (Vf form ws).isSome]⟩∧Vec 3 1 ic u ((Vf form ws).getD []) c∧L'=c::L):=by
 by_cases he:form.length=ws.length
 ·have hrb:Vf form ws=W6 form ws:=if_pos he
  rw [hrb]
  refine Za (fun _ _=>Tryz.call170 _ _) Tryz.func170 rfl Tryz.ntmps170 (Nat.le_of_ble_eq_true rfl) ?_;simp only [Ze,Nat.reduceAdd]
  repeat' (first|refine uN ?_|(refine uB ?_;intro b)|(refine uP ?_ ?_<;>(intro h;((try simp only [zs,zq,reduceCtorEq] at h);try exact zx)))|fail)
  refine Zdx (L':=[]::L) ?_ (LS.refl _)
  refine Zz (σ:=Nat × Value × List Zm × List Int) (fun r=>[(0,bs form),(4,r.2.1),(15,.slice a ws.length cap),(16,iv ws.length),(17,iv r.1)])
   (fun r=>r.2.2.1::L)
   (fun r=>r.1≤ws.length∧Vec 3 1 ic r.2.1 r.2.2.2 r.2.2.1∧W6 (form.take r.1) (ws.take r.1)=some r.2.2.2) (fun r=>ws.length-r.1) (0,Wn,[],[]) uS (List.Sublist.refl _) ⟨by simp,Yg,by simp [W6]⟩ ?_
  rintro ⟨i,u,c,q⟩ ⟨hi,hv,hz⟩
  simp only at hi hv hz ⊢
  obtain ⟨a5,cap5,he5,-,-⟩:=hv.rd Xi
  subst he5
  have hql:q.length=i:=by
   have:=(U4 (by simp [he]) hz).1
   rw [List.length_take] at this
   omega
  by_cases hit:i<ws.length
  ·obtain ⟨b,bi,l,F,fr,rfl,hb,hg⟩:=hR.at1 (j:=(i:Int)) (by omega) (by omega)
   have eg:ws[(i:Int).toNat]'(by omega)=ws[i]:=rfl
   rw [eg] at hg
   have hwi:=hw ws[i] (List.getElem_mem _)
   have hstep:=Zoh he hit hz
   have hfail:=Zog (f:=form) (w:=ws) (i:=i+1) he
   repeat' (first|refine uN ?_|(refine uB ?_;intro b)|(refine uP ?_ ?_<;>(intro h;((try simp only [zs,zq,reduceCtorEq] at h);try exact zx)))|fail)
   ·refine gc (Zg9 _ hwi _ (hS.cons c)) ?_
    rintro v L' ⟨⟨k,rfl,hk⟩,rfl⟩
    cases hn:Zb2 ws[i] with
    | none =>
     rw [hn] at hstep
     rw [hfail hstep]
     repeat' (first|refine uN ?_|(refine uB ?_;intro b)|(refine uP ?_ ?_<;>(intro h;((try simp only [zs,zq,reduceCtorEq] at h);try exact zx)))|fail)
     exact Wz (L':=[]::L) (LS.c (LS.refl _)) ⟨[],Wn,rfl,Yg,rfl⟩
    | some n =>
     obtain rfl:=hk n hn
     rw [hn] at hstep
     simp only at hstep
     have ei:(i:Int).toNat=i:=Int.toNat_natCast i
     have e:i+1≤ws.length:=hit
     repeat' (first|refine uN ?_|(refine uB ?_;intro b)|(refine uP ?_ ?_<;>(intro h;((try simp only [zs,zq,reduceCtorEq] at h);try exact zx)))|fail)
     all_goals rw [ei] at *
     ·rw [if_pos ⟨by omega,by omega⟩] at hstep
      rw [hfail hstep]
      exact Wz (L':=[]::L) (LS.c (LS.refl _)) ⟨[],Wn,rfl,Yg,rfl⟩
     all_goals
      rw [if_neg (by omega)] at hstep
      refine fo 1 ?_
      refine wp1 S k hv Xi Zno ?_
      intro v' c' hv'
      repeat' (first|refine uN ?_|(refine uB ?_;intro b)|(refine uP ?_ ?_<;>(intro h;((try simp only [zs,zq,reduceCtorEq] at h);try exact zx)))|fail)
      exact Zy (i+1,v',c',q++[k]) uS uL ⟨hit,hv',hstep⟩ (by simp only;omega)
  ·obtain rfl:i=ws.length:=by omega
   rw [List.take_length,show form.take ws.length=form from by rw [← he,List.take_length]] at hz
   rw [hz]
   repeat' (first|refine uN ?_|(refine uB ?_;intro b)|(refine uP ?_ ?_<;>(intro h;((try simp only [zs,zq,reduceCtorEq] at h);try exact zx)))|fail)
   exact Zbj rfl ⟨c,_,rfl,hv,rfl⟩
 ·have hrb:Vf form ws=none:=if_neg he
  rw [hrb]
  refine Za (fun _ _=>Tryz.call170 _ _) Tryz.func170 rfl Tryz.ntmps170 (Nat.le_of_ble_eq_true rfl) ?_;simp only [Ze,Nat.reduceAdd]
  repeat' (first|refine uN ?_|(refine uB ?_;intro b)|(refine uP ?_ ?_<;>(intro h;((try simp only [zs,zq,reduceCtorEq] at h);try exact zx)))|fail)
  all_goals first|(exfalso;omega)|exact Zbj (L':=[]::L) rfl ⟨[],Wn,rfl,Yg,rfl⟩
end Go.HL
end

/-! WoZ -/
section
namespace Go.HL
open Go Go.Proofs
theorem HC.ro {F:Nat} {args:List Value} {H H':Zb} {V:Value→Prop} (h1:LS H.flatten H'.flatten) (h2:LS H'.flatten H.flatten) (h:HC Tryz.prog F args H (fun v L'=>V v∧L'=H)):HC Tryz.prog F args H' (fun v L'=>V v∧L'=H'):=
 HC.post (HC.sp h h1) (by rintro v L' ⟨hv,rfl⟩;exact ⟨H',h2,hv,rfl⟩)
theorem lsW {G:WdG} {M:Wm} {X:Zb}:LS (Yl G M++X).flatten (Xg G M::X).flatten:=LS.of_eq (Qu G M X).symm
theorem lsW' {G:WdG} {M:Wm} {X:Zb}:LS (Xg G M::X).flatten (Yl G M++X).flatten:=LS.of_eq (Qu G M X)
theorem Zbt (T:Nat) (E:Nat→Addr) (G:WdG) (M:Wm) (s d:Int) (L:Zb) (hG:Er T E [2,6] L) (hW:WdOk G M) (hM:WI M):HC Tryz.prog 68 [pt G.wp 0,iv s,iv d] (Yl G M++L) (fun v L'=>v = .tuple ⟨[.agg ⟨sc (Uj M s d)⟩,eV T E (X8 M s d)]⟩∧L'=Yl G M++L):=by
 refine Zc3 T E G M s d _ (Xp hG G M) (Ui hW L) hW.ndl (fun hn=>?_) (fun hn=>?_)
 ·exact Qw hW.ndl (Yp hn).1 (Yp hn).2 L
 ·have hni:=Qa hM (Yp hn).1 (Yp hn).2
  refine ⟨by rw [hni.b512];omega,by rw [hni.b512];omega,fun p hp=>?_⟩
  have:=Zdk hW.ndl (Yp hn).1 (Yp hn).2 (b:=p.1) (o:=p.2) (by
   unfold Zfv Yo
   simp only [List.mem_cons,List.not_mem_nil,or_false] at hp
   rcases hp with rfl|rfl
   ·simp [plB]
   ·simp [plD]) L
  unfold Has Yl at *
  rw [List.append_assoc,List.flatten_append]
  exact List.mem_append_right _ this
end Go.HL
end

/-! SfA -/
section
namespace Go.HL
open Go Go.Proofs
structure Vd where
 st:Nat→St
 ld:Nat→Option Ld
 fr:Fr→Prop
structure Gh where
 prep:Int→Option Int
 acc:Nat→Int→Prop
 ref:Nat→Prop
def bit (q i:Nat):Prop:=q / 2 ^ i % 2=1
instance (q i:Nat):Decidable (bit q i):=by unfold bit;infer_instance
section inv
variable (w:List Int)
def Zeu (g:Gh) (a:Int):Prop := ∃ q,q<2 ^ w.length∧quor w q=true ∧ ∀ i,i<w.length→bit q i→g.acc i a
def dec (g:Gh) (p:Int):Prop:=(p=2 ∧ ∃ a,g.prep a=some 4∧Zeu w g a)∨(p=3∧((∃ a,g.prep a=some 5∧Zeu w g a) ∨ ∃ s,s<w.length∧g.ref s))
def Zb7 (v:Vd) (g:Gh) (a:Int):Prop := ∃ q,q<2 ^ w.length∧quor w q=true ∧ ∀ i,i<w.length→bit q i→a<(v.st i).pr ∧ ¬ g.acc i a
def Zml (v:Vd) (g:Gh) (s:Nat):Prop:=(v.st s).ph≠0 ∧ ¬ g.ref s
def fin (p:Int):Prop:=p=2∨p=3
structure TellOk (v:Vd) (g:Gh) (s:Nat) (b:Int) (t:St):Prop where
 pr:b≤(v.st s).pr
 fi:fin t.ph→dec w g t.ph
 pe:t.ph=4∨t.ph=5→t.att<b∧g.prep t.att=some t.ph∧0≤t.att
 ac : ∀ a,0≤a→a<b→g.acc s a→fin t.ph∨((t.ph=4∨t.ph=5)∧a≤t.att)
def frOk (v:Vd) (g:Gh) (f:Fr):Prop:=
 (f.kd=2→if f.yes then Zml v g f.fr.toNat else dec w g 3) ∧
 (f.kd=4→f.yes=true→TellOk w v g f.fr.toNat f.att f.s) ∧
 (f.kd=5→g.prep f.att=some f.s.ph) ∧
 (f.kd=6→f.yes=true→g.acc f.fr.toNat f.att) ∧
 (f.kd=7→fin f.s.ph→dec w g f.s.ph)
structure LeadOk (v:Vd) (g:Gh) (s:Nat) (x:Ld):Prop where
 two:x.wait=2→x.att=0 ∧ ∀ i,i<w.length→bit x.heard i→Zml v g i
 four:x.wait=4→1≤x.att∧x.att % w.length=s∧g.prep x.att=none∧x.att≤(v.st s).pr ∧ ∀ i,i<w.length→bit x.heard i→TellOk w v g i x.att (x.told.getD i W2)
 six:x.wait=6→g.prep x.att=some x.phase ∧ ∀ i,i<w.length→bit x.heard i→g.acc i x.att
 wt:x.wait=0∨x.wait=2∨x.wait=4∨x.wait=6
structure SiteOk (v:Vd) (g:Gh) (s:Nat):Prop where
 ok:Zgi (v.st s)
 fi:fin (v.st s).ph→dec w g (v.st s).ph
 pe:(v.st s).ph=4∨(v.st s).ph=5→g.prep (v.st s).att=some (v.st s).ph
 ac : ∀ a,g.acc s a→a≤(v.st s).pr∧(fin (v.st s).ph∨((v.st s).ph=4∨(v.st s).ph=5)∧a≤(v.st s).att)
 rf:g.ref s→(v.st s).ph=3
structure SInv (v:Vd) (g:Gh):Prop where
 site : ∀ s,s<w.length→SiteOk w v g s
 lead : ∀ s x,s<w.length→v.ld s=some x→LeadOk w v g s x
 fr : ∀ f,v.fr f→frOk w v g f
 p0 : ∀ p,g.prep 0=some p→p=4
 pp : ∀ a p,g.prep a=some p→(p=4∨p=5)∧0≤a
 own : ∀ a p,1≤a→g.prep a=some p→a≤(v.st (a % w.length).toNat).pr
 com : ∀ a,g.prep a=some 4 → ∀ s,s<w.length→Zml v g s
 safe : ∀ b q,g.prep b=some q → ∀ a,0≤a→a<b→Zb7 w v g a∨g.prep a=some q
end inv
structure GLe (w:List Int) (v v':Vd) (g g':Gh):Prop where
 prep : ∀ a p,g.prep a=some p→g'.prep a=some p
 acc : ∀ s a,g.acc s a→g'.acc s a
 ref : ∀ s,g.ref s→g'.ref s
 st : ∀ s,s<w.length→(v.st s).pr≤(v'.st s).pr∧((v.st s).ph≠0→(v'.st s).ph≠0)
 nref : ∀ s,s<w.length→(v.st s).ph≠0 → ¬ g.ref s → ¬ g'.ref s
 nacc : ∀ s a,s<w.length→a<(v.st s).pr → ¬ g.acc s a → ¬ g'.acc s a
theorem GLe.refl (w:List Int) (v:Vd) (g:Gh):GLe w v v g g:=⟨fun _ _ h=>h,fun _ _ h=>h,fun _ h=>h,fun _ _=>⟨Int.le_refl _,fun h=>h⟩,fun _ _ _ h=>h,fun _ _ _ _ h=>h⟩
theorem Zcr {w:List Int} {v v':Vd} {g g':Gh} (h:GLe w v v' g g') {a:Int} (hq:Zeu w g a):Zeu w g' a:=by
 obtain ⟨q,h1,h2,h3⟩:=hq
 exact ⟨q,h1,h2,fun i hi hb=>h.acc i a (h3 i hi hb)⟩
theorem Zb9 {w:List Int} {v v':Vd} {g g':Gh} (h:GLe w v v' g g') {p:Int} (hd:dec w g p):dec w g' p:=by
 rcases hd with ⟨h1,a,h2,h3⟩|⟨h1,⟨a,h2,h3⟩|⟨s,h2,h3⟩⟩
 ·exact .inl ⟨h1,a,h.prep _ _ h2,Zcr h h3⟩
 ·exact .inr ⟨h1,.inl ⟨a,h.prep _ _ h2,Zcr h h3⟩⟩
 ·exact .inr ⟨h1,.inr ⟨s,h2,h.ref _ h3⟩⟩
theorem Zin {w:List Int} {v v':Vd} {g g':Gh} (h:GLe w v v' g g') {a:Int} (hb:Zb7 w v g a):Zb7 w v' g' a:=by
 obtain ⟨q,h1,h2,h3⟩:=hb
 refine ⟨q,h1,h2,fun i hi hq=>?_⟩
 obtain ⟨h4,h5⟩:=h3 i hi hq
 exact ⟨by have:=(h.st i hi).1;omega,h.nacc i a hi h4 h5⟩
theorem Zb5 {w:List Int} {v v':Vd} {g g':Gh} (h:GLe w v v' g g') {s:Nat} (hs:s<w.length) (hv:Zml v g s):Zml v' g' s:=⟨(h.st s hs).2 hv.1,h.nref s hs hv.1 hv.2⟩
theorem Zif {w:List Int} {v v':Vd} {g g':Gh} (h:GLe w v v' g g') {s:Nat} (hs:s<w.length) {b:Int} {t:St} (ht:TellOk w v g s b t):TellOk w v' g' s b t:=by
 have hst:=(h.st s hs).1
 refine ⟨by have:=ht.pr;omega,fun hf=>Zb9 h (ht.fi hf),fun hp=>⟨(ht.pe hp).1,h.prep _ _ (ht.pe hp).2.1,(ht.pe hp).2.2⟩,fun a h0 ha hacc=>?_⟩
 by_cases hg:g.acc s a
 ·exact ht.ac a h0 ha hg
 ·exact absurd hacc (h.nacc s a hs (by have:=ht.pr;omega) hg)
theorem Zq4 {w:List Int} {v v':Vd} {g g':Gh} (h:GLe w v v' g g') {f:Fr} (hfr:0≤f.fr∧f.fr<w.length) (hf:frOk w v g f):frOk w v' g' f:=by
 obtain ⟨h2,h4,h5,h6,h7⟩:=hf
 have hi:f.fr.toNat<w.length:=by omega
 refine ⟨fun hk=>?_,fun hk hy=>Zif h hi (h4 hk hy),fun hk=>h.prep _ _ (h5 hk),fun hk hy=>h.acc _ _ (h6 hk hy),fun hk hp=>Zb9 h (h7 hk hp)⟩
 have:=h2 hk
 split at this
 ·rename_i hy
  rw [if_pos hy]
  exact Zb5 h hi this
 ·rename_i hy
  rw [if_neg hy]
  exact Zb9 h this
theorem Zlc {w:List Int} {v v':Vd} {g g':Gh} (h:GLe w v v' g g') {s:Nat} (hs:s<w.length) {x:Ld} (hx:LeadOk w v g s x) (hn:x.wait=4→g'.prep x.att=none):LeadOk w v' g' s x:=by
 refine ⟨fun e=>⟨(hx.two e).1,fun i hi hb=>Zb5 h hi ((hx.two e).2 i hi hb)⟩,fun e=>?_,fun e=>⟨h.prep _ _ (hx.six e).1,fun i hi hb=>h.acc _ _ ((hx.six e).2 i hi hb)⟩,hx.wt⟩
 obtain ⟨h1,h2,h3,h4,h5⟩:=hx.four e
 exact ⟨h1,h2,hn e,by have:=(h.st s hs).1;omega,fun i hi hb=>Zif h hi (h5 i hi hb)⟩
theorem Zr9 {w:List Int} {v v':Vd} {g g':Gh} (h:GLe w v v' g g') (hp:g'.prep=g.prep) (hi : ∀ b q,g.prep b=some q → ∀ a,0≤a→a<b→Zb7 w v g a∨g.prep a=some q) : ∀ b q,g'.prep b=some q → ∀ a,0≤a→a<b→Zb7 w v' g' a∨g'.prep a=some q:=fun b q hb a h0 ha=>by
 rw [hp] at hb ⊢
 rcases hi b q hb a h0 ha with h1|h1
 ·exact .inl (Zin h h1)
 ·exact .inr h1
end Go.HL
end

/-! SfB -/
section
namespace Go.HL
open Go Go.Proofs
def upd {α:Type} (f:Nat→α) (s:Nat) (x:α):Nat→α:=fun i=>if i=s then x else f i
theorem Zmd {w:List Int} {v v':Vd} {g g':Gh} (h:GLe w v v' g g') {t:Nat} (hs:v'.st t=v.st t) (ha : ∀ a,g'.acc t a→g.acc t a) (hr:g'.ref t→g.ref t) (hx:SiteOk w v g t):SiteOk w v' g' t:=by
 refine ⟨by rw [hs];exact hx.ok,fun hf=>?_,fun hp=>?_,fun a hacc=>?_,fun hrf=>?_⟩
 ·rw [hs] at hf ⊢;exact Zb9 h (hx.fi hf)
 ·rw [hs] at hp ⊢;exact h.prep _ _ (hx.pe hp)
 ·rw [hs];exact hx.ac a (ha a hacc)
 ·rw [hs];exact hx.rf (hr hrf)
end Go.HL
end

/-! LdF -/
section
namespace Go.HL
open Go Go.Proofs
section d
variable {w:List Int} {att:Int} {m:Ld} {acks:Nat} {no:Bool} {fin ph:Int} {f:Fr}
end d
end Go.HL
end

/-! TabC -/
section
namespace Go.HL
open Go Go.Proofs
set_option maxHeartbeats 2000000 attribute [local irreducible] HW HO HQ HD HC QOp Has Upd Zo Gets Ye Z6 Zq X0 Z5 Zj X7 Zw

end Go.HL
end

/-! SfC -/
section
namespace Go.HL
open Go Go.Proofs
theorem gle_st {w:List Int} {v v':Vd} (g:Gh) (h:v'.st=v.st):GLe w v v' g g:=⟨fun _ _ e=>e,fun _ _ e=>e,fun _ e=>e,fun s _=>by rw [h];exact ⟨Int.le_refl _,fun e=>e⟩,fun _ _ _ e=>e,fun _ _ _ _ e=>e⟩
theorem inv_of {w:List Int} {v v':Vd} {g:Gh} (h:SInv w v g) (hst:v'.st=v.st) (hl : ∀ t x,t<w.length→v'.ld t=some x→LeadOk w v g t x) (hb : ∀ f,v'.fr f→0≤f.fr∧f.fr<w.length) (hf : ∀ f,v'.fr f→frOk w v g f):SInv w v' g:=by
 have hle:=gle_st (w:=w) g hst
 refine ⟨fun t ht=>Zmd hle (by rw [hst]) (fun _ e=>e) (fun e=>e) (h.site t ht),fun t x ht hx=>Zlc hle ht (hl t x ht hx) (fun e=>((hl t x ht hx).four e).2.2.1),fun f hx=>Zq4 hle (hb f hx) (hf f hx),h.p0,h.pp,fun a p h1 ha=>by rw [hst];exact h.own a p h1 ha,fun a ha t ht=>Zb5 hle ht (h.com a ha t ht),Zr9 hle rfl h.safe⟩
end Go.HL
end

/-! SfD -/
section
namespace Go.HL
open Go Go.Proofs
def vdW (M:Wm) (d:Nat):Vd:=⟨fun s=>Zcq (Zf M (s:Int)).pl d,fun s=>(Zf M (s:Int)).leads.getD d none,fun f=>f∈M.l∧f.dl=d⟩
structure SD (M:Wm) (d:Nat) (g:Gh):Prop where
 inv:SInv M.w (vdW M d) g
 ev : ∀ e∈M.ev,e.deal=d→dec M.w g e.ph
theorem fr_bound {M:Wm} (h:WI M) {d:Nat} : ∀ f,(vdW M d).fr f→0≤f.fr∧f.fr<M.w.length:=fun f hf=>by
 obtain ⟨h1,h2,h3⟩:=h.fr f hf.1
 unfold Wq at h1
 omega
theorem SD_of {M M':Wm} {d:Nat} {g:Gh} (hI':WI M') (h:SD M d g) (hw:M'.w=M.w) (hst : ∀ s:Nat,Zcq (Zf M' (s:Int)).pl d=Zcq (Zf M (s:Int)).pl d)
  (hld : ∀ s:Nat,(Zf M' (s:Int)).leads.getD d none=(Zf M (s:Int)).leads.getD d none∨(Zf M' (s:Int)).leads.getD d none=none) (hl : ∀ f∈M'.l,f.dl=d→f∈M.l∨frOk M.w (vdW M d) g f)
  (hev : ∀ e∈M'.ev,e∈M.ev∨(e.deal=d → ∃ s,s<M.w.length∧e.ph=(Zcq (Zf M (s:Int)).pl d).ph∧fin e.ph)):SD M' d g:=by
 have hs:(vdW M' d).st=(vdW M d).st:=funext hst
 refine ⟨?_,fun e he hed=>?_⟩
 ·rw [hw]
  refine inv_of h.inv hs (fun t x ht hx=>?_) (fun f hf=>by have:=fr_bound hI' f hf;rw [hw] at this;exact this) (fun f hf=>?_)
  ·rcases hld t with e|e
   ·exact h.inv.lead t x ht (by rw [← hx];exact e.symm)
   ·have hx':(Zf M' (t:Int)).leads.getD d none=some x:=hx
    rw [e] at hx';cases hx'
  ·rcases hl f hf.1 hf.2 with h1|h1
   ·exact h.inv.fr f ⟨h1,hf.2⟩
   ·exact h1
 ·rw [hw]
  rcases hev e he with h1|h1
  ·exact h.ev e h1 hed
  ·obtain ⟨s,hs1,hs2,hs3⟩:=h1 hed
   have:=(h.inv.site s hs1).fi
   change fin (Zcq (Zf M (s:Int)).pl d).ph→dec M.w g (Zcq (Zf M (s:Int)).pl d).ph at this
   rw [hs2]
   exact this (by rw [← hs2];exact hs3)
theorem Zrv {s:Int} {ph:Nat→Int} {q:List Bool × List Evt} {k:Nat} {e:Evt} (h:e∈(Wo s ph q k).2):e∈q.2∨(e=⟨s,k,ph k⟩∧fin (ph k)):=by
 unfold Wo at h
 split at h
 ·exact .inl h
 ·rename_i hc
  simp only at h
  split at h
  ·rcases List.mem_append.1 h with h|h
   ·exact .inl h
   ·simp only [List.mem_singleton] at h
    refine .inr ⟨h,?_⟩
    unfold fin
    by_cases h2:ph k=2
    ·exact .inl h2
    ·by_cases h3:ph k=3
     ·exact .inr h3
     ·exact absurd (.inr ⟨h2,h3⟩) hc
  ·exact .inl h
theorem Zhz {s:Int} {ph:Nat→Int} {q:List Bool × List Evt} {e:Evt} : ∀ k,e∈(Ud s ph q k).2→e∈q.2 ∨ ∃ d,d<k∧e=⟨s,d,ph d⟩∧fin (ph d)
 | 0,h => .inl h
 | k+1,h=>by
  rw [Ue] at h
  rcases Zrv h with h|⟨h1,h2⟩
  ·rcases Zhz k h with h|⟨d,h1,h2,h3⟩
   ·exact .inl h
   ·exact .inr ⟨d,by omega,h2,h3⟩
  ·exact .inr ⟨k,by omega,h1,h2⟩
theorem Zrw {s:Int} {m:Nd} {ev:List Evt} {e:Evt} (h:e∈(Xk s m ev).2):e∈ev ∨ ∃ j ref d,m.site=some (j,ref)∧d<6∧e=⟨s,(d:Nat),(Y4 j d).ph⟩∧fin (Y4 j d).ph:=by
 unfold Xk at h
 split at h
 ·exact .inl h
 ·rename_i j ref hs
  rcases Zhz 6 h with h|⟨d,h1,h2,h3⟩
  ·exact .inl h
  ·exact .inr ⟨j,ref,d,hs,h1,h2,h3⟩
end Go.HL
end

/-! SfE -/
section
namespace Go.HL
open Go Go.Proofs
def SafeW (M:Wm):Prop := ∀ d,d<6 → ∃ g,SD M d g
theorem SafeW.of {M M':Wm} (h:SafeW M) (hI':WI M') (hw:M'.w=M.w) (hst : ∀ (d s:Nat),Zcq (Zf M' (s:Int)).pl d=Zcq (Zf M (s:Int)).pl d)
  (hld : ∀ d s:Nat,(Zf M' (s:Int)).leads.getD d none=(Zf M (s:Int)).leads.getD d none∨(Zf M' (s:Int)).leads.getD d none=none) (hl : ∀ f∈M'.l,f∈M.l)
  (hev : ∀ e∈M'.ev,e∈M.ev∨(∃ s d:Nat,s<M.w.length∧e.deal=d∧e.ph=(Zcq (Zf M (s:Int)).pl d).ph∧fin e.ph)):SafeW M':=fun d hd=>by
 obtain ⟨g,hg⟩:=h d hd
 exact ⟨g,SD_of hI' hg hw (hst d) (hld d) (fun f hf _ => .inl (hl f hf)) fun e he=>(hev e he).imp id fun ⟨s,d2,h1,h2,h3,h4⟩ hed=>⟨s,h1,by
  have:d2=d:=by omega
  rw [← this];exact h3,h4⟩⟩
theorem getD_set_ne {l:List (Option Ld)} {i k:Nat} {o:Option Ld} (h:i≠k):(l.set k o).getD i none=l.getD i none:=by
 simp only [List.getD,List.getElem?_set]
 rw [if_neg (fun e=>h e.symm)]
end Go.HL
end

/-! SfF -/
section
namespace Go.HL
open Go Go.Proofs
end Go.HL
end

/-! SfG -/
section
namespace Go.HL
open Go Go.Proofs
structure EvW (M:Wm):Prop where
 pw:M.ev.Pairwise fun a b => ¬ (a.site=b.site∧a.deal=b.deal)
 rg : ∀ e∈M.ev,0≤e.site∧e.site<M.w.length∧0≤e.deal∧e.deal<6∧fin e.ph
 dn : ∀ e∈M.ev,(Zf M e.site).done.getD e.deal.toNat false=true
theorem EvW.same {M M':Wm} (h:EvW M) (hw:M'.w=M.w) (he:M'.ev=M.ev) (hd : ∀ s,(Zf M' s).done=(Zf M s).done):EvW M':=
 ⟨by rw [he];exact h.pw,fun e h2=>by rw [he] at h2;rw [hw];exact h.rg e h2,fun e h2=>by rw [he] at h2;rw [hd];exact h.dn e h2⟩
theorem Zrt {s:Int} {ph:Nat→Int} {q:List Bool × List Evt} {k:Nat} (hk:k<q.1.length) (h1:q.2.Pairwise fun a b => ¬ (a.site=b.site∧a.deal=b.deal)) (h2 : ∀ e∈q.2,e.site=s→0≤e.deal∧q.1.getD e.deal.toNat false=true) :
  (Wo s ph q k).2.Pairwise (fun a b => ¬ (a.site=b.site∧a.deal=b.deal))∧(∀ e∈(Wo s ph q k).2,e.site=s→0≤e.deal∧(Wo s ph q k).1.getD e.deal.toNat false=true)∧(∀ i,q.1.getD i false=true→(Wo s ph q k).1.getD i false=true):=by
 have hset : ∀ i,(q.1.set k true).getD i false=if i=k then true else q.1.getD i false:=fun i=>by
  simp only [List.getD,List.getElem?_set]
  by_cases e:k=i
  ·subst e;simp [hk]
  ·rw [if_neg e,if_neg (fun e2=>e e2.symm)]
 unfold Wo
 split
 ·exact ⟨h1,h2,fun i hi=>hi⟩
 ·rename_i hc
  have hf:q.1.getD k false=false:=by
   have e:q.1.getD k true≠true:=fun e=>hc (.inl e)
   simp only [List.getD,List.getElem?_eq_getElem hk,Option.getD_some] at e ⊢
   simpa using e
  simp only
  refine ⟨?_,fun e he hes=>?_,fun i hi=>by rw [hset];split<;>simp_all⟩
  ·split
   ·rw [List.pairwise_append]
    refine ⟨h1,List.pairwise_singleton _ _,fun a ha b hb=>?_⟩
    simp only [List.mem_singleton] at hb
    subst hb
    rintro ⟨e1,e2⟩
    simp only at e1 e2
    have:=(h2 a ha e1).2
    rw [e2] at this
    simp only [Int.toNat_natCast] at this
    rw [hf] at this
    cases this
   ·exact h1
  ·rw [hset]
   split at he
   ·rcases List.mem_append.1 he with he|he
    ·exact ⟨(h2 e he hes).1,by split;rfl;exact (h2 e he hes).2⟩
    ·simp only [List.mem_singleton] at he
     subst he
     exact ⟨by simp,by simp⟩
   ·exact ⟨(h2 e he hes).1,by split;rfl;exact (h2 e he hes).2⟩
theorem Zhy {s:Int} {ph:Nat→Int} {q:List Bool × List Evt} (hq:q.1.length=6) (h1:q.2.Pairwise fun a b => ¬ (a.site=b.site∧a.deal=b.deal)) (h2 : ∀ e∈q.2,e.site=s→0≤e.deal∧q.1.getD e.deal.toNat false=true) : ∀ k,k≤6 →
  (Ud s ph q k).2.Pairwise (fun a b => ¬ (a.site=b.site∧a.deal=b.deal))∧(∀ e∈(Ud s ph q k).2,e.site=s→0≤e.deal∧(Ud s ph q k).1.getD e.deal.toNat false=true)
 | 0,_=>⟨h1,h2⟩
 | k+1,hk=>by
  obtain ⟨a1,a2⟩:=Zhy (ph:=ph) hq h1 h2 k (by omega)
  rw [Ue]
  obtain ⟨b1,b2,-⟩:=Zrt (ph:=ph) (k:=k) (by rw [Zaz,hq];omega) a1 a2
  exact ⟨b1,b2⟩
theorem EvW.note {M:Wm} (h:EvW M) (hI:WI M) {s:Int} (h0:0≤s) (h1:s<M.n.length) {m m':Nd} (hm:m.done=(Zf M s).done) (hm':m'.done=(Xk s m M.ev).1):EvW { Xb M s m' with ev:=(Xk s m M.ev).2 }:=by
 have hn:=hI.wn
 have hd6:m.done.length=6:=by rw [hm];exact (hI.at h0 h1).done
 have hpre : ∀ e∈M.ev,e.site=s→0≤e.deal∧m.done.getD e.deal.toNat false=true:=fun e he hes=>⟨(h.rg e he).2.2.1,by rw [hm,← hes];exact h.dn e he⟩
 have key:(Xk s m M.ev).2.Pairwise (fun a b => ¬ (a.site=b.site∧a.deal=b.deal))∧(∀ e∈(Xk s m M.ev).2,e.site=s→0≤e.deal∧(Xk s m M.ev).1.getD e.deal.toNat false=true):=by
  unfold Xk
  split
  ·exact ⟨h.pw,hpre⟩
  ·exact Zhy hd6 h.pw hpre 6 (Nat.le_refl _)
 have hmem : ∀ e∈(Xk s m M.ev).2,e∈M.ev∨(e.site=s∧0≤e.deal∧e.deal<6∧fin e.ph):=fun e he=>by
  rcases Zrw he with he|⟨j,ref,d,-,e2,rfl,e4⟩
  ·exact .inl he
  ·exact .inr ⟨rfl,by simp,by simp only;omega,e4⟩
 refine ⟨key.1,fun e he=>?_,fun e he=>?_⟩
 ·rcases hmem e he with h2|⟨e1,e2,e3,e4⟩
  ·exact h.rg e h2
  ·exact ⟨by omega,by rw [e1];show s<(M.w.length:Int);omega,e2,e3,e4⟩
 ·show (Zf (Xb M s m') e.site).done.getD _ _=true
  by_cases hes:e.site=s
  ·rw [hes,Zck h0 h1,hm']
   exact (key.2 e he hes).2
  ·rcases hmem e he with h2|⟨e1,-⟩
   ·rw [Zd2 (by have:=(h.rg e h2).1;omega)]
    exact h.dn e h2
   ·exact absurd e1 hes
theorem EvW.set {M:Wm} (h:EvW M) {s:Int} {m:Nd} (h0:0≤s) (h1:s<M.n.length) (hm:m.done=(Zf M s).done):EvW (Xb M s m):=by
 refine ⟨h.pw,h.rg,fun e he=>?_⟩
 by_cases hes:e.site=s
 ·rw [hes,Zck h0 h1,hm,← hes]
  exact h.dn e he
 ·rw [Zd2 (by have:=(h.rg e he).1;omega)]
  exact h.dn e he
theorem EvW.setL {M:Wm} (h:EvW M) (l:List Fr):EvW { M with l:=l }:=⟨h.pw,h.rg,h.dn⟩
theorem EvW.lead {M:Wm} (h:EvW M) {s:Int} (h0:0≤s) (h1:s<M.n.length) (ls:List (Option Ld)) (l:List Fr):EvW { Xb M s { Zf M s with leads:=ls } with l:=l }:=(h.set (m:={ Zf M s with leads:=ls }) h0 h1 rfl).setL l
theorem EvW.hear {M:Wm} (h:EvW M) (hI:WI M) {s:Int} (h0:0≤s) (h1:s<M.n.length) (f:Fr):EvW (Y3 M s f).1:=by
 unfold Y3
 simp only
 have e:(Xv s (Zf M s) M.ev f).2.1=M.ev∧(Xv s (Zf M s) M.ev f).1.done=(Zf M s).done ∨ ∃ m:Nd,m.done=(Zf M s).done∧(Xv s (Zf M s) M.ev f).1.done=(Xk s m M.ev).1∧(Xv s (Zf M s) M.ev f).2.1=(Xk s m M.ev).2:=by
  unfold Xv
  split
  ·exact .inl ⟨rfl,rfl⟩
  ·rename_i j ref hs
   split
   ·exact .inl ⟨rfl,rfl⟩
   ·exact .inr ⟨⟨(Z3 s ref (Zf M s).pl j f).1,some ((Z3 s ref (Zf M s).pl j f).2.1,ref),(Zf M s).leads,(Zf M s).done⟩,rfl,rfl,rfl⟩
 rcases e with ⟨e1,e2⟩|⟨m,e1,e2,e3⟩
 ·rw [e1]
  exact h.set h0 h1 e2
 ·rw [e3]
  exact h.note hI h0 h1 e1 e2
theorem ev_try {M:Wm} (h:EvW M) (hI:WI M) {s d p:Int} (h0:0≤s) (h1:s<M.n.length):EvW (Zcy M s d p).1:=by
 unfold Zcy
 simp only
 split
 ·exact h
 have h2:=h.hear hI h0 h1 (Zbd s d (Zdi M.w.length s (Xc (Zf M s) d p+1)))
 have hS:=Zdf M s (Zbd s d (Zdi M.w.length s (Xc (Zf M s) d p+1)))
 split
 ·exact h2
 ·exact h2.lead h0 (by rw [hS.n];exact h1) _ _
theorem ev_tickD {M:Wm} {q:Wm × Bool} {s:Int} {k d:Nat} (hT:TickOk M q s k) (h:EvW q.1) (h0:0≤s) (h1:s<M.n.length):EvW (Zan s q d).1:=by
 have hn:=hT.same.n
 unfold Zan
 split
 ·exact h
 split
 ·exact h
 split
 ·exact h
 split
 ·exact h.setL _
 ·exact ev_try h hT.wi h0 (by omega)
theorem Zkt {M:Wm} (hI:WI M) (h:EvW M) {s:Int} (h0:0≤s) (h1:s<M.n.length) (hs:(Zf M s).site≠none) : ∀ k,k≤6→EvW ((List.range k).foldl (Zan s) (M,true)).1
 | 0,_=>h
 | k+1,hk=>by
  rw [List.range_succ,List.foldl_append]
  exact ev_tickD (Zcx hI h0 h1 hs k (by omega)) (Zkt hI h h0 h1 hs k (by omega)) h0 h1
theorem ev_tick {M:Wm} (hI:WI M) (h:EvW M) (s:Int):EvW (U8 M s).1:=by
 unfold U8
 split
 ·exact h
 ·rename_i hu
  obtain ⟨h0,h1,hs⟩:=Uq hu
  exact Zkt hI h h0 h1 hs 6 (by omega)
theorem Zfa {M:Wm} (hI:WI M) (h:EvW M) (k:Int):EvW (Yc M k).1:=by
 have hn:=hI.wn
 unfold Yc
 split
 ·exact h
 rename_i hk
 obtain ⟨⟨hbad,hto,hfr⟩,hk0,hk1⟩:=Zfd hI hk
 unfold Wq at hbad
 have hE:=h.setL (M.l.eraseIdx k.toNat)
 simp only
 split
 ·exact hE
 split
 ·split
  ·exact hE
  ·exact hE.lead (s:=(M.l.getD k.toNat W1).to) (by omega) (by simp only;omega) _ _
 ·exact (hE.hear (hI.erase _) (by omega) (by simp only;omega) _).setL _
theorem ev_new (w:List Int):EvW (Q2 w):=⟨by simp [Q2],fun e he=>(by cases he),fun e he=>(by cases he)⟩
end Go.HL
end

/-! JgA -/
section
namespace Go.HL
open Go Go.Proofs
structure Ev where
 s:Int
 d:Int
 p:Int
def evc (e:Ev):List Value:=[iv e.s,iv e.d,iv e.p]
def Za6 (p:Int):Bool:=decide (p=2∨p=3)
def badE (sites:Int) (e:Ev):Prop:=e.s<0∨sites≤e.s∨e.d<0∨6≤e.d∨Za6 e.p=false
instance (sites:Int) (e:Ev):Decidable (badE sites e):=by unfold badE;infer_instance
def spl (e:Ev) (a:Ev):Bool:=decide (a.d=e.d∧a.p≠e.p)
def Zss (e:Ev) (a:Ev):Bool:=decide (a.d=e.d∧a.s=e.s)
def Zq1 (sites:Int) (e:Ev) (l:List Ev):Option Nat:=if badE sites e then some 2 else if l.any (spl e) then some 9 else if l.any (Zss e) then some 8 else none
def Zb8 (sites:Int) (xs:List Ev):Nat→Option (Nat × Nat)
 | i=>if h:i<xs.length then (match Zq1 sites xs[i] (xs.take i) with
   | some c=>some (i,c)
   | none=>Zb8 sites xs (i+1)) else none
 termination_by i=>xs.length-i
theorem Zkl {sites:Int} {xs:List Ev} {i c:Nat} (h:i<xs.length) (hc:Zq1 sites xs[i] (xs.take i)=some c):Zb8 sites xs i=some (i,c):=by
 rw [Zb8,dif_pos h,hc]
theorem Zc5 {sites:Int} {xs:List Ev} {i:Nat} (h:i<xs.length) (hc:Zq1 sites xs[i] (xs.take i)=none):Zb8 sites xs i=Zb8 sites xs (i+1):=by
 rw [Zb8,dif_pos h,hc]
theorem Ze3 {sites:Int} {xs:List Ev} {i:Nat} (h:xs.length≤i):Zb8 sites xs i=none:=by
 rw [Zb8,dif_neg (by omega)]
theorem evM_nine {sites:Int} {e:Ev} {l:List Ev} {c:Nat} (h:Zq1 sites e l=some c):List.elem c all9=true:=by
 unfold Zq1 at h
 split at h
 ·cases h;rfl
 split at h
 ·cases h;rfl
 split at h
 ·cases h;rfl
 ·cases h
theorem Zj5 {α:Type} {p:α→Bool} {l:List α} {k:Nat} (h:k<l.length):(l.take (k+1)).any p=((l.take k).any p || p l[k]):=by
 rw [List.take_succ_eq_append_getElem h,List.any_append];simp
theorem any_yes {α:Type} {p:α→Bool} {l:List α} {k:Nat} (h:k<l.length) (hp:p l[k]=true):l.any p=true:=List.any_eq_true.2 ⟨_,List.getElem_mem h,hp⟩
theorem any_all {α:Type} {p:α→Bool} {l:List α} {k:Nat} (h:l.length≤k):(l.take k).any p=l.any p:=by rw [List.take_of_length_le h]
set_option maxHeartbeats 2000000 attribute [local irreducible] HW HO HQ HD HC QOp Has Upd Zo Gets Ye Z6 Zq X0 Z5 Zj X7 Zw
theorem Zch (p:Int) (L:Zb):HC Tryz.prog 103 [iv p] L (fun v L'=>v = .bool (Za6 p)∧L'=L):=by
 refine Za (fun _ _=>Tryz.call103 _ _) Tryz.func103 rfl Tryz.ntmps103 (Nat.le_of_ble_eq_true rfl) ?_;simp only [Ze,Nat.reduceAdd]
 repeat' (first|refine uN ?_|(refine uP ?_ ?_<;>(intro h;((try simp only [zs,zq,reduceCtorEq] at h);try exact zx)))|fail)
 all_goals (refine Xn (LS.refl _) ⟨congrArg Value.bool ?_,rfl⟩;unfold Za6;first|(refine Eq.symm (decide_eq_true ?_);omega)|(refine Eq.symm (decide_eq_false ?_);omega)|(refine decide_eq_decide.2 ?_;omega))
theorem Zku (T:Nat) (E:Nat→Addr) (e:Ev) (a:Option Addr) (cap:Nat) (l:List Ev) (sites:Int) (L:Zb) (hG:Er T E [2,8,9] L) (hR:Rd evc 3 L a l) (hl:l.length≤1000000) :
  HC Tryz.prog 105 [.agg ⟨evc e⟩,.slice a l.length cap,iv sites] L (fun v L'=>v=eV T E (Zq1 sites e l)∧L'=L):=by
 unfold Zq1
 refine Za (fun _ _=>Tryz.call105 _ _) Tryz.func105 rfl Tryz.ntmps105 (Nat.le_of_ble_eq_true rfl) ?_;simp only [Ze,Nat.reduceAdd]
 by_cases hb:badE sites e
 ·rw [if_pos hb]
  repeat' (first|refine uN ?_|refine uC (Zch _ _) ?_|(refine uB ?_;intro b)|(refine uP ?_ ?_<;>(intro h;((try simp only [zs,zq,reduceCtorEq] at h);try exact zx)))|fail)
  all_goals first
   | exact Xn uZ ⟨rfl,rfl⟩
   | (exfalso;rcases hb with h1|h1|h1|h1|h1<;>first|omega|simp_all)
 rw [if_neg hb]
 have hb1 : ¬e.s<0:=fun h=>hb (.inl h)
 have hb2 : ¬sites≤e.s:=fun h=>hb (.inr (.inl h))
 have hb3 : ¬e.d<0:=fun h=>hb (.inr (.inr (.inl h)))
 have hb4 : ¬6≤e.d:=fun h=>hb (.inr (.inr (.inr (.inl h))))
 have hb5:Za6 e.p=true:=by
  cases hf:Za6 e.p with
  | true=>rfl
  | false=>exact absurd (.inr (.inr (.inr (.inr hf)))) hb
 have kf:=fun L=>Zch e.p L
 rw [hb5] at kf
 repeat' (first|refine uN ?_|refine uC (kf _) ?_|(refine uB ?_;intro b)|(refine uP ?_ ?_<;>(intro h;((try simp only [zs,zq,reduceCtorEq] at h);try exact zx)))|fail)
 generalize b=be
 have e0:(Value.nilIface)=eV T E (if (l.take 0).any (Zss e) then some 8 else none):=rfl
 rw [e0]
 refine Zz (σ:=Nat) (fun k=>[(3,pt be 0),(7,eV T E (if (l.take k).any (Zss e) then some 8 else none)),(36,.slice a l.length cap),(37,iv l.length),(38,iv k)]) (fun _=>[(be,.cells ⟨evc e⟩ 81)]::L) (fun k=>k≤l.length∧(l.take k).any (spl e)=false) (fun k=>l.length-k) 0 uS (List.Sublist.refl _) ⟨by omega,by simp⟩ ?_
 rintro k ⟨h1,h2⟩
 by_cases hlt:k<l.length
 ·obtain ⟨b0,i0,l0,E0,fr0,rfl,hb0,hg0⟩:=hR.at (j:=(k:Int)) (by omega) (by omega)
  have ex:l[(k:Int).toNat]'(by omega)=l[k]:=rfl
  rw [ex] at hg0
  have h3:=Zj5 (p:=spl e) hlt
  have h4:=Zj5 (p:=Zss e) hlt
  have h5:=any_yes (p:=spl e) hlt
  rw [h2,Bool.false_or] at h3
  generalize l[k]=x at *
  by_cases hd:x.d=e.d
  ·by_cases hp:x.p=e.p
   ·have h6:spl e x=false:=by unfold spl;exact decide_eq_false (fun h=>h.2 hp)
    by_cases hs:x.s=e.s
    ·have h7:Zss e x=true:=by unfold Zss;exact decide_eq_true ⟨hd,hs⟩
     rw [h7,Bool.or_true] at h4
     have e1:Value.iface T (.pointer (some (E 8)))=eV T E (if (l.take (k+1)).any (Zss e) then some 8 else none):=by rw [h4];rfl
     repeat' (first|refine uN ?_|(refine uB ?_;intro b)|(refine uP ?_ ?_<;>(intro h;((try simp only [zs,zq,reduceCtorEq] at h);try exact zx)))|fail)
     all_goals first|contradiction|(rw [e1];exact Zy (k+1) uS uL ⟨by omega,by rw [h3,h6]⟩ (by omega))
    ·have h7:Zss e x=false:=by unfold Zss;exact decide_eq_false (fun h=>hs h.2)
     rw [h7,Bool.or_false] at h4
     rw [← h4]
     repeat' (first|refine uN ?_|(refine uB ?_;intro b)|(refine uP ?_ ?_<;>(intro h;((try simp only [zs,zq,reduceCtorEq] at h);try exact zx)))|fail)
     all_goals first|contradiction|exact Zy (k+1) uS uL ⟨by omega,by rw [h3,h6]⟩ (by omega)
   ·have h6:spl e x=true:=by unfold spl;exact decide_eq_true ⟨hd,hp⟩
    rw [if_pos (h5 h6)]
    repeat' (first|refine uN ?_|(refine uB ?_;intro b)|(refine uP ?_ ?_<;>(intro h;((try simp only [zs,zq,reduceCtorEq] at h);try exact zx)))|fail)
    all_goals first|contradiction|exact Xn uZ ⟨rfl,rfl⟩
  ·have h6:spl e x=false:=by unfold spl;exact decide_eq_false (fun h=>hd h.1)
   have h7:Zss e x=false:=by unfold Zss;exact decide_eq_false (fun h=>hd h.1)
   rw [h7,Bool.or_false] at h4
   rw [← h4]
   repeat' (first|refine uN ?_|(refine uB ?_;intro b)|(refine uP ?_ ?_<;>(intro h;((try simp only [zs,zq,reduceCtorEq] at h);try exact zx)))|fail)
   all_goals first|contradiction|exact Zy (k+1) uS uL ⟨by omega,by rw [h3,h6]⟩ (by omega)
 ·rw [any_all (by omega)] at h2 ⊢
  rw [h2]
  repeat' (first|refine uN ?_|(refine uB ?_;intro b)|(refine uP ?_ ?_<;>(intro h;((try simp only [zs,zq,reduceCtorEq] at h);try exact zx)))|fail)
  exact Xn uZ ⟨rfl,rfl⟩
def efM (sites:Int) (xs:List Ev):Int × Int:=if sites<1∨7<sites then (2,-1) else match Zb8 sites xs 0 with
 | none=>(0,-1)
 | some (i,c)=>(c,i)
theorem Rd.cut {α:Type} {enc:α→List Value} {sz:Nat} {L:Zb} {a:Option Addr} {l:List α} (h:Rd enc sz L a l) (i:Nat):Rd enc sz L a (l.take i):=Rd.take h
theorem Zi4 (T:Nat) (E:Nat→Addr) (a:Option Addr) (cap:Nat) (xs:List Ev) (sites:Int) (L:Zb) (hG:Er T E [2,8,9] L) (hR:Rd evc 3 L a xs) (hl:xs.length≤1000000) (hcap:xs.length≤cap) :
  HC Tryz.prog 48 [.slice a xs.length cap,iv sites] L (fun v L' => ∃ c,FV T E v (efM sites xs).1 (efM sites xs).2 c∧L'=c::L):=by
 unfold efM
 refine Za (fun _ _=>Tryz.call48 _ _) Tryz.func48 rfl Tryz.ntmps48 (Nat.le_of_ble_eq_true rfl) ?_;simp only [Ze,Nat.reduceAdd]
 by_cases hs:sites<1∨7<sites
 ·simp only [if_pos hs]
  repeat' (first|refine uN ?_|refine Yd S ?_|(refine uB ?_;intro b)|(refine uP ?_ ?_<;>(intro h;((try simp only [zs,zq,reduceCtorEq] at h);try exact zx)))|fail)
  all_goals first|exact Xn (L':=[]::L) (LS.refl _) ⟨[],FV.bare rfl,rfl⟩|omega
 simp only [if_neg hs]
 repeat' (first|refine uN ?_|refine Yd S ?_|(refine uB ?_;intro b)|(refine uP ?_ ?_<;>(intro h;((try simp only [zs,zq,reduceCtorEq] at h);try exact zx)))|fail)
 refine Zz (σ:=Nat) (fun k=>[(0,.slice a xs.length cap),(1,iv sites),(15,.slice a xs.length cap),(16,iv xs.length),(17,iv k)]) (fun _=>L) (fun k=>k≤xs.length∧Zb8 sites xs 0=Zb8 sites xs k) (fun k=>xs.length-k) 0 uS (List.Sublist.refl _) ⟨by omega,rfl⟩ ?_
 rintro k ⟨h1,h2⟩
 rw [h2]
 by_cases hlt:k<xs.length
 ·obtain ⟨b0,i0,l0,E0,fr0,rfl,hb0,hg0⟩:=hR.at (j:=(k:Int)) (by omega) (by omega)
  have ex:xs[(k:Int).toNat]'(by omega)=xs[k]:=rfl
  rw [ex] at hg0
  have ke:=fun L hG hR=>Zku T E xs[k] (some ⟨b0,i0,none⟩) cap (xs.take k) sites L hG hR (by simp;omega)
  rw [show (xs.take k).length=k by simp;omega] at ke
  cases hev:Zq1 sites xs[k] (xs.take k) with
  | some c =>
   rw [Zkl hlt hev]
   rw [hev] at ke
   generalize xs[k]=x at *
   repeat' (first|refine uN ?_|refine Yd S ?_|refine Vb (qC (ke _ (hG.cons _) ((hR.cut _).cons _))) ?_|refine Zc9 (qC (ke _ (hG.cons _) ((hR.cut _).cons _))) ?_|(refine uB ?_;intro b)|(refine uP ?_ ?_<;>(intro h;((try simp only [zs,zq,reduceCtorEq] at h);try exact zx)))|fail)
   exact Xn (L':=faC b k T E (some c)::L) uL ⟨_,FV.at (evM_nine hev) b k,rfl⟩
  | none =>
   have h3:=Zc5 hlt hev
   rw [hev] at ke
   generalize xs[k]=x at *
   repeat' (first|refine uN ?_|refine Yd S ?_|refine Vb (qC (ke _ (hG.cons _) ((hR.cut _).cons _))) ?_|refine Zc9 (qC (ke _ (hG.cons _) ((hR.cut _).cons _))) ?_|(refine uB ?_;intro b)|(refine uP ?_ ?_<;>(intro h;((try simp only [zs,zq,reduceCtorEq] at h);try exact zx)))|fail)
   exact Zy (k+1) uS uL ⟨by omega,by rw [h3]⟩ (by omega)
 ·rw [Ze3 (by omega)]
  repeat' (first|refine uN ?_|refine Yd S ?_|(refine uB ?_;intro b)|(refine uP ?_ ?_<;>(intro h;((try simp only [zs,zq,reduceCtorEq] at h);try exact zx)))|fail)
  exact Xn (L':=[]::L) (LS.refl _) ⟨[],FV.nil,rfl⟩
def cfl (x:St) (a:St):Bool:=Za6 x.ph && (Za6 a.ph && decide (x.ph≠a.ph))
def AgI (l:List St) (ph:Int):Prop:=(ph=0 ∧ ∀ a∈l,Za6 a.ph=false)∨(Za6 ph=true∧(∃ a∈l,a.ph=ph) ∧ ∀ a∈l,Za6 a.ph=true→a.ph=ph)
theorem finP_ne {p:Int} (h:Za6 p=true):p≠0:=by
 unfold Za6 at h
 have:=of_decide_eq_true h
 omega
theorem AgI.first {l:List St} (h:AgI l 0) {x:St} (hx:Za6 x.ph=true):AgI (l++[x]) x.ph∧l.any (cfl x)=false:=by
 have h1 : ∀ a∈l,Za6 a.ph=false:=by
  rcases h with ⟨_,h⟩|⟨h,_⟩
  ·exact h
  ·exact absurd rfl (finP_ne h)
 refine ⟨.inr ⟨hx,⟨x,by simp,rfl⟩,fun a ha hf=>?_⟩,?_⟩
 ·rcases List.mem_append.1 ha with ha|ha
  ·rw [h1 a ha] at hf;cases hf
  ·rw [List.mem_singleton.1 ha]
 ·rw [List.any_eq_false]
  intro a ha
  simp [cfl,h1 a ha]
theorem AgI.same {l:List St} {ph:Int} (h:AgI l ph) (h0:ph≠0) {x:St} (hx:ph=x.ph):AgI (l++[x]) ph∧l.any (cfl x)=false:=by
 rcases h with ⟨h1,_⟩|⟨hf,⟨a,ha,e⟩,h2⟩
 ·exact absurd h1 h0
 refine ⟨.inr ⟨hf,⟨a,List.mem_append_left _ ha,e⟩,fun b hb hfb=>?_⟩,?_⟩
 ·rcases List.mem_append.1 hb with hb|hb
  ·exact h2 b hb hfb
  ·rw [List.mem_singleton.1 hb,hx]
 ·rw [List.any_eq_false]
  intro b hb
  simp only [cfl,Bool.and_eq_true,decide_eq_true_eq,not_and]
  intro _ hfb hne
  exact hne (by rw [← hx,h2 b hb hfb])
end Go.HL
end

/-! SfH -/
section
namespace Go.HL
open Go Go.Proofs
def Zol (e:Evt):Ev:=⟨e.site,e.deal,e.ph⟩
theorem Zhe {sites:Int} {xs:List Ev} (h : ∀ i (hi:i<xs.length),Zq1 sites xs[i] (xs.take i)=none) : ∀ k i,k=xs.length-i→Zb8 sites xs i=none
 | 0,i,hk=>Ze3 (by omega)
 | k+1,i,hk=>by
  have hi:i<xs.length:=by omega
  rw [Zc5 hi (h i hi)]
  exact Zhe h k (i+1) (by omega)
theorem take_mem {α:Type} {xs:List α} {i:Nat} {x:α} (h:x∈xs.take i) : ∃ k,∃ hk:k<xs.length,k<i∧xs[k]=x:=by
 obtain ⟨k,hk,e⟩:=List.mem_iff_getElem.1 h
 rw [List.length_take] at hk
 refine ⟨k,by omega,by omega,?_⟩
 rw [← e,List.getElem_take]
structure WellE (n:Nat) (xs:List Ev):Prop where
 rg : ∀ e∈xs,0≤e.s∧e.s<n∧0≤e.d∧e.d<6∧Za6 e.p=true
 pw:xs.Pairwise fun a b => ¬ (a.s=b.s∧a.d=b.d)
 ag : ∀ a∈xs,∀ b∈xs,a.d=b.d→a.p=b.p
theorem evM_well {n:Nat} {xs:List Ev} (h1 : ∀ e∈xs,0≤e.s∧e.s<n∧0≤e.d∧e.d<6∧Za6 e.p=true) (h2:xs.Pairwise fun a b => ¬ (a.s=b.s∧a.d=b.d)) {i:Nat} (hi:i<xs.length) (h3 : ∀ a∈xs.take i,a.d=xs[i].d→a.p=xs[i].p):Zq1 n xs[i] (xs.take i)=none:=by
 have hr:=h1 xs[i] (List.getElem_mem hi)
 unfold Zq1
 rw [if_neg (by unfold badE;rw [hr.2.2.2.2];simp;omega)]
 rw [if_neg,if_neg]
 ·rw [Bool.not_eq_true,List.any_eq_false]
  intro a ha
  obtain ⟨k,hk,hki,rfl⟩:=take_mem ha
  have:=List.pairwise_iff_getElem.1 h2 k i hk hi hki
  unfold Zss
  simp only [decide_eq_true_eq]
  exact fun e=>this ⟨e.2,e.1⟩
 ·rw [Bool.not_eq_true,List.any_eq_false]
  intro a ha
  unfold spl
  simp only [decide_eq_true_eq]
  exact fun e=>e.2 (h3 a ha e.1)
theorem WellE.chk {n:Nat} {xs:List Ev} (h:WellE n xs) (i:Nat):Zb8 n xs i=none:=
 Zhe (fun i hi=>evM_well h.rg h.pw hi fun a ha e=>h.ag a (List.mem_of_mem_take ha) xs[i] (List.getElem_mem hi) e) _ i rfl
end Go.HL
end

/-! FlD3 -/
section
namespace Go.HL
open Go Go.Proofs
set_option maxHeartbeats 2000000 attribute [local irreducible] HW HO HQ HD HC QOp Has Upd Zo Gets Ye Z6 Zq X0 Z5 Zj X7 Zw
end Go.HL
end

/-! JgB -/
section
namespace Go.HL
open Go Go.Proofs
set_option maxHeartbeats 2000000 attribute [local irreducible] HW HO HQ HD HC QOp Has Upd Zo Gets Ye Z6 Zq X0 Z5 Zj X7 Zw
attribute [local irreducible] faC
end Go.HL
end

/-! PwF -/
section
namespace Go.HL
open Go Go.Proofs
theorem rd_ev {L:Zb} {a:Option Addr} {xs:List Evt} (h:Rd ec 3 L a xs):Rd evc 3 L a (xs.map Zol):=by
 rcases h with h|⟨b,i,l,E,fr,h1,hb,hg⟩
 ·exact .inl (by rw [h];rfl)
 ·refine .inr ⟨b,i,l,E,fr,h1,hb,fun k x hx=>?_⟩
  rw [List.getElem?_map,Option.map_eq_some_iff] at hx
  obtain ⟨y,hy,rfl⟩:=hx
  exact hg k y hy
set_option maxHeartbeats 2000000 attribute [local irreducible] HW HO HQ HD HC QOp Has Upd Zo Gets Ye Z6 Zq X0 Z5 Zj X7 Zw
attribute [local irreducible] runW Q2
end Go.HL
end

/-! ScE -/
section
namespace Go.HL
open Go Go.Proofs
def nmL:List (List UInt8):=[[110,111,116,104,105,110,103],[118,111,116,101,100],[99,111,109,109,105,116,116,101,100],[97,98,111,114,116,101,100],[112,114,101,99,111,109,109,105,116],[112,114,101,97,98,111,114,116]]
def nmP (p:Int):List UInt8:=if p<0∨6≤p then Lib.itoa p else nmL.getD p.toNat []
set_option maxHeartbeats 2000000 attribute [local irreducible] HW HO HQ HD HC QOp Has Upd Zo Gets Ye Z6 Zq X0 Z5 Zj X7 Zw
theorem Zd1 (p:Int) (h0 : -9223372036854775808≤p) (h1:p≤9223372036854775807) {F:Nat} {fr:Nat × Nat} (L:Zb) (hT:Has L 15 (Zha F fr)):HC Tryz.prog 245 [iv p] L (fun v L'=>v=bs (nmP p)∧L'=L):=by
 have kI:=fun c=>Ww p h0 h1 (c::L) (Zc hT)
 by_cases h:p<0∨6≤p
 ·rw [nmP,if_pos h]
  refine Za (fun _ _=>Tryz.call245 _ _) Tryz.func245 rfl Tryz.ntmps245 (Nat.le_of_ble_eq_true rfl) ?_;simp only [Ze,Nat.reduceAdd]
  repeat' (first|refine uN ?_|refine uC (kI _) ?_|(refine uB ?_;intro b)|(refine uP ?_ ?_<;>(intro h;((try simp only [zs,zq,reduceCtorEq] at h);try exact zx)))|fail)
  all_goals exact Xn (L':=L) (LS.c (LS.refl _)) ⟨rfl,rfl⟩
 ·rw [nmP,if_neg h]
  rcases (show p=0∨p=1∨p=2∨p=3∨p=4∨p=5 by omega) with rfl|rfl|rfl|rfl|rfl|rfl
  all_goals
   refine Za (fun _ _=>Tryz.call245 _ _) Tryz.func245 rfl Tryz.ntmps245 (Nat.le_of_ble_eq_true rfl) ?_;simp only [Ze,Nat.reduceAdd]
   repeat' (first|refine uN ?_|refine uC (kI _) ?_|(refine uB ?_;intro b)|(refine uP ?_ ?_<;>(intro h;((try simp only [zs,zq,reduceCtorEq] at h);try exact zx)))|fail)
  all_goals exact Xn (L':=L) (LS.c (LS.refl _)) ⟨rfl,rfl⟩
def Us:Nat→Wm→Wm × Nat
 | 0,M=>(M,0)
 | k+1,M=>if (Yc M 0).2=none then ((Us k (Yc M 0).1).1,(Us k (Yc M 0).1).2+1) else ((Yc M 0).1,0)
theorem Zik : ∀ (k:Nat) {M:Wm},WI M→StepOk M (Us k M).1 (84*k)∧(Us k M).2≤k
 | 0,M,h=>⟨.refl h _,Nat.le_refl _⟩
 | k+1,M,h=>by
  have h1:=(Qg h 0).mono (show _≤84 by omega)
  unfold Us
  split
  ·obtain ⟨h2,h3⟩:=Zik k h1.wi
   have e1:=h1.len
   have e2:=h2.len
   exact ⟨⟨h2.wi,h1.same.trans h2.same,by simp only;omega⟩,by simp only;omega⟩
  ·exact ⟨h1.mono (by omega),by simp⟩
theorem Zhc (k:Nat) (M:Wm):Us (k+1) M=if (Yc M 0).2=none then ((Us k (Yc M 0).1).1,(Us k (Yc M 0).1).2+1) else ((Yc M 0).1,0):=rfl
theorem Zqf (M:Wm):Us 0 M=(M,0):=rfl
theorem Zsn {M:Wm} (h:WI M) (s d:Int):Zgi (Uj M s d):=by
 unfold Uj
 have hz:Zgi W2:=by unfold Zgi W2;decide
 split
 ·exact hz
 ·rename_i he
  unfold X8 at he
  split at he
  ·cases he
  ·rename_i hn
   split at he
   ·cases he
   ·have h2:=Yp hn
    obtain ⟨k,rfl⟩:=Int.eq_ofNat_of_zero_le (show 0≤d by omega)
    exact (h.at h2.1 h2.2).si.st k (by omega)
theorem Zje (p:Int) (h0 : -9223372036854775808≤p) (h1:p≤9223372036854775807):(nmP p).length≤21:=by
 unfold nmP
 split
 ·exact Lib.itoa_length_le p h0 h1
 ·rcases (show p=0∨p=1∨p=2∨p=3∨p=4∨p=5 by omega) with rfl|rfl|rfl|rfl|rfl|rfl<;>decide
theorem hFs {L:Zb} {g:Nat} {o:Obj} (h:Has L g o) : ∀ q∈[(g,o)],Has L q.1 q.2:=fun q hq=>by rw [List.mem_singleton.1 hq];exact h
def stT (s:St):List UInt8:=nmP s.ph++[32]++Lib.itoa s.pr++[32]++Lib.itoa s.att
def evT (e:Evt):List UInt8:=Lib.itoa e.site++[32]++Lib.itoa e.deal++[32]++nmP e.ph
def evsT (l:List Evt):List UInt8:=if l=[] then [110,111,116,104,105,110,103] else Ub (l.map evT)
theorem Zk7 (N:Nat) : ∀ l:List (List UInt8),(∀ x∈l,x.length≤N)→(Ub l).length≤l.length*(N+2)
 | [],_=>by simp [Ub]
 | [x],h=>by
  have:=h x (List.mem_singleton.2 rfl)
  simp only [Ub,List.length_singleton]
  omega
 | x::y::r,h=>by
  have h1:=h x (List.mem_cons_self)
  have h2:=Zk7 N (y::r) fun z hz=>h z (List.mem_cons_of_mem _ hz)
  simp only [Ub,List.length_append,List.length_cons,List.length_nil] at h2 ⊢
  rw [Nat.add_mul (r.length+1) 1]
  omega
section
variable (T:Nat) (E:Nat→Addr) (G:WdG) (M:Wm) (p:Nat) (a:Option Addr) (cap:Nat) (ns:List Int) (L:Zb)
attribute [local irreducible] Xg Yc Us
set_option maxRecDepth 20000 in
theorem Zle (nv:Value) (hE:Es T E L) (hS:Sz L) (hW:WdOk G M) (hM:WI M) (hl:M.l.length≤99000000) :
  HC Tryz.prog 241 [pt p 0,nv] (Xg G M::Zi p (pt G.wp 0)::L) (fun v L'=>v = .tuple ⟨[bs (Lib.itoa (Us 3000 M).2),.nilIface]⟩∧Zoy G (Us 3000 M).1 (Zi p (pt G.wp 0)::L) L'):=by
 have hG:=(hE.er [2,3,4,5,6,8]).cons (Zi p (pt G.wp 0))
 have hok:=fun i=>Zik i hM
 refine Za (fun _ _=>Tryz.call241 _ _) Tryz.func241 rfl Tryz.ntmps241 (Nat.le_of_ble_eq_true rfl) ?_;simp only [Ze,Nat.reduceAdd]
 repeat' (first|refine uN ?_|(refine uP ?_ ?_<;>(intro h;((try simp only [zs,zq,reduceCtorEq] at h);try exact zx)))|fail)
 refine Zz (σ:=Nat × WdG × Wm) (fun r=>[(0,pt p 0),(6,iv r.1),(5,.nilIface)])
  (fun r=>Xg r.2.1 r.2.2::Zi p (pt G.wp 0)::L)
  (fun r=>r.1≤3000∧r.2.1.wp=G.wp∧WdOk r.2.1 r.2.2∧StepOk M r.2.2 (84*r.1)∧(Us 3000 M).1=(Us (3000-r.1) r.2.2).1∧(Us 3000 M).2=(Us (3000-r.1) r.2.2).2+r.1) (fun r=>3000-r.1) (0,G,M) uS (List.Sublist.refl _) ⟨by simp,rfl,hW,.refl hM _,rfl,rfl⟩ ?_
 rintro ⟨i,G1,M1⟩ ⟨hi,hwp,hW1,⟨hM1,hsame,hlen⟩,e1,e2⟩
 simp only at hi hwp hW1 hM1 hlen e1 e2 ⊢
 have k:=HC.shut (Zaq T E G1 M1 0 _ hG.sub hW1 hM1 (by omega))
 have hd:=(Qg hM1 0).mono (show _≤84 by omega)
 rw [hwp] at k
 have kI:=fun (c:List Zm) (j:Nat) (hj:j≤3000)=>Zb0 (j:Int) (by omega) (by omega) (c::Zi p (pt G.wp 0)::L) ((hS.cons _).cons c)
 unfold Zi at *
 by_cases hi3:i<3000
 ·have es:=Zhc (3000-i-1) M1
  rw [show 3000-i-1+1=3000-i by omega] at es
  rw [es] at e1 e2
  clear es
  generalize Yc M1 0=R at *
  obtain ⟨M2,e⟩:=R
  simp only at k hd e1 e2
  cases e with
  | none =>
   simp only [if_pos] at e1 e2
   repeat' (first|refine uN ?_|(refine uP ?_ ?_<;>(intro h;((try simp only [zs,zq,reduceCtorEq] at h);try exact zx)))|fail)
   refine gc k ?_
   rintro v L' ⟨rfl,G2,f1,hW2,rfl⟩
   repeat' (first|refine uN ?_|(refine uP ?_ ?_<;>(intro h;((try simp only [zs,zq,reduceCtorEq] at h);try exact zx)))|fail)
   exact Zy (i+1,G2,M2) uS (LS.refl _) ⟨by simp only;omega,by simp only;rw [f1,hwp],hW2,⟨hd.wi,hsame.trans hd.same,by have:=hd.len;simp only;omega⟩,by simp only;rw [e1,show 3000-(i+1)=3000-i-1 by omega],by simp only;rw [e2,show 3000-(i+1)=3000-i-1 by omega];omega⟩ (by simp only;omega)
  | some g =>
   simp only [reduceCtorEq,if_false] at e1 e2
   repeat' (first|refine uN ?_|(refine uP ?_ ?_<;>(intro h;((try simp only [zs,zq,reduceCtorEq] at h);try exact zx)))|fail)
   refine gc k ?_
   rintro v L' ⟨rfl,G2,f1,hW2,rfl⟩
   have kJ:=kI (Xg G2 M2) i hi
   rw [e1,show (Us 3000 M).2=i by omega]
   repeat' (first|refine uN ?_|refine uC (kJ) ?_|(refine uP ?_ ?_<;>(intro h;((try simp only [zs,zq,reduceCtorEq] at h);try exact zx)))|fail)
   exact Zbj rfl ⟨rfl,G2,by rw [f1,hwp],hW2,rfl⟩
 ·obtain rfl:i=3000:=by omega
  rw [show (3000:Nat)-3000=0 from rfl,Zqf] at e1 e2
  have kJ:=kI (Xg G1 M1) 3000 hi
  rw [e1,show (Us 3000 M).2=3000 by simp only at e2;omega]
  repeat' (first|refine uN ?_|refine uC (kJ) ?_|(refine uP ?_ ?_<;>(intro h;((try simp only [zs,zq,reduceCtorEq] at h);try exact zx)))|fail)
  all_goals first|(exfalso;omega)|exact Zbj rfl ⟨rfl,G1,hwp,hW1,rfl⟩
theorem Zlf (nv:Value) (hE:Es T E L) (hS:Sz L) (hW:WdOk G M) (hl:M.l.length≤100000000) :
  HC Tryz.prog 243 [pt p 0,nv] (Xg G M::Zi p (pt G.wp 0)::L) (fun v L'=>v = .tuple ⟨[bs (Lib.itoa M.l.length),.nilIface]⟩∧L'=Xg G M::Zi p (pt G.wp 0)::L):=by
 have k:=HC.shutQ (Zor G M _ (Ui hW (Zi p (pt G.wp 0)::L)))
 have kI:=Zb0 (M.l.length:Int) (by omega) (by omega) (Xg G M::Zi p (pt G.wp 0)::L) ((hS.cons _).cons _)
 unfold Zi at *
 refine Za (fun _ _=>Tryz.call243 _ _) Tryz.func243 rfl Tryz.ntmps243 (Nat.le_of_ble_eq_true rfl) ?_;simp only [Ze,Nat.reduceAdd]
 repeat' (first|refine uN ?_|refine uC (k) ?_|refine uC (kI) ?_|fail)
 exact Zbj rfl ⟨rfl,rfl⟩
theorem Zlh (hE:Es T E L) (hW:WdOk G M) (hM:WI M) (hR:Rd ic 1 L a ns) (hn:2≤ns.length) (hcap:ns.length≤cap) (h48:ns.length≤1000) :
  HC Tryz.prog 246 [pt p 0,.slice a ns.length cap] (Xg G M::Zi p (pt G.wp 0)::L) (fun v L'=>v = .tuple ⟨[bs (Zbl M (ns.getD 0 0) (ns.getD 1 0)).1,eV T E (Zbl M (ns.getD 0 0) (ns.getD 1 0)).2]⟩∧L'=Xg G M::Zi p (pt G.wp 0)::L):=by
 have hG:=(hE.er [2]).cons (Zi p (pt G.wp 0))
 have k:=HC.shutQ (Zmr T E G M (ns.getD 0 0) (ns.getD 1 0) (Zi p (pt G.wp 0)::L) hG hW hM)
 obtain ⟨b1,i1,q1,F1,f1,rfl,hb1,hg1,hg2⟩:=Zp2 hR (by omega)
 have hg2:=hg2 (by omega)
 have hb1:=(Zc (Zc hb1):Has (Xg G M::Zi p (pt G.wp 0)::L) _ _)
 unfold Zi at *
 refine Za (fun _ _=>Tryz.call246 _ _) Tryz.func246 rfl Tryz.ntmps246 (Nat.le_of_ble_eq_true rfl) ?_;simp only [Ze,Nat.reduceAdd]
 repeat' (first|refine uN ?_|refine Yd S ?_|refine uC (k) ?_|fail)
 exact Zbj rfl ⟨rfl,rfl⟩
theorem Zli (hE:Es T E L) (hW:WdOk G M) (hR:Rd ic 1 L a ns) (hn:1≤ns.length) (hcap:ns.length≤cap) (h48:ns.length≤1000) :
  HC Tryz.prog 247 [pt p 0,.slice a ns.length cap] (Xg G M::Zi p (pt G.wp 0)::L) (fun v L'=>v = .tuple ⟨[bs (if (Znq M (ns.getD 0 0)).1 then [117,112] else [100,111,119,110]),if (Znq M (ns.getD 0 0)).1 then .nilIface else eV T E (Znq M (ns.getD 0 0)).2]⟩∧L'=Xg G M::Zi p (pt G.wp 0)::L):=by
 have hG:=(hE.er [2]).cons (Zi p (pt G.wp 0))
 have k:=HC.shutQ (Zsk T E G M (ns.getD 0 0) (Yl G M++(Zi p (pt G.wp 0)::L)) (Xp hG G M) (Ui hW _) hW.ndl (fun hn=>Qw hW.ndl (Yp hn).1 (Yp hn).2 _))
 obtain ⟨b1,i1,q1,F1,f1,rfl,hb1,hg1,hg2⟩:=Zp2 hR (by omega)
 clear hg2
 have hb1:=(Zc (Zc hb1):Has (Xg G M::Zi p (pt G.wp 0)::L) _ _)
 unfold Zi at *
 generalize Znq M (ns.getD 0 0)=R at *
 obtain ⟨up,e⟩:=R
 simp only at k ⊢
 refine Za (fun _ _=>Tryz.call247 _ _) Tryz.func247 rfl Tryz.ntmps247 (Nat.le_of_ble_eq_true rfl) ?_;simp only [Ze,Nat.reduceAdd]
 repeat' (first|refine uN ?_|refine Yd S ?_|refine uC (k) ?_|(refine uP ?_ ?_<;>(intro h;((try simp only [zs,zq,reduceCtorEq] at h);try exact zx)))|fail)
 all_goals (subst_vars;exact Zbj rfl ⟨rfl,rfl⟩)
theorem Zlk (nv:Value) (hE:Es T E L) (hW:WdOk G M) (hev:M.ev.length≤1000000) :
  HC Tryz.prog 250 [pt p 0,nv] (Xg G M::Zi p (pt G.wp 0)::L) (fun v L' => ∃ c fv,v = .tuple ⟨[bs [111,107],fv]⟩∧FV T E fv (efM M.n.length (M.ev.map Zol)).1 (efM M.n.length (M.ev.map Zol)).2 c∧L'=c::Xg G M::Zi p (pt G.wp 0)::L):=by
 have kEv:=HC.shutR (V:=fun v c=>Vec 81 3 ec v M.ev c) (Zbs G M (Zi p (pt G.wp 0)::L) hW (by omega))
 have kSi:=fun c:List Zm=>HC.ro (V:=fun v=>v=iv M.n.length) (H':=c::Xg G M::Zi p (pt G.wp 0)::L) (LS.trans lsW uL) (LS.trans (b:=(Xg G M::c::Zi p (pt G.wp 0)::L:Zb).flatten) uL lsW') (Zjz G M (Yl G M++(c::Zi p (pt G.wp 0)::L)) (Ui hW _))
 unfold Zi at *
 refine Za (fun _ _=>Tryz.call250 _ _) Tryz.func250 rfl Tryz.ntmps250 (Nat.le_of_ble_eq_true rfl) ?_;simp only [Ze,Nat.reduceAdd]
 repeat' (first|refine uN ?_|refine Z0 S ?_|refine da 101 ?_|fail)
 refine gc kEv ?_
 rintro v L' ⟨ce,hve,rfl⟩
 obtain ⟨a1,cap1,rfl,hcap1,hR1⟩:=hve.rd Qh
 repeat' (first|refine uN ?_|refine Z0 S ?_|refine da 101 ?_|fail)
 refine gc (kSi ce) ?_
 rintro v L' ⟨rfl,rfl⟩
 have kj:=Zi4 T E a1 cap1 (M.ev.map Zol) M.n.length (ce::Xg G M::[(p,.cells ⟨[pt G.wp 0]⟩ 176)]::L) ((((hE.er [2,8,9]).cons _).cons _).cons _) (rd_ev (hR1 _)) (by rw [List.length_map];omega) (by rw [List.length_map];exact hcap1)
 rw [List.length_map] at kj
 repeat' (first|refine uN ?_|refine Z0 S ?_|refine da 101 ?_|fail)
 refine gc kj ?_
 rintro v L' ⟨cf,hf,rfl⟩
 repeat' (first|refine uN ?_|refine Z0 S ?_|refine da 101 ?_|fail)
 refine gc (Zcn v _) ?_
 rintro v2 L' ⟨rfl,rfl⟩
 repeat' (first|refine uN ?_|refine Z0 S ?_|refine da 101 ?_|fail)
 exact Wz (L':=cf::Xg G M::[(p,.cells ⟨[pt G.wp 0]⟩ 176)]::L) uL ⟨cf,v,rfl,hf,rfl⟩
theorem Zlg (hE:Es T E L) (hS:Sz L) (hW:WdOk G M) (hM:WI M) (hR:Rd ic 1 L a ns) (hn:2≤ns.length) (hcap:ns.length≤cap) (h48:ns.length≤1000) :
  HC Tryz.prog 244 [pt p 0,.slice a ns.length cap] (Xg G M::Zi p (pt G.wp 0)::L) (fun v L'=>v = .tuple ⟨[bs (stT (Uj M (ns.getD 0 0) (ns.getD 1 0))),eV T E (X8 M (ns.getD 0 0) (ns.getD 1 0))]⟩∧L'=Xg G M::Zi p (pt G.wp 0)::L):=by
 have hG:=(hE.er [2,6]).cons (Zi p (pt G.wp 0))
 have k:=HC.shutQ (Zbt T E G M (ns.getD 0 0) (ns.getD 1 0) (Zi p (pt G.wp 0)::L) hG hW hM)
 have k2:=fun c:List Zm=>HC.ro (V:=fun v=>v = .tuple ⟨[.agg ⟨sc (Uj M (ns.getD 0 0) (ns.getD 1 0))⟩,eV T E (X8 M (ns.getD 0 0) (ns.getD 1 0))]⟩) (H':=c::Xg G M::Zi p (pt G.wp 0)::L) (LS.trans lsW uL) (LS.trans (b:=(Xg G M::c::Zi p (pt G.wp 0)::L:Zb).flatten) uL lsW') (Zbt T E G M (ns.getD 0 0) (ns.getD 1 0) (c::Zi p (pt G.wp 0)::L) (hG.cons c) hW hM)
 obtain ⟨o1,o2,o3,o4,o5⟩:=Zsn hM (ns.getD 0 0) (ns.getD 1 0)
 obtain ⟨b1,i1,q1,F1,f1,rfl,hb1,hg1,hg2⟩:=Zp2 hR (by omega)
 have hg2:=hg2 (by omega)
 have hb1:=(Zc (Zc hb1):Has (Xg G M::Zi p (pt G.wp 0)::L) _ _)
 obtain ⟨Ft,ft,hT⟩:=hS.tb
 have hT:Has (Xg G M::Zi p (pt G.wp 0)::L) _ _:=Zc (Zc hT)
 unfold Zi stT at *
 generalize Uj M (ns.getD 0 0) (ns.getD 1 0)=s0 at *
 generalize X8 M (ns.getD 0 0) (ns.getD 1 0)=e0 at *
 obtain ⟨ph,pr,att⟩:=s0
 simp only [sc] at *
 have kN:=fun L (h : ∀ q∈[(15,Zha Ft ft)],Has L q.1 q.2)=>Zd1 ph (by omega) (by omega) L (h _ (List.mem_singleton.2 rfl))
 have kP:=fun L (h : ∀ q∈[(15,Zha Ft ft)],Has L q.1 q.2)=>Ww pr (by omega) (by omega) L (h _ (List.mem_singleton.2 rfl))
 have kA:=fun L (h : ∀ q∈[(15,Zha Ft ft)],Has L q.1 q.2)=>Ww att (by omega) (by omega) L (h _ (List.mem_singleton.2 rfl))
 have l1:=Zje ph (by omega) (by omega)
 have l2:=Lib.itoa_length_le pr (by omega) (by omega)
 have l3:=Lib.itoa_length_le att (by omega) (by omega)
 refine Za (fun _ _=>Tryz.call244 _ _) Tryz.func244 rfl Tryz.ntmps244 (Nat.le_of_ble_eq_true rfl) ?_;simp only [Ze,Nat.reduceAdd]
 repeat' (first|refine uN ?_|refine Z0 S ?_|(refine uB ?_;intro b)|refine da 101 ?_|fail)
 refine Znk ?_ ?_
 ·refine gc k ?_
  rintro v L' ⟨rfl,rfl⟩
  repeat' (first|refine uN ?_|refine Z0 S ?_|(refine uB ?_;intro b)|refine da 101 ?_|fail)
  refine dcF 0 _ kN (hFs (Zc hT)) ?_
  repeat' (first|refine uN ?_|refine Z0 S ?_|(refine uB ?_;intro b)|refine da 101 ?_|fail)
  refine dcF 0 _ kP (hFs (Zc hT)) ?_
  repeat' (first|refine uN ?_|refine Z0 S ?_|(refine uB ?_;intro b)|refine da 101 ?_|fail)
  refine dcF 0 _ kA (hFs (Zc hT)) ?_
  repeat' (first|refine uN ?_|refine Z0 S ?_|(refine uB ?_;intro b)|refine da 101 ?_|fail)
  exact Wz (L':=Xg G M::[(p,.cells ⟨[pt G.wp 0]⟩ 176)]::L) uL ⟨rfl,rfl⟩
 ·repeat' (first|refine uN ?_|refine Z0 S ?_|(refine uB ?_;intro b)|refine da 101 ?_|fail)
  refine gc (k2 _) ?_
  rintro v L' ⟨rfl,rfl⟩
  repeat' (first|refine uN ?_|refine Z0 S ?_|(refine uB ?_;intro b)|refine da 101 ?_|fail)
  refine dcF 0 _ kN (hFs (Zc hT)) ?_
  repeat' (first|refine uN ?_|refine Z0 S ?_|(refine uB ?_;intro b)|refine da 101 ?_|fail)
  refine dcF 0 _ kP (hFs (Zc hT)) ?_
  repeat' (first|refine uN ?_|refine Z0 S ?_|(refine uB ?_;intro b)|refine da 101 ?_|fail)
  refine dcF 0 _ kA (hFs (Zc hT)) ?_
  repeat' (first|refine uN ?_|refine Z0 S ?_|(refine uB ?_;intro b)|refine da 101 ?_|fail)
  exact Wz (L':=Xg G M::[(p,.cells ⟨[pt G.wp 0]⟩ 176)]::L) uL ⟨rfl,rfl⟩
theorem Zlj (nv:Value) (hS:Sz L) (hW:WdOk G M) (hM:WI M) (hv:EvW M) :
  HC Tryz.prog 248 [pt p 0,nv] (Xg G M::Zi p (pt G.wp 0)::L) (fun v L'=>v = .tuple ⟨[bs (evsT M.ev),.nilIface]⟩∧L'=Xg G M::Zi p (pt G.wp 0)::L):=by
 have hel:=hM.evl
 have hwl:=hM.wl
 have hrg:=hv.rg
 have kEv:=HC.shutR (V:=fun v c=>Vec 81 3 ec v M.ev c) (Zbs G M (Zi p (pt G.wp 0)::L) hW (by omega))
 obtain ⟨Ft,ft,hT⟩:=hS.tb
 have hT:Has (Xg G M::Zi p (pt G.wp 0)::L) _ _:=Zc (Zc hT)
 have hjl:(Ub (M.ev.map evT)).length≤100000:=by
  have h1:=Zk7 65 (M.ev.map evT) fun x hx=>by
   obtain ⟨e,he,rfl⟩:=List.mem_map.1 hx
   obtain ⟨r1,r2,r3,r4,r5⟩:=hrg e he
   have l1:=Lib.itoa_length_le e.site (by omega) (by omega)
   have l2:=Lib.itoa_length_le e.deal (by omega) (by omega)
   have l3:=Zje e.ph (by unfold fin at r5;omega) (by unfold fin at r5;omega)
   unfold evT
   simp only [List.length_append,List.length_cons,List.length_nil]
   omega
  rw [List.length_map] at h1
  have h2:=Nat.mul_le_mul_right (65+2) hel
  omega
 unfold Zi at *
 refine Za (fun _ _=>Tryz.call248 _ _) Tryz.func248 rfl Tryz.ntmps248 (Nat.le_of_ble_eq_true rfl) ?_;simp only [Ze,Nat.reduceAdd]
 repeat' (first|refine uN ?_|refine Yd S ?_|refine Yu S ?_|(refine uB ?_;intro b)|(refine uP ?_ ?_<;>(intro h;((try simp only [zs,zq,reduceCtorEq] at h);try exact zx)))|refine da 101 ?_|fail)
 refine gc kEv ?_
 rintro v L' ⟨ce,hve,rfl⟩
 obtain ⟨a1,cap1,rfl,hcap1,hR1⟩:=hve.rd Qh
 repeat' (first|refine uN ?_|refine Yd S ?_|refine Yu S ?_|(refine uB ?_;intro b)|(refine uP ?_ ?_<;>(intro h;((try simp only [zs,zq,reduceCtorEq] at h);try exact zx)))|refine da 101 ?_|fail)
 refine Zdx (L':=[]::ce::Xg G M::[(p,.cells ⟨[pt G.wp 0]⟩ 176)]::L) ?_ (LS.refl _)
 refine Zz (σ:=Nat × Value × List Zm) (fun r=>[(6,r.2.1),(13,.slice a1 M.ev.length cap1),(14,iv M.ev.length),(15,iv r.1),(5,.nilIface)])
  (fun r=>r.2.2::ce::Xg G M::[(p,.cells ⟨[pt G.wp 0]⟩ 176)]::L)
  (fun r=>r.1≤M.ev.length∧Vec 9 1 V1 r.2.1 ((M.ev.take r.1).map evT) r.2.2∧(r.1=0→r.2.1=Wn)) (fun r=>M.ev.length-r.1) (0,Wn,[]) uS (List.Sublist.refl _) ⟨by simp,Yg,fun _=>rfl⟩ ?_
 rintro ⟨i,u,c⟩ ⟨hi,hu,hu0⟩
 simp only at hi hu hu0 ⊢
 by_cases hit:i<M.ev.length
 ·obtain ⟨b1,bi,l,F,fr,rfl,hb,hg⟩:=(hR1 (Xg G M::[(p,.cells ⟨[pt G.wp 0]⟩ 176)]::L)).at (j:=(i:Int)) (by omega) (by omega)
  have eg:M.ev[(i:Int).toNat]'(by omega)=M.ev[i]:=rfl
  rw [eg] at hg
  obtain ⟨r1,r2,r3,r4,r5⟩:=hrg M.ev[i] (List.getElem_mem _)
  have hs:(M.ev.take (i+1)).map evT=(M.ev.take i).map evT++[evT M.ev[i]]:=by rw [V3 hit,List.map_append];rfl
  unfold ec at hg
  generalize M.ev[i]=e at *
  obtain ⟨es,ed,ep⟩:=e
  simp only at hs hg r1 r2 r3 r4 r5
  have kN:=fun L (h : ∀ q∈[(15,Zha Ft ft)],Has L q.1 q.2)=>Zd1 ep (by unfold fin at r5;omega) (by unfold fin at r5;omega) L (h _ (List.mem_singleton.2 rfl))
  have kP:=fun L (h : ∀ q∈[(15,Zha Ft ft)],Has L q.1 q.2)=>Ww es (by omega) (by omega) L (h _ (List.mem_singleton.2 rfl))
  have kA:=fun L (h : ∀ q∈[(15,Zha Ft ft)],Has L q.1 q.2)=>Ww ed (by omega) (by omega) L (h _ (List.mem_singleton.2 rfl))
  have l1:=Zje ep (by unfold fin at r5;omega) (by unfold fin at r5;omega)
  have l2:=Lib.itoa_length_le es (by omega) (by omega)
  have l3:=Lib.itoa_length_le ed (by omega) (by omega)
  repeat' (first|refine uN ?_|refine Z0 S ?_|(refine uB ?_;intro b)|(refine uP ?_ ?_<;>(intro h;((try simp only [zs,zq,reduceCtorEq] at h);try exact zx)))|refine da 101 ?_|fail)
  refine dcF 0 _ kP (hFs (Zc (Zc (Zc hT)))) ?_
  repeat' (first|refine uN ?_|refine Z0 S ?_|(refine uB ?_;intro b)|(refine uP ?_ ?_<;>(intro h;((try simp only [zs,zq,reduceCtorEq] at h);try exact zx)))|refine da 101 ?_|fail)
  refine dcF 0 _ kA (hFs (Zc (Zc (Zc hT)))) ?_
  repeat' (first|refine uN ?_|refine Z0 S ?_|(refine uB ?_;intro b)|(refine uP ?_ ?_<;>(intro h;((try simp only [zs,zq,reduceCtorEq] at h);try exact zx)))|refine da 101 ?_|fail)
  refine gc (kN _ (hFs (Zc (Zc (Zc hT))))) ?_
  rintro v L' ⟨rfl,rfl⟩
  repeat' (first|refine uN ?_|refine Z0 S ?_|(refine uB ?_;intro b)|(refine uP ?_ ?_<;>(intro h;((try simp only [zs,zq,reduceCtorEq] at h);try exact zx)))|refine da 101 ?_|fail)
  refine fo 2 ?_
  refine wp1 S (Lib.itoa es++[32]++Lib.itoa ed++[32]++nmP ep) hu Xo Za1 ?_ (hby:=by rw [List.length_map,List.length_take];omega) (hmax:=by rw [List.length_map,List.length_take];omega)
  intro v' c' hv'
  repeat' (first|refine uN ?_|refine Z0 S ?_|(refine uB ?_;intro b)|(refine uP ?_ ?_<;>(intro h;((try simp only [zs,zq,reduceCtorEq] at h);try exact zx)))|refine da 101 ?_|fail)
  exact Zy (i+1,v',c') uS uL ⟨hit,by rw [hs];exact hv',fun h=>by simp at h⟩ (by simp only;omega)
 ·obtain rfl:i=M.ev.length:=by omega
  rw [List.take_length] at hu
  obtain ⟨a3,cap3,rfl,hcap3,hR3⟩:=hu.rd Xo
  rw [List.length_map] at hcap3
  have kj:=Zns a3 cap3 (M.ev.map evT) _ (hR3 (ce::Xg G M::[(p,.cells ⟨[pt G.wp 0]⟩ 176)]::L)) (by rw [List.length_map];exact hcap3) (by rw [List.length_map];omega) (by omega)
  unfold evsT
  by_cases he:M.ev=[]
  ·rw [if_pos he]
   have h0:M.ev.length=0:=by rw [he];rfl
   have:=hu0 h0
   rw [this]
   repeat' (first|refine uN ?_|refine Yd S ?_|refine Yu S ?_|refine uC (kj) ?_|refine Yy (fun _=>kj) ?_|refine Yz (fun _=>kj) ?_|refine Y0 (fun _=>kj) ?_|refine Y1 (fun _=>kj) ?_|(refine uB ?_;intro b)|(refine uP ?_ ?_<;>(intro h;((try simp only [zs,zq,reduceCtorEq] at h);try exact zx)))|refine da 101 ?_|fail)
   exact Wz (L':=Xg G M::[(p,.cells ⟨[pt G.wp 0]⟩ 176)]::L) uL ⟨rfl,rfl⟩
  ·rw [if_neg he]
   rcases hR3 [] with h9|⟨b3,i3,q3,F3,f3,rfl,-⟩
   ·exact absurd (List.map_eq_nil_iff.1 h9) he
   repeat' (first|refine uN ?_|refine Yd S ?_|refine Yu S ?_|refine uC (kj) ?_|refine Yy (fun _=>kj) ?_|refine Yz (fun _=>kj) ?_|refine Y0 (fun _=>kj) ?_|refine Y1 (fun _=>kj) ?_|(refine uB ?_;intro b)|(refine uP ?_ ?_<;>(intro h;((try simp only [zs,zq,reduceCtorEq] at h);try exact zx)))|refine da 101 ?_|fail)
   exact Wz (L':=Xg G M::[(p,.cells ⟨[pt G.wp 0]⟩ 176)]::L) uL ⟨rfl,rfl⟩
end
end Go.HL
end

/-! ScF -/
section
namespace Go.HL
open Go Go.Proofs
def Zko (k:Nat) (M:Wm) (n:List Int):List UInt8 × Int × Wm:=
 if k<11 then ([111,107],Zqu (Wl k M n).2,(Wl k M n).1) else
 match k with
 | 11=>(Lib.itoa (Us 3000 M).2,0,(Us 3000 M).1)
 | 12=>(Lib.itoa M.l.length,0,M)
 | 13=>(stT (Uj M (n.getD 0 0) (n.getD 1 0)),Zqu (X8 M (n.getD 0 0) (n.getD 1 0)),M)
 | 14=>((Zbl M (n.getD 0 0) (n.getD 1 0)).1,Zqu (Zbl M (n.getD 0 0) (n.getD 1 0)).2,M)
 | 15=>(if (Znq M (n.getD 0 0)).1 then [117,112] else [100,111,119,110],if (Znq M (n.getD 0 0)).1 then 0 else Zqu (Znq M (n.getD 0 0)).2,M)
 | 16=>(evsT M.ev,0,M)
 | _=>([111,107],(efM M.n.length (M.ev.map Zol)).1,M)
def cmdT:List (List UInt8 × List UInt8 × Nat):=actTab++lookTab
def fnOf (k:Nat):Nat:=if k<11 then 282 else (cmdT.getD k ([],[],0)).2.2
def capOf (k bx:Nat):List Value:=if k<11 then [pt bx 0] else []
set_option maxHeartbeats 2000000 attribute [local irreducible] HW HO HQ HD HC QOp Has Upd Zo Gets Ye Z6 Zq X0 Z5 Zj X7 Zw
theorem Zn5 (p:Nat) (nv:Value) (bx F:Nat) (H:Zb) (R:Value→Zb→Prop) (hb:Has H bx (Ze2 F)) (h:HC Tryz.prog F [pt p 0,nv] H R):HC Tryz.prog 282 [pt p 0,nv,pt bx 0] H (fun v L' => ∃ u,v = .tuple ⟨[bs [111,107],u]⟩∧R u L'):=by
 unfold Ze2 Zq3 at hb
 refine Za (fun _ _=>Tryz.call282 _ _) Tryz.func282 rfl Tryz.ntmps282 (Nat.le_of_ble_eq_true rfl) ?_;simp only [Ze,Nat.reduceAdd]
 repeat' (first|refine uN ?_)
 refine Vb (qLF Tryz.isAgg310) ?_
 repeat' (first|refine uN ?_)
 refine gc h ?_
 rintro v L' hR
 repeat' (first|refine uN ?_)
 refine gc (Zcn v _) ?_
 rintro v2 L2 ⟨rfl,rfl⟩
 repeat' (first|refine uN ?_)
 exact Zbj rfl ⟨v,rfl,hR⟩
def DoQ (T:Nat) (E:Nat→Addr) (G:WdG) (p:Nat) (X:Zb) (r:List UInt8 × Int × Wm) (v:Value) (L':Zb):Prop:=
 ∃ c fv at_,v = .tuple ⟨[bs r.1,fv]⟩∧FV T E fv r.2.1 at_ c ∧ ∃ G',G'.wp=G.wp∧WdOk G' r.2.2∧L'=c::Xg G' r.2.2::Zi p (pt G.wp 0)::X
theorem Za7 {T:Nat} {E:Nat→Addr} {e:Option Nat} (h:okE e):FV T E (eV T E e) (Zqu e) (-1) [] := .inl ⟨e,h,rfl,rfl,.inr rfl,rfl⟩
theorem HC.emp {F:Nat} {args:List Value} {H:Zb} {Q Q':Value→Zb→Prop} (h:HC Tryz.prog F args H Q) (hq : ∀ v L',Q v L'→Q' v ([]::L')):HC Tryz.prog F args H Q':=HC.post h fun v L' hv=>⟨[]::L',LS.refl _,hq v L' hv⟩
section
variable (T:Nat) (E:Nat→Addr) (G:WdG) (M:Wm) (p:Nat) (a:Option Addr) (cap:Nat) (ns:List Int) (X:Zb)
theorem V5 (k bx F:Nat) (hk:k<11) (hb:Has X bx (Ze2 F)) (h:HC Tryz.prog F [pt p 0,.slice a ns.length cap] (Xg G M::Zi p (pt G.wp 0)::X) (fun v L'=>v=eV T E (Wl k M ns).2∧Zoy G (Wl k M ns).1 (Zi p (pt G.wp 0)::X) L')) :
  HC Tryz.prog 282 ([pt p 0,.slice a ns.length cap]++[pt bx 0]) (Xg G M::Zi p (pt G.wp 0)::X) (DoQ T E G p X (Zko k M ns)):=by
 refine HC.emp (Zn5 p _ bx F _ _ (Zc (Zc hb)) h) ?_
 rintro v L' ⟨u,rfl,rfl,G2,e1,hW2,rfl⟩
 unfold Zko
 rw [if_pos hk]
 exact ⟨[],_,-1,rfl,Za7 (cmdW_w k M ns).ok,G2,e1,hW2,rfl⟩
theorem sstE_ok (s d:Int):okE (X8 M s d):=by
 unfold X8
 have:=(Zay M s).ok
 split
 ·rename_i e he
  rw [he] at this
  exact this
 ·split
  ·exact (show List.elem 2 all9=true from rfl)
  ·trivial
theorem Zse (s d:Int):okE (Zbl M s d).2:=by
 unfold Zbl
 split
 ·exact (show List.elem 2 all9=true from rfl)
 ·split<;>trivial
theorem sisE_ok (s:Int):okE (Znq M s).2:=by
 unfold Znq
 have:=(Zay M s).ok
 split
 ·rename_i e he
  rw [he] at this
  exact this
 ·trivial
theorem Ze8 (k bx:Nat) (hk:k<18) (hE:Es T E X) (hS:Sz X) (hW:WdOk G M) (hM:WI M) (hV:EvW M) (hl:M.l.length≤99000000) (hR:Rd ic 1 X a ns) (hn:ns.length=(cmdT.getD k ([],[],0)).2.1.length) (hcap:ns.length≤cap)
  (hbx:k<11→Has X bx (Ze2 (cmdT.getD k ([],[],0)).2.2)):HC Tryz.prog (fnOf k) ([pt p 0,.slice a ns.length cap]++capOf k bx) (Xg G M::Zi p (pt G.wp 0)::X) (DoQ T E G p X (Zko k M ns)):=by
 have hel:=hM.evl
 have hcase:k=0∨k=1∨k=2∨k=3∨k=4∨k=5∨k=6∨k=7∨k=8∨k=9∨k=10∨k=11∨k=12∨k=13∨k=14∨k=15∨k=16∨k=17:=by omega
 rcases hcase with rfl|rfl|rfl|rfl|rfl|rfl|rfl|rfl|rfl|rfl|rfl|rfl|rfl|rfl|rfl|rfl|rfl|rfl
 ·exact V5 T E G M p a cap ns X 0 bx _ (by decide) (hbx (by decide)) (Zmy T E G M p a cap ns X hE hW hM (by omega) hR (by rw [hn];decide) hcap (by rw [hn];decide))
 ·exact V5 T E G M p a cap ns X 1 bx _ (by decide) (hbx (by decide)) (Zmz T E G M p a cap ns X hE hW hM (by omega) hR (by rw [hn];decide) hcap (by rw [hn];decide))
 ·exact V5 T E G M p a cap ns X 2 bx _ (by decide) (hbx (by decide)) (Zm0 T E G M p a cap ns X hE hW hM (by omega) hR (by rw [hn];decide) hcap (by rw [hn];decide))
 ·exact V5 T E G M p a cap ns X 3 bx _ (by decide) (hbx (by decide)) (Zm1 T E G M p a cap ns X hE hW hM (by omega) hR (by rw [hn];decide) hcap (by rw [hn];decide))
 ·exact V5 T E G M p a cap ns X 4 bx _ (by decide) (hbx (by decide)) (Zm2 T E G M p a cap ns X hE hW hM (by omega) hR (by rw [hn];decide) hcap (by rw [hn];decide))
 ·exact V5 T E G M p a cap ns X 5 bx _ (by decide) (hbx (by decide)) (Zm3 T E G M p a cap ns X hE hW hM (by omega) hR (by rw [hn];decide) hcap (by rw [hn];decide))
 ·exact V5 T E G M p a cap ns X 6 bx _ (by decide) (hbx (by decide)) (Zm4 T E G M p a cap ns X hE hW hM (by omega) hR (by rw [hn];decide) hcap (by rw [hn];decide))
 ·exact V5 T E G M p a cap ns X 7 bx _ (by decide) (hbx (by decide)) (Zm5 T E G M p a cap ns X hE hW hM (by omega) hR (by rw [hn];decide) hcap (by rw [hn];decide))
 ·exact V5 T E G M p a cap ns X 8 bx _ (by decide) (hbx (by decide)) (Zm6 T E G M p a cap ns X hE hW hM (by omega) hR (by rw [hn];decide) hcap (by rw [hn];decide))
 ·exact V5 T E G M p a cap ns X 9 bx _ (by decide) (hbx (by decide)) (Zm7 T E G M p a cap ns X hE hW hM (by omega) hR (by rw [hn];decide) hcap (by rw [hn];decide))
 ·exact V5 T E G M p a cap ns X 10 bx _ (by decide) (hbx (by decide)) (Zj3 T E G M p a cap ns X hE hW hM (by omega) hR (by rw [hn];decide) hcap (by rw [hn];decide))
 ·refine HC.emp (Zle T E G M p X _ hE hS hW hM hl) ?_
  rintro v L' ⟨rfl,G2,e1,hW2,rfl⟩
  exact ⟨[],_,-1,rfl,FV.nil,G2,e1,hW2,rfl⟩
 ·refine HC.emp (Zlf T E G M p X _ hE hS hW (by omega)) ?_
  rintro v L' ⟨rfl,rfl⟩
  exact ⟨[],_,-1,rfl,FV.nil,G,rfl,hW,rfl⟩
 ·refine HC.emp (Zlg T E G M p a cap ns X hE hS hW hM hR (by rw [hn];decide) hcap (by rw [hn];decide)) ?_
  rintro v L' ⟨rfl,rfl⟩
  exact ⟨[],_,-1,rfl,Za7 (sstE_ok M _ _),G,rfl,hW,rfl⟩
 ·refine HC.emp (Zlh T E G M p a cap ns X hE hW hM hR (by rw [hn];decide) hcap (by rw [hn];decide)) ?_
  rintro v L' ⟨rfl,rfl⟩
  exact ⟨[],_,-1,rfl,Za7 (Zse M _ _),G,rfl,hW,rfl⟩
 ·refine HC.emp (Zli T E G M p a cap ns X hE hW hR (by rw [hn];decide) hcap (by rw [hn];decide)) ?_
  rintro v L' ⟨rfl,rfl⟩
  refine ⟨[],_,-1,rfl,?_,G,rfl,hW,rfl⟩
  show FV T E _ (if (Znq M (ns.getD 0 0)).1 then 0 else Zqu (Znq M (ns.getD 0 0)).2) _ _
  split
  ·exact FV.nil
  ·exact Za7 (sisE_ok M _)
 ·refine HC.emp (Zlj G M p X _ hS hW hM hV) ?_
  rintro v L' ⟨rfl,rfl⟩
  exact ⟨[],_,-1,rfl,FV.nil,G,rfl,hW,rfl⟩
 ·refine HC.mono (Zlk T E G M p X _ hE hW (by omega)) ?_
  rintro v L' ⟨c,fv,rfl,hf,rfl⟩
  exact ⟨c,fv,_,rfl,hf,G,rfl,hW,rfl⟩
end
end Go.HL
end

/-! ScG -/
section
namespace Go.HL
open Go Go.Proofs
def Xm:List UInt8:=[115,105,116,101,115]
def Vl (w:List UInt8):List (List UInt8 × List UInt8 × Nat)→Nat→Option Nat
 | [],_=>none
 | (x,_,_)::r,i=>if w=x then some i else Vl w r (i+1)
def Ys (k:Nat):List UInt8:=(cmdT.getD k ([],[],0)).2.1
def Zar (o:Option Wm) (w:List UInt8) (r:List (List UInt8)):List UInt8 × Int × Option Wm:=
 if w=Xm then
  match Vf (List.replicate (max 1 r.length) 110) r with
  | none=>([],1,o)
  | some n=>match Xt n with
   | none=>([111,107],0,some (Q2 n))
   | some e=>([111,107],e,o)
 else match Vl w cmdT 0 with
  | none=>([],1,o)
  | some k=>match Vf (Ys k) r with
   | none=>([],1,o)
   | some n=>match o with
    | none=>([],4,none)
    | some M=>((Zko k M n).1,(Zko k M n).2.1,some (Zko k M n).2.2)
def Zbb (G:WdG):Option Wm→List Zm
 | none=>[]
 | some M=>Xg G M
def Zba (G:WdG):Option Wm→Value
 | none => .pointer none
 | some _=>pt G.wp 0
theorem Zot : ∀ s:List UInt8,∃ w r,Ym s=w::r
 | []=>⟨[],[],rfl⟩
 | c::s=>by
  unfold Ym
  split
  ·exact ⟨_,_,rfl⟩
  ·split
   ·exact ⟨_,_,rfl⟩
   ·exact ⟨_,_,rfl⟩
theorem Zg7 (z:Int) (h1:1≤z) (h2:z≤1000000) (L:Zb):HC Tryz.prog 171 [bs [110],iv z] L (fun v L'=>v=bs (List.replicate z.toNat 110)∧L'=L):=by
 obtain ⟨k,rfl⟩:=Int.eq_ofNat_of_zero_le (show 0≤z by omega)
 exact Zjn k (by omega) L
set_option maxHeartbeats 2000000 attribute [local irreducible] HW HO HQ HD HC QOp Has Upd Zo Gets Ye Z6 Zq X0 Z5 Zj X7 Zw
def PlayQ (T:Nat) (E:Nat→Addr) (p:Nat) (L:Zb) (r:List UInt8 × Int × Option Wm) (v:Value) (L':Zb):Prop:=
 ∃ c fv at_ G',v = .tuple ⟨[bs r.1,fv]⟩∧FV T E fv r.2.1 at_ c∧(∀ M,r.2.2=some M→WdOk G' M)∧L'=c::Zbb G' r.2.2::Zi p (Zba G' r.2.2)::L
attribute [local irreducible] Xg
theorem Zqv (w:List Int):okE (Xt w):=by
 unfold Xt
 repeat' (first|exact (show List.elem _ all9=true from rfl)|trivial|split)
theorem Zl0 (T:Nat) (E:Nat→Addr) (G:WdG) (o:Option Wm) (p:Nat) (s:List UInt8) (r:List (List UInt8)) (L:Zb) (hE:Es T E L) (hS:Sz L) (hW : ∀ M,o=some M→WdOk G M) (hs:s.length≤1000000) (hw:Ym s=Xm::r) :
  HC Tryz.prog 115 [pt p 0,bs s] (Zbb G o::Zi p (Zba G o)::L) (PlayQ T E p L (Zar o Xm r)):=by
 have ksp:=Zd7 s hs (Zbb G o::Zi p (Zba G o)::L) ((hS.cons _).cons _)
 obtain ⟨hwl,hwx⟩:=Zdl s
 rw [hw] at ksp hwl hwx
 generalize hH:Zbb G o=PW at *
 unfold Zi at *
 generalize hP:Zba G o=PP at *
 refine Za (fun _ _=>Tryz.call115 _ _) Tryz.func115 rfl Tryz.ntmps115 (Nat.le_of_ble_eq_true rfl) ?_;simp only [Ze,Nat.reduceAdd]
 repeat' (first|refine uN ?_|refine Yd S ?_|refine Yu S ?_|(refine uB ?_;intro b)|refine dg S 100 (fun _ _=>?_)|(refine uP ?_ ?_<;>(intro h;((try simp only [zs,zq,reduceCtorEq] at h);try exact zx)))|refine da 101 ?_|fail)
 refine gc ksp ?_
 rintro v L' ⟨b1,rfl,rfl⟩
 have hRW:Rd V1 1 ([(b1,.cells ⟨((Xm::r).map V1).flatten⟩ 9)]::PW::[(p,.cells ⟨[PP]⟩ 176)]::L) (some ⟨b1,0,none⟩) (Xm::r) := .inr ⟨b1,0,_,_,_,rfl,Zh,fun k x hk=>by
  have:=Wa (enc:=V1) Xo (Xm::r) [] [] k x hk
  simpa using this⟩
 have hRr:=hRW.drop (l:=1) (cap:=(Xm::r).length) (Nat.le_refl _)
 have hrl:r.length≤s.length:=by simp only [List.length_cons] at hwl;omega
 have kR:=Zak (List.replicate (max 1 (((Xm::r).length:Int)-1)).toNat 110) (cut (some ⟨b1,0,none⟩) (Xm::r).length 1 1) r.length r _ ((((hS.cons _).cons _).cons _)) hRr (Nat.le_refl _) (by omega) (by rw [List.length_replicate,List.length_cons];omega) (fun x hx=>by have:=hwx x (List.mem_cons_of_mem _ hx);omega)
 have hform:(max 1 (((Xm::r).length:Int)-1)).toNat=max 1 r.length:=by rw [List.length_cons];omega
 repeat' (first|refine uN ?_|refine Z0 S ?_|(refine uB ?_;intro b)|refine dg S 100 (fun _ _=>?_)|(refine uP ?_ ?_<;>(intro h;((try simp only [zs,zq,reduceCtorEq] at h);try exact zx)))|refine da 101 ?_|fail)
 refine gc (Zg7 (max 1 (((Xm::r).length:Int)-1)) (by omega) (by rw [List.length_cons];omega) _) ?_
 rintro v L' ⟨rfl,rfl⟩
 repeat' (first|refine uN ?_|refine Z0 S ?_|(refine uB ?_;intro b)|refine dg S 100 (fun _ _=>?_)|(refine uP ?_ ?_<;>(intro h;((try simp only [zs,zq,reduceCtorEq] at h);try exact zx)))|refine da 101 ?_|fail)
 refine gc kR ?_
 rintro v L' ⟨c,u,rfl,hu,rfl⟩
 rw [hform] at *
 have hG:=((((hE.er [1,4]).cons [(p,.cells ⟨[PP]⟩ 176)]).cons PW).cons [(b1,.cells ⟨((Xm::r).map V1).flatten⟩ 9)]).cons c
 unfold Zar
 rw [if_pos rfl]
 cases hrd:Vf (List.replicate (max 1 r.length) 110) r with
 | none =>
  simp only [hrd] at hu
  repeat' (first|refine uN ?_|refine Z0 S ?_|(refine uB ?_;intro b)|refine dg S 100 (fun _ _=>?_)|(refine uP ?_ ?_<;>(intro h;((try simp only [zs,zq,reduceCtorEq] at h);try exact zx)))|refine da 101 ?_|fail)
  subst hH hP
  exact Wz (L':=[]::Zbb G o::[(p,.cells ⟨[Zba G o]⟩ 176)]::L) uL ⟨[],_,-1,G,rfl,Za7 (e:=some 1) rfl,hW,rfl⟩
 | some n =>
  simp only [hrd] at hu
  have hnl:=U4 (show (List.replicate (max 1 r.length) (110:UInt8)).length=r.length by
   unfold Vf at hrd
   split at hrd
   ·assumption
   ·cases hrd) (by
   unfold Vf at hrd
   split at hrd
   ·exact hrd
   ·cases hrd)
  have kN:=Zos T E u n c ([(b1,.cells ⟨((Xm::r).map V1).flatten⟩ 9)]::PW::[(p,.cells ⟨[PP]⟩ 176)]::L) ((((hE.er [2,3,4,6]).cons _).cons _).cons _) hu (by rw [hnl.1];omega)
  simp only
  cases hc:Xt n with
  | none =>
   rw [hc] at kN
   have kN:=HC.shutN (V:=fun v G=>v = .tuple ⟨[pt G.wp 0,.nilIface]⟩) kN
   have ko:=fun L=>Zcn .nilIface L
   repeat' (first|refine uN ?_|refine Z0 S ?_|(refine uB ?_;intro b)|refine dg S 100 (fun _ _=>?_)|(refine uP ?_ ?_<;>(intro h;((try simp only [zs,zq,reduceCtorEq] at h);try exact zx)))|refine da 101 ?_|fail)
   refine gc kN ?_
   rintro v L' ⟨G2,rfl,hW2,rfl⟩
   repeat' (first|refine uN ?_|refine Z0 S ?_|refine uC (ko _) ?_|refine Yy (fun _=>ko _) ?_|refine Yz (fun _=>ko _) ?_|refine Y0 (fun _=>ko _) ?_|refine Y1 (fun _=>ko _) ?_|(refine uB ?_;intro b)|refine dg S 100 (fun _ _=>?_)|(refine uP ?_ ?_<;>(intro h;((try simp only [zs,zq,reduceCtorEq] at h);try exact zx)))|refine da 101 ?_|fail)
   subst hH hP
   exact Wz (L':=[]::Xg G2 (Q2 n)::[(p,.cells ⟨[pt G2.wp 0]⟩ 176)]::L) uL ⟨[],_,-1,G2,rfl,FV.nil,fun M hM=>by cases hM;exact hW2,rfl⟩
  | some e =>
   rw [hc] at kN
   simp only at kN
   have ko:=fun L=>Zcn (eV T E (some e)) L
   repeat' (first|refine uN ?_|refine Z0 S ?_|(refine uB ?_;intro b)|refine dg S 100 (fun _ _=>?_)|(refine uP ?_ ?_<;>(intro h;((try simp only [zs,zq,reduceCtorEq] at h);try exact zx)))|refine da 101 ?_|fail)
   refine gc kN ?_
   rintro v L' ⟨rfl,rfl⟩
   repeat' (first|refine uN ?_|refine Z0 S ?_|refine uC (ko _) ?_|refine Yy (fun _=>ko _) ?_|refine Yz (fun _=>ko _) ?_|refine Y0 (fun _=>ko _) ?_|refine Y1 (fun _=>ko _) ?_|(refine uB ?_;intro b)|refine dg S 100 (fun _ _=>?_)|(refine uP ?_ ?_<;>(intro h;((try simp only [zs,zq,reduceCtorEq] at h);try exact zx)))|refine da 101 ?_|fail)
   subst hH hP
   exact Wz (L':=[]::Zbb G o::[(p,.cells ⟨[Zba G o]⟩ 176)]::L) uL ⟨[],_,-1,G,rfl,Za7 (e:=some e) (hc▸Zqv n),hW,rfl⟩
theorem Zhj (w:List UInt8) : ∀ (t1 t2:List (List UInt8 × List UInt8 × Nat)) (i:Nat),Vl w (t1++t2) i=match Vl w t1 i with
  | some k=>some k
  | none=>Vl w t2 (i+t1.length)
 | [],t2,i=>rfl
 | (x,f,F)::r,t2,i=>by
  simp only [List.cons_append,Vl]
  split
  ·rfl
  ·rw [Zhj w r t2 (i+1)]
   simp only [List.length_cons]
   rw [show i+1+r.length=i+(r.length+1) by omega]
theorem Zj4 (w:List UInt8) : ∀ (t:List (List UInt8 × List UInt8 × Nat)) (q:List Nat) (i:Nat),q.length=t.length→match Vl w t i with
  | none=>Wx w (actL t q)=none
  | some k=>i≤k∧k-i<t.length ∧ ∃ bx,Wx w (actL t q)=some (Za9 (t.getD (k-i) ([],[],0)).2.1 bx)∧(bx,Ze2 (t.getD (k-i) ([],[],0)).2.2)∈W3 t q
 | [],[],i,_=>rfl
 | (x,f,F)::r,b::q,i,h=>by
  have ih:=Zj4 w r q (i+1) (by simpa using h)
  simp only [Vl,actL,Wx,W3]
  by_cases hw:w=x
  ·simp only [if_pos hw]
   exact ⟨Nat.le_refl _,by simp,b,by simp,by simp⟩
  ·simp only [if_neg hw]
   cases hf:Vl w r (i+1) with
   | none=>rw [hf] at ih;exact ih
   | some k =>
    rw [hf] at ih
    obtain ⟨h1,h2,bx,h3,h4⟩:=ih
    have e:k-i=k-(i+1)+1:=by omega
    refine ⟨by omega,by simp only [List.length_cons];omega,bx,?_,?_⟩
    ·rw [e];exact h3
    ·rw [e];exact List.mem_cons_of_mem _ h4
theorem Zhu (w:List UInt8) : ∀ (t:List (List UInt8 × List UInt8 × Nat)) (i:Nat),match Vl w t i with
  | none=>Wx w (t.map fun x=>(x.1,Value.agg ⟨[bs x.2.1,Zq3 x.2.2]⟩))=none
  | some k=>i≤k∧k-i<t.length∧Wx w (t.map fun x=>(x.1,Value.agg ⟨[bs x.2.1,Zq3 x.2.2]⟩))=some (.agg ⟨[bs (t.getD (k-i) ([],[],0)).2.1,Zq3 (t.getD (k-i) ([],[],0)).2.2]⟩)
 | [],i=>rfl
 | (x,f,F)::r,i=>by
  have ih:=Zhu w r (i+1)
  simp only [Vl,List.map_cons,Wx]
  by_cases hw:w=x
  ·simp only [if_pos hw]
   exact ⟨Nat.le_refl _,by simp,by simp⟩
  ·simp only [if_neg hw]
   cases hf:Vl w r (i+1) with
   | none=>rw [hf] at ih;exact ih
   | some k =>
    rw [hf] at ih
    obtain ⟨h1,h2,h3⟩:=ih
    have e:k-i=k-(i+1)+1:=by omega
    exact ⟨by omega,by simp only [List.length_cons];omega,by rw [e];exact h3⟩
theorem doesA (T:Nat) (E:Nat→Addr) (G:WdG) (M:Wm) (p:Nat) (a:Option Addr) (cap:Nat) (ns:List Int) (X:Zb) (k bx:Nat) (hk:k<11) (hE:Es T E X) (hS:Sz X) (hW:WdOk G M) (hM:WI M) (hV:EvW M) (hl:M.l.length≤99000000) (hR:Rd ic 1 X a ns) (hn:ns.length=(Ys k).length) (hcap:ns.length≤cap)
  (hbx:Has X bx (Ze2 (cmdT.getD k ([],[],0)).2.2)):HC Tryz.prog 282 ([pt p 0,.slice a ns.length cap]++[pt bx 0]) (Xg G M::Zi p (pt G.wp 0)::X) (DoQ T E G p X (Zko k M ns)):=by
 have h:=Ze8 T E G M p a cap ns X k bx (by omega) hE hS hW hM hV hl hR hn hcap (fun _=>hbx)
 unfold fnOf capOf at h
 rw [if_pos hk,if_pos hk] at h
 exact h
theorem doesB (T:Nat) (E:Nat→Addr) (G:WdG) (M:Wm) (p:Nat) (a:Option Addr) (cap:Nat) (ns:List Int) (X:Zb) (k:Nat) (hk : ¬ k<11) (hk2:k<18) (hE:Es T E X) (hS:Sz X) (hW:WdOk G M) (hM:WI M) (hV:EvW M) (hl:M.l.length≤99000000) (hR:Rd ic 1 X a ns) (hn:ns.length=(Ys k).length) (hcap:ns.length≤cap) :
  HC Tryz.prog (cmdT.getD k ([],[],0)).2.2 [pt p 0,.slice a ns.length cap] (Xg G M::Zi p (pt G.wp 0)::X) (DoQ T E G p X (Zko k M ns)):=by
 have h:=Ze8 T E G M p a cap ns X k 0 hk2 hE hS hW hM hV hl hR hn hcap (fun h=>absurd h hk)
 unfold fnOf capOf at h
 rw [if_neg hk,if_neg hk] at h
 exact h
theorem Ziq : ∀ k,k<18→(cmdT.getD k ([],[],0)).2.1.length≤2:=by decide
theorem Zo4 : ∀ k,k<11→actTab.getD k ([],[],0)=cmdT.getD k ([],[],0):=by decide
theorem Zkn : ∀ k,k<7→lookTab.getD k ([],[],0)=cmdT.getD (k+11) ([],[],0):=by decide
theorem Zjk {f:List UInt8} {r:List (List UInt8)} {n:List Int} (h:Vf f r=some n):n.length=f.length:=by
 unfold Vf at h
 split at h
 ·rename_i he
  rw [he]
  exact (U4 he h).1
 ·cases h
set_option maxRecDepth 20000 in
theorem Zly (T:Nat) (E:Nat→Addr) (G:WdG) (o:Option Wm) (p:Nat) (s:List UInt8) (w:List UInt8) (r:List (List UInt8)) (L:Zb) (hE:Es T E L) (hS:Sz L) (hW : ∀ M,o=some M→WdOk G M∧WI M∧EvW M∧M.l.length≤99000000) (hs:s.length≤1000000) (hw:Ym s=w::r) (hne:w≠Xm) :
  HC Tryz.prog 115 [pt p 0,bs s] (Zbb G o::Zi p (Zba G o)::L) (PlayQ T E p L (Zar o w r)):=by
 have ksp:=Zd7 s hs (Zbb G o::Zi p (Zba G o)::L) ((hS.cons _).cons _)
 obtain ⟨hwl,hwx⟩:=Zdl s
 rw [hw] at ksp hwl hwx
 have hrl:r.length≤s.length:=by simp only [List.length_cons] at hwl;omega
 have hn2 : ¬ w=[115,105,116,101,115]:=hne
 generalize hH:Zbb G o=PW at *
 unfold Zi at *
 generalize hP:Zba G o=PP at *
 unfold Zar
 rw [if_neg hne]
 have ha:=fun q hq=>Zj4 w actTab q 0 hq
 have hlk:=Zhu w lookTab 11
 rw [show cmdT=actTab++lookTab from rfl,Zhj w actTab lookTab 0,show 0+actTab.length=11 from rfl]
 cases hfa:Vl w actTab 0 with
 | some k =>
  simp only [hfa] at ha
  have hk:k<11:=by
   obtain ⟨-,h2,-⟩:=ha (List.replicate 11 0) rfl
   exact h2
  have hfl:(Ys k).length≤2:=Ziq k (by omega)
  simp only
  refine Za (fun _ _=>Tryz.call115 _ _) Tryz.func115 rfl Tryz.ntmps115 (Nat.le_of_ble_eq_true rfl) ?_;simp only [Ze,Nat.reduceAdd]
  repeat' (first|refine uN ?_|refine Yd S ?_|refine Yu S ?_|(refine uB ?_;intro b)|refine dg S 100 (fun _ _=>?_)|(refine uP ?_ ?_<;>(intro h;((try simp only [zs,zq,reduceCtorEq] at h);try exact zx)))|refine da 101 ?_|fail)
  refine gc ksp ?_
  rintro v L' ⟨b1,rfl,rfl⟩
  have hRW:Rd V1 1 ([(b1,.cells ⟨((w::r).map V1).flatten⟩ 9)]::PW::[(p,.cells ⟨[PP]⟩ 176)]::L) (some ⟨b1,0,none⟩) (w::r) := .inr ⟨b1,0,_,_,_,rfl,Zh,fun k x hk=>by
   have:=Wa (enc:=V1) Xo (w::r) [] [] k x hk
   simpa using this⟩
  have hRr:=hRW.drop (l:=1) (cap:=(w::r).length) (Nat.le_refl _)
  have kR:=fun (f:List UInt8) (A:Zb) (hf:f.length≤2)=>Zak f (cut (some ⟨b1,0,none⟩) (w::r).length 1 1) r.length r (A++([(b1,.cells ⟨((w::r).map V1).flatten⟩ 9)]::PW::[(p,.cells ⟨[PP]⟩ 176)]::L)) (((((hS.cons _).cons _).cons _)).mono fun _ _ h=>Zep h) (hRr.mono fun _ _ h=>Zep h) (Nat.le_refl _) (by omega) (by omega) (fun x hx=>by have:=hwx x (List.mem_cons_of_mem _ hx);omega)
  repeat' (first|refine uN ?_|refine Z0 S ?_|(refine uB ?_;intro b)|refine dg S 100 (fun _ _=>?_)|(refine uP ?_ ?_<;>(intro h;((try simp only [zs,zq,reduceCtorEq] at h);try exact zx)))|refine da 101 ?_|fail)
  refine Znk ?_ ?_
  ·refine gc (Qc _) ?_
   rintro v L' ⟨m,es,ck,q,rfl,hEnt,hq,rfl⟩
   obtain ⟨-,-,bx,h3,h4⟩:=ha q hq
   rw [Nat.sub_zero,Zo4 k hk] at h3 h4
   have hbm : ∀ H:Zb,Has (((m,.map ⟨es⟩ ck)::(W3 actTab q).reverse)::H) m (.map ⟨es⟩ ck):=fun H=>Zh
   have hbx : ∀ H:Zb,Has (((m,.map ⟨es⟩ ck)::(W3 actTab q).reverse)::H) bx (Ze2 (cmdT.getD k ([],[],0)).2.2):=fun H=>Xq (Yi (List.mem_reverse.2 h4))
   repeat' (first|refine uN ?_|refine Z0 S ?_|(refine uB ?_;intro b)|refine dg S 100 (fun _ _=>?_)|(refine uP ?_ ?_<;>(intro h;((try simp only [zs,zq,reduceCtorEq] at h);try exact zx)))|refine da 101 ?_|fail)
   refine dqS S 0 hEnt (hbm _) ?_
   rw [h3]
   simp only [Option.getD_some,Option.isSome_some]
   unfold Za9
   rw [show (cmdT.getD k ([],[],0)).2.1=Ys k from rfl]
   repeat' (first|refine uN ?_|refine Z0 S ?_|(refine uB ?_;intro b)|refine dg S 100 (fun _ _=>?_)|(refine uP ?_ ?_<;>(intro h;((try simp only [zs,zq,reduceCtorEq] at h);try exact zx)))|refine da 101 ?_|fail)
   refine gc (kR (Ys k) [[(b,.cells ⟨[bs (Ys k),.func (.func 282) #[] ⟨[pt bx 0]⟩]⟩ 252)],((m,.map ⟨es⟩ ck)::(W3 actTab q).reverse)] hfl) ?_
   rintro v L' ⟨c,u,rfl,hu,rfl⟩
   have hG:=((((((hE.er [1,4]).cons [(p,.cells ⟨[PP]⟩ 176)]).cons PW).cons [(b1,.cells ⟨((w::r).map V1).flatten⟩ 9)]).cons (((m,.map ⟨es⟩ ck)::(W3 actTab q).reverse))).cons ([(b,.cells ⟨[bs (Ys k),.func (.func 282) #[] ⟨[pt bx 0]⟩]⟩ 252)])).cons c
   cases hrd:Vf (Ys k) r with
   | none =>
    rw [hrd] at hu
    repeat' (first|refine uN ?_|refine Z0 S ?_|(refine uB ?_;intro b)|refine dg S 100 (fun _ _=>?_)|(refine uP ?_ ?_<;>(intro h;((try simp only [zs,zq,reduceCtorEq] at h);try exact zx)))|refine da 101 ?_|fail)
    subst hH hP
    exact Wz (L':=[]::Zbb G o::[(p,.cells ⟨[Zba G o]⟩ 176)]::L) uL ⟨[],_,-1,G,rfl,Za7 (e:=some 1) rfl,fun M hM=>(hW M hM).1,rfl⟩
   | some n =>
    rw [hrd] at hu
    have hnl:=Zjk hrd
    cases o with
    | none =>
     subst hH hP
     unfold Zba Zbb at *
     repeat' (first|refine uN ?_|refine Z0 S ?_|(refine uB ?_;intro b)|refine dg S 100 (fun _ _=>?_)|(refine uP ?_ ?_<;>(intro h;((try simp only [zs,zq,reduceCtorEq] at h);try exact zx)))|refine da 101 ?_|fail)
     exact Wz (L':=[]::[]::[(p,.cells ⟨[.pointer none]⟩ 176)]::L) uL ⟨[],_,-1,G,rfl,Za7 (e:=some 4) rfl,fun M hM=>(by cases hM),rfl⟩
    | some M =>
     subst hH hP
     unfold Zba Zbb at *
     obtain ⟨hW1,hM1,hV1,hl1⟩:=hW M rfl
     obtain ⟨an,capn,rfl,hcapn,hRn⟩:=hu.rd Xi
     repeat' (first|refine uN ?_|refine Z0 S ?_|(refine uB ?_;intro b)|refine dg S 100 (fun _ _=>?_)|(refine uP ?_ ?_<;>(intro h;((try simp only [zs,zq,reduceCtorEq] at h);try exact zx)))|refine da 101 ?_|fail)
     refine Vb (qLF Tryz.isAgg250) ?_
     repeat' (first|refine uN ?_|refine Z0 S ?_|(refine uB ?_;intro b)|refine dg S 100 (fun _ _=>?_)|(refine uP ?_ ?_<;>(intro h;((try simp only [zs,zq,reduceCtorEq] at h);try exact zx)))|refine da 101 ?_|fail)
     refine Zcf (L':=Xg G M::Zi p (pt G.wp 0)::c::[(b,.cells ⟨[bs (Ys k),.func (.func 282) #[] ⟨[pt bx 0]⟩]⟩ 252)]::((m,.map ⟨es⟩ ck)::(W3 actTab q).reverse)::[(b1,.cells ⟨((w::r).map V1).flatten⟩ 9)]::L) ?_ uL
     refine gc (doesA T E G M p an capn n (c::[(b,.cells ⟨[bs (Ys k),.func (.func 282) #[] ⟨[pt bx 0]⟩]⟩ 252)]::((m,.map ⟨es⟩ ck)::(W3 actTab q).reverse)::[(b1,.cells ⟨((w::r).map V1).flatten⟩ 9)]::L) k bx hk ((((hE.cons _).cons _).cons _).cons _) ((((hS.cons _).cons _).cons _).cons _) hW1 hM1 hV1 hl1 (hRn _) hnl hcapn (Zc (Zc (hbx _)))) ?_
     rintro v L' ⟨c2,fv2,at_,rfl,hf2,G2,e1,hW2,rfl⟩
     repeat' (first|refine uN ?_|refine Z0 S ?_|(refine uB ?_;intro b)|refine dg S 100 (fun _ _=>?_)|(refine uP ?_ ?_<;>(intro h;((try simp only [zs,zq,reduceCtorEq] at h);try exact zx)))|refine da 101 ?_|fail)
     exact Wz (L':=c2::Xg G2 (Zko k M n).2.2::Zi p (pt G.wp 0)::L) uL ⟨c2,fv2,at_,G2,rfl,hf2,fun M' hM'=>(by cases hM';exact hW2),by unfold Zbb Zba Zi;rw [e1]⟩
  ·repeat' (first|refine uN ?_|refine Z0 S ?_|(refine uB ?_;intro b)|refine dg S 100 (fun _ _=>?_)|(refine uP ?_ ?_<;>(intro h;((try simp only [zs,zq,reduceCtorEq] at h);try exact zx)))|refine da 101 ?_|fail)
   refine gc (Qc _) ?_
   rintro v L' ⟨m,es,ck,q,rfl,hEnt,hq,rfl⟩
   obtain ⟨-,-,bx,h3,h4⟩:=ha q hq
   rw [Nat.sub_zero,Zo4 k hk] at h3 h4
   have hbm : ∀ H:Zb,Has (((m,.map ⟨es⟩ ck)::(W3 actTab q).reverse)::H) m (.map ⟨es⟩ ck):=fun H=>Zh
   have hbx : ∀ H:Zb,Has (((m,.map ⟨es⟩ ck)::(W3 actTab q).reverse)::H) bx (Ze2 (cmdT.getD k ([],[],0)).2.2):=fun H=>Xq (Yi (List.mem_reverse.2 h4))
   repeat' (first|refine uN ?_|refine Z0 S ?_|(refine uB ?_;intro b)|refine dg S 100 (fun _ _=>?_)|(refine uP ?_ ?_<;>(intro h;((try simp only [zs,zq,reduceCtorEq] at h);try exact zx)))|refine da 101 ?_|fail)
   refine dqS S 0 hEnt (hbm _) ?_
   rw [h3]
   simp only [Option.getD_some,Option.isSome_some]
   unfold Za9
   rw [show (cmdT.getD k ([],[],0)).2.1=Ys k from rfl]
   repeat' (first|refine uN ?_|refine Z0 S ?_|(refine uB ?_;intro b)|refine dg S 100 (fun _ _=>?_)|(refine uP ?_ ?_<;>(intro h;((try simp only [zs,zq,reduceCtorEq] at h);try exact zx)))|refine da 101 ?_|fail)
   refine gc (kR (Ys k) [((m,.map ⟨es⟩ ck)::(W3 actTab q).reverse),[(b,.cells ⟨[bs (Ys k),.func (.func 282) #[] ⟨[pt bx 0]⟩]⟩ 252)]] hfl) ?_
   rintro v L' ⟨c,u,rfl,hu,rfl⟩
   have hG:=((((((hE.er [1,4]).cons [(p,.cells ⟨[PP]⟩ 176)]).cons PW).cons [(b1,.cells ⟨((w::r).map V1).flatten⟩ 9)]).cons ([(b,.cells ⟨[bs (Ys k),.func (.func 282) #[] ⟨[pt bx 0]⟩]⟩ 252)])).cons (((m,.map ⟨es⟩ ck)::(W3 actTab q).reverse))).cons c
   cases hrd:Vf (Ys k) r with
   | none =>
    rw [hrd] at hu
    repeat' (first|refine uN ?_|refine Z0 S ?_|(refine uB ?_;intro b)|refine dg S 100 (fun _ _=>?_)|(refine uP ?_ ?_<;>(intro h;((try simp only [zs,zq,reduceCtorEq] at h);try exact zx)))|refine da 101 ?_|fail)
    subst hH hP
    exact Wz (L':=[]::Zbb G o::[(p,.cells ⟨[Zba G o]⟩ 176)]::L) uL ⟨[],_,-1,G,rfl,Za7 (e:=some 1) rfl,fun M hM=>(hW M hM).1,rfl⟩
   | some n =>
    rw [hrd] at hu
    have hnl:=Zjk hrd
    cases o with
    | none =>
     subst hH hP
     unfold Zba Zbb at *
     repeat' (first|refine uN ?_|refine Z0 S ?_|(refine uB ?_;intro b)|refine dg S 100 (fun _ _=>?_)|(refine uP ?_ ?_<;>(intro h;((try simp only [zs,zq,reduceCtorEq] at h);try exact zx)))|refine da 101 ?_|fail)
     exact Wz (L':=[]::[]::[(p,.cells ⟨[.pointer none]⟩ 176)]::L) uL ⟨[],_,-1,G,rfl,Za7 (e:=some 4) rfl,fun M hM=>(by cases hM),rfl⟩
    | some M =>
     subst hH hP
     unfold Zba Zbb at *
     obtain ⟨hW1,hM1,hV1,hl1⟩:=hW M rfl
     obtain ⟨an,capn,rfl,hcapn,hRn⟩:=hu.rd Xi
     repeat' (first|refine uN ?_|refine Z0 S ?_|(refine uB ?_;intro b)|refine dg S 100 (fun _ _=>?_)|(refine uP ?_ ?_<;>(intro h;((try simp only [zs,zq,reduceCtorEq] at h);try exact zx)))|refine da 101 ?_|fail)
     refine Vb (qLF Tryz.isAgg250) ?_
     repeat' (first|refine uN ?_|refine Z0 S ?_|(refine uB ?_;intro b)|refine dg S 100 (fun _ _=>?_)|(refine uP ?_ ?_<;>(intro h;((try simp only [zs,zq,reduceCtorEq] at h);try exact zx)))|refine da 101 ?_|fail)
     refine Zcf (L':=Xg G M::Zi p (pt G.wp 0)::c::((m,.map ⟨es⟩ ck)::(W3 actTab q).reverse)::[(b,.cells ⟨[bs (Ys k),.func (.func 282) #[] ⟨[pt bx 0]⟩]⟩ 252)]::[(b1,.cells ⟨((w::r).map V1).flatten⟩ 9)]::L) ?_ uL
     refine gc (doesA T E G M p an capn n (c::((m,.map ⟨es⟩ ck)::(W3 actTab q).reverse)::[(b,.cells ⟨[bs (Ys k),.func (.func 282) #[] ⟨[pt bx 0]⟩]⟩ 252)]::[(b1,.cells ⟨((w::r).map V1).flatten⟩ 9)]::L) k bx hk ((((hE.cons _).cons _).cons _).cons _) ((((hS.cons _).cons _).cons _).cons _) hW1 hM1 hV1 hl1 (hRn _) hnl hcapn (Zc (hbx _))) ?_
     rintro v L' ⟨c2,fv2,at_,rfl,hf2,G2,e1,hW2,rfl⟩
     repeat' (first|refine uN ?_|refine Z0 S ?_|(refine uB ?_;intro b)|refine dg S 100 (fun _ _=>?_)|(refine uP ?_ ?_<;>(intro h;((try simp only [zs,zq,reduceCtorEq] at h);try exact zx)))|refine da 101 ?_|fail)
     exact Wz (L':=c2::Xg G2 (Zko k M n).2.2::Zi p (pt G.wp 0)::L) uL ⟨c2,fv2,at_,G2,rfl,hf2,fun M' hM'=>(by cases hM';exact hW2),by unfold Zbb Zba Zi;rw [e1]⟩
 | none =>
  simp only [hfa] at ha
  simp only
  refine Za (fun _ _=>Tryz.call115 _ _) Tryz.func115 rfl Tryz.ntmps115 (Nat.le_of_ble_eq_true rfl) ?_;simp only [Ze,Nat.reduceAdd]
  repeat' (first|refine uN ?_|refine Yd S ?_|refine Yu S ?_|(refine uB ?_;intro b)|refine dg S 100 (fun _ _=>?_)|(refine uP ?_ ?_<;>(intro h;((try simp only [zs,zq,reduceCtorEq] at h);try exact zx)))|refine da 101 ?_|fail)
  refine gc ksp ?_
  rintro v L' ⟨b1,rfl,rfl⟩
  have hRW:Rd V1 1 ([(b1,.cells ⟨((w::r).map V1).flatten⟩ 9)]::PW::[(p,.cells ⟨[PP]⟩ 176)]::L) (some ⟨b1,0,none⟩) (w::r) := .inr ⟨b1,0,_,_,_,rfl,Zh,fun k x hk=>by
   have:=Wa (enc:=V1) Xo (w::r) [] [] k x hk
   simpa using this⟩
  have hRr:=hRW.drop (l:=1) (cap:=(w::r).length) (Nat.le_refl _)
  have kR:=fun (f:List UInt8) (A:Zb) (hf:f.length≤2)=>Zak f (cut (some ⟨b1,0,none⟩) (w::r).length 1 1) r.length r (A++([(b1,.cells ⟨((w::r).map V1).flatten⟩ 9)]::PW::[(p,.cells ⟨[PP]⟩ 176)]::L)) (((((hS.cons _).cons _).cons _)).mono fun _ _ h=>Zep h) (hRr.mono fun _ _ h=>Zep h) (Nat.le_refl _) (by omega) (by omega) (fun x hx=>by have:=hwx x (List.mem_cons_of_mem _ hx);omega)
  repeat' (first|refine uN ?_|refine Z0 S ?_|(refine uB ?_;intro b)|refine dg S 100 (fun _ _=>?_)|(refine uP ?_ ?_<;>(intro h;((try simp only [zs,zq,reduceCtorEq] at h);try exact zx)))|refine da 101 ?_|fail)
  refine Znk ?_ ?_
  ·refine gc (Qc _) ?_
   rintro v L' ⟨m,es,ck,q,rfl,hEnt,hq,rfl⟩
   have h3:=ha q hq
   have hbm : ∀ H:Zb,Has (((m,.map ⟨es⟩ ck)::(W3 actTab q).reverse)::H) m (.map ⟨es⟩ ck):=fun H=>Zh
   repeat' (first|refine uN ?_|refine Z0 S ?_|(refine uB ?_;intro b)|refine dg S 100 (fun _ _=>?_)|(refine uP ?_ ?_<;>(intro h;((try simp only [zs,zq,reduceCtorEq] at h);try exact zx)))|refine da 101 ?_|fail)
   refine dqS S 0 hEnt (hbm _) ?_
   rw [h3]
   simp only [Option.getD_none,Option.isSome_none]
   repeat' (first|refine uN ?_|refine Z0 S ?_|(refine uB ?_;intro b)|refine dg S 100 (fun _ _=>?_)|(refine uP ?_ ?_<;>(intro h;((try simp only [zs,zq,reduceCtorEq] at h);try exact zx)))|refine da 101 ?_|fail)
   refine gc (Zd0 _) ?_
   rintro v L' ⟨m2,es2,ck2,rfl,hEnt2,rfl⟩
   have hG:=((((((hE.er [1,4]).cons [(p,.cells ⟨[PP]⟩ 176)]).cons PW).cons [(b1,.cells ⟨((w::r).map V1).flatten⟩ 9)]).cons (((m,.map ⟨es⟩ ck)::(W3 actTab q).reverse))).cons ([(b,.cells ⟨[bs [],.nilFunc]⟩ 252)])).cons ([(m2,.map ⟨es2⟩ ck2)])
   have hb2 : ∀ H:Zb,Has ([(m2,.map ⟨es2⟩ ck2)]::H) m2 (.map ⟨es2⟩ ck2):=fun H=>Zh
   repeat' (first|refine uN ?_|refine Z0 S ?_|(refine uB ?_;intro b)|refine dg S 100 (fun _ _=>?_)|(refine uP ?_ ?_<;>(intro h;((try simp only [zs,zq,reduceCtorEq] at h);try exact zx)))|refine da 101 ?_|fail)
   refine dqS S 0 hEnt2 (hb2 _) ?_
   cases hfl2:Vl w lookTab 11 with
   | none =>
    rw [hfl2] at hlk
    rw [show Wx w Zll=none from hlk]
    simp only [Option.getD_none,Option.isSome_none]
    repeat' (first|refine uN ?_|refine Z0 S ?_|(refine uB ?_;intro b)|refine dg S 100 (fun _ _=>?_)|(refine uP ?_ ?_<;>(intro h;((try simp only [zs,zq,reduceCtorEq] at h);try exact zx)))|refine da 101 ?_|fail)
    subst hH hP
    exact Wz (L':=[]::Zbb G o::[(p,.cells ⟨[Zba G o]⟩ 176)]::L) uL ⟨[],_,-1,G,rfl,Za7 (e:=some 1) rfl,fun M hM=>(hW M hM).1,rfl⟩
   | some k =>
    rw [hfl2] at hlk
    obtain ⟨hk1,hk2,h4⟩:=hlk
    have hk2:k<18:=by
     have:k-11<7:=hk2
     omega
    have hk : ¬ k<11:=by omega
    rw [Zkn (k-11) (by omega),show k-11+11=k by omega] at h4
    rw [show Wx w Zll=some (.agg ⟨[bs (Ys k),Zq3 (cmdT.getD k ([],[],0)).2.2]⟩) from h4]
    have hfl:(Ys k).length≤2:=Ziq k (by omega)
    clear hG
    simp only [Option.getD_some,Option.isSome_some]
    unfold Zq3
    repeat' (first|refine uN ?_|refine Z0 S ?_|(refine uB ?_;intro b)|refine dg S 100 (fun _ _=>?_)|(refine uP ?_ ?_<;>(intro h;((try simp only [zs,zq,reduceCtorEq] at h);try exact zx)))|refine da 101 ?_|fail)
    refine gc (kR (Ys k) [[(m2,.map ⟨es2⟩ ck2)],[(b,.cells ⟨[bs (Ys k),.func (.func (cmdT.getD k ([],[],0)).2.2) #[] #[]]⟩ 252)],((m,.map ⟨es⟩ ck)::(W3 actTab q).reverse)] hfl) ?_
    rintro v L' ⟨c,u,rfl,hu,rfl⟩
    have hG:=(((((((hE.er [1,4]).cons [(p,.cells ⟨[PP]⟩ 176)]).cons PW).cons [(b1,.cells ⟨((w::r).map V1).flatten⟩ 9)]).cons (((m,.map ⟨es⟩ ck)::(W3 actTab q).reverse))).cons ([(b,.cells ⟨[bs (Ys k),.func (.func (cmdT.getD k ([],[],0)).2.2) #[] #[]]⟩ 252)])).cons ([(m2,.map ⟨es2⟩ ck2)])).cons c
    cases hrd:Vf (Ys k) r with
    | none =>
     rw [hrd] at hu
     repeat' (first|refine uN ?_|refine Z0 S ?_|(refine uB ?_;intro b)|refine dg S 100 (fun _ _=>?_)|(refine uP ?_ ?_<;>(intro h;((try simp only [zs,zq,reduceCtorEq] at h);try exact zx)))|refine da 101 ?_|fail)
     subst hH hP
     exact Wz (L':=[]::Zbb G o::[(p,.cells ⟨[Zba G o]⟩ 176)]::L) uL ⟨[],_,-1,G,rfl,Za7 (e:=some 1) rfl,fun M hM=>(hW M hM).1,rfl⟩
    | some n =>
     rw [hrd] at hu
     have hnl:=Zjk hrd
     cases o with
     | none =>
      subst hH hP
      unfold Zba Zbb at *
      repeat' (first|refine uN ?_|refine Z0 S ?_|(refine uB ?_;intro b)|refine dg S 100 (fun _ _=>?_)|(refine uP ?_ ?_<;>(intro h;((try simp only [zs,zq,reduceCtorEq] at h);try exact zx)))|refine da 101 ?_|fail)
      exact Wz (L':=[]::[]::[(p,.cells ⟨[.pointer none]⟩ 176)]::L) uL ⟨[],_,-1,G,rfl,Za7 (e:=some 4) rfl,fun M hM=>(by cases hM),rfl⟩
     | some M =>
      subst hH hP
      unfold Zba Zbb at *
      obtain ⟨hW1,hM1,hV1,hl1⟩:=hW M rfl
      obtain ⟨an,capn,rfl,hcapn,hRn⟩:=hu.rd Xi
      repeat' (first|refine uN ?_|refine Z0 S ?_|(refine uB ?_;intro b)|refine dg S 100 (fun _ _=>?_)|(refine uP ?_ ?_<;>(intro h;((try simp only [zs,zq,reduceCtorEq] at h);try exact zx)))|refine da 101 ?_|fail)
      refine Vb (qLF Tryz.isAgg250) ?_
      repeat' (first|refine uN ?_|refine Z0 S ?_|(refine uB ?_;intro b)|refine dg S 100 (fun _ _=>?_)|(refine uP ?_ ?_<;>(intro h;((try simp only [zs,zq,reduceCtorEq] at h);try exact zx)))|refine da 101 ?_|fail)
      refine Zcf (L':=Xg G M::Zi p (pt G.wp 0)::c::[(m2,.map ⟨es2⟩ ck2)]::[(b,.cells ⟨[bs (Ys k),.func (.func (cmdT.getD k ([],[],0)).2.2) #[] #[]]⟩ 252)]::((m,.map ⟨es⟩ ck)::(W3 actTab q).reverse)::[(b1,.cells ⟨((w::r).map V1).flatten⟩ 9)]::L) ?_ uL
      refine gc (doesB T E G M p an capn n (c::[(m2,.map ⟨es2⟩ ck2)]::[(b,.cells ⟨[bs (Ys k),.func (.func (cmdT.getD k ([],[],0)).2.2) #[] #[]]⟩ 252)]::((m,.map ⟨es⟩ ck)::(W3 actTab q).reverse)::[(b1,.cells ⟨((w::r).map V1).flatten⟩ 9)]::L) k hk hk2 (((((hE.cons _).cons _).cons _).cons _).cons _) (((((hS.cons _).cons _).cons _).cons _).cons _) hW1 hM1 hV1 hl1 (hRn _) hnl hcapn) ?_
      rintro v L' ⟨c2,fv2,at_,rfl,hf2,G2,e1,hW2,rfl⟩
      repeat' (first|refine uN ?_|refine Z0 S ?_|(refine uB ?_;intro b)|refine dg S 100 (fun _ _=>?_)|(refine uP ?_ ?_<;>(intro h;((try simp only [zs,zq,reduceCtorEq] at h);try exact zx)))|refine da 101 ?_|fail)
      exact Wz (L':=c2::Xg G2 (Zko k M n).2.2::Zi p (pt G.wp 0)::L) uL ⟨c2,fv2,at_,G2,rfl,hf2,fun M' hM'=>(by cases hM';exact hW2),by unfold Zbb Zba Zi;rw [e1]⟩
  ·repeat' (first|refine uN ?_|refine Z0 S ?_|(refine uB ?_;intro b)|refine dg S 100 (fun _ _=>?_)|(refine uP ?_ ?_<;>(intro h;((try simp only [zs,zq,reduceCtorEq] at h);try exact zx)))|refine da 101 ?_|fail)
   refine gc (Qc _) ?_
   rintro v L' ⟨m,es,ck,q,rfl,hEnt,hq,rfl⟩
   have h3:=ha q hq
   have hbm : ∀ H:Zb,Has (((m,.map ⟨es⟩ ck)::(W3 actTab q).reverse)::H) m (.map ⟨es⟩ ck):=fun H=>Zh
   repeat' (first|refine uN ?_|refine Z0 S ?_|(refine uB ?_;intro b)|refine dg S 100 (fun _ _=>?_)|(refine uP ?_ ?_<;>(intro h;((try simp only [zs,zq,reduceCtorEq] at h);try exact zx)))|refine da 101 ?_|fail)
   refine dqS S 0 hEnt (hbm _) ?_
   rw [h3]
   simp only [Option.getD_none,Option.isSome_none]
   repeat' (first|refine uN ?_|refine Z0 S ?_|(refine uB ?_;intro b)|refine dg S 100 (fun _ _=>?_)|(refine uP ?_ ?_<;>(intro h;((try simp only [zs,zq,reduceCtorEq] at h);try exact zx)))|refine da 101 ?_|fail)
   refine gc (Zd0 _) ?_
   rintro v L' ⟨m2,es2,ck2,rfl,hEnt2,rfl⟩
   have hG:=((((((hE.er [1,4]).cons [(p,.cells ⟨[PP]⟩ 176)]).cons PW).cons [(b1,.cells ⟨((w::r).map V1).flatten⟩ 9)]).cons ([(b,.cells ⟨[bs [],.nilFunc]⟩ 252)])).cons (((m,.map ⟨es⟩ ck)::(W3 actTab q).reverse))).cons ([(m2,.map ⟨es2⟩ ck2)])
   have hb2 : ∀ H:Zb,Has ([(m2,.map ⟨es2⟩ ck2)]::H) m2 (.map ⟨es2⟩ ck2):=fun H=>Zh
   repeat' (first|refine uN ?_|refine Z0 S ?_|(refine uB ?_;intro b)|refine dg S 100 (fun _ _=>?_)|(refine uP ?_ ?_<;>(intro h;((try simp only [zs,zq,reduceCtorEq] at h);try exact zx)))|refine da 101 ?_|fail)
   refine dqS S 0 hEnt2 (hb2 _) ?_
   cases hfl2:Vl w lookTab 11 with
   | none =>
    rw [hfl2] at hlk
    rw [show Wx w Zll=none from hlk]
    simp only [Option.getD_none,Option.isSome_none]
    repeat' (first|refine uN ?_|refine Z0 S ?_|(refine uB ?_;intro b)|refine dg S 100 (fun _ _=>?_)|(refine uP ?_ ?_<;>(intro h;((try simp only [zs,zq,reduceCtorEq] at h);try exact zx)))|refine da 101 ?_|fail)
    subst hH hP
    exact Wz (L':=[]::Zbb G o::[(p,.cells ⟨[Zba G o]⟩ 176)]::L) uL ⟨[],_,-1,G,rfl,Za7 (e:=some 1) rfl,fun M hM=>(hW M hM).1,rfl⟩
   | some k =>
    rw [hfl2] at hlk
    obtain ⟨hk1,hk2,h4⟩:=hlk
    have hk2:k<18:=by
     have:k-11<7:=hk2
     omega
    have hk : ¬ k<11:=by omega
    rw [Zkn (k-11) (by omega),show k-11+11=k by omega] at h4
    rw [show Wx w Zll=some (.agg ⟨[bs (Ys k),Zq3 (cmdT.getD k ([],[],0)).2.2]⟩) from h4]
    have hfl:(Ys k).length≤2:=Ziq k (by omega)
    clear hG
    simp only [Option.getD_some,Option.isSome_some]
    unfold Zq3
    repeat' (first|refine uN ?_|refine Z0 S ?_|(refine uB ?_;intro b)|refine dg S 100 (fun _ _=>?_)|(refine uP ?_ ?_<;>(intro h;((try simp only [zs,zq,reduceCtorEq] at h);try exact zx)))|refine da 101 ?_|fail)
    refine gc (kR (Ys k) [[(m2,.map ⟨es2⟩ ck2)],((m,.map ⟨es⟩ ck)::(W3 actTab q).reverse),[(b,.cells ⟨[bs (Ys k),.func (.func (cmdT.getD k ([],[],0)).2.2) #[] #[]]⟩ 252)]] hfl) ?_
    rintro v L' ⟨c,u,rfl,hu,rfl⟩
    have hG:=(((((((hE.er [1,4]).cons [(p,.cells ⟨[PP]⟩ 176)]).cons PW).cons [(b1,.cells ⟨((w::r).map V1).flatten⟩ 9)]).cons ([(b,.cells ⟨[bs (Ys k),.func (.func (cmdT.getD k ([],[],0)).2.2) #[] #[]]⟩ 252)])).cons (((m,.map ⟨es⟩ ck)::(W3 actTab q).reverse))).cons ([(m2,.map ⟨es2⟩ ck2)])).cons c
    cases hrd:Vf (Ys k) r with
    | none =>
     rw [hrd] at hu
     repeat' (first|refine uN ?_|refine Z0 S ?_|(refine uB ?_;intro b)|refine dg S 100 (fun _ _=>?_)|(refine uP ?_ ?_<;>(intro h;((try simp only [zs,zq,reduceCtorEq] at h);try exact zx)))|refine da 101 ?_|fail)
     subst hH hP
     exact Wz (L':=[]::Zbb G o::[(p,.cells ⟨[Zba G o]⟩ 176)]::L) uL ⟨[],_,-1,G,rfl,Za7 (e:=some 1) rfl,fun M hM=>(hW M hM).1,rfl⟩
    | some n =>
     rw [hrd] at hu
     have hnl:=Zjk hrd
     cases o with
     | none =>
      subst hH hP
      unfold Zba Zbb at *
      repeat' (first|refine uN ?_|refine Z0 S ?_|(refine uB ?_;intro b)|refine dg S 100 (fun _ _=>?_)|(refine uP ?_ ?_<;>(intro h;((try simp only [zs,zq,reduceCtorEq] at h);try exact zx)))|refine da 101 ?_|fail)
      exact Wz (L':=[]::[]::[(p,.cells ⟨[.pointer none]⟩ 176)]::L) uL ⟨[],_,-1,G,rfl,Za7 (e:=some 4) rfl,fun M hM=>(by cases hM),rfl⟩
     | some M =>
      subst hH hP
      unfold Zba Zbb at *
      obtain ⟨hW1,hM1,hV1,hl1⟩:=hW M rfl
      obtain ⟨an,capn,rfl,hcapn,hRn⟩:=hu.rd Xi
      repeat' (first|refine uN ?_|refine Z0 S ?_|(refine uB ?_;intro b)|refine dg S 100 (fun _ _=>?_)|(refine uP ?_ ?_<;>(intro h;((try simp only [zs,zq,reduceCtorEq] at h);try exact zx)))|refine da 101 ?_|fail)
      refine Vb (qLF Tryz.isAgg250) ?_
      repeat' (first|refine uN ?_|refine Z0 S ?_|(refine uB ?_;intro b)|refine dg S 100 (fun _ _=>?_)|(refine uP ?_ ?_<;>(intro h;((try simp only [zs,zq,reduceCtorEq] at h);try exact zx)))|refine da 101 ?_|fail)
      refine Zcf (L':=Xg G M::Zi p (pt G.wp 0)::c::[(m2,.map ⟨es2⟩ ck2)]::((m,.map ⟨es⟩ ck)::(W3 actTab q).reverse)::[(b,.cells ⟨[bs (Ys k),.func (.func (cmdT.getD k ([],[],0)).2.2) #[] #[]]⟩ 252)]::[(b1,.cells ⟨((w::r).map V1).flatten⟩ 9)]::L) ?_ uL
      refine gc (doesB T E G M p an capn n (c::[(m2,.map ⟨es2⟩ ck2)]::((m,.map ⟨es⟩ ck)::(W3 actTab q).reverse)::[(b,.cells ⟨[bs (Ys k),.func (.func (cmdT.getD k ([],[],0)).2.2) #[] #[]]⟩ 252)]::[(b1,.cells ⟨((w::r).map V1).flatten⟩ 9)]::L) k hk hk2 (((((hE.cons _).cons _).cons _).cons _).cons _) (((((hS.cons _).cons _).cons _).cons _).cons _) hW1 hM1 hV1 hl1 (hRn _) hnl hcapn) ?_
      rintro v L' ⟨c2,fv2,at_,rfl,hf2,G2,e1,hW2,rfl⟩
      repeat' (first|refine uN ?_|refine Z0 S ?_|(refine uB ?_;intro b)|refine dg S 100 (fun _ _=>?_)|(refine uP ?_ ?_<;>(intro h;((try simp only [zs,zq,reduceCtorEq] at h);try exact zx)))|refine da 101 ?_|fail)
      exact Wz (L':=c2::Xg G2 (Zko k M n).2.2::Zi p (pt G.wp 0)::L) uL ⟨c2,fv2,at_,G2,rfl,hf2,fun M' hM'=>(by cases hM';exact hW2),by unfold Zbb Zba Zi;rw [e1]⟩
end Go.HL
end

/-! ScH -/
section
namespace Go.HL
open Go Go.Proofs
def Et (E:Nat→Addr) (L:Zb):Prop := ∀ c,List.elem c all8=true → ∃ b i l t fr,E c=⟨b,i,none⟩∧Has L b (.cells ⟨l⟩ t fr)∧l[i]? = some (bs (Zam c))
theorem Et.mono {E:Nat→Addr} {L L':Zb} (h:Et E L) (hl : ∀ b o,Has L b o→Has L' b o):Et E L':=fun c hc=>by
 obtain ⟨b,i,l,t,fr,h1,h2,h3⟩:=h c hc
 exact ⟨b,i,l,t,fr,h1,hl _ _ h2,h3⟩
theorem Et.cons {E:Nat→Addr} {L:Zb} (h:Et E L) (c:List Zm):Et E (c::L):=h.mono fun _ _ hb=>Zc hb
def U0 (o:Option Wm) (s:List UInt8):List UInt8 × Int × Option Wm:=Zar o ((Ym s).headD []) (Ym s).tail
def Zcw (o:Option Wm) (s:List UInt8):List UInt8 × Option Wm:=(if (U0 o s).2.1=0 then (U0 o s).1 else Zam (U0 o s).2.1.toNat,(U0 o s).2.2)
def U5:Option Wm→List (List UInt8)→List (List UInt8)
 | _,[]=>[]
 | o,s::r=>(Zcw o s).1::U5 (Zcw o s).2 r
def Zaa:Option Wm→List (List UInt8)→Option Wm
 | o,[]=>o
 | o,s::r=>Zaa (Zcw o s).2 r
theorem Zgc : ∀ (o:Option Wm) (a b:List (List UInt8)),U5 o (a++b)=U5 o a++U5 (Zaa o a) b
 | o,[],b=>rfl
 | o,s::a,b=>by simp only [List.cons_append,U5,Zaa,Zgc _ a b]
theorem Zkp : ∀ (o:Option Wm) (a b:List (List UInt8)),Zaa o (a++b)=Zaa (Zaa o a) b
 | o,[],b=>rfl
 | o,s::a,b=>by simp only [List.cons_append,Zaa,Zkp _ a b]
theorem Zgd : ∀ (o:Option Wm) (a:List (List UInt8)),(U5 o a).length=a.length
 | o,[]=>rfl
 | o,s::a=>by simp only [U5,List.length_cons,Zgd _ a]
theorem Zkm (n:Int) (xs:List Ev) : ∀ (k i:Nat),k=xs.length-i→match Zb8 n xs i with
  | none=>True
  | some (_,c)=>c≠7
 | 0,i,h=>by rw [Ze3 (by omega)];trivial
 | k + 1,i,h=>by
  have hi:i<xs.length:=by omega
  cases he:Zq1 n xs[i] (xs.take i) with
  | none=>rw [Zc5 hi he];exact Zkm n xs k (i+1) (by omega)
  | some c =>
   rw [Zkl hi he]
   unfold Zq1 at he
   split at he
   ·cases he;simp
   ·split at he
    ·cases he;simp
    ·split at he
     ·cases he;simp
     ·cases he
theorem Zes {e:Option Nat} (h:okW e):Zqu e≠7:=by
 rcases h with rfl|rfl|rfl|rfl|rfl<;>decide
theorem doW_no7 (k:Nat) (M:Wm) (n:List Int):(Zko k M n).2.1≠7:=by
 unfold Zko
 split
 ·exact Zes (cmdW_w k M n)
 split
 ·simp
 ·simp
 ·refine Zes ?_
  unfold X8
  have:=Zay M (n.getD 0 0)
  split
  ·rename_i e he;rw [he] at this;exact this
  ·split
   ·exact .inr (.inl rfl)
   ·exact .inl rfl
 ·refine Zes ?_
  unfold Zbl
  split
  ·exact .inr (.inl rfl)
  ·split<;>exact .inl rfl
 ·simp only
  split
  ·decide
  ·refine Zes ?_
   unfold Znq
   have:=Zay M (n.getD 0 0)
   split
   ·rename_i e he;rw [he] at this;exact this
   ·exact .inl rfl
 ·simp
 ·simp only
  unfold efM
  split
  ·decide
  ·have:=Zkm M.n.length (M.ev.map Zol) (M.ev.map Zol).length 0 (by omega)
   split
   ·decide
   ·rename_i i c hc
    rw [hc] at this
    simp only at this ⊢
    omega
theorem Zrm (o:Option Wm) (s:List UInt8):(U0 o s).2.1≠7:=by
 have c1:(1:Int)≠7:=by decide
 unfold U0 Zar
 split
 ·split
  ·exact c1
  ·split
   ·exact (by decide:(0:Int)≠7)
   ·rename_i n hn e he
    simp only
    unfold Xt at he
    repeat' (first|(split at he)|(cases he;decide)|(cases he))
 ·split
  ·exact c1
  ·split
   ·exact c1
   ·split
    ·exact (by decide:(4:Int)≠7)
    ·exact doW_no7 _ _ _
theorem elem8 {c:Nat} (h:List.elem c all9=true) (h7:c≠7):List.elem c all8=true:=by
 have:=List.elem_iff.1 h
 simp [all9] at this
 rcases this with rfl|rfl|rfl|rfl|rfl|rfl|rfl|rfl|rfl<;>first|rfl|exact absurd rfl h7
structure PwOk (o:Option Wm) (k:Nat):Prop where
 ok : ∀ M,o=some M→WI M∧EvW M∧M.l.length≤k
theorem Zoz : ∀ (k:Nat) {M:Wm},WI M→EvW M→EvW (Us k M).1
 | 0,M,_,h=>h
 | k+1,M,hI,h=>by
  have h1:=(Qg hI 0).wi
  have h2:=Zfa hI h 0
  rw [Zhc]
  split
  ·exact Zoz k h1 h2
  ·exact h2
theorem cmdW_ev {M:Wm} (hI:WI M) (h:EvW M) (k:Nat) (n:List Int):EvW (Wl k M n).1:=by
 have hl : ∀ a b c,EvW (U1 M a b c).1:=fun a b c=>by
  unfold U1
  split
  ·exact h
  ·exact ⟨h.pw,h.rg,h.dn⟩
 unfold Wl
 split
 ·unfold Vg
  split
  ·exact h
  rename_i hb
  split
  ·exact h
  split
  ·exact h
  exact h.lead (by omega) (by omega) _ _
 ·unfold W7
  split
  ·exact h
  split
  ·exact h
  rename_i hu
  obtain ⟨h0,h1,-⟩:=Uq hu
  exact h.set h0 h1 (by unfold Za0;split<;>rfl)
 ·exact ev_tick hI h _
 ·exact Zfa hI h _
 ·unfold Q9
  split
  ·exact h
  ·exact h.setL _
 ·unfold Uh
  split
  ·exact h
  ·exact h.setL _
 ·exact hl _ _ _
 ·exact hl _ _ _
 ·unfold Ze6
  split
  ·exact h
  split
  ·exact h
  rename_i hu
  obtain ⟨h0,h1,-⟩:=Uq hu
  exact h.set h0 h1 rfl
 ·unfold Q8
  split
  ·exact h
  rename_i hu
  obtain ⟨h0,h1,-⟩:=Uq hu
  exact h.set h0 h1 rfl
 ·unfold Zst
  split
  ·exact h
  split
  ·exact h
  rename_i hu _
  obtain ⟨h0,h1⟩:=Yp hu
  exact h.note hI h0 h1 rfl rfl
theorem doW_ok {M:Wm} (hI:WI M) (h:EvW M) (k:Nat) (n:List Int) (h0:n.getD 1 0≤9223372036854775807):StepOk M (Zko k M n).2.2 252000∧EvW (Zko k M n).2.2:=by
 have hr:StepOk M M 252000 := .refl hI _
 unfold Zko
 split
 ·exact ⟨(cmdW_ok hI k n h0).mono (by omega),cmdW_ev hI h k n⟩
 ·split
  ·exact ⟨(Zik 3000 hI).1.mono (by omega),Zoz 3000 hI h⟩
  all_goals exact ⟨hr,h⟩
theorem getD_le {n:List Int} {i:Nat} (h : ∀ x∈n,0≤x∧x≤99999):n.getD i 0≤9223372036854775807:=by
 rw [List.getD_eq_getElem?_getD]
 cases hg:n[i]? with
 | none=>simp
 | some x =>
  have:=(h x (List.mem_of_getElem? hg)).2
  simp only [Option.getD_some]
  omega
theorem rd_small {f:List UInt8} {r:List (List UInt8)} {n:List Int} (h:Vf f r=some n) : ∀ x∈n,0≤x∧x≤99999:=by
 unfold Vf at h
 split at h
 ·rename_i he
  exact (U4 he h).2
 ·cases h
theorem lineW_ok {o:Option Wm} {k:Nat} (h:PwOk o k) (s:List UInt8):PwOk (U0 o s).2.2 (k+252000):=by
 have hk:PwOk o (k+252000):=⟨fun M hM=>by obtain ⟨a,b,c⟩:=h.ok M hM;exact ⟨a,b,by omega⟩⟩
 unfold U0 Zar
 split
 ·split
  ·exact hk
  ·rename_i n hn
   split
   ·rename_i hc
    exact ⟨fun M hM=>by cases hM;exact ⟨new_ok hc,ev_new n,by show ([]:List Fr).length≤_;simp⟩⟩
   ·exact hk
 ·split
  ·exact hk
  ·split
   ·exact hk
   ·rename_i n hn
    split
    ·exact ⟨fun M hM=>by cases hM⟩
    ·rename_i M
     obtain ⟨a,b,c⟩:=h.ok M rfl
     obtain ⟨h1,h2⟩:=doW_ok a b _ n (getD_le (rd_small hn))
     exact ⟨fun M' hM=>by cases hM;exact ⟨h1.wi,h2,by have:=h1.len;omega⟩⟩
set_option maxHeartbeats 2000000 attribute [local irreducible] HW HO HQ HD HC QOp Has Upd Zo Gets Ye Z6 Zq X0 Z5 Zj X7 Zw
theorem fv_code {T:Nat} {E:Nat→Addr} {v:Value} {code at_:Int} {c:List Zm} (h:FV T E v code at_ c):code=0∨(1≤code∧List.elem code.toNat all9=true):=by
 have key : ∀ k:Nat,List.elem k all9=true→1≤(k:Int):=fun k hk=>by
  have:=List.elem_iff.1 hk
  simp [all9] at this
  omega
 rcases h with ⟨e,he,-,rfl,-⟩|⟨pb,k,hk,-,rfl,-⟩
 ·cases e with
  | none=>exact .inl rfl
  | some k=>exact .inr ⟨key k he,by simpa [Zqu,okE] using he⟩
 ·exact .inr ⟨key k hk,by simpa using hk⟩
theorem Zl9 (T:Nat) (E:Nat→Addr) (v:Value) (code at_:Int) (c:List Zm) (L:Zb) (hE:Es T E L) (h:FV T E v code at_ c) (h1:1≤code):HC Tryz.prog 116 [v] (c::L) (fun u L'=>u=eV T E (some code.toNat)∧L'=c::L):=by
 have hT:=hE.ty
 rcases h with ⟨e,he,rfl,rfl,-,rfl⟩|⟨pb,k,hk,rfl,rfl,rfl⟩
 ·cases e with
  | none=>simp [Zqu] at h1
  | some g =>
   have hA:=fun t L hg=>Zgz (E g) t L hg
   have hgl:=hE.et
   subst hT
   show HC _ _ [.iface 394 (.pointer (some (E g)))] _ (fun u L'=>u = .iface 394 (.pointer (some (E (((g:Nat):Int)).toNat)))∧_)
   rw [Int.toNat_natCast]
   refine Za (fun _ _=>Tryz.call116 _ _) Tryz.func116 rfl Tryz.ntmps116 (Nat.le_of_ble_eq_true rfl) ?_;simp only [Ze,Nat.reduceAdd]
   repeat' (first|refine uN ?_|(refine uB ?_;intro b)|(refine uP ?_ ?_<;>(intro h;((try simp only [zs,zq,reduceCtorEq] at h);try exact zx)))|fail)
   refine gc (hA _ _ hgl.cons.cons) ?_
   rintro v L' ⟨rfl,rfl⟩
   repeat' (first|refine uN ?_|(refine uB ?_;intro b)|(refine uP ?_ ?_<;>(intro h;((try simp only [zs,zq,reduceCtorEq] at h);try exact zx)))|fail)
   exact Xn (L':=[]::L) uL ⟨rfl,rfl⟩
 ·have hA:=fun b t old L hg=>Zil ⟨pb,0,none⟩ b t old L hg
  have hgl:=hE.et
  rw [Int.toNat_natCast]
  unfold faC
  refine Za (fun _ _=>Tryz.call116 _ _) Tryz.func116 rfl Tryz.ntmps116 (Nat.le_of_ble_eq_true rfl) ?_;simp only [Ze,Nat.reduceAdd]
  repeat' (first|refine uN ?_|(refine uB ?_;intro b)|(refine uP ?_ ?_<;>(intro h;((try simp only [zs,zq,reduceCtorEq] at h);try exact zx)))|fail)
  refine gc (hA _ _ _ _ hgl.cons) ?_
  rintro v L' ⟨rfl,rfl⟩
  repeat' (first|refine uN ?_|(refine uB ?_;intro b)|(refine uP ?_ ?_<;>(intro h;((try simp only [zs,zq,reduceCtorEq] at h);try exact zx)))|fail)
  exact Xn (L':=[(pb,.cells ⟨[iv at_,eV T E (some k)]⟩ 160)]::L) (LS.c (LS.refl _)) ⟨rfl,rfl⟩
theorem mErr (a:Addr) (w:World):(callMethod (.iface 394 (.pointer (some a))) "Error" #[]).run Tryz.prog w = .ok (.enter 378 #[.pointer (some a)]) w:=by
 have h:(Go.method 534 394 (.pointer (some a)) "Error").run Tryz.prog w = .ok (378,.pointer (some a)) w:=by kernel_rfl
 have hs:(Tryz.prog.types.size+Made.depth)=534:=by kernel_rfl
 unfold callMethod
 simp only [Sem.run_bind,run_program,Result.andThen,hs,h]
 exact Tryz.call378 _ _
theorem Zg0 (E:Nat→Addr) (c:Nat) (L:Zb) (hX:Et E L) (hc:List.elem c all8=true):HC Tryz.prog 378 [.pointer (some (E c))] L (fun v L'=>v=bs (Zam c)∧L'=L):=by
 obtain ⟨b,i,l,t,fr,he,hb,hl⟩:=hX c hc
 rw [he]
 have hl0:l[i+0]? = some (bs (Zam c)):=hl
 refine Za (fun _ _=>Tryz.call378 _ _) Tryz.func378 rfl Tryz.ntmps378 (Nat.le_of_ble_eq_true rfl) ?_;simp only [Ze,Nat.reduceAdd]
 repeat' (first|refine uN ?_)
 exact Uu rfl ⟨rfl,rfl⟩
theorem Zlz (T:Nat) (E:Nat→Addr) (G:WdG) (o:Option Wm) (p:Nat) (s:List UInt8) (L:Zb) (hE:Es T E L) (hS:Sz L) (hW : ∀ M,o=some M→WdOk G M) (hP:PwOk o 99000000) (hs:s.length≤1000000) :
  HC Tryz.prog 115 [pt p 0,bs s] (Zbb G o::Zi p (Zba G o)::L) (PlayQ T E p L (U0 o s)):=by
 obtain ⟨w,r,hw⟩:=Zot s
 unfold U0
 rw [hw]
 by_cases h:w=Xm
 ·subst h
  exact Zl0 T E G o p s r L hE hS hW hs hw
 ·exact Zly T E G o p s w r L hE hS (fun M hM=>⟨hW M hM,hP.ok M hM⟩) hs hw h
theorem fv_iface {T:Nat} {E:Nat→Addr} {v:Value} {code at_:Int} {c:List Zm} (h:FV T E v code at_ c) (h1:1≤code) : ∃ t a,v = .iface t (.pointer (some a)):=by
 rcases h with ⟨e,he,rfl,rfl,-⟩|⟨pb,k,hk,rfl,rfl,-⟩
 ·cases e with
  | none=>simp [Zqu] at h1
  | some g=>exact ⟨_,_,rfl⟩
 ·exact ⟨_,_,rfl⟩
theorem Zo7 : ∀ (l:List (List UInt8)) {o:Option Wm} {k:Nat},PwOk o k→PwOk (Zaa o l) (k+252000*l.length)
 | [],o,k,h=>h
 | s::l,o,k,h=>by
  have h2:=Zo7 l (lineW_ok h s)
  rw [List.length_cons,Nat.mul_add,Nat.mul_one,Nat.add_comm (252000*l.length),← Nat.add_assoc]
  exact h2
theorem Zr8 {o:Option Wm} {l:List (List UInt8)} {i:Nat} (h:i<l.length):U5 o (l.take (i+1))=U5 o (l.take i)++[(Zcw (Zaa o (l.take i)) l[i]).1]∧Zaa o (l.take (i+1))=(Zcw (Zaa o (l.take i)) l[i]).2:=by
 rw [V3 h,Zgc,Zkp]
 exact ⟨rfl,rfl⟩
def wd0:WdG:=⟨0,Wn,[],Wn,[],0,[],0,Wn,[],Wn,[],[]⟩
attribute [local irreducible] Xg U0 Zbb Zba Zi
set_option maxRecDepth 20000 in
theorem Zge (T:Nat) (E:Nat→Addr) (a:Option Addr) (cap:Nat) (l:List (List UInt8)) (L:Zb) (hE:Es T E L) (hS:Sz L) (hX:Et E L) (hR:Rd V1 1 L a l) (hcap:l.length≤cap) (hl:l.length≤1000) (hs : ∀ x∈l,x.length≤1000000) :
  HC Tryz.prog 60 [.slice a l.length cap] L (fun v L'=>if 100<l.length then v = .tuple ⟨[Wn,eV T E (some 2)]⟩∧L'=L else ∃ c u,v = .tuple ⟨[u,.nilIface]⟩∧Vec 9 1 V1 u (U5 none l) c∧L'=c::L):=by
 have hG:=hE.er [2]
 by_cases h100:100<l.length
 ·simp only [if_pos h100]
  refine Za (fun _ _=>Tryz.call60 _ _) Tryz.func60 rfl Tryz.ntmps60 (Nat.le_of_ble_eq_true rfl) ?_;simp only [Ze,Nat.reduceAdd]
  repeat' (first|refine uN ?_|refine Z0 S ?_|(refine uB ?_;intro b)|refine dg S 100 (fun _ _=>?_)|(refine uP ?_ ?_<;>(intro h;((try simp only [zs,zq,reduceCtorEq] at h);try exact zx)))|refine da 101 ?_|fail)
  all_goals first|(exfalso;omega)|exact Wz (LS.refl _) ⟨rfl,rfl⟩
 ·simp only [if_neg h100]
  refine Za (fun _ _=>Tryz.call60 _ _) Tryz.func60 rfl Tryz.ntmps60 (Nat.le_of_ble_eq_true rfl) ?_;simp only [Ze,Nat.reduceAdd]
  repeat' (first|refine uN ?_|refine Z0 S ?_|(refine uB ?_;intro b)|refine dg S 100 (fun _ _=>?_)|(refine uP ?_ ?_<;>(intro h;((try simp only [zs,zq,reduceCtorEq] at h);try exact zx)))|refine da 101 ?_|fail)
  obtain ⟨p,rfl⟩ : ∃ p,p=b:=⟨b,rfl⟩
  have hok:=fun i=>Zo7 (l.take i) (o:=none) (k:=0) ⟨fun M hM=>(by cases hM)⟩
  refine Zdx (L':=[]::Zbb wd0 none::Zi p (Zba wd0 none)::L) ?_ (by unfold Zbb Zba Zi;exact LS.refl _)
  refine Zz (σ:=Nat × Value × List Zm × WdG) (fun r=>[(4,pt p 0),(5,r.2.1),(16,.slice a l.length cap),(17,iv l.length),(18,iv r.1),(3,.nilIface)])
   (fun r=>r.2.2.1::Zbb r.2.2.2 (Zaa none (l.take r.1))::Zi p (Zba r.2.2.2 (Zaa none (l.take r.1)))::L)
   (fun r=>r.1≤l.length∧Vec 9 1 V1 r.2.1 (U5 none (l.take r.1)) r.2.2.1 ∧ ∀ M,Zaa none (l.take r.1)=some M→WdOk r.2.2.2 M) (fun r=>l.length-r.1) (0,Wn,[],wd0) uS (List.Sublist.refl _) ⟨by simp,Yg,fun M hM=>(by cases hM)⟩ ?_
  rintro ⟨i,u,c,G1⟩ ⟨hi,hu,hW1⟩
  simp only at hi hu hW1 ⊢
  obtain ⟨a5,cap5,rfl,hcap5,-⟩:=hu.rd Xo
  have hrl:=Zgd none (l.take i)
  rw [List.length_take] at hrl
  by_cases hit:i<l.length
  ·obtain ⟨b1,bi,q,F,fr,rfl,hb,hg⟩:=hR.at1 (j:=(i:Int)) (by omega) (by omega)
   have eg:l[(i:Int).toNat]'(by omega)=l[i]:=rfl
   rw [eg] at hg
   obtain ⟨t1,t2⟩:=Zr8 (o:=none) hit
   have hsi:=hs l[i] (List.getElem_mem _)
   have hPo:=hok i
   have k:=Zlz T E G1 (Zaa none (l.take i)) p l[i] (c::L) (hE.cons c) (hS.cons c) hW1 ⟨fun M hM=>by obtain ⟨x,y,z⟩:=hPo.ok M hM;rw [List.length_take] at z;exact ⟨x,y,by omega⟩⟩ hsi
   unfold Zcw at t1 t2
   simp only at t1 t2
   generalize hD:U5 none (l.take i)=ds at *
   generalize Zaa none (l.take i)=o at *
   generalize l[i]=x at *
   clear hok hPo hD
   repeat' (first|refine uN ?_|refine Z0 S ?_|(refine uB ?_;intro b)|refine dg S 100 (fun _ _=>?_)|(refine uP ?_ ?_<;>(intro h;((try simp only [zs,zq,reduceCtorEq] at h);try exact zx)))|refine da 101 ?_|fail)
   refine Zcf (L':=Zbb G1 o::Zi p (Zba G1 o)::c::L) ?_ uL
   refine gc k ?_
   rintro v L' ⟨c2,fv,at_,G2,rfl,hf,hW2,rfl⟩
   have hcd:=fv_code hf
   have h7:=Zrm o x
   generalize U0 o x=R at *
   obtain ⟨txt,code,o2⟩:=R
   simp only at hf hW2 hcd h7 t1 t2
   by_cases h0:code=0
   ·subst h0
    obtain ⟨rfl,rfl⟩:=hf.zero
    simp only [if_pos] at t1
    repeat' (first|refine uN ?_|refine Z0 S ?_|(refine uB ?_;intro b)|refine dg S 100 (fun _ _=>?_)|(refine uP ?_ ?_<;>(intro h;((try simp only [zs,zq,reduceCtorEq] at h);try exact zx)))|refine da 101 ?_|fail)
    refine fo 4 ?_
    refine wp1 S txt hu Xo Za1 ?_
    intro v' c' hv'
    repeat' (first|refine uN ?_|refine Z0 S ?_|(refine uB ?_;intro b)|refine dg S 100 (fun _ _=>?_)|(refine uP ?_ ?_<;>(intro h;((try simp only [zs,zq,reduceCtorEq] at h);try exact zx)))|refine da 101 ?_|fail)
    refine Zy (i+1,v',c',G2) uS ?_ ⟨hit,by simp only [t1];exact hv',by simp only [t2];exact hW2⟩ (by simp only;omega)
    simp only [t2]
    exact uL
   ·have h1:1≤code∧List.elem code.toNat all8=true:=by
     rcases hcd with h|h
     ·exact absurd h h0
     ·exact ⟨h.1,elem8 h.2 (by omega)⟩
    rw [if_neg h0] at t1
    obtain ⟨tf,af,rfl⟩:=fv_iface hf h1.1
    have hT:=hE.ty
    have kb:=fun L hE=>Zl9 T E _ code at_ c2 L hE hf h1.1
    repeat' (first|refine uN ?_|refine Z0 S ?_|(refine uB ?_;intro b)|refine dg S 100 (fun _ _=>?_)|(refine uP ?_ ?_<;>(intro h;((try simp only [zs,zq,reduceCtorEq] at h);try exact zx)))|refine da 101 ?_|fail)
    refine gc (kb _ ?_) ?_
    ·exact (((hE.cons _).cons _).cons _)
    rintro v L' ⟨rfl,rfl⟩
    subst hT
    repeat' (first|refine uN ?_|refine Z0 S ?_|(refine uB ?_;intro b)|refine dg S 100 (fun _ _=>?_)|(refine uP ?_ ?_<;>(intro h;((try simp only [zs,zq,reduceCtorEq] at h);try exact zx)))|refine da 101 ?_|fail)
    refine gi (mErr (E code.toNat)) (Zg0 E code.toNat _ ?_ h1.2) ?_
    ·exact ((((hX.cons _).cons _).cons _).cons _)
    rintro v L' ⟨rfl,rfl⟩
    repeat' (first|refine uN ?_|refine Z0 S ?_|(refine uB ?_;intro b)|refine dg S 100 (fun _ _=>?_)|(refine uP ?_ ?_<;>(intro h;((try simp only [zs,zq,reduceCtorEq] at h);try exact zx)))|refine da 101 ?_|fail)
    refine fo 4 ?_
    refine wp1 S (Zam code.toNat) hu Xo Za1 ?_
    intro v' c' hv'
    repeat' (first|refine uN ?_|refine Z0 S ?_|(refine uB ?_;intro b)|refine dg S 100 (fun _ _=>?_)|(refine uP ?_ ?_<;>(intro h;((try simp only [zs,zq,reduceCtorEq] at h);try exact zx)))|refine da 101 ?_|fail)
    refine Zy (i+1,v',c',G2) uS ?_ ⟨hit,by simp only [t1];exact hv',by simp only [t2];exact hW2⟩ (by simp only;omega)
    simp only [t2]
    exact uL
  ·obtain rfl:i=l.length:=by omega
   rw [List.take_length] at *
   repeat' (first|refine uN ?_|refine Z0 S ?_|(refine uB ?_;intro b)|refine dg S 100 (fun _ _=>?_)|(refine uP ?_ ?_<;>(intro h;((try simp only [zs,zq,reduceCtorEq] at h);try exact zx)))|refine da 101 ?_|fail)
   exact Wz (L':=c::L) uL ⟨c,_,rfl,hu,rfl⟩
end Go.HL
end
