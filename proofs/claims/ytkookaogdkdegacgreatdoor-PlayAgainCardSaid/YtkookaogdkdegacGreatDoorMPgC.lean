/- Texts laid into one, without what the claim does not use. Conditions: none. -/
import Derived.Test.YtkookaogdkdegacGreatDoorMPgB
import Derived.MapKept
import Derived.WideKeyRuns
import Derived.Carry
import Derived.ProofKit
import Derived.OpenShut
import Derived.Deep.Slices
import Derived.Deep.Strs
import Derived.JoinedCond
import Derived.Deep.DeepHandedRow
import Derived.Stop.LaidErr
import Derived.LaidLaws
import Derived.Lay
import Derived.MakeChecks
import Derived.LaidHandle
import Derived.ChangeMaps5
import Derived.LaidEql
import Derived.Stop.Asserts
import Derived.RowKitTokens
import Derived.Leaving
import Derived.Conc.Holds
import Derived.SevenTiedAt
import Derived.Lib.Overlaps
import Derived.DeepKeys3
set_option linter.unusedVariables false
set_option linter.unusedSimpArgs false
/-! HLMap -/
section
namespace Go.HL
open Go
set_option linter.unusedSectionVars false
def Qx {α:Type} (key:α→Value) (es:List MapEntry) (l:List (α × Bool)):Prop:=es.map (fun e=>(e.key,e.val))=l.map fun p=>(key p.1,Value.bool p.2)
def Ws {α:Type} [DecidableEq α] (a:α):List (α × Bool)→Nat→Option (Nat × Value)
 | [],_=>none
 | (x,b)::r,i=>if a=x then some (i,.bool b) else Ws a r (i+1)
def W2 {α:Type} [DecidableEq α] (a:α):List (α × Bool)→Bool
 | []=>false
 | (x,b)::r=>if a=x then b else W2 a r
structure KeyOk {α:Type} [DecidableEq α] (P:Program) (kt:TypeId) (key:α→Value):Prop where
 chk : ∀ (em:Bool) (w:World) (a:α),(Instr.checkKey em 10000 kt (key a)).run P w = .ok () w
 find : ∀ (w:World) (a:α) (es:List MapEntry) (l:List (α × Bool)),Qx key es l→(Instr.findKey kt (key a) es).run P w = .ok (Ws a l 0) w
 stay : ∀ (w:World) (a:α),(Instr.keyThatStays (key a) (key a)).run P w = .ok (key a) w
def Z5 {α:Type} [DecidableEq α] (key:α→Value) (es:List MapEntry) (f:α→Bool):Prop := ∃ l:List (α × Bool),Qx key es l ∧ ∀ a,f a=W2 a l
theorem Zdu {α:Type} [DecidableEq α] {key:α→Value}:Z5 key [] (fun _=>false):=⟨[],rfl,fun _=>rfl⟩
section k
variable {α:Type} [DecidableEq α]
theorem Uk {a:α} : ∀ {l:List (α × Bool)} {i j:Nat} {v:Value},Ws a l i=some (j,v)→i≤j ∧ ∃ b,v = .bool b∧l[j-i]? = some (a,b)∧W2 a l=b
 | [],i,j,v,h=>by simp [Ws] at h
 | (x,b)::r,i,j,v,h=>by
  simp only [Ws] at h
  split at h
  ·rename_i he
   subst he
   cases h
   exact ⟨Nat.le_refl _,b,rfl,by simp,by simp [W2]⟩
  ·rename_i he
   obtain ⟨h1,b',h2,h3,h4⟩:=Uk h
   refine ⟨by omega,b',h2,?_,by simp [W2,he,h4]⟩
   rw [show j-i=(j-(i+1))+1 by omega]
   simpa using h3
theorem Zae {a:α} : ∀ {l:List (α × Bool)} {i:Nat},Ws a l i=none→W2 a l=false ∧ ∀ p∈l,p.1≠a
 | [],i,h=>⟨rfl,by simp⟩
 | (x,b)::r,i,h=>by
  simp only [Ws] at h
  split at h
  ·cases h
  ·rename_i he
   obtain ⟨h1,h2⟩:=Zae h
   refine ⟨by simp [W2,he,h1],fun p hp=>?_⟩
   rcases List.mem_cons.1 hp with rfl|hp
   ·exact fun e=>he e.symm
   ·exact h2 p hp
theorem Zm7 {a:α} {b0 b:Bool} : ∀ {l:List (α × Bool)} {j:Nat},Ws a l 0=some (j,.bool b0) → ∀ x,W2 x (l.set j (a,b))=if x=a then b else W2 x l:=by
 have key : ∀ (l:List (α × Bool)) (i j:Nat),Ws a l i=some (j,.bool b0) → ∀ x,W2 x (l.set (j-i) (a,b))=if x=a then b else W2 x l:=by
  intro l
  induction l with
  | nil=>intro i j h;simp [Ws] at h
  | cons p r ih =>
   intro i j h x
   obtain ⟨y,c⟩:=p
   simp only [Ws] at h
   split at h
   ·rename_i he
    subst he
    cases h
    simp only [Nat.sub_self,List.set_cons_zero,W2]
    split<;>simp_all
   ·rename_i he
    have h1:=(Uk h).1
    have:=ih (i+1) j h x
    rw [show j-i=(j-(i+1))+1 by omega,List.set_cons_succ]
    simp only [W2]
    rw [this]
    by_cases hxy:x=y
    ·subst hxy
     simp [Ne.symm he]
    ·simp [hxy]
 intro l j h
 exact key l 0 j h
theorem Zdq {a:α} {b:Bool} : ∀ {l:List (α × Bool)},(∀ p∈l,p.1≠a) → ∀ x,W2 x (l++[(a,b)])=if x=a then b else W2 x l
 | [],_,x=>by simp [W2]
 | (y,c)::r,h,x=>by
  have h1:y≠a:=h (y,c) (List.mem_cons_self)
  have ih:=Zdq (b:=b) (fun p hp=>h p (List.mem_cons_of_mem _ hp)) x
  simp only [List.cons_append,W2,ih]
  by_cases hxy:x=y
  ·subst hxy
   simp [h1]
  ·simp [hxy]
theorem ents_set {key:α→Value} {es:List MapEntry} {l:List (α × Bool)} (h:Qx key es l) {a:α} {b:Bool} {i:Nat} (hi:i<es.length):Qx key (es.modify i fun e=>{ e with key:=key a,val := .bool b }) (l.set i (a,b)):=by
 unfold Qx at *
 apply List.ext_getElem?
 intro k
 have hk:=congrArg (fun z=>z[k]?) h
 simp only [List.getElem?_map] at hk
 simp only [List.getElem?_map,List.getElem?_modify,List.getElem?_set]
 by_cases e:i=k
 ·subst e
  have hl:i<l.length:=by
   have:=congrArg List.length h
   simp at this
   omega
  simp [hi,hl]
 ·simp only [if_neg e]
  cases hes:es[k]? <;> simp_all
theorem Zmq {key:α→Value} {es:List MapEntry} {l:List (α × Bool)} (h:Qx key es l) {a:α} {b:Bool} {n:Nat}:Qx key (es++[{ key:=key a,val := .bool b,born:=n }]) (l++[(a,b)]):=by
 unfold Qx at *
 simp [h]
end k
section r
variable {α:Type} [DecidableEq α] {P:Program} (S:Tab P) {n:Nat} {ops:List Oper} {Q:Exit→Zn→Zb→Prop} {rest:List Oper} {ρ:Zn} {L:Zb} {ty:TypeId} {pos:String} {af:Array Edge}
theorem q_mapB {d:Option Tmp} {g:Option (Nat × Bool)} {t kt et s0 b0 r:Nat} {key:α→Value} {x y:Operand} {es:List MapEntry} {ck:Nat} {f:α→Bool} {a:α} (hK:KeyOk P kt key) (hx:ev ρ x=some (.map (some r))) (hy:ev ρ y=some (key a))
  (ht:Zr S.ty t=some ⟨8,kt,et,s0,b0⟩) (hz:Zr S.zr et=some (.bool false)) (hb:Has L r (.map ⟨es⟩ ck)) (hF:Z5 key es f):QOp P ⟨d,.lookup t x y false,ty,pos,af,g⟩ ρ L (.bool (f a)):=
 Z6 fun ρe he k w hs=>by
  obtain ⟨l,hE,hf⟩:=hF
  have hm:=ty_map (S.tyI ht) rfl
  have hzero:=Vq (S.zeroI hz) w
  have hh:=MapKept.run_getObj_map (P:=P) (hs.heap hb)
  have hfind:=hK.find w a es l hE
  have hl:(Instr.lookup t (.map (some r)) (key a) false).run P w = .ok (.bool (f a)) w:=by
   unfold Instr.lookup
   simp only [Sem.run_bind,run_underlying hm,Result.andThen_ok,hh,Sem.run_pure,hK.chk,hfind]
   rw [hf a]
   cases hfb:Ws a l 0 with
   | none=>simp [hzero,(Zae hfb).1]
   | some q =>
    obtain ⟨j,v⟩:=q
    obtain ⟨-,b,rfl,-,e⟩:=Uk hfb
    simp [e]
  simp only [execOp,he x (by simp [Op.operands]) _ hx,he y (by simp [Op.operands]) _ hy,Sem.run_bind,hl,Result.andThen_ok,Sem.run_pure]
theorem wMk {d t:Nat} (h : ∀ b,HO P n ops Q rest ((d,.map (some b))::ρ) ([(b,.map #[] 0)]::L)) (h00:Xa ρ=true:=by exact rfl) (hn:Nat.blt d n=true:=by exact rfl):HO P n ops Q (⟨some d,.makeMap t none,ty,pos,af,none⟩::rest) ρ L:=
 Ww rfl rfl hn fun ρe he k w hs=>⟨.map (some w.heap.size),w.alloc (.map #[] 0),_,by simp [execOp,RowKit.run_makeMap],hs.new _,h _⟩
theorem o_mapB {t kt et s0 b0 r ck:Nat} {key:α→Value} {x y z:Operand} {es:List MapEntry} {f:α→Bool} {a:α} {b:Bool} (hK:KeyOk P kt key) (hx:ev ρ x=some (.map (some r))) (hy:ev ρ y=some (key a)) (hzz:ev ρ z=some (.bool b))
  (ht:Zr S.ty t=some ⟨8,kt,et,s0,b0⟩) (hF:Z5 key es f) (h : ∀ es' ck',Z5 key es' (fun x=>if x=a then b else f x)→HO P n ops Q rest ρ ([(r,.map ⟨es'⟩ ck')]::L)) :
  HO P n ops Q (⟨none,.mapUpdate t x y z,ty,pos,af,none⟩::rest) ρ ([(r,.map ⟨es⟩ ck)]::L):=by
 refine ho_do rfl rfl fun ρe he k w hs=>?_
 obtain ⟨l,hE,hf⟩:=hF
 have hm:=ty_map (S.tyI ht) rfl
 have hb0:w.heap[r]? = some (.map ⟨es⟩ ck):=hs.heap Zj
 have hh:=MapKept.run_getObj_map (P:=P) hb0
 have hfind:=hK.find w a es l hE
 have fin : ∀ (es':List MapEntry) (ck':Nat),Sat k { w with heap:=w.heap.setIfInBounds r (.map ⟨es'⟩ ck') } ([(r,.map ⟨es'⟩ ck')]::L):=fun es' ck'=>by
  have hs2:=MapKept.heap_set (o' := .map ⟨es'⟩ ck') hb0
  exact hs.upd Xw rfl rfl rfl hs2.1 (fun j hj=>hs2.2 j hj)
 have e1:=he x (by simp [Op.operands]) _ hx
 have e2:=he y (by simp [Op.operands]) _ hy
 have e3:=he z (by simp [Op.operands]) _ hzz
 cases hfb:Ws a l 0 with
 | none =>
  obtain ⟨h1,h2⟩:=Zae hfb
  rw [hfb] at hfind
  refine ⟨_,_,.inl ?_,fin (es++[{ key:=key a,val := .bool b,born:=ck }]) (ck+1),h _ _ ⟨l++[(a,b)],Zmq hE,fun x=>?_⟩⟩
  ·have hr:(Instr.mapUpdate t (.map (some r)) (key a) (.bool b)).run P w = .ok () { w with heap:=w.heap.setIfInBounds r (.map ⟨es++[{ key:=key a,val := .bool b,born:=ck }]⟩ (ck+1)) }:=by
    unfold Instr.mapUpdate
    simp only [Sem.run_bind,run_underlying hm,Result.andThen_ok,hh,hK.chk,hfind,MapKept.run_setObj_map _ hb0]
    simp
   simp [execOp,e1,e2,e3,hr]
  ·show (if x=a then b else f x)=_
   rw [Zdq h2,hf]
 | some q =>
  obtain ⟨j,v⟩:=q
  obtain ⟨-,b',rfl,hj,hb'⟩:=Uk hfb
  rw [hfb] at hfind
  have hlen:es.length=l.length:=by have:=congrArg List.length hE;simpa using this
  have hjl:j<es.length:=by rw [hlen];exact (List.getElem?_eq_some_iff.1 (by simpa using hj)).1
  have hkey:(es[j]).key=key a:=by
   have h9:=congrArg (fun z=>z[j]?) hE
   simp only [List.getElem?_map,Nat.sub_zero] at h9 hj
   rw [hj,List.getElem?_eq_getElem hjl] at h9
   simp at h9
   exact h9.1
  refine ⟨_,_,.inl ?_,fin (es.modify j fun e=>{ e with key:=key a,val := .bool b }) ck,h _ _ ⟨l.set j (a,b),ents_set hE hjl,fun x=>?_⟩⟩
  ·have hr:(Instr.mapUpdate t (.map (some r)) (key a) (.bool b)).run P w = .ok () { w with heap:=w.heap.setIfInBounds r (.map ⟨es.modify j fun e=>{ e with key:=key a,val := .bool b }⟩ ck) }:=by
    unfold Instr.mapUpdate
    have e9:((((Array.mk es)[j]?).map (·.key)).getD (key a))=key a:=by simp [hjl,hkey]
    simp only [Sem.run_bind,run_underlying hm,Result.andThen_ok,hh,hK.chk,hfind,e9,hK.stay,MapKept.run_setObj_map _ hb0]
    simp
   simp [execOp,e1,e2,e3,hr]
  ·show (if x=a then b else f x)=_
   rw [Zm7 hfb,hf]
theorem Zfr {kt s0 b0:Nat} (hk:Zr S.ty kt=some ⟨2,3,0,s0,b0⟩):KeyOk (α:=Int) P kt iv:=by
 have hd:P.underlying kt=some (.int .i64):=Zbt (S.tyI hk) rfl
 have hI : ∀ a:Int,MapKept.IsKey (.int .i64) (iv a):=fun a=>by simp [MapKept.IsKey]
 refine ⟨fun em w a=>MapKept.run_checkKey hd (hI a) em 9999,fun w a es l hE=>?_,fun w a=>MapKept.run_keyThatStays (hI a)⟩
 refine MapKept.run_findKey hd ?_
 have key : ∀ (es:List MapEntry) (l:List (Int × Bool)) (i:Nat),Qx iv es l→Instr.findNow (.int .i64) (iv a) es i=some (Ws a l i):=by
  intro es
  induction es with
  | nil =>
   intro l i h
   cases l with
   | nil=>rfl
   | cons p r=>simp [Qx] at h
  | cons e es ih =>
   intro l i h
   cases l with
   | nil=>simp [Qx] at h
   | cons p r =>
    obtain ⟨x,b⟩:=p
    simp only [Qx,List.map_cons,List.cons.injEq,Prod.mk.injEq] at h
    obtain ⟨⟨h1,h2⟩,h3⟩:=h
    simp only [Instr.findNow,h1,Instr.sameNow,if_true,Ws]
    by_cases hax:a=x
    ·subst hax;simp [h2]
    ·have:(a == x)=false:=by simp [hax]
     simp [this,hax,ih r (i+1) h3]
 exact key es l 0 hE
theorem qmI {d:Option Tmp} {g:Option (Nat × Bool)} {t kt et s0 b0 s1 b1 r:Nat} {x y:Operand} {es:List MapEntry} {ck:Nat} {f:Int→Bool} {a:Int} (h00:Xa ρ=true:=by exact rfl) (hx:ev ρ x=some (.map (some r)):=by exact rfl) (hy:ev ρ y=some (iv a):=by exact rfl)
  (ht:Zr S.ty t=some ⟨8,kt,et,s0,b0⟩:=by exact rfl) (hk:Zr S.ty kt=some ⟨2,3,0,s1,b1⟩:=by exact rfl) (hz:Zr S.zr et=some (.bool false):=by exact rfl) (hb:Has L r (.map ⟨es⟩ ck):=by (repeat (first|assumption|exact Zj|exact Yw (by assumption)|apply X4|apply Ze))) (hF:Z5 iv es f:=by assumption) :
  QOp P ⟨d,.lookup t x y false,ty,pos,af,g⟩ ρ L (.bool (f a)):=q_mapB S (Zfr S hk) hx hy ht hz hb hF
theorem wmI {t kt et s0 b0 s1 b1 r ck:Nat} {x y z:Operand} {es:List MapEntry} {f:Int→Bool} {a:Int} {b:Bool} (hF:Z5 iv es f) (h : ∀ es' ck',Z5 iv es' (fun x=>if x=a then b else f x)→HO P n ops Q rest ρ ([(r,.map ⟨es'⟩ ck')]::L)) (h00:Xa ρ=true:=by exact rfl) (hx:ev ρ x=some (.map (some r)):=by exact rfl) (hy:ev ρ y=some (iv a):=by exact rfl) (hzz:ev ρ z=some (.bool b):=by exact rfl)
  (ht:Zr S.ty t=some ⟨8,kt,et,s0,b0⟩:=by exact rfl) (hk:Zr S.ty kt=some ⟨2,3,0,s1,b1⟩:=by exact rfl) :
  HO P n ops Q (⟨none,.mapUpdate t x y z,ty,pos,af,none⟩::rest) ρ ([(r,.map ⟨es⟩ ck)]::L):=o_mapB S (Zfr S hk) hx hy hzz ht hF h
end r
/-! ### a loop of so many rounds; a call within a region that draws its order -/
def Wq (P:Program) (n:Nat) (c:Code) (Q:Exit→Zn→Zb→Prop):Nat→Exit→Zn→Zb→Prop
 | 0,.normal,ρ,L=>False
 | k+1,.normal,ρ,L=>HW P n c (Wq P n c Q k) ρ L
 | _,e,ρ,L=>Q e ρ L
theorem unQ_succ {P:Program} {n k:Nat} {c:Code} {Q:Exit→Zn→Zb→Prop} {ρ:Zn} {L:Zb} (h:HW P n c (Wq P n c Q k) ρ L):Wq P n c Q (k+1) .normal ρ L:=h
theorem unQ_ret {P:Program} {n k:Nat} {c:Code} {Q:Exit→Zn→Zb→Prop} {ρ:Zn} {L:Zb} (h:Q .ret ρ L):Wq P n c Q k .ret ρ L:=by cases k<;>exact h
theorem unQ_exit {P:Program} {n k i:Nat} {c:Code} {Q:Exit→Zn→Zb→Prop} {ρ:Zn} {L:Zb} (h:Q (.exit i) ρ L):Wq P n c Q k (.exit i) ρ L:=by cases k<;>exact h
theorem Zm2 {P:Program} {n:Nat} {c:Code} {Q:Exit→Zn→Zb→Prop} {ρ:Zn} {L:Zb} (m:Nat) (h:HW P n c (Wq P n c Q m) ρ L):HW P n (.loop c) Q ρ L:=by
 intro k w a hs ha b kk cs
 have key : ∀ m ρ L,HW P n c (Wq P n c Q m) ρ L → ∀ a w,Sat k w L→Agr n a ρ →
   ∃ e a' w',post k n Q e a' w'∧Arrives P (lone (b.at a (.code c :: .inLoop c::kk)) cs w) b kk cs e a' w':=by
  intro m
  induction m with
  | zero =>
   intro ρ L h a w hs ha
   obtain ⟨e,a₁,w₁,⟨ρ₁,L₁,ha₁,hs₁,hq⟩,harr⟩:=h k w a hs ha b (.inLoop c::kk) cs
   cases e with
   | normal=>exact hq.elim
   | exit id=>exact ⟨_,a₁,w₁,⟨ρ₁,L₁,ha₁,hs₁,hq⟩,.pass (x := .inLoop c) rfl (fun _ _ => .inl (by simp)) harr⟩
   | goto l=>exact ⟨_,a₁,w₁,⟨ρ₁,L₁,ha₁,hs₁,hq⟩,.pass (x := .inLoop c) rfl (fun _ _ => .inl (by simp)) harr⟩
   | ret=>exact ⟨_,a₁,w₁,⟨ρ₁,L₁,ha₁,hs₁,hq⟩,.pass (x := .inLoop c) rfl (fun _ _ => .inl (by simp)) harr⟩
   | panic ch=>exact ⟨_,a₁,w₁,⟨ρ₁,L₁,ha₁,hs₁,hq⟩,.pass (x := .inLoop c) rfl (fun _ _ => .inl (by simp)) harr⟩
   | outgrown=>exact ⟨_,a₁,w₁,⟨ρ₁,L₁,ha₁,hs₁,hq⟩,.pass (x := .inLoop c) rfl (fun _ _ => .inl (by simp)) harr⟩
  | succ m ih =>
   intro ρ L h a w hs ha
   obtain ⟨e,a₁,w₁,⟨ρ₁,L₁,ha₁,hs₁,hq⟩,harr⟩:=h k w a hs ha b (.inLoop c::kk) cs
   cases e with
   | normal =>
    obtain ⟨e₂,a₂,w₂,hq₂,harr₂⟩:=ih ρ₁ L₁ hq a₁ w₁ hs₁ ha₁
    exact ⟨e₂,a₂,w₂,hq₂,.of_steps (Steps.trans harr (.one step_inLoop)) harr₂⟩
   | exit id=>exact ⟨_,a₁,w₁,⟨ρ₁,L₁,ha₁,hs₁,hq⟩,.pass (x := .inLoop c) rfl (fun _ _ => .inl (by simp)) harr⟩
   | goto l=>exact ⟨_,a₁,w₁,⟨ρ₁,L₁,ha₁,hs₁,hq⟩,.pass (x := .inLoop c) rfl (fun _ _ => .inl (by simp)) harr⟩
   | ret=>exact ⟨_,a₁,w₁,⟨ρ₁,L₁,ha₁,hs₁,hq⟩,.pass (x := .inLoop c) rfl (fun _ _ => .inl (by simp)) harr⟩
   | panic ch=>exact ⟨_,a₁,w₁,⟨ρ₁,L₁,ha₁,hs₁,hq⟩,.pass (x := .inLoop c) rfl (fun _ _ => .inl (by simp)) harr⟩
   | outgrown=>exact ⟨_,a₁,w₁,⟨ρ₁,L₁,ha₁,hs₁,hq⟩,.pass (x := .inLoop c) rfl (fun _ _ => .inl (by simp)) harr⟩
 obtain ⟨e,a',w',hq,harr⟩:=key m ρ L h a w hs ha
 exact ⟨e,a',w',hq,.of_steps (.one step_loop) harr⟩
section df
variable {P:Program} {n:Nat} {ops:List Oper} {Q:Exit→Zn→Zb→Prop} {Ss:List (Nat × Zo)} {rem rem':List (Nat × Oper)} {ρ:Zn} {L:Zb} {ty:TypeId} {pos:String} {af:Array Edge} {g:Option (Nat × Bool)} {d i:Nat}
theorem dcF {f:Operand} {as9:Array Operand} {ts:Array TypeId} {Fn:Nat} {cap args args':List Value} {v:Value} (k:Nat) (F:List Zo) (h : ∀ L,(∀ p∈F,Has L p.1 p.2)→HC P Fn args' L (fun u L'=>u=v∧L'=L)) (hF : ∀ p∈F,Has L p.1 p.2)
  (hr:HD P n ops Q (F.map (fun p=>(i,p))++Ss) rem' ((d,v)::ρ) L) (h00:Xa ρ=true:=by exact rfl) (hp:X3 k rem=some ((i,⟨some d,.call { callee := .value f,args:=as9,argTypes:=ts },ty,pos,af,g⟩),rem'):=by exact rfl) (hg:Zs ops ρ g=some true:=by exact rfl) (hn:Nat.blt d n=true:=by exact rfl)
  (hf:ev ρ f=some (.func (.func Fn) #[] ⟨cap⟩):=by exact rfl) (ha:Ze4 ρ as9.toList=some args:=by exact rfl) (he:args++cap=args':=by exact rfl) (hc:U6 ops rem' i ⟨some d,.call { callee := .value f,args:=as9,argTypes:=ts },ty,pos,af,g⟩=true:=by decide +kernel):HD P n ops Q Ss rem ρ L:=
 hd_q (F:=F) hp hc rfl hn (.inl ⟨hg,fun L hL=>q_call hf ha (he▸h L hL)⟩) hF hr
end df
theorem hcHas {P:Program} {F:Nat} {args:List Value} {b:Nat} {o:Obj} {V:Value} (h : ∀ L,HC P F args ([(b,o)]::L) (fun v L'=>v=V∧L'=[(b,o)]::L)) {L:Zb} (hb:Has L b o):HC P F args L (fun v L'=>v=V∧L'=L):=by
 obtain ⟨l1,l2,e⟩:=List.append_of_mem hb
 have hp:List.Perm L.flatten ([(b,o)]::[l1++l2]).flatten:=by
  rw [e]
  simp only [List.flatten_cons,List.flatten_nil,List.append_nil,List.cons_append,List.nil_append]
  exact List.perm_middle
 have hp2 : ∀ {k:Ze1} {w:World},Sat k w ([(b,o)]::[l1++l2])→Sat k w L:=fun hs=>hs.sp (LS.of_perm hp)
 exact ⟨(h []).1,fun k w hs=>((h [l1++l2]).2 k w (hs.sp (LS.of_perm hp.symm))).mono fun e w' ⟨v,L',he,hs',hv,hL⟩=>⟨v,L,he,hp2 (hL▸hs'),hv,rfl⟩⟩
theorem hq2 {P:Program} {F:Nat} {args:List Value} {c1 c2:List Zo} {L L1 L2:Zb} {V:Value} (h : ∀ L,HC P F args (c1::c2::L) (fun v L'=>v=V∧L'=c1::c2::L)) (k1 k2:Nat) (hp1:Ux k1 L=some (c1,L1):=by exact rfl) (hp2:Ux k2 L1=some (c2,L2):=by exact rfl):HC P F args L (fun v L'=>v=V∧L'=L):=
 have hp:List.Perm L (c1::c2::L2):=(Xk hp1).trans ((Xk hp2).cons c1)
 ⟨(h L2).1,fun k w hs=>((h L2).2 k w (hs.perm hp)).mono fun e w' ⟨v,L',he,hs',hv,hL⟩=>⟨v,L,he,(hL▸hs').perm hp.symm,hv,rfl⟩⟩
end Go.HL
end

/-! HLDs -/
section
namespace Go.HL
open Go
theorem Rd.all {α:Type} {enc:α→List Value} {sz:Nat} {L:Zb} {a:Option Addr} {xs:List α} (h:Rd enc sz L a xs) (h0:0<xs.length) : ∃ b i c E fr,a=some ⟨b,i,none⟩∧Has L b (.cells ⟨c⟩ E fr) ∧ ∀ k (hk:k<xs.length),Gets c (i+((k:Int)).toNat*sz) (enc xs[k]):=by
 rcases h with h|⟨b,i,c,E,fr,rfl,hb,hg⟩
 ·rw [h] at h0;simp at h0
 ·exact ⟨b,i,c,E,fr,rfl,hb,fun k hk=>by simpa using hg k _ (List.getElem?_eq_getElem hk)⟩
structure Fresh (b:Bool):Prop where
 any:True
theorem Zk9:Fresh true:=⟨trivial⟩
theorem Zk8:Fresh false:=⟨trivial⟩
theorem Zfi (b:Bool):Fresh b:=⟨trivial⟩
section d
variable {P:Program} {n:Nat} {ops:List Oper} {Q:Exit→Zn→Zb→Prop} {Ss:List (Nat × Zo)} {rem rem':List (Nat × Oper)} {ρ:Zn} {L:Zb} {i:Nat}
theorem d_sp {t j:Nat} {q:Oper} {b wt:Bool} (k:Nat) (h1:b=true→HD P n ops Q Ss rem ((t,.bool true)::ρ) L) (h0:b=false→HD P n ops Q Ss rem ((t,.bool false)::ρ) L) (h00:Xa ρ=true:=by exact rfl) (hp:X3 k rem=some ((i,q),rem'):=by exact rfl) (hq:q.guard=some (j,wt):=by exact rfl) (hj:Vk ops j=some t:=by exact rfl) (ht:lk ρ t=some (.bool b):=by exact rfl)
  (hb:Fresh b:=by (fail_if_success (with_reducible exact Zk9));(fail_if_success (with_reducible exact Zk8));exact Zfi _):HD P n ops Q Ss rem ρ L:=hd_split ht h1 h0
end d
end Go.HL
end

/-! HLPr -/
section
namespace Go.HL
open Go
section
variable {P:Program} {n:Nat} {ops:List Oper} {Q:Exit→Zn→Zb→Prop} {rest:List Oper} {ρ:Zn} {L:Zb}
theorem pg_t {c:Operand} {x y:Code} {b:Bool} (h00:Xa ρ=true:=by exact rfl) (hc:ev ρ c=some (.bool b):=by exact rfl) (hb:b=true:=by with_reducible exact rfl):(HW P n x Q ρ L)→HW P n (.cond c x y) Q ρ L:=fun h=>g_t h h00 hc hb
end
section
variable {P:Program} {n:Nat} {ops:List Oper} {Q:Exit→Zn→Zb→Prop} {rest:List Oper} {ρ:Zn} {L:Zb}
theorem pg_f {c:Operand} {x y:Code} {b:Bool} (h00:Xa ρ=true:=by exact rfl) (hc:ev ρ c=some (.bool b):=by exact rfl) (hb:b=false:=by with_reducible exact rfl):(HW P n y Q ρ L)→HW P n (.cond c x y) Q ρ L:=fun h=>g_f h h00 hc hb
end
section
variable {P:Program} {n:Nat} {ops:List Oper} {Q:Exit→Zn→Zb→Prop} {rest:List Oper} {ρ:Zn} {L:Zb}
theorem pg_bx {id i:Nat} (h00:Xa ρ=true:=by exact rfl) (hn:Nat.beq i id=false:=by exact rfl):(Q (.exit i) ρ L)→Ya id Q (.exit i) ρ L:=fun h=>g_bx h h00 hn
end
section
variable {P:Program} {n:Nat} {ops:List Oper} {Q:Exit→Zn→Zb→Prop} {rest:List Oper} {ρ:Zn} {L:Zb}
variable {op:Op} {ty:TypeId} {pos:String} {af:Array Edge} {g:Option (Nat × Bool)} {d:Nat}
theorem U1 {v:Value} (h:QOp P ⟨some d,op,ty,pos,af,g⟩ ρ L v) (h00:Xa ρ=true:=by exact rfl) (hg:Zs ops ρ g=some true:=by exact rfl) (hn:Nat.blt d n=true:=by exact rfl):(HO P n ops Q rest ((d,v)::ρ) L)→HO P n ops Q (⟨some d,op,ty,pos,af,g⟩::rest) ρ L:=fun hr=>Vc h hr h00 hg hn
end
section
variable {P:Program} {n:Nat} {ops:List Oper} {Q:Exit→Zn→Zb→Prop} {rest:List Oper} {ρ:Zn} {L:Zb}
variable {op:Op} {ty:TypeId} {pos:String} {af:Array Edge} {g:Option (Nat × Bool)} {d:Nat}
theorem pg_n (h00:Xa ρ=true:=by exact rfl) (hg:Zs ops ρ g=some false:=by exact rfl) (hn:Nat.blt d n=true:=by exact rfl):(HO P n ops Q rest ((d,undef)::ρ) L)→HO P n ops Q (⟨some d,op,ty,pos,af,g⟩::rest) ρ L:=fun hr=>g_n hr h00 hg hn
end
section
variable {P:Program} {n:Nat} {ops:List Oper} {Q:Exit→Zn→Zb→Prop} {rest:List Oper} {ρ:Zn} {L:Zb}
variable {op:Op} {ty:TypeId} {pos:String} {af:Array Edge} {g:Option (Nat × Bool)} {d:Nat}
theorem pg_on {d:Option Tmp} {j:Nat} {wt:Bool} (h00:Xa ρ=true:=by exact rfl) (hg:Zs ops ρ (some (j,wt))=some true:=by exact rfl):(HO P n ops Q (⟨d,op,ty,pos,af,none⟩::rest) ρ L)→HO P n ops Q (⟨d,op,ty,pos,af,some (j,wt)⟩::rest) ρ L:=fun h=>g_on h h00 hg
end
section
variable {P:Program} {n:Nat} {ops:List Oper} {Q:Exit→Zn→Zb→Prop} {rest:List Oper} {ρ:Zn} {L:Zb}
variable {op:Op} {ty:TypeId} {pos:String} {af:Array Edge} {g:Option (Nat × Bool)} {d:Nat}
variable {K:Zn→Prop}
theorem U2 {v:Value} (h:QOp P ⟨some d,op,ty,pos,af,g⟩ ρ L v) (h00:Xa ρ=true:=by exact rfl) (hg:Zs ops ρ g=some true:=by exact rfl) (hn:Nat.blt d n=true:=by exact rfl):(HQ P n ops K rest ((d,v)::ρ) L)→HQ P n ops K (⟨some d,op,ty,pos,af,g⟩::rest) ρ L:=fun hr=>Zcm h hr h00 hg hn
end
section
variable {P:Program} {n:Nat} {ops:List Oper} {Q:Exit→Zn→Zb→Prop} {rest:List Oper} {ρ:Zn} {L:Zb}
variable {op:Op} {ty:TypeId} {pos:String} {af:Array Edge} {g:Option (Nat × Bool)} {d:Nat}
variable {K:Zn→Prop}
theorem pk_n (h00:Xa ρ=true:=by exact rfl) (hg:Zs ops ρ g=some false:=by exact rfl) (hn:Nat.blt d n=true:=by exact rfl):(HQ P n ops K rest ((d,undef)::ρ) L)→HQ P n ops K (⟨some d,op,ty,pos,af,g⟩::rest) ρ L:=fun hr=>k_n hr h00 hg hn
end
section
variable {P:Program} (S:Tab P) {n:Nat} {ops:List Oper} {Q:Exit→Zn→Zb→Prop} {rest:List Oper} {ρ:Zn} {L:Zb} {ty:TypeId} {pos:String} {af:Array Edge}
theorem pwa {d E:Nat} {z:Value} {zs:List Value} (h00:Xa ρ=true:=by exact rfl) (hz:Zr S.zr E=some z:=by exact rfl) (hc:z.cells=⟨zs⟩:=by exact rfl) (hn:Nat.blt d n=true:=by exact rfl):(∀ b,HO P n ops Q rest ((d,pt b 0)::ρ) ([(b,.cells ⟨zs⟩ E)]::L))→HO P n ops Q (⟨some d,.alloc E,ty,pos,af,none⟩::rest) ρ L:=fun h=>wa S h h00 hz hc hn
end
section
variable {P:Program} (S:Tab P) {n:Nat} {ops:List Oper} {Q:Exit→Zn→Zb→Prop} {rest:List Oper} {ρ:Zn} {L:Zb} {ty:TypeId} {pos:String} {af:Array Edge}
theorem pwb {d E:Nat} {x:Operand} {v:Value} {vs:List Value} (h00:Xa ρ=true:=by exact rfl) (hx:ev ρ x=some v:=by exact rfl) (hc:v.cells=⟨vs⟩:=by exact rfl) (hn:Nat.blt d n=true:=by exact rfl):(∀ b,HO P n ops Q rest ((d,pt b 0)::ρ) ([(b,.cells ⟨vs⟩ E)]::L))→HO P n ops Q (⟨some d,.box E x,ty,pos,af,none⟩::rest) ρ L:=fun h=>wb h h00 hx hc hn
end
section
variable {P:Program} (S:Tab P) {n:Nat} {ops:List Oper} {Q:Exit→Zn→Zb→Prop} {rest:List Oper} {ρ:Zn} {L:Zb} {ty:TypeId} {pos:String} {af:Array Edge}
theorem pws {t b i E:Nat} {ti:TyI} {x y:Operand} {v:Value} {vs l l':List Value} {L':Zb} (h00:Xa ρ=true:=by exact rfl) (hx:ev ρ x=some (pt b i):=by exact rfl) (hy:ev ρ y=some v:=by exact rfl) (ht:Zr S.ty t=some ti:=by exact rfl) (hc:v.cells=⟨vs⟩:=by exact rfl) (hsz:ti.size=vs.length:=by exact rfl) (h1:(vs.all Value.oneCell')=true:=by exact rfl) (hu:Upd L b (.cells ⟨l⟩ E (0,0)) (.cells ⟨l'⟩ E (0,0)) L':=by (repeat (first|exact Xw|apply Zku|apply Zep))) (hp:Zq l i vs l':=by (first|assumption|exact Zd7 rfl|exact Wc|exact X1 Wc|exact X1 (X1 Wc)|(repeat (first|exact Wc|apply X1)))):(HO P n ops Q rest ρ L')→HO P n ops Q (⟨none,.store t x y,ty,pos,af,none⟩::rest) ρ L:=fun h=>ws S h h00 hx hy ht hc hsz h1 hu hp
end
section
variable {P:Program} (S:Tab P) {n:Nat} {ops:List Oper} {Q:Exit→Zn→Zb→Prop} {rest:List Oper} {ρ:Zn} {L:Zb} {ty:TypeId} {pos:String} {af:Array Edge}
theorem pwS {d t E y0 s0 b0 k1 x1 y1 by1 len:Nat} {z:Value} {zv:Value} {vals:List Value} {parts:Array (Nat × Operand)} (h00:Xa ρ=true:=by exact rfl) (ht:Zr S.ty t=some ⟨5,E,y0,s0,b0⟩:=by exact rfl) (he:Zr S.ty E=some ⟨k1,x1,y1,1,by1⟩:=by exact rfl) (hz:Zr S.zr E=some z:=by exact rfl) (hzs:z.cells=⟨[zv]⟩:=by exact rfl) (hp:Zhy ρ 0 parts.toList=some vals:=by exact rfl) (hlen:vals.length=len:=by exact rfl) (hsm:Nat.ble len 16777216=true:=by exact rfl) (h1:(vals.all Value.oneCell')=true:=by exact rfl) (hn:Nat.blt d n=true:=by exact rfl):(∀ b,HO P n ops Q rest ((d,sl b 0 len len)::ρ) ([(b,.cells ⟨vals⟩ E)]::L))→HO P n ops Q (⟨some d,.buildSlice t len parts,ty,pos,af,none⟩::rest) ρ L:=fun h=>wS S h h00 ht he hz hzs hp hlen hsm h1 hn
end
section
variable {P:Program} (S:Tab P) {n:Nat} {ops:List Oper} {Q:Exit→Zn→Zb→Prop} {rest:List Oper} {ρ:Zn} {L:Zb} {ty:TypeId} {pos:String} {af:Array Edge}
theorem pwm {d t E y0 s0 b0 k1 x1 y1 by1:Nat} {z zv:Value} {x y:Operand} {kl kc:IntKind} {l c:Int} (h00:Xa ρ=true:=by exact rfl) (hx:ev ρ x=some (.int kl l):=by exact rfl) (hy:ev ρ y=some (.int kc c):=by exact rfl) (ht:Zr S.ty t=some ⟨5,E,y0,s0,b0⟩:=by exact rfl) (he:Zr S.ty E=some ⟨k1,x1,y1,1,by1⟩:=by exact rfl) (hz:Zr S.zr E=some z:=by exact rfl) (hzs:z.cells = #[zv]:=by exact rfl) (hn:Nat.blt d n=true:=by exact rfl) (hc:0≤l∧l≤c∧(by1:Int)*c≤281474976710656∧c≤9223372036854775807:=by omega):(∀ b,HO P n ops Q rest ((d,sl b 0 l.toNat c.toNat)::ρ) ([(b,.cells ⟨List.replicate c.toNat zv⟩ E)]::L))→HO P n ops Q (⟨some d,.makeSlice t x y,ty,pos,af,none⟩::rest) ρ L:=fun h=>wm S h h00 hx hy ht he hz hzs hn hc
end
section
variable {P:Program} (S:Tab P) {n:Nat} {ops:List Oper} {Q:Exit→Zn→Zb→Prop} {Ss:List (Nat × Zo)} {rem rem':List (Nat × Oper)} {ρ:Zn} {L:Zb} {op:Op} {ty:TypeId} {pos:String} {af:Array Edge} {g:Option (Nat × Bool)} {d i:Nat}
theorem Zbl {v:Value} (k:Nat) (hp:X3 k rem=some ((i,⟨some d,op,ty,pos,af,g⟩),rem')) (h : ∀ L,QOp P ⟨some d,op,ty,pos,af,g⟩ ρ L v) (h00:Xa ρ=true:=by exact rfl) (hg:Zs ops ρ g=some true:=by exact rfl) (hn:Nat.blt d n=true:=by exact rfl) (hc:U6 ops rem' i ⟨some d,op,ty,pos,af,g⟩=true:=by decide +kernel):(HD P n ops Q Ss rem' ((d,v)::ρ) L)→HD P n ops Q Ss rem ρ L:=fun hr=>Zey k hp h hr h00 hg hn hc
end
section
variable {P:Program} (S:Tab P) {n:Nat} {ops:List Oper} {Q:Exit→Zn→Zb→Prop} {Ss:List (Nat × Zo)} {rem rem':List (Nat × Oper)} {ρ:Zn} {L:Zb} {op:Op} {ty:TypeId} {pos:String} {af:Array Edge} {g:Option (Nat × Bool)} {d i:Nat}
theorem pd_n (k:Nat) (h00:Xa ρ=true:=by exact rfl) (hp:X3 k rem=some ((i,⟨some d,op,ty,pos,af,g⟩),rem'):=by exact rfl) (hg:Zs ops ρ g=some false:=by exact rfl) (hn:Nat.blt d n=true:=by exact rfl) (hc:U6 ops rem' i ⟨some d,op,ty,pos,af,g⟩=true:=by decide +kernel):(HD P n ops Q Ss rem' ((d,undef)::ρ) L)→HD P n ops Q Ss rem ρ L:=fun hr=>d_n k hr h00 hp hg hn hc
end
section
variable {P:Program} (S:Tab P) {n:Nat} {ops:List Oper} {Q:Exit→Zn→Zb→Prop} {Ss:List (Nat × Zo)} {rem rem':List (Nat × Oper)} {ρ:Zn} {L:Zb} {op:Op} {ty:TypeId} {pos:String} {af:Array Edge} {g:Option (Nat × Bool)} {d i:Nat}
theorem pdl {t b a E:Nat} {ti:TyI} {x:Operand} {l:List Value} {fr:Nat × Nat} {v:Value} (k:Nat) (h00:Xa ρ=true:=by exact rfl) (hp:X3 k rem=some ((i,⟨some d,.load t x,ty,pos,af,g⟩),rem'):=by exact rfl) (hx:ev ρ x=some (pt b a):=by exact rfl) (ht:Zr S.ty t=some ti:=by exact rfl) (h6:Nat.beq ti.kind 6=false:=by exact rfl) (h7:Nat.beq ti.kind 7=false:=by exact rfl) (hg:Zs ops ρ g=some true:=by exact rfl) (hn:Nat.blt d n=true:=by exact rfl) (hb:Has L b (.cells ⟨l⟩ E fr):=by (repeat (first|assumption|exact Zj|exact Yw (by assumption)|apply X4|apply Ze))) (hv:l[a]? = some v:=by (first|exact rfl|assumption|exact Gets.at (by assumption) rfl|exact Gets.at0 (by assumption) rfl)) (hc:U6 ops rem' i ⟨some d,.load t x,ty,pos,af,g⟩=true:=by decide +kernel):(HD P n ops Q ((i,(b,.cells ⟨l⟩ E fr))::Ss) rem' ((d,v)::ρ) L)→HD P n ops Q Ss rem ρ L:=fun hr=>dl S k hr h00 hp hx ht h6 h7 hg hn hb hv hc
end
section
variable {P:Program} (S:Tab P) {n:Nat} {ops:List Oper} {Q:Exit→Zn→Zb→Prop} {Ss:List (Nat × Zo)} {rem rem':List (Nat × Oper)} {ρ:Zn} {L:Zb} {op:Op} {ty:TypeId} {pos:String} {af:Array Edge} {g:Option (Nat × Bool)} {d i:Nat}
theorem pds {t b a E:Nat} {ti:TyI} {x:Operand} {l vs:List Value} {fr:Nat × Nat} (k:Nat) (h00:Xa ρ=true:=by exact rfl) (hp:X3 k rem=some ((i,⟨some d,.load t x,ty,pos,af,g⟩),rem'):=by exact rfl) (hx:ev ρ x=some (pt b a):=by exact rfl) (ht:Zr S.ty t=some ti:=by exact rfl) (h7:(Nat.beq ti.kind 6 || Nat.beq ti.kind 7)=true:=by exact rfl) (hg:Zs ops ρ g=some true:=by exact rfl) (hn:Nat.blt d n=true:=by exact rfl) (hb:Has L b (.cells ⟨l⟩ E fr):=by (repeat (first|assumption|exact Zj|exact Yw (by assumption)|apply X4|apply Ze))) (hv:Gets l a vs∧ti.size=vs.length:=by (first|(refine Zdb (by assumption) ?_;rfl)|exact ⟨Zc rfl (Zc rfl (Zc rfl Zu)),rfl⟩|exact ⟨Zc rfl (Zc rfl Zu),rfl⟩|exact ⟨Zc rfl (Zc rfl (Zc rfl (Zc rfl Zu))),rfl⟩|exact ⟨Zc rfl (Zc rfl (Zc rfl (Zc rfl (Zc rfl (Zc rfl (Zc rfl (Zc rfl (Zc rfl Zu)))))))),rfl⟩)) (hc:U6 ops rem' i ⟨some d,.load t x,ty,pos,af,g⟩=true:=by decide +kernel):(HD P n ops Q ((i,(b,.cells ⟨l⟩ E fr))::Ss) rem' ((d,.agg ⟨vs⟩)::ρ) L)→HD P n ops Q Ss rem ρ L:=fun hr=>ds S k hr h00 hp hx ht h7 hg hn hb hv hc
end
section
variable {P:Program} (S:Tab P) {n:Nat} {ops:List Oper} {Q:Exit→Zn→Zb→Prop} {Ss:List (Nat × Zo)} {rem rem':List (Nat × Oper)} {ρ:Zn} {L:Zb} {op:Op} {ty:TypeId} {pos:String} {af:Array Edge} {g:Option (Nat × Bool)} {d i:Nat}
theorem pdxk {i0:Nat} {p:Zo} {r:List (Nat × Zo)} {K:List (Nat × Zo)→Prop} (hk:Uv ops i0 i=true:=by exact rfl) (hb:Has L p.1 p.2:=by (repeat (first|assumption|exact Zj|exact Yw (by assumption)|apply X4|apply Ze))):(Zp ops i L r (fun l=>K ((i0,p)::l)))→Zp ops i L ((i0,p)::r) K:=fun h=>dxk h hk hb
end
section
variable {P:Program} (S:Tab P) {n:Nat} {ops:List Oper} {Q:Exit→Zn→Zb→Prop} {Ss:List (Nat × Zo)} {rem rem':List (Nat × Oper)} {ρ:Zn} {L:Zb} {op:Op} {ty:TypeId} {pos:String} {af:Array Edge} {g:Option (Nat × Bool)} {d i:Nat}
theorem pdxd {i0:Nat} {p:Zo} {r:List (Nat × Zo)} {K:List (Nat × Zo)→Prop} (hk:Uv ops i0 i=false:=by exact rfl):(Zp ops i L r K)→Zp ops i L ((i0,p)::r) K:=fun h=>dxd h hk
end
section
variable {P:Program} (S:Tab P) {n:Nat} {ops:List Oper} {Q:Exit→Zn→Zb→Prop} {rest:List Oper} {ρ:Zn} {L:Zb} {ty:TypeId} {pos:String} {af:Array Edge}
theorem pwM {d t E y0 s0 b0 k1 x1 y1 sz by1:Nat} {z:Value} {zs:List Value} {x y:Operand} {kl kc:IntKind} {l c:Int} (h00:Xa ρ=true:=by exact rfl) (hx:ev ρ x=some (.int kl l):=by exact rfl) (hy:ev ρ y=some (.int kc c):=by exact rfl) (ht:Zr S.ty t=some ⟨5,E,y0,s0,b0⟩:=by exact rfl) (he:Zr S.ty E=some ⟨k1,x1,y1,sz,by1⟩:=by exact rfl) (hz:Zr S.zr E=some z:=by exact rfl) (hzs:z.cells=⟨zs⟩:=by exact rfl) (hzl:Nat.beq zs.length sz=true:=by exact rfl) (hn:Nat.blt d n=true:=by exact rfl) (hc:0≤l∧l≤c∧(by1:Int)*c≤281474976710656∧c≤9223372036854775807:=by omega):(∀ b,HO P n ops Q rest ((d,sl b 0 l.toNat c.toNat)::ρ) ([(b,.cells ⟨(List.replicate c.toNat zs).flatten⟩ E)]::L))→HO P n ops Q (⟨some d,.makeSlice t x y,ty,pos,af,none⟩::rest) ρ L:=fun h=>wM S h h00 hx hy ht he hz hzs hzl hn hc
end
section
variable {P:Program} (S:Tab P) {n:Nat} {ops:List Oper} {Q:Exit→Zn→Zb→Prop} {rest:List Oper} {ρ:Zn} {L:Zb} {ty:TypeId} {pos:String} {af:Array Edge}
theorem pwSa {d t E y0 s0 b0 k1 x1 y1 sz by1 len:Nat} {z:Value} {zs out:List Value} {vals:List (Nat × Value)} {parts:Array (Nat × Operand)} (h00:Xa ρ=true:=by exact rfl) (ht:Zr S.ty t=some ⟨5,E,y0,s0,b0⟩:=by exact rfl) (he:Zr S.ty E=some ⟨k1,x1,y1,sz,by1⟩:=by exact rfl) (hz:Zr S.zr E=some z:=by exact rfl) (hzs:z.cells=⟨zs⟩:=by exact rfl) (hzl:Nat.beq zs.length sz=true:=by exact rfl) (hp:Xy ρ parts.toList=some vals:=by exact rfl) (hf:((V4 sz 0 vals).bind fun l=>nfL l some)=some out:=by exact rfl) (hol:Nat.beq out.length (len*sz)=true:=by exact rfl) (hsm:Nat.ble (len*sz) 16777216=true:=by exact rfl) (h1:Nat.ble 1 (len*sz)=true:=by exact rfl) (hn:Nat.blt d n=true:=by exact rfl):(∀ b,HO P n ops Q rest ((d,sl b 0 len len)::ρ) ([(b,.cells ⟨out⟩ E)]::L))→HO P n ops Q (⟨some d,.buildSlice t len parts,ty,pos,af,none⟩::rest) ρ L:=fun h=>wSa S h h00 ht he hz hzs hzl hp hf hol hsm h1 hn
end
section
variable {P:Program} (S:Tab P) {n:Nat} {ops:List Oper} {Q:Exit→Zn→Zb→Prop} {rest:List Oper} {ρ:Zn} {L:Zb} {ty:TypeId} {pos:String} {af:Array Edge}
theorem pwSn {d t E y0 s0 b0 k1 x1 y1 sz by1 len:Nat} {z:Value} {zs out:List Value} {vals:List (Nat × Value)} {parts:Array (Nat × Operand)} (h00:Xa ρ=true:=by exact rfl) (ht:Zr S.ty t=some ⟨5,E,y0,s0,b0⟩:=by exact rfl) (he:Zr S.ty E=some ⟨k1,x1,y1,sz,by1⟩:=by exact rfl) (hz:Zr S.zr E=some z:=by exact rfl) (hzs:z.cells=⟨zs⟩:=by exact rfl) (hzl:Nat.beq zs.length sz=true:=by exact rfl) (hp:Xy ρ parts.toList=some vals:=by exact rfl) (hf:((U7 sz (List.replicate len zs).flatten vals).bind fun l=>nfL l some)=some out:=by exact rfl) (hsm:Nat.ble (len*sz) 16777216=true:=by exact rfl) (h1:Nat.ble 1 (len*sz)=true:=by exact rfl) (hn:Nat.blt d n=true:=by exact rfl):(∀ b,HO P n ops Q rest ((d,sl b 0 len len)::ρ) ([(b,.cells ⟨out⟩ E)]::L))→HO P n ops Q (⟨some d,.buildSlice t len parts,ty,pos,af,none⟩::rest) ρ L:=fun h=>wSn S h h00 ht he hz hzs hzl hp hf hsm h1 hn
end
section
variable {α:Type} [DecidableEq α] {P:Program} (S:Tab P) {n:Nat} {ops:List Oper} {Q:Exit→Zn→Zb→Prop} {rest:List Oper} {ρ:Zn} {L:Zb} {ty:TypeId} {pos:String} {af:Array Edge}
theorem pwMk {d t:Nat} (h00:Xa ρ=true:=by exact rfl) (hn:Nat.blt d n=true:=by exact rfl):(∀ b,HO P n ops Q rest ((d,.map (some b))::ρ) ([(b,.map #[] 0)]::L))→HO P n ops Q (⟨some d,.makeMap t none,ty,pos,af,none⟩::rest) ρ L:=fun h=>wMk h h00 hn
end
section
variable {P:Program} {n:Nat} {ops:List Oper} {Q:Exit→Zn→Zb→Prop} {rest:List Oper} {ρ:Zn} {L:Zb}
theorem pg_b {c:Operand} {x y:Code} {b:Bool} (h00:Xa ρ=true:=by exact rfl) (hc:ev ρ c=some (.bool b):=by exact rfl):(b=true→HW P n x Q ρ L)→(b=false→HW P n y Q ρ L)→HW P n (.cond c x y) Q ρ L:=fun ht hf=>g_b ht hf h00 hc
end
section
variable {P:Program} {n:Nat} {ops:List Oper} {Q:Exit→Zn→Zb→Prop} {rest:List Oper} {ρ:Zn} {L:Zb}
variable {op:Op} {ty:TypeId} {pos:String} {af:Array Edge} {g:Option (Nat × Bool)} {d:Nat}
theorem pg_s {d j t:Nat} {wt:Bool} {b:Bool} (h00:Xa ρ=true:=by exact rfl) (hj:Vk ops j=some t:=by exact rfl) (ht:lk ρ t=some (.bool b):=by exact rfl):(b=true→HO P n ops Q (⟨some d,op,ty,pos,af,some (j,wt)⟩::rest) ((t,.bool true)::ρ) L)→(b=false→HO P n ops Q (⟨some d,op,ty,pos,af,some (j,wt)⟩::rest) ((t,.bool false)::ρ) L)→HO P n ops Q (⟨some d,op,ty,pos,af,some (j,wt)⟩::rest) ρ L:=fun h1 h0=>g_s h1 h0 h00 hj ht
end
section
variable {P:Program} {n:Nat} {ops:List Oper} {Q:Exit→Zn→Zb→Prop} {rest:List Oper} {ρ:Zn} {L:Zb}
variable {op:Op} {ty:TypeId} {pos:String} {af:Array Edge} {g:Option (Nat × Bool)} {d:Nat}
variable {K:Zn→Prop}
theorem pk_s {d j t:Nat} {wt:Bool} {b:Bool} (h00:Xa ρ=true:=by exact rfl) (hj:Vk ops j=some t:=by exact rfl) (ht:lk ρ t=some (.bool b):=by exact rfl):(b=true→HQ P n ops K (⟨some d,op,ty,pos,af,some (j,wt)⟩::rest) ((t,.bool true)::ρ) L)→(b=false→HQ P n ops K (⟨some d,op,ty,pos,af,some (j,wt)⟩::rest) ((t,.bool false)::ρ) L)→HQ P n ops K (⟨some d,op,ty,pos,af,some (j,wt)⟩::rest) ρ L:=fun h1 h0=>k_s h1 h0 h00 hj ht
end
section
variable {P:Program} {n:Nat} {ops:List Oper} {Q:Exit→Zn→Zb→Prop} {Ss:List (Nat × Zo)} {rem rem':List (Nat × Oper)} {ρ:Zn} {L:Zb} {i:Nat}
theorem pd_sp {t j:Nat} {q:Oper} {b wt:Bool} (k:Nat) (h00:Xa ρ=true:=by exact rfl) (hp:X3 k rem=some ((i,q),rem'):=by exact rfl) (hq:q.guard=some (j,wt):=by exact rfl) (hj:Vk ops j=some t:=by exact rfl) (ht:lk ρ t=some (.bool b):=by exact rfl) (hb:Fresh b:=by (fail_if_success (with_reducible exact Zk9));(fail_if_success (with_reducible exact Zk8));exact Zfi _):(b=true→HD P n ops Q Ss rem ((t,.bool true)::ρ) L)→(b=false→HD P n ops Q Ss rem ((t,.bool false)::ρ) L)→HD P n ops Q Ss rem ρ L:=fun h1 h0=>d_sp k h1 h0 h00 hp hq hj ht hb
end
end Go.HL
end

/-! HLTop -/
section
namespace Go.HL
open Go Go.ChangeShapes Go.WideShapes Go.ChangeAt Go.RowKit

def Ug (w:World):List Zo:=(List.range w.heap.size).map fun i=>(i,w.heap.getD i default)
def ctx (w:World):Ze1:=(w.os,w.output,w.tape)
theorem Zig {w:World} {b:Nat} {o:Obj} (h:w.heap[b]? = some o):(b,o)∈Ug w:=by
 obtain ⟨hlt,he⟩:=Array.getElem?_eq_some_iff.1 h
 refine List.mem_map.2 ⟨b,List.mem_range.2 hlt,?_⟩
 simp [h]
theorem sat_init (w:World):Sat (ctx w) w [Ug w]:=by
 refine ⟨rfl,rfl,rfl,fun p hp=>?_,?_⟩
 ·simp only [List.flatten_cons,List.flatten_nil,List.append_nil] at hp
  obtain ⟨i,hi,rfl⟩:=List.mem_map.1 hp
  have hlt:=List.mem_range.1 hi
  simp [hlt]
 ·simp only [List.flatten_cons,List.flatten_nil,List.append_nil,Ug,List.map_map]
  have:((fun x:Zo=>x.1) ∘ fun i=>(i,w.heap.getD i default))=id:=rfl
  rw [this,List.map_id]
  exact List.nodup_range
theorem Zgd {w w':World} (h:Sat (ctx w) w' [Ug w]):Below w.heap.size w w':=by
 have hb : ∀ k,k<w.heap.size→w'.heap[k]? = w.heap[k]? := fun k hk=>by
  have:=h.has (k,w.heap[k]) (by simp only [List.flatten_cons,List.flatten_nil,List.append_nil];exact Zig (Array.getElem?_eq_getElem hk))
  rw [this,Array.getElem?_eq_getElem hk]
 refine ⟨h.os,h.tape,h.out,?_,hb⟩
 cases hz:w.heap.size with
 | zero=>omega
 | succ m =>
  have h1:=hb m (by omega)
  have h2 : ∃ o,w'.heap[m]? = some o:=⟨_,h1.trans (Array.getElem?_eq_getElem (by omega))⟩
  obtain ⟨o,h3⟩:=h2
  obtain ⟨h4,_⟩:=Array.getElem?_eq_some_iff.1 h3
  omega
theorem Zmk {P:Program} {f:Nat} {args:List Value} {w:World} (h:HC P f args [Ug w] (fun v L'=>v = .bool true∧L'=[Ug w])) :
  Calls P f ⟨args⟩ w fun e w'=>e = .returned (.bool true)∧Below w.heap.size w w':=
 (h.2 (ctx w) w (sat_init w)).mono fun e w' ⟨v,L',h1,h2,h3,h4⟩=>by subst h3;subst h4;exact ⟨h1,Zgd h2⟩

theorem Zab {H:Type} {enc:TypeId × Value→H} {P:Program} (hl:laidOutB P=true) {W W':World} (hb:Below W.heap.size W W') :
  ∀ (ts:List TypeId) (vs:List Value) (ds:List (DataW H)) (ps:List MemPlace),(∀ t∈ts,P.readableRec t=true∧t<P.types.size)→DataW.TrodAll enc P W 0 (fun _=>true) true ts vs ds ps →
   (∀ x∈ps,x.block<W.heap.size)→DataW.TrodAll enc P W' 0 (fun b=>decide (b<W.heap.size)) true ts vs ds ps
 | [],[],[],ps,_,h,_=>h
 | t::ts,v::vs,d::ds,ps,hr,h,hlt=>by
  obtain ⟨p,q,h1,h2,rfl⟩:=h
  exact ⟨p,q,Below.trod hl (hr t (by simp)).1 (hr t (by simp)).2 h1 hb (fun x hx=>hlt x (by simp [hx])),
   Zab hl hb ts vs ds q (fun t ht=>hr t (by simp [ht])) h2 (fun x hx=>hlt x (by simp [hx])),rfl⟩
 | [],_::_,_,_,_,h,_=>by simp [DataW.TrodAll] at h
 | [],[],_::_,_,_,h,_=>by simp [DataW.TrodAll] at h
 | _::_,[],_,_,_,h,_=>by simp [DataW.TrodAll] at h
 | _::_,_::_,[],_,_,h,_=>by simp [DataW.TrodAll] at h

theorem post_law {H:Type} {enc:TypeId × Value→H} {P:Program} {f:Func} {s:ChangeSpec} {apart fresh handsOn:Bool} {W W':World} {args:Array Value} {ds gs:List (DataW H)} {before:List MemPlace} {tb:TypeId}
  (hl:laidOutB P=true) (hr : ∀ t∈f.params.toList,P.readableRec t=true∧t<P.types.size) (hW:DataW.Whole enc P f.params.toList s.vars apart W args.toList ds gs before) (hb:Below W.heap.size W W')
  (hv:s.vars=[]) (hfn:s.fn H (ds++gs)={ results:=[.lit (.bool true)],args:=ds }) (hrt:f.resultTypes = #[tb]) (hbool:P.underlying tb=some .bool) :
  s.post enc P f apart fresh handsOn false W args (.bool true) W':=by
 have hlt:=hW.lt
 have hW':=hW
 obtain ⟨p,q,hA,hV,rfl,hfz,hnd⟩:=hW
 rw [hv] at hV
 obtain ⟨rfl,rfl⟩:=trodVars_none hV
 refine ⟨ds,[],p++[],[],p,[],hW',?_,?_,?_,hb.frame _,fun h=>by cases h⟩
 ·rw [hfn,hrt]
  exact trodAll_mk1 (shut_bool hbool _)
 ·rw [hfn]
  exact Zab hl hb _ _ _ _ hr hA (fun x hx=>hlt x (by simp [hx]))
 ·rw [hv,hfn]
  rfl

theorem Ze3 {W:World} {b off i:Nat} {c:Array Value} {E:Nat} {fr:Nat × Nat} (hb:W.heap[b]? = some (.cells c E fr)):W.cell? (Addr.add ⟨b,off,none⟩ i)=c[off+i]? := by
 unfold Addr.add
 by_cases h0:i=0
 ·subst h0;simp [World.cell?,hb]
 ·simp [World.cell?,hb,h0]
theorem Zdc {W:World} {b:Nat} {o:Obj} (h:W.heap[b]? = some o):Has [Ug W] b o:=by
 simp only [Has,List.flatten_cons,List.flatten_nil,List.append_nil]
 exact Zig h
theorem Zlv {H:Type} {enc:TypeId × Value→H} {P:Program} {W:World} {base:Nat} {r:Reach} {spare:Nat→Bool} {held:Bool} {t e:TypeId} {α:Type} {encV:α→List Value} {sz:Nat} {v:Value} {d:DataW H} {ps:List MemPlace}
  (ht:P.underlying t=some (.slice e)) (hsz:P.cellsOf e=sz) (hpos:0<sz) (hval:Value.okWide P W r base t v) (hd:DataW.Trod enc P W 0 spare held t v d ps)
  (good:α→Prop) (one : ∀ n cs x,DataW.trod enc P W 0 spare held n e cs=some x → ∃ s,cs=encV s∧good s) :
  ∃ a cap,∃ xs:List α,v = .slice a xs.length cap∧Rd encV sz [Ug W] a xs∧(∀ x∈xs,good x)∧xs.length≤cap:=by
 obtain ⟨a,len,cap,rfl⟩:=okWide_slice ht hval
 obtain ⟨fuel,hf⟩:=hd
 rcases Deep.open_slice ht hf with ⟨h1,-⟩|⟨a',len',cap',m,n,D,Pl,h1,-,hl,-,hm,-,hx⟩
 ·simp [Value.cells] at h1
  obtain ⟨rfl,rfl,rfl⟩:=h1
  exact ⟨none,0,[],rfl,Rd.nil,by simp,by simp⟩
 ·simp [Value.cells] at h1
  obtain ⟨rfl,rfl,rfl⟩:=h1
  have hlm:len≤m:=by rw [hm];split<;>omega
  have : ∀ i,i<len → ∃ s,W.cells? 0 (a'.add (i*sz)) sz=some (encV s)∧good s:=fun i hi=>by
   obtain ⟨cs,h1,h2⟩:=hx i (by omega)
   obtain ⟨s,rfl,hg⟩:=one _ _ _ h2
   rw [hsz] at h1
   exact ⟨s,h1,hg⟩
  by_cases h0:len=0
  ·subst h0
   exact ⟨some a',cap,[],rfl,Rd.nil,by simp,by simp⟩
  ·have : ∃ V:_root_.Fin len→α,∀ i,W.cells? 0 (a'.add (i.1*sz)) sz=some (encV (V i))∧good (V i):=⟨fun i=>(this i.1 i.2).choose,fun i=>(this i.1 i.2).choose_spec⟩
   obtain ⟨V,hV⟩:=this
   obtain ⟨-,-,hc⟩:=World.cells?_some (hV ⟨0,by omega⟩).1
   have hlen:=(World.cells?_some (hV ⟨0,by omega⟩).1).2.1
   have h00:=hc 0 hpos
   have hs : ∃ x,W.cell? a'=some x:=by
    simp [Addr.add] at h00
    exact ⟨_,h00.trans (List.getElem?_eq_getElem (by omega))⟩
   obtain ⟨x,hx0⟩:=hs
   obtain ⟨b,off,spot⟩:=a'
   have hblk : ∃ c E fr,W.heap[b]? = some (.cells c E fr)∧spot=none:=by
    unfold World.cell? at hx0
    simp only at hx0
    split at hx0
    ·rename_i c E fr he
     refine ⟨c,E,fr,he,?_⟩
     cases spot with
     | none=>rfl
     | some k=>simp at hx0
    ·cases hx0
   obtain ⟨c,E,fr,he,rfl⟩:=hblk
   refine ⟨some ⟨b,off,none⟩,cap,List.ofFn V,by simp,.inr ⟨b,off,c.toList,E,fr,rfl,Zdc (by simpa using he),fun k x hk=>?_⟩,?_,by simpa using hl⟩
   ·have hkl:k<len:=by
     have:=(List.getElem?_eq_some_iff.1 hk).1
     simpa using this
    have hx:V ⟨k,hkl⟩=x:=by
     rw [List.getElem?_ofFn] at hk
     simpa [hkl] using hk
    obtain ⟨-,hl2,hc2⟩:=World.cells?_some (hV ⟨k,hkl⟩).1
    rw [hx] at hl2 hc2
    intro j v hj
    have hjl:=(List.getElem?_eq_some_iff.1 hj).1
    have:=hc2 j (by omega)
    rw [hj] at this
    rw [← this]
    have e:(Addr.add ⟨b,off,none⟩ (k*sz))=⟨b,off+k*sz,none⟩:=by
     unfold Addr.add;split
     ·rename_i h;simp [h]
     ·rfl
    show c.toList[off+k*sz+j]? = _
    simp only [e]
    rw [Ze3 he]
    simp
   ·intro x hx
    obtain ⟨i,rfl⟩:=List.mem_ofFn.1 hx
    exact (hV i).2
end Go.HL
end

/-! Seat -/
section
namespace Go.HL
open Go
abbrev Er (T:Nat) (E:Nat→Addr) (cs:List Nat) (L:Zb):Prop:=Errs errTab T E cs L
def ic (x:Int):List Value:=[iv x]
structure St where
 ph:Int
 pr:Int
 att:Int
 deriving DecidableEq
def sc (s:St):List Value:=[iv s.ph,iv s.pr,iv s.att]
structure Fr where
 fr:Int
 to:Int
 dl:Int
 kd:Int
 att:Int
 yes:Bool
 s:St
 deriving DecidableEq
def fc (f:Fr):List Value:=[iv f.fr,iv f.to,iv f.dl,iv f.kd,iv f.att,.bool f.yes,iv f.s.ph,iv f.s.pr,iv f.s.att]
def Wu:St:=⟨0,0,0⟩
def Wp:Fr:=⟨0,0,0,0,0,false,Wu⟩
/-! a walk's steps, each found by itself -/
theorem zs:(∀ {a b:Bool},((!a)=b)↔a = !b)∧((!true)=false)∧((!false)=true)∧(∀ {p:Prop} [Decidable p],(decide p=true)=p)∧(∀ {p:Prop} {x:Decidable p},decide p=false ↔ ¬ p)∧(∀ {p:Prop} [Decidable p],¬ ¬ p↔p)∧(∀ (a b:Bool),((a && b)=true)=(a=true∧b=true))∧(∀ {α:Type} [BEq α] [LawfulBEq α] {a b:α},(a == b)=true↔a=b) ∧
  (∀ (h:Decidable True),@decide True h=true)∧(∀ b:Bool,(b && true)=b)∧(∀ b:Bool,(true && b)=b)∧((¬ True)=False)∧((¬ False)=True):=⟨zA,zB,zC,zD,zE,zF,zG,zH,zI,zJ,zK,zL,zM⟩
theorem zq:(∀ {α:Sort _} (a b:α),(a≠b) = ¬ (a=b))∧(∀ p:Prop,(p∧True)=p)∧(∀ p:Prop,(True∧p)=p)∧(∀ {α:Sort _} (a:α),(a=a)=True):=⟨fun _ _=>rfl,and_true,true_and,fun _=>eq_self _⟩
theorem zx {P:Prop} (f:False:=by first|omega|with_reducible contradiction):P:=f.elim
theorem uN {A B:Prop} (h:B) (f:B→A:=by first|(show _→HW _ _ _ _ _ _;first|exact hw_seq|exact Zm1|exact hw_block|exact hw_exit|exact pg_t|exact pg_f|exact hw_skip|exact hw_ret)|(show _→HO _ _ _ _ _ _ _;first|exact ho_nil|exact U1 (qe S)|exact U1 (qg S)|exact U1 (ql S)|exact U1 (qs S)|exact U1 (qt S)|exact U1 (qc8 S)|exact U1 (qc32 S)|exact U1 (qn S)|exact U1 (qb S)|exact U1 (qbA S)|exact U1 (qSl S)|exact U1 (qSh S)|exact U1 (qSb S)|exact U1 (qmI S)|exact U1 (qA S)|exact U1 (qB S)|exact U1 (qx32 S)|exact pg_n|exact pg_on|exact pws S)|(show _→HQ _ _ _ _ _ _ _;first|exact hq_nil|exact U2 (qe S)|exact U2 (qg S)|exact U2 (ql S)|exact U2 (qs S)|exact U2 (qt S)|exact U2 (qc8 S)|exact U2 (qc32 S)|exact U2 (qn S)|exact U2 (qb S)|exact U2 (qbA S)|exact U2 (qSl S)|exact U2 (qSh S)|exact U2 (qSb S)|exact U2 (qmI S)|exact U2 (qA S)|exact U2 (qB S)|exact U2 (qx32 S)|exact pk_n)|(show _→HD _ _ _ _ _ _ _ _;first|exact hd_nil|exact Zbl 100 (by exact rfl) (fun _=>qe S)|exact Zbl 100 (by exact rfl) (fun _=>qc8 S)|exact Zbl 100 (by exact rfl) (fun _=>qc32 S)|exact Zbl 100 (by exact rfl) (fun _=>qn S)|exact Zbl 100 (by exact rfl) (fun _=>qb S)|exact Zbl 100 (by exact rfl) (fun _=>qbA S)|exact Zbl 100 (by exact rfl) (fun _=>qSl S)|exact Zbl 100 (by exact rfl) (fun _=>qSh S)|exact Zbl 100 (by exact rfl) (fun _=>qSb S)|exact Zbl 100 (by exact rfl) (fun _=>qmI S)|exact Zbl 100 (by exact rfl) (fun _=>qA S)|exact Zbl 100 (by exact rfl) (fun _=>qB S)|exact Zbl 100 (by exact rfl) (fun _=>qx32 S)|exact pdl S 100|exact pds S 100|exact pd_n 100)|exact Ziw|exact seqQ_ret|exact Znp|exact Zmh|exact pg_bx|exact blkQ_ret|exact Zhr|exact Zm8|exact Zj8|exact unQ_ret|exact unQ_exit|exact unQ_succ|exact dx|exact dx0|exact pdxd|exact pdxk):A:=f h
theorem uB {A B:Prop} (h:B) (f:B→A:=by first|exact pwa S|exact pwb|exact pwS S|exact pwSa S|exact pwSn S|exact pwMk|exact pwm S|exact pwM S):A:=f h
theorem uP {A B C:Prop} (h:B) (h':C) (f:B→C→A:=by first|exact pg_b|exact pg_s|exact pk_s|exact pd_sp 100):A:=f h h'
theorem uC {X A B:Prop} (c:X) (h:B) (f:X→B→A:=by first|exact fun c=>U1 (qC c)|exact fun c=>U2 (qC c)):A:=f c h
theorem uS {a b:Zn} (h:Sub a b:=by repeat (first|exact trivial|refine ⟨rfl,?_⟩)):Sub a b:=h
theorem uL {a b:List Zo} (h:LS a b:=by repeat (first|(with_reducible first|refine LS.p0 ?_|refine LS.p1 ?_|refine LS.p2 ?_|refine LS.p3 ?_|refine LS.p4 ?_|refine LS.p5 ?_|refine LS.p6 ?_|refine LS.p7 ?_|refine LS.p8 ?_|refine LS.p9 ?_|refine LS.p10 ?_|refine LS.p11 ?_|refine LS.p12 ?_|refine LS.e ?_|exact LS.refl _)|refine LS.p0 ?_|refine LS.p1 ?_|refine LS.p2 ?_|refine LS.p3 ?_|refine LS.p4 ?_|refine LS.p5 ?_|refine LS.p6 ?_|refine LS.p7 ?_|refine LS.p8 ?_|refine LS.p9 ?_|refine LS.p10 ?_|refine LS.p11 ?_|refine LS.p12 ?_|(with_reducible refine LS.c ?_))):LS a b:=h
theorem uZ {a b:List Zo} (h:LS a b:=by repeat (first|exact LS.refl _|apply LS.k|apply LS.c)):LS a b:=h
theorem uR {α:Type} {enc:α→List Value} {sz:Nat} {L:Zb} {a:Option Addr} {xs:List α} (h:Rd enc sz L a xs:=by repeat (first|assumption|apply Rd.cons)):Rd enc sz L a xs:=h
section
variable {P:Program} {n:Nat} {ops:List Oper} {Q:Exit→Zn→Zb→Prop} {Ss:List (Nat × Zo)} {rem rem':List (Nat × Oper)} {ρ:Zn} {L:Zb} {f:Operand} {xa:Array Operand} {ts:Array TypeId} {F d i:Nat} {cap args args':List Value} {v:Value} {ty:TypeId} {pos:String} {af:Array Edge} {g:Option (Nat × Bool)}
theorem Yy (c : ∀ L,HC P F args' L (fun u L'=>u=v∧L'=L)) (hr:HD P n ops Q Ss rem' ((d,v)::ρ) L) (h00:Xa ρ=true:=by exact rfl) (hp:X3 0 rem=some ((i,⟨some d,.call { callee := .value f,args:=xa,argTypes:=ts },ty,pos,af,g⟩),rem'):=by exact rfl) (hf:ev ρ f=some (.func (.func F) #[] ⟨cap⟩):=by exact rfl) (ha:Ze4 ρ xa.toList=some args:=by exact rfl) (he:args++cap=args':=by exact rfl)
  (hg:Zs ops ρ g=some true:=by exact rfl) (hn:Nat.blt d n=true:=by exact rfl) (hc:U6 ops rem' i ⟨some d,.call { callee := .value f,args:=xa,argTypes:=ts },ty,pos,af,g⟩=true:=by decide +kernel):HD P n ops Q Ss rem ρ L:=Zey 0 hp (fun L=>qC (c L) h00 hf ha he) hr h00 hg hn hc
theorem Yz (c : ∀ L,HC P F args' L (fun u L'=>u=v∧L'=L)) (hr:HD P n ops Q Ss rem' ((d,v)::ρ) L) (h00:Xa ρ=true:=by exact rfl) (hp:X3 1 rem=some ((i,⟨some d,.call { callee := .value f,args:=xa,argTypes:=ts },ty,pos,af,g⟩),rem'):=by exact rfl) (hf:ev ρ f=some (.func (.func F) #[] ⟨cap⟩):=by exact rfl) (ha:Ze4 ρ xa.toList=some args:=by exact rfl) (he:args++cap=args':=by exact rfl)
  (hg:Zs ops ρ g=some true:=by exact rfl) (hn:Nat.blt d n=true:=by exact rfl) (hc:U6 ops rem' i ⟨some d,.call { callee := .value f,args:=xa,argTypes:=ts },ty,pos,af,g⟩=true:=by decide +kernel):HD P n ops Q Ss rem ρ L:=Zey 1 hp (fun L=>qC (c L) h00 hf ha he) hr h00 hg hn hc
theorem Y0 (c : ∀ L,HC P F args' L (fun u L'=>u=v∧L'=L)) (hr:HD P n ops Q Ss rem' ((d,v)::ρ) L) (h00:Xa ρ=true:=by exact rfl) (hp:X3 2 rem=some ((i,⟨some d,.call { callee := .value f,args:=xa,argTypes:=ts },ty,pos,af,g⟩),rem'):=by exact rfl) (hf:ev ρ f=some (.func (.func F) #[] ⟨cap⟩):=by exact rfl) (ha:Ze4 ρ xa.toList=some args:=by exact rfl) (he:args++cap=args':=by exact rfl)
  (hg:Zs ops ρ g=some true:=by exact rfl) (hn:Nat.blt d n=true:=by exact rfl) (hc:U6 ops rem' i ⟨some d,.call { callee := .value f,args:=xa,argTypes:=ts },ty,pos,af,g⟩=true:=by decide +kernel):HD P n ops Q Ss rem ρ L:=Zey 2 hp (fun L=>qC (c L) h00 hf ha he) hr h00 hg hn hc
theorem Y1 (c : ∀ L,HC P F args' L (fun u L'=>u=v∧L'=L)) (hr:HD P n ops Q Ss rem' ((d,v)::ρ) L) (h00:Xa ρ=true:=by exact rfl) (hp:X3 3 rem=some ((i,⟨some d,.call { callee := .value f,args:=xa,argTypes:=ts },ty,pos,af,g⟩),rem'):=by exact rfl) (hf:ev ρ f=some (.func (.func F) #[] ⟨cap⟩):=by exact rfl) (ha:Ze4 ρ xa.toList=some args:=by exact rfl) (he:args++cap=args':=by exact rfl)
  (hg:Zs ops ρ g=some true:=by exact rfl) (hn:Nat.blt d n=true:=by exact rfl) (hc:U6 ops rem' i ⟨some d,.call { callee := .value f,args:=xa,argTypes:=ts },ty,pos,af,g⟩=true:=by decide +kernel):HD P n ops Q Ss rem ρ L:=Zey 3 hp (fun L=>qC (c L) h00 hf ha he) hr h00 hg hn hc
end
end Go.HL
end

/-! LayA -/
section
namespace Go.HL
open Go Go.Proofs Go.ChangeShapes Go.WideShapes Go.ChangeAt Go.RowKit
theorem Zfk {P:Program} {W:World} {n:String} {g:Nat} {v:Value} (hg:P.globalNamed n=some g) (h:W.var? P n=some #[v]):Gl [Ug W] g v:=by
 unfold World.var? at h
 simp only [hg,Option.bind_some] at h
 split at h
 ·rename_i c E fr hh
  cases h
  exact ⟨[v],E,fr,Zdc hh,rfl⟩
 ·cases h
theorem Zl2 : "*" ++ "errors.errorString" = "*errors.errorString" := by decide
theorem row_es (u:TypeId) (h:Tryz.prog.typeName? 3 u=some "*errors.errorString"):u=394:=
 typeName_ptr_named (nm := "errors.errorString") (by rw [Zl2];kernel_rfl) (by kernel_rfl) (by decide) u (by rw [Zl2];exact h)
def Zgy:Nat→String
 | 1 => "threefold/api.ErrText"
 | 2 => "threefold/api.ErrBound"
 | 3 => "threefold/api.ErrShape"
 | 4 => "threefold/api.ErrNone"
 | 5 => "threefold/api.ErrFull"
 | 6 => "threefold/api.ErrOff"
 | 7 => "threefold/api.ErrSum"
 | 8 => "threefold/api.ErrHeld"
 | _ => "threefold/api.ErrSplit"
def Za8:List UInt8:=[116,104,114,101,101,102,111,108,100,58,32]
def Qi:Nat→List UInt8
 | 1=>Za8++[116,101,120,116]
 | 2=>Za8++[98,111,117,110,100]
 | 3=>Za8++[115,104,97,112,101]
 | 4=>Za8++[110,111,110,101]
 | 5=>Za8++[102,117,108,108]
 | 6=>Za8++[111,102,102]
 | 7=>Za8++[115,117,109]
 | 8=>Za8++[104,101,108,100]
 | _=>Za8++[115,112,108,105,116]
def Zfz (cs:List Nat):List (String × DataW Unit):=cs.map fun c=>(Zgy c,.iface "*errors.errorString" (.ptr (.agg [.lit (.string (Qi c))])))
theorem Zj4 {P:Program} {n nm:String} {text:List UInt8} {r:List (String × DataW Unit)} {W:World} {g:Nat} {ti tp te ts:TypeId} {ms:Array (String × TypeId)} {f:Field}
  (h:laidMet P ((n,.iface nm (.ptr (.agg [.lit (.string text)])))::r) W)
  (hg:P.globalNamed n=some g) (ht:(P.globals[g]?).map (·.type)=some ti) (hi:P.underlying ti=some (.interface ms)) (hrow : ∀ u,P.typeName? 3 u=some nm→u=tp)
  (hp:P.underlying tp=some (.pointer te)) (he:P.underlying te=some (.struct #[f])) (hft:f.type=ts) (hfo:f.offset=0) (hs:P.underlying ts=some .string) (hc:P.cellsOf te=1) (hcs:P.cellsOf ts=1) :
  ∃ (a:Addr) (c:Array Value) (t:TypeId),Gl [Ug W] g (.iface tp (.pointer (some a)))∧W.cell? a=some (bs text)∧Has [Ug W] a.block (.cells c t (0,0)):=by
 obtain ⟨ps,⟨g0,t0,cs0,f0,p0,q0,hg0,ht0,hv0,hd0,_,e0⟩,_,hrows⟩:=h
 obtain rfl:=Option.some.inj (hg.symm.trans hg0)
 obtain rfl:=Option.some.inj (ht.symm.trans ht0)
 subst e0
 obtain ⟨l0⟩:=cs0
 have ok0 : ∀ u v,l0=[.iface u v]→Value.okWide P W .any 0 u v:=fun u v e=>by
  subst e
  exact (hrows g 0 (by simp [MemPlace.row])).2 u v (by simpa using World.var?_cell hg0 hv0 0)
 obtain ⟨a0,s0,rfl,hc0,hs0,hz0,rfl⟩:=errorString_of_trod hi hrow hp he hft hfo hs hc hcs hd0 ok0
 obtain ⟨c0,t0,hb0⟩:=(hrows a0.block a0.off (by simp [MemPlace.row])).1
 refine ⟨a0,c0,t0,Zfk hg hv0,?_,Zdc hb0⟩
 rw [hc0]
 obtain ⟨⟨s0⟩⟩:=s0
 simp only at hs0
 subst hs0
 rfl
theorem Zj5 {n:String} {text:List UInt8} {r:List (String × DataW Unit)} {W:World} {g:Nat}
  (h:laidMet Tryz.prog ((n,.iface "*errors.errorString" (.ptr (.agg [.lit (.string text)])))::r) W) (hg:Tryz.prog.globalNamed n=some g) (ht:(Tryz.prog.globals[g]?).map (·.type)=some 28) :
  ∃ (a:Addr) (c:Array Value) (t:TypeId),Gl [Ug W] g (.iface 394 (.pointer (some a)))∧W.cell? a=some (bs text)∧Has [Ug W] a.block (.cells c t (0,0)):=
 Zj4 h hg ht Tryz.underlying28 row_es Tryz.underlying394 Tryz.underlying396 rfl rfl Tryz.underlying9 (by kernel_rfl) (by kernel_rfl)
def Zjj (W:World) (c:Nat) (a:Addr):Prop:=(∀ g,Tryz.prog.globalNamed (Zgy c)=some g→Gl [Ug W] g (.iface 394 (.pointer (some a))))∧W.cell? a=some (bs (Qi c)) ∧ ∃ l t,Has [Ug W] a.block (.cells l t (0,0))
theorem sents {W:World} : ∀ (cs:List Nat),laidMet Tryz.prog (Zfz cs) W→(∀ c∈cs,∃ g,Tryz.prog.globalNamed (Zgy c)=some g∧(Tryz.prog.globals[g]?).map (·.type)=some 28) → ∀ c∈cs,∃ a,Zjj W c a
 | [],_,_,c,hc=>by cases hc
 | x::cs,h,hn,c,hc=>by
  rcases List.mem_cons.1 hc with rfl|hc
  ·obtain ⟨g,hg,ht⟩:=hn c (by simp)
   obtain ⟨a,l,t,h1,h2,h3⟩:=Zj5 h hg ht
   refine ⟨a,fun g' hg'=>?_,h2,l,t,h3⟩
   obtain rfl:=Option.some.inj (hg.symm.trans hg')
   exact h1
  ·exact sents cs h.tail (fun y hy=>hn y (by simp [hy])) c hc
theorem Zff:(errTab.all fun p=>decide (Tryz.prog.globalNamed (Zgy p.2)=some p.1) && decide ((Tryz.prog.globals[p.1]?).map (·.type)=some 28))=true:=by kernel_rfl
theorem errs_of {W:World} {cs:List Nat} (h:laidMet Tryz.prog (Zfz cs) W) (hm:(cs.all fun c=>errTab.any fun p=>Nat.beq p.2 c)=true:=by rfl) :
  ∃ E,Er 394 E cs [Ug W] ∧ ∀ c∈cs,Zjj W c (E c):=by
 have h1:=sents cs h (fun c hc=>by
  obtain ⟨p,hp,he⟩:=List.any_eq_true.1 (List.all_eq_true.1 hm c hc)
  have h2:=List.all_eq_true.1 Zff p hp
  simp only [Bool.and_eq_true,decide_eq_true_eq] at h2
  rw [Nat.eq_of_beq_eq_true he] at h2
  exact ⟨p.1,h2.1,h2.2⟩)
 have h2 : ∀ c,∃ a,c∈cs→Zjj W c a:=fun c=>by
  by_cases hc:c∈cs
  ·obtain ⟨a,ha⟩:=h1 c hc
   exact ⟨a,fun _=>ha⟩
  ·exact ⟨⟨0,0,none⟩,fun h=>absurd h hc⟩
 refine ⟨fun c=>Classical.choose (h2 c),fun g c hg hc=>?_,fun c hc=>Classical.choose_spec (h2 c) hc⟩
 have hcm:c∈cs:=List.elem_iff.1 hc
 have h3:=Classical.choose_spec (h2 c) hcm
 have h4:=List.all_eq_true.1 Zff (g,c) (Uo hg)
 simp only [Bool.and_eq_true,decide_eq_true_eq] at h4
 exact h3.1 g h4.1
end Go.HL
end

/-! HLOpen -/
section
namespace Go.HL
open Go Go.ChangeShapes Go.WideShapes Go.ChangeAt Go.RowKit

def fitV:Nat→Value→Prop
 | 8,.bool _=>True
 | 9,.string s=>s.size≤9223372036854775807
 | k,.int k' n=>Zdk k'=k∧loE k'≤n∧n≤Qy k'
 | _,_=>False
def FitK:List Nat→List Value→Prop
 | [],[]=>True
 | k::l,v::cs=>fitV k v∧FitK l cs
 | _,_=>False
theorem FitK.append : ∀ {a b:List Nat} {cs:List Value},FitK a (cs.take a.length)→FitK b (cs.drop a.length)→FitK (a++b) cs
 | [],b,cs,_,h=>by simpa using h
 | k::a,b,[],h,_=>by simp [FitK] at h
 | k::a,b,v::cs,h,h2=>⟨h.1,FitK.append h.2 (by simpa using h2)⟩
end Go.HL
end

/-! CdFr -/
section
namespace Go.HL
open Go Go.Proofs Go.ChangeShapes Go.WideShapes Go.ChangeAt Go.RowKit
def okI (z:Int):Prop := -9223372036854775808≤z∧z≤9223372036854775807
theorem Zlt {H:Type} {enc:TypeId × Value→H} {W:World} {base:Nat} {spare:Nat→Bool} {held:Bool} (n:Nat) (cs:List Value) (x:DataW H × List MemPlace) (h:DataW.trod enc Tryz.prog W base spare held n 3 cs=some x) :
  ∃ z:Int,cs=ic z∧okI z:=by
 obtain ⟨z,e,-,hw⟩:=DataW.trod_int Tryz.underlying3 h
 exact ⟨z,e,by simpa [okI,Lit.wf,IntKind.min,IntKind.max,IntKind.signed,IntKind.bits] using hw⟩
end Go.HL
end

/-! CdTx -/
section
namespace Go.HL
open Go Go.Proofs Go.ChangeShapes Go.WideShapes Go.ChangeAt Go.RowKit
end Go.HL
end

/-! ErA -/
section
namespace Go.HL
open Go Go.Proofs Go.RowKit Go.Extern.Stop Go.Stop Go.Extern

def cmpE:Array Value→Sem Value:=ReflectliteType.method fun t=>do Rtype.noPackHeld "Comparable" t;pure (.bool (← typeInfo t).comparable)
theorem Zbg (v:Value) (w:World):(Extern.ReflectliteType.typeOf #[.iface 394 v]).run Tryz.prog w = .ok (.iface 319 (.agg #[.pointer (some ⟨23,394,none⟩)])) w:=by kernel_rfl
theorem Q3 (w:World):(cmpE #[.agg #[.pointer (some ⟨23,394,none⟩)]]).run Tryz.prog w = .ok (.bool true) w:=by kernel_rfl
theorem U9 (v:Value) (w:World):(Go.method 534 319 v "Comparable").run Tryz.prog w = .ok (355,v) w:=by kernel_rfl
theorem Zlh:(Tryz.prog.info? 394).map (·.comparable)=some true:=by kernel_rfl
theorem Zli:(Tryz.prog.info? 396).map (·.size)=some 1:=by kernel_rfl
theorem is_noIsE (v:Value) (xT:TypeId) (w:World):(Instr.typeAssert (.iface 394 v) xT 330 true).run Tryz.prog w = .ok (.tuple #[.nilIface,.bool false]) w:=run_typeAssert_lacksB Tryz.underlying330 (by kernel_rfl) (by kernel_rfl) v xT w
theorem Zau (v:Value) (xT:TypeId) (w:World):(Instr.typeAssert (.iface 394 v) xT 326 true).run Tryz.prog w = .ok (.tuple #[.nilIface,.bool false]) w:=run_typeAssert_lacksB Tryz.underlying326 (by kernel_rfl) (by kernel_rfl) v xT w
theorem Q4 (v:Value) (xT:TypeId) (w:World):(Instr.typeAssert (.iface 394 v) xT 328 true).run Tryz.prog w = .ok (.tuple #[.nilIface,.bool false]) w:=run_typeAssert_lacksB Tryz.underlying328 (by kernel_rfl) (by kernel_rfl) v xT w
theorem is_same (a:Addr) (w:World) :
  Calls Tryz.prog 137 #[.iface 394 (.pointer (some a)),.iface 394 (.pointer (some a))] w fun e w'=>e = .returned (.bool true)∧w'=w:=by
 obtain ⟨i,hi,hcmp⟩:=Option.map_eq_some_iff.1 Zlh
 obtain ⟨j,hj,hjs⟩:=Option.map_eq_some_iff.1 Zli
 have h8 := @run_callFunc_extern Tryz.prog 189 _ Extern.ReflectliteType.typeOf Tryz.func189 (by kernel_rfl) (by kernel_rfl) (by kernel_rfl) (by kernel_rfl)
 have h32 := @run_callFunc_extern Tryz.prog 355 _ cmpE Tryz.func355 (by kernel_rfl) (by kernel_rfl) (by kernel_rfl) (by kernel_rfl)
 have tT:=Zbg
 have cT:=Q3
 have mR:=U9
 have heq:=run_eql_iface_ptr_same (P:=Tryz.prog) w a Tryz.underlying28 Tryz.underlying394 hi hcmp hj
 go_enter Tryz.func137,Tryz.ntmps137
 go_wp2
 refine wp_loop_rounds 1 ?_
 rw [rounds_succ]
 go_wp2
 go_ret
 exact ⟨rfl,rfl⟩
theorem is_other (a b:Addr) (ca cb:Array Value) (ta tb:TypeId) (w:World) (hne:a≠b) (ha:w.heap[a.block]? = some (.cells ca ta (0,0))) (hb:w.heap[b.block]? = some (.cells cb tb (0,0))) :
  Calls Tryz.prog 137 #[.iface 394 (.pointer (some a)),.iface 394 (.pointer (some b))] w fun e w'=>e = .returned (.bool false)∧w'=w:=by
 obtain ⟨i,hi,hcmp⟩:=Option.map_eq_some_iff.1 Zlh
 obtain ⟨j,hj,hjs⟩:=Option.map_eq_some_iff.1 Zli
 have h8 := @run_callFunc_extern Tryz.prog 189 _ Extern.ReflectliteType.typeOf Tryz.func189 (by kernel_rfl) (by kernel_rfl) (by kernel_rfl) (by kernel_rfl)
 have h32 := @run_callFunc_extern Tryz.prog 355 _ cmpE Tryz.func355 (by kernel_rfl) (by kernel_rfl) (by kernel_rfl) (by kernel_rfl)
 have tT:=Zbg
 have cT:=Q3
 have mR:=U9
 have nE:=is_noIsE
 have uE:=Zau
 have vE:=Q4
 have heq:=run_eql_iface_ptr_other (P:=Tryz.prog) w Tryz.underlying28 Tryz.underlying394 hi hcmp hj (by rw [hjs];decide) hne ha hb
 go_enter Tryz.func137,Tryz.ntmps137
 go_wp2
 refine wp_loop_rounds 1 ?_
 rw [rounds_succ]
 go_wp2
 go_ret
 exact ⟨rfl,rfl⟩
end Go.HL
end

/-! ErB -/
section
namespace Go.HL
open Go Go.Proofs Go.RowKit Go.Extern.Stop Go.Stop Go.Extern

def valE:Array Value→Sem Value:=fun args=>ReflectliteValue.unpack (args.getD 0 (.tuple #[]))
def typE:Array Value→Sem Value:=ReflectliteValue.methodAny (ReflectliteValue.valueError "reflectlite.Value.Type" 0) fun t _ _ _=>ReflectliteType.toType t
def rnlE:Array Value→Sem Value:=ReflectliteValue.method (ReflectliteValue.valueError "reflectlite.Value.IsNil" 0) ReflectliteValue.isNil
def elmE:Array Value→Sem Value:=ReflectliteValue.method (ReflectliteValue.valueError "reflectlite.Value.Elem" 0) ReflectliteValue.elem
def setE:Array Value→Sem Value:=ReflectliteValue.set
def kndE:Array Value→Sem Value:=ReflectliteType.abiMethod fun t=>do pure (.int .u8 (← Rtype.kind t))
def telE:Array Value→Sem Value:=ReflectliteType.method ReflectliteType.elem
def impE:Array Value→Sem Value:=ReflectliteType.relation "Implements" ReflectliteType.implements_
def asgE:Array Value→Sem Value:=ReflectliteType.relation "AssignableTo" ReflectliteType.assignableTo
def hT (t:Nat):Value := .pointer (some ⟨23,t,none⟩)
theorem as_vF (t:Addr) (w:World):(valE #[.iface 203 (.pointer (some t))]).run Tryz.prog w = .ok (.agg #[.pointer (some ⟨23,203,none⟩),.pointer (some ⟨w.heap.size,0,none⟩),.int .u64 150]) (w.alloc (.cells #[.pointer (some t)] 203)):=by kernel_rfl
theorem as_tF (a:Addr) (w:World):(typE #[.agg #[.pointer (some ⟨23,203,none⟩),.pointer (some a),.int .u64 150]]).run Tryz.prog w = .ok (.iface 319 (.agg #[.pointer (some ⟨23,203,none⟩)])) w:=by kernel_rfl
theorem as_mKind (h:Value) (w:World):(Go.method 534 319 (.agg #[h]) "Kind").run Tryz.prog w = .ok (344,h) w:=by kernel_rfl
theorem as_kFF (w:World):(kndE #[.pointer (some ⟨23,203,none⟩)]).run Tryz.prog w = .ok (.int .u8 22) w:=by kernel_rfl
theorem as_kF (w:World):(kndE #[.pointer (some ⟨23,158,none⟩)]).run Tryz.prog w = .ok (.int .u8 22) w:=by kernel_rfl
theorem rlm (z:Sem Value) (f:TypeId→Addr→Nat→Nat→Sem Value) (v:Value) :
  ReflectliteValue.method z f #[v]=(do match ← ReflectliteValue.parts v with|none=>z|some (t,a,fl)=>f t a fl (fl % 32)):=rfl
theorem as_pFF (a:Addr) (w:World):(ReflectliteValue.parts (.agg #[.pointer (some ⟨23,203,none⟩),.pointer (some a),.int .u64 150])).run Tryz.prog w = .ok (some (203,a,150)) w:=by kernel_rfl
theorem as_isNil (a p:Addr) (W:World) (ha:W.cell? a=some (.pointer (some p))) :
  (rnlE #[.agg #[.pointer (some ⟨23,203,none⟩),.pointer (some a),.int .u64 150]]).run Tryz.prog W = .ok (.bool false) W:=by
 unfold rnlE
 rw [rlm]
 simp only [Sem.run_bind,as_pFF,Result.andThen]
 simp [ReflectliteValue.isNil,loadVar,isAgg,underlying,Tryz.underlying203,ha,Result.andThen]
theorem as_mElem (h:Value) (w:World):(Go.method 534 319 (.agg #[h]) "Elem").run Tryz.prog w = .ok (356,.agg #[h]) w:=by kernel_rfl
theorem as_mImpl (h:Value) (w:World):(Go.method 534 319 (.agg #[h]) "Implements").run Tryz.prog w = .ok (357,.agg #[h]) w:=by kernel_rfl
theorem as_mAsgn (h:Value) (w:World):(Go.method 534 319 (.agg #[h]) "AssignableTo").run Tryz.prog w = .ok (354,.agg #[h]) w:=by kernel_rfl
theorem as_elem (w:World):(telE #[.agg #[.pointer (some ⟨23,203,none⟩)]]).run Tryz.prog w = .ok (.iface 319 (.agg #[.pointer (some ⟨23,158,none⟩)])) w:=by kernel_rfl
theorem as_impl (w:World):(impE #[.agg #[.pointer (some ⟨23,158,none⟩)],.iface 319 (.agg #[.pointer (some ⟨23,28,none⟩)])]).run Tryz.prog w = .ok (.bool true) w:=by kernel_rfl
theorem as_typeF (v:Value) (w:World):(ReflectliteType.typeOf #[.iface 158 v]).run Tryz.prog w = .ok (.iface 319 (.agg #[.pointer (some ⟨23,158,none⟩)])) w:=by kernel_rfl
theorem as_asgnF (w:World):(asgE #[.agg #[.pointer (some ⟨23,158,none⟩)],.iface 319 (.agg #[.pointer (some ⟨23,158,none⟩)])]).run Tryz.prog w = .ok (.bool true) w:=by kernel_rfl
theorem as_asgnE (w:World):(asgE #[.agg #[.pointer (some ⟨23,394,none⟩)],.iface 319 (.agg #[.pointer (some ⟨23,158,none⟩)])]).run Tryz.prog w = .ok (.bool false) w:=by kernel_rfl
theorem as_valF (e:Addr) (w:World):(valE #[.iface 158 (.pointer (some e))]).run Tryz.prog w
  = .ok (.agg #[.pointer (some ⟨23,158,none⟩),.pointer (some ⟨w.heap.size,0,none⟩),.int .u64 150]) (w.alloc (.cells #[.pointer (some e)] 158)):=by kernel_rfl
theorem as_noAsE (v:Value) (xT:TypeId) (w:World):(Instr.typeAssert (.iface 394 v) xT 323 true).run Tryz.prog w = .ok (.tuple #[.nilIface,.bool false]) w:=run_typeAssert_lacksB Tryz.underlying323 (by kernel_rfl) (by kernel_rfl) v xT w
abbrev asV (w:World) (t:Addr):World:=(w.alloc (.cells #[.pointer (some t)] 203)).alloc (.cells #[.pointer (some ⟨23,203,none⟩),.pointer (some ⟨w.heap.size,0,none⟩),.int .u64 150] 273)

set_option maxHeartbeats 4000000 in
theorem as_miss (e t:Addr) (w:World) (hg:w.cell? ⟨9,0,none⟩=some (.iface 319 (.agg #[.pointer (some ⟨23,28,none⟩)]))) :
  Calls Tryz.prog 136 #[.iface 394 (.pointer (some e)),.iface 203 (.pointer (some t))] w fun ev w'=>ev = .returned (.bool false)∧w'=(asV w t).alloc (.cells #[.pointer (some ⟨23,203,none⟩),.pointer (some ⟨w.heap.size,0,none⟩),.int .u64 150] 273):=by
 have x0 := @run_callFunc_extern Tryz.prog 185 _ valE Tryz.func185 (by kernel_rfl) (by kernel_rfl) (by kernel_rfl) (by kernel_rfl)
 have x1 := @run_callFunc_extern Tryz.prog 186 _ typE Tryz.func186 (by kernel_rfl) (by kernel_rfl) (by kernel_rfl) (by kernel_rfl)
 have x2 := @run_callFunc_extern Tryz.prog 187 _ rnlE Tryz.func187 (by kernel_rfl) (by kernel_rfl) (by kernel_rfl) (by kernel_rfl)
 have x3 := @run_callFunc_extern Tryz.prog 344 _ kndE Tryz.func344 (by kernel_rfl) (by kernel_rfl) (by kernel_rfl) (by kernel_rfl)
 have x4 := @run_callFunc_extern Tryz.prog 356 _ telE Tryz.func356 (by kernel_rfl) (by kernel_rfl) (by kernel_rfl) (by kernel_rfl)
 have x5 := @run_callFunc_extern Tryz.prog 357 _ impE Tryz.func357 (by kernel_rfl) (by kernel_rfl) (by kernel_rfl) (by kernel_rfl)
 have x6 := @run_callFunc_extern Tryz.prog 189 _ ReflectliteType.typeOf Tryz.func189 (by kernel_rfl) (by kernel_rfl) (by kernel_rfl) (by kernel_rfl)
 have x7 := @run_callFunc_extern Tryz.prog 354 _ asgE Tryz.func354 (by kernel_rfl) (by kernel_rfl) (by kernel_rfl) (by kernel_rfl)
 have x8 := @run_callFunc_extern Tryz.prog 256 _ elmE Tryz.func256 (by kernel_rfl) (by kernel_rfl) (by kernel_rfl) (by kernel_rfl)
 have x9 := @run_callFunc_extern Tryz.prog 257 _ setE Tryz.func257 (by kernel_rfl) (by kernel_rfl) (by kernel_rfl) (by kernel_rfl)
 have f_as_vF:=as_vF
 have f_as_tF:=as_tF
 have f_as_mKind:=as_mKind
 have f_as_kFF:=as_kFF
 have f_as_kF:=as_kF
 have f_as_mElem:=as_mElem
 have f_as_mImpl:=as_mImpl
 have f_as_mAsgn:=as_mAsgn
 have f_as_elem:=as_elem
 have f_as_impl:=as_impl
 have f_as_typeF:=as_typeF
 have f_as_asgnF:=as_asgnF
 have f_as_asgnE:=as_asgnE
 have f_as_valF:=as_valF
 have f_is_typeOf:=Zbg
 have f_as_noAsE:=as_noAsE
 have f_is_noUnwrapE:=Zau
 have f_is_noUnwrapsE:=Q4
 have n8:=as_isNil ⟨w.heap.size,0,none⟩ t (asV w t) (by simp [asV])
 have hlt:9<w.heap.size:=by
  rcases Nat.lt_or_ge 9 w.heap.size with h|h
  ·exact h
  ·simp [World.cell?,Array.getElem?_eq_none h] at hg
 have hg2:(asV w t).cell? ⟨9,0,none⟩=some (.iface 319 (.agg #[.pointer (some ⟨23,28,none⟩)])):=by
  unfold asV
  rw [World.cell?_alloc_lt _ _ ⟨9,0,none⟩ (by simp;omega),World.cell?_alloc_lt _ _ ⟨9,0,none⟩ hlt];exact hg
 go_enter Tryz.func136,Tryz.ntmps136
 go_wp2
 refine wp_loop_rounds 1 ?_
 rw [rounds_succ]
 go_wp2
 go_ret
 exact ⟨rfl,rfl⟩
end Go.HL
end

/-! ErC -/
section
namespace Go.HL
open Go Go.Proofs
def all9:List Nat:=[1,2,3,4,5,6,7,8,9]
structure Ez (T:Nat) (E:Nat→Addr) (L:Zb):Prop where
 ty:T=394
 errs:Er T E all9 L
 blk : ∀ c,List.elem c all9=true → ∃ ca ta,Has L (E c).block (.cells ca ta (0,0))
 one : ∀ c c',List.elem c all9=true→List.elem c' all9=true→E c=E c'→c=c'
 et:Gl L 9 (.iface 319 (.agg #[.pointer (some ⟨23,28,none⟩)]))
theorem Ez.cons {T:Nat} {E:Nat→Addr} {L:Zb} (h:Ez T E L) (c:List Zo):Ez T E (c::L):=
 ⟨h.ty,h.errs.cons c,fun k hk=>let ⟨ca,ta,hb⟩:=h.blk k hk;⟨ca,ta,Ze hb⟩,h.one,h.et.cons⟩
theorem Ez.mono {T:Nat} {E:Nat→Addr} {L L':Zb} (h:Ez T E L) (hl : ∀ b o,Has L b o→Has L' b o):Ez T E L':=
 ⟨h.ty,h.errs.mono hl,fun k hk=>let ⟨ca,ta,hb⟩:=h.blk k hk;⟨ca,ta,hl _ _ hb⟩,h.one,h.et.mono hl⟩
theorem Ez.er {T:Nat} {E:Nat→Addr} {L:Zb} (h:Ez T E L) (cs:List Nat) (hm:(cs.all fun g=>all9.elem g)=true:=by rfl):Er T E cs L:=h.errs.sub hm
theorem is_calls (a b:Addr) (L:Zb) (h:a=b∨(a≠b∧(∃ ca ta,Has L a.block (.cells ca ta (0,0))) ∧ ∃ cb tb,Has L b.block (.cells cb tb (0,0)))) :
  HC Tryz.prog 137 [.iface 394 (.pointer (some a)),.iface 394 (.pointer (some b))] L (fun v L'=>v = .bool (decide (a=b))∧L'=L):=by
 refine ⟨fun args w=>Tryz.call137 args w,fun k w hs=>?_⟩
 rcases h with rfl|⟨hne,⟨ca,ta,ha⟩,cb,tb,hb⟩
 ·exact (is_same a w).mono fun e w' ⟨he,hw⟩=>⟨_,L,he,hw▸hs,by simp,rfl⟩
 ·exact (is_other a b ca cb ta tb w hne (hs.heap ha) (hs.heap hb)).mono fun e w' ⟨he,hw⟩=>⟨_,L,he,hw▸hs,by simp [hne],rfl⟩
theorem Sat.news {k:Ze1} {w:World} {L:Zb} (h:Sat k w L) (o:Obj):Sat k (w.alloc o) L:=(h.new o).sub ((List.Sublist.refl _).cons _)
theorem Gl.cell {k:Ze1} {w:World} {L:Zb} {g:Nat} {v:Value} (hs:Sat k w L) (h:Gl L g v):w.cell? ⟨g,0,none⟩=some v:=by
 obtain ⟨l,E,fr,h1,h2⟩:=h
 rw [hs.cell h1];exact h2
theorem Ze2 (e:Addr) (t:Addr) (L:Zb) (hg:Gl L 9 (.iface 319 (.agg #[.pointer (some ⟨23,28,none⟩)]))) :
  HC Tryz.prog 136 [.iface 394 (.pointer (some e)),.iface 203 (.pointer (some t))] L (fun v L'=>v = .bool false∧L'=L):=by
 refine ⟨fun args w=>Tryz.call136 args w,fun k w hs=>?_⟩
 refine (as_miss e t w (hg.cell hs)).mono fun ev w' ⟨he,hw⟩=>⟨_,L,he,?_,rfl,rfl⟩
 rw [hw]
 exact ((hs.news _).news _).news _
set_option maxHeartbeats 2000000 attribute [local irreducible] HW HO HQ HD HC QOp Has Upd Zq Gets Yj Ya Zv Wf Yg Zp Wq Z5
theorem code_nil (L:Zb):HC Tryz.prog 79 [.nilIface] L (fun v L'=>v = .tuple ⟨[iv 0,iv (-1)]⟩∧L'=L):=by
 refine Za (fun _ _=>Tryz.call79 _ _) Tryz.func79 rfl Tryz.ntmps79 (Nat.le_of_ble_eq_true rfl) ?_;simp only [Zd,Nat.reduceAdd]
 repeat' (first|refine uN ?_|(refine uB ?_;intro b)|(refine uP ?_ ?_<;>(intro h;((try simp only [zs,zq,reduceCtorEq] at h);try exact zx)))|fail)
 exact Q9 (LS.refl _) ⟨rfl,rfl⟩
def eL (T:Nat) (E:Nat→Addr):List Value:=all9.map fun c=>eV T E (some c)
theorem eL_get {T:Nat} {E:Nat→Addr} {i:Nat} (h:i<9):(eL T E)[0+(i:Int).toNat]? = some (errV T E (i+1)):=by
 have : ∀ i,i<9→(all9.map fun c=>eV T E (some c))[i]? = some (errV T E (i+1)):=by
  intro i h
  match i,h with
  | 0,_=>rfl
  | 1,_=>rfl
  | 2,_=>rfl
  | 3,_=>rfl
  | 4,_=>rfl
  | 5,_=>rfl
  | 6,_=>rfl
  | 7,_=>rfl
  | 8,_=>rfl
 simpa [eL] using this i h
theorem elem9 {i:Nat} (h:i<9):List.elem (i+1) all9=true:=by
 have : ∀ i,i<9→List.elem (i+1) all9=true:=by decide
 exact this i h
theorem Zjn (T:Nat) (E:Nat→Addr) (c:Nat) (L:Zb) (hE:Ez T E L) (hc:List.elem c all9=true):HC Tryz.prog 79 [eV T E (some c)] L (fun v L'=>v = .tuple ⟨[iv c,iv (-1)]⟩∧L'=L):=by
 have hT:=hE.ty
 have hG:=hE.errs
 have hA:=Ze2 (E c)
 have hI : ∀ i L',Ez T E L'→i<9→HC Tryz.prog 137 [eV T E (some c),errV T E (i+1)] L' (fun v L2=>v = .bool (decide (E c=E (i+1)))∧L2=L'):=fun i L' h9 hi=>by
  subst hT
  refine is_calls (E c) (E (i+1)) L' ?_
  by_cases he:E c=E (i+1)
  ·exact .inl he
  ·exact .inr ⟨he,h9.blk c hc,h9.blk (i+1) (elem9 hi)⟩
 subst hT
 refine Za (fun _ _=>Tryz.call79 _ _) Tryz.func79 rfl Tryz.ntmps79 (Nat.le_of_ble_eq_true rfl) ?_;simp only [Zd,Nat.reduceAdd]
 repeat' (first|refine uN ?_|(refine uB ?_;intro b)|(refine uP ?_ ?_<;>(intro h;((try simp only [zs,zq,reduceCtorEq] at h);try exact zx)))|fail)
 refine gc (hA ⟨b,0,none⟩ _ hE.et.cons) ?_
 rintro v L' ⟨rfl,rfl⟩
 have hG2:=hG.cons [(b,.cells ⟨[.pointer none]⟩ 158)]
 repeat' (first|refine uN ?_|(refine uB ?_;intro b)|(refine uP ?_ ?_<;>(intro h;((try simp only [zs,zq,reduceCtorEq] at h);try exact zx)))|fail)
 rename_i b0
 refine Z2 (σ:=Nat) (fun i=>[(0,eV 394 E (some c)),(3,iv (-1)),(25,sl b 0 9 9),(26,iv 9),(27,iv i)]) (fun _=>[(b,.cells ⟨eL 394 E⟩ 28)]::[(b0,.cells ⟨[.pointer none]⟩ 158)]::L) (fun i=>i≤8∧i<c) (fun i=>9-i) 0 uS (List.Sublist.refl _) ⟨by omega,?_⟩ ?_
 ·cases c with
  | zero=>exact absurd hc (by decide)
  | succ c=>omega
 rintro i ⟨h8,hlt⟩
 have g:=eL_get (T:=394) (E:=E) (show i<9 by omega)
 have hz:=hI i _ ((hE.cons [(b0,.cells ⟨[.pointer none]⟩ 158)]).cons [(b,.cells ⟨eL 394 E⟩ 28)]) (by omega)
 repeat' (first|refine uN ?_|refine uC (hz) ?_|(refine uB ?_;intro b)|(refine uP ?_ ?_<;>(intro h;((try simp only [zs,zq,reduceCtorEq] at h);try exact zx)))|fail)
 ·obtain rfl:=hE.one c (i+1) hc (elem9 (by omega)) h
  exact Q9 uZ ⟨rfl,rfl⟩
 ·have hne:c≠i+1:=fun e=>h (congrArg E e)
  have h10:c<10:=by
   have:=List.elem_iff.1 hc
   simp [all9] at this
   omega
  exact Zi (i+1) uS (List.Sublist.refl _) ⟨by omega,by omega⟩ (by omega)
def cdN:Option Nat→Int
 | none=>0
 | some c=>c
def okE:Option Nat→Prop
 | none=>True
 | some c=>List.elem c all9=true
theorem Zhu (T:Nat) (E:Nat→Addr) (e:Option Nat) (L:Zb) (hE:Ez T E L) (he:okE e):HC Tryz.prog 79 [eV T E e] L (fun v L'=>v = .tuple ⟨[iv (cdN e),iv (-1)]⟩∧L'=L):=by
 cases e with
 | none=>exact code_nil L
 | some c=>exact Zjn T E c L hE he
end Go.HL
end

/-! LayB -/
section
namespace Go.HL
open Go Go.Proofs Go.ChangeShapes Go.WideShapes Go.ChangeAt Go.RowKit
def handL:List (String × DataW Unit):=[("errors.errorType",.iface "internal/reflectlite.rtype" (.agg [.ptr (.lit (.string [101,114,114,111,114]))]))]
theorem hd_et:Tryz.prog.globalNamed "errors.errorType" = some 9:=by kernel_rfl
theorem hd_rt:(Tryz.prog.cutTypes.find? (·.1 == "internal/reflectlite.rtype")).map (·.2)=some 319:=by kernel_rfl
theorem hd_row:((List.range 434).filter fun t=>Tryz.prog.rowNamed t [101,114,114,111,114])=[28]:=by kernel_rfl
theorem hd_size:Tryz.prog.types.size=434:=by kernel_rfl
theorem Zmu:typeHandle Tryz.prog 28 = .pointer (some ⟨23,28,none⟩):=by kernel_rfl
theorem Zmt {W:World} (h:handlesMet Tryz.prog handL W):Gl [Ug W] 9 (.iface 319 (.agg #[.pointer (some ⟨23,28,none⟩)])):=by
 obtain ⟨name,u,ty,e1,e2,e3,e4,e5⟩:=h _ (List.mem_singleton.2 rfl)
 have en:name=[101,114,114,111,114]:=(Option.some.inj e1).symm
 subst en
 obtain rfl:=Option.some.inj (hd_rt.symm.trans e2)
 have hm:ty∈(List.range 434).filter fun t=>Tryz.prog.rowNamed t [101,114,114,111,114]:=List.mem_filter.2 ⟨List.mem_range.2 (by rw [← hd_size];exact e3),e4⟩
 rw [hd_row] at hm
 obtain rfl:=List.mem_singleton.1 hm
 rw [Zmu] at e5
 exact Zfk hd_et e5
theorem text_inj {c c':Nat} (h:List.elem c all9=true) (h':List.elem c' all9=true) (e:Qi c=Qi c'):c=c':=by
 have key:(all9.all fun c=>all9.all fun c'=>decide (Qi c=Qi c'→c=c'))=true:=by decide +kernel
 have h1:=List.all_eq_true.1 (List.all_eq_true.1 key c (List.elem_iff.1 h)) c' (List.elem_iff.1 h')
 exact of_decide_eq_true h1 e
theorem ez_of {W:World} {l:List Nat} (hs:laidMet Tryz.prog (Zfz l) W) (hh:handlesMet Tryz.prog handL W) (hl:(all9.all fun c=>l.elem c)=true:=by rfl) (hm:(l.all fun c=>errTab.any fun p=>Nat.beq p.2 c)=true:=by rfl) : ∃ E,Ez 394 E [Ug W]:=by
 obtain ⟨E,hG,hE⟩:=errs_of hs hm
 have hmem : ∀ c,List.elem c all9=true→c∈l:=fun c hc=>List.elem_iff.1 (List.all_eq_true.1 hl c (List.elem_iff.1 hc))
 refine ⟨E,rfl,hG.sub hl,fun c hc=>(hE c (hmem c hc)).2.2,fun c c' hc hc' e=>?_,Zmt hh⟩
 have h1:=(hE c (hmem c hc)).2.1
 have h2:=(hE c' (hmem c' hc')).2.1
 rw [e,h2] at h1
 have h3:Qi c'=Qi c:=by
  have:=Option.some.inj h1
  simp only [Value.string.injEq,ByteArray.mk.injEq,Array.mk.injEq] at this
  exact this
 exact text_inj hc hc' h3.symm
theorem Zgv {P:Program} {w0:World} {laid:List (String × DataW Unit)} (args:Array Value) (hf:w0.layFits P laid []=true) (hi:w0.layIfaces P laid (w0.layVars P laid)=true) :
  laidMet P laid ((w0.layVars P laid).forCall (fun _ _=>0) ⟨#[],args,[]⟩).memory:=by
 have e1:(laid.filter fun x=>(laid.map (·.1)).contains x.1)=laid:=List.filter_eq_self.2 fun x hx=>List.contains_iff_mem.2 (List.mem_map.2 ⟨x,hx,rfl⟩)
 have e2:(laid.filter fun x => !(laid.map (·.1)).contains x.1)=[]:=List.filter_eq_nil_iff.2 fun x hx=>by rw [List.contains_iff_mem.2 (List.mem_map.2 ⟨x,hx,rfl⟩)];simp
 have h:laidMet P laid (w0.layVars P laid):=laidMet_layVars (w0:=w0) (laid.map (·.1)) [] (by rw [e1]) (by rw [e1];exact hf) (by rw [e1];exact hi) (by rw [e2];exact LaidIn.none)
 exact h.of_heap (by simp [World.memory,World.forCall,Input.heap])
noncomputable def w0H (os:Os):World:=
 let w:=World.holding Tryz.prog os ⟨#[],#[],[]⟩
 { w with heap:=w.heap.modify 9 fun
   | .cells _ t frozen => .cells #[.iface 319 (.agg #[.pointer (some ⟨23,28,none⟩)])] t frozen
   | o=>o }
noncomputable def layH (os:Os) (l:List Nat):World:=(w0H os).layVars Tryz.prog (Zfz l)
theorem layH_os (os:Os) (l:List Nat):(layH os l).os=os:=World.layVars_os _ _ _
end Go.HL
end

/-! CdLv -/
section
namespace Go.HL
open Go
theorem and_mk {a b:Bool} (ha:a=true) (hb:b=true):(a && b)=true:=by rw [ha,hb];rfl
theorem Zav {a:Assume} {C:Checked} {os:Os} {f:FuncId} {r:Reach} {Pre:World→Array Value→Prop} {Post:World→Array Value→Value→World→Prop} (h:ReturnsInHanded a C os f r Pre Post):ReturnsInLeavingWide a C os f r Pre Post:=fun enter=>by
 obtain ⟨h0,h1,h2,h3,h4⟩:=h enter
 refine ⟨h0,h1,h2,h3,fun w tape i hi=>?_⟩
 obtain ⟨n,v,w',e1,e2,e3,e4,⟨j,last,e5,e6,e7,e8,e9⟩,e10⟩:=h4 w tape i hi
 exact ⟨n,v,w',e1,e2,e3,e4,⟨j,last,e5,e6,e8,onlyLeaving_of_quiet e7,e9⟩,e10⟩
theorem Zcl (Lk:Looks) {p:Pinned} {s:OpenSpec} {c:OpenClaim} (al:List (List PathCond)) (kinds:List LaidKind) (tests:Bool) (har:Bool × String) (lk:Bool) (g:Bool)
  (hc:c.holds p s) (hal : ∀ D∈al,(c.withDomain D).holds p s) (hw:c.wfByText s=true) (hwal : ∀ D∈al,(c.withDomain D).wfByText s=true)
  (htie:c.laidByTextAt Lk p kinds tests)
  (hst:c.start = .entering) (hnb:c.noBlocks=false∧c.again=false) (hm:p.checked.prog.mainIs=some (har.1,har.2.toList)) (hn:(!har.1 && har.2.isEmpty && !lk)=false)
  (hl : ∀ f fn,p.checked.prog.funcNamed c.func=some f→p.checked.prog.funcs[f]? = some fn→lk=p.checked.prog.looks [] ∧ ∀ (j:Nat) t,fn.params[j]? = some t→p.checked.prog.wantsStandIn t=false)
  (hg:g=c.goesBy p.checked.prog) :
  Claim7.holds p (.plain s) { stood:={ row:=c,standIns:=[],harness:=har,looks:=lk },kinds:=[],alts:=al,laidByText:=true,laidKinds:=kinds,laidTests:=tests,laidLooks:=Lk,goes:=g }:=by
 have h6 : ∀ r:OpenClaim,Claim7.isSixth { stood:={ row:=r,standIns:=[],harness:=har,looks:=lk },kinds:=[] }=false:=fun r=>by simpa [Claim7.isSixth] using hn
 refine ⟨Claim7.tied_new_at Lk kinds tests (Claim7.new_of_sixth hc har lk hst hnb hm (h6 c) hl) hw,fun D hD=>?_,htie,(fun h=>by cases h),hg⟩
 exact Claim7.tied_new_at Lk kinds tests (Claim7.new_of_sixth (hal D hD) har lk hst hnb hm (h6 _) hl) (hwal D hD)
end Go.HL
end

/-! CdFa -/
section
namespace Go.HL
set_option maxRecDepth 100000
open Go Go.Proofs Go.ChangeShapes Go.WideShapes Go.ChangeAt Go.RowKit
end Go.HL
end

/-! LdA -/
section
namespace Go.HL
open Go Go.Proofs
abbrev Y9 (v:Value) (xs:List Fr) (c:List Zo):Prop:=Vec 131 9 fc v xs c
theorem Zl (f:Fr):(fc f).length=9:=rfl
theorem Vj (f:Fr):(fc f).all Value.oneCell'=true:=rfl
theorem Zbq (s:St):(sc s).length=3:=rfl
theorem sc_one (s:St):(sc s).all Value.oneCell'=true:=rfl
theorem Yh (x:Int):(ic x).length=1:=rfl
theorem Zdi (x:Int):(ic x).all Value.oneCell'=true:=rfl
structure Ld where
 id:Int
 deal:Int
 att:Int
 w:List Int
 state:List UInt8
 wait:Int
 heard:Nat
 told:List St
 phase:Int
 seen:Int
def Zhb:List UInt8:=[97,115,107,105,110,103]
def Za0:List UInt8:=[112,114,101,112,97,114,105,110,103]
def Zl0:List UInt8:=[100,111,110,101]
def Ub:List UInt8:=[114,101,102,117,115,101,100]
def Zia (wv:Value) (m:Ld):List Value:=[iv m.id,iv m.deal,iv m.att,wv,bs m.state,iv m.wait,iv m.heard]
def Yt (wv:Value) (m:Ld):List Value:=Zia wv m++(m.told.map sc).flatten++[iv m.phase,iv m.seen]
def W6 (lp:Nat) (wv:Value) (wc:List Zo) (m:Ld):List Zo:=(lp,.cells ⟨Yt wv m⟩ 193)::wc
structure LdOk (wv:Value) (wc:List Zo) (m:Ld):Prop where
 vec:Vec 3 1 ic wv m.w wc
 told:m.told.length=7
 len:m.w.length≤7
theorem Yl {wv:Value} {m:Ld} {k:Nat} {v:Value} (h:(Zia wv m)[k]? = some v):(Yt wv m)[0+k]? = some v:=by
 have hlt:k<(Zia wv m).length:=(List.getElem?_eq_some_iff.1 h).1
 rw [Nat.zero_add,Yt,List.append_assoc,List.getElem?_append_left hlt,h]
theorem ld_len {wv:Value} {m:Ld} (h:m.told.length=7):(Yt wv m).length=30:=by
 simp [Yt,Zia,Zz Zbq,h]
theorem Zb7 {wv:Value} {m:Ld} (h:m.told.length=7):(Zia wv m++(m.told.map sc).flatten).length=28:=by
 simp [Zia,Zz Zbq,h]
theorem ld_phase {wv:Value} {m:Ld} (h:m.told.length=7):(Yt wv m)[0+28]? = some (iv m.phase):=by
 rw [Yt,List.getElem?_append_right (by rw [Zb7 h];omega),Zb7 h];rfl
theorem Zgw {wv:Value} {m:Ld} (h:m.told.length=7):(Yt wv m)[0+29]? = some (iv m.seen):=by
 rw [Yt,List.getElem?_append_right (by rw [Zb7 h];omega),Zb7 h];rfl
theorem ld_told {wv:Value} {m:Ld} {i:Nat} {s:St} (h:m.told[i]? = some s):Gets (Yt wv m) (0+7+(i:Int).toNat*3) (sc s):=by
 have:=Vl (enc:=sc) (sz:=3) Zbq m.told [iv m.phase,iv m.seen] (Zia wv m) i s h
 simpa [Yt,Zia] using this
theorem Vd {wv:Value} {m m':Ld} {k:Nat} {v:Value} (h:Zia wv m'=(Zia wv m).set k v) (hk:k<7) (e1:m'.told=m.told) (e2:m'.phase=m.phase) (e3:m'.seen=m.seen):Zq (Yt wv m) (0+k) [v] (Yt wv m'):=by
 have hlt:k<(Zia wv m).length:=hk
 have e:Yt wv m'=(Yt wv m).set (0+k) v:=by
  rw [Nat.zero_add,Yt,Yt,h,e1,e2,e3,List.append_assoc,List.append_assoc,List.set_append_left _ _ hlt]
 rw [e]
 exact Wk (by rw [Yt,List.append_assoc,List.length_append];omega)
theorem ld_put28 {wv:Value} {m:Ld} (h:m.told.length=7) (p:Int):Zq (Yt wv m) (0+28) [iv p] (Yt wv { m with phase:=p }):=by
 have e:Yt wv { m with phase:=p }=(Yt wv m).set (0+28) (iv p):=by
  show Zia wv m++(m.told.map sc).flatten++[iv p,iv m.seen]=(Zia wv m++(m.told.map sc).flatten++[iv m.phase,iv m.seen]).set (0+28) (iv p)
  rw [List.set_append_right _ _ (by rw [Zb7 h];omega),Zb7 h];rfl
 rw [e]
 exact Wk (by rw [ld_len h];omega)
theorem Zic {wv:Value} {m:Ld} (h:m.told.length=7) (p:Int):Zq (Yt wv m) (0+29) [iv p] (Yt wv { m with seen:=p }):=by
 have e:Yt wv { m with seen:=p }=(Yt wv m).set (0+29) (iv p):=by
  show Zia wv m++(m.told.map sc).flatten++[iv m.phase,iv p]=(Zia wv m++(m.told.map sc).flatten++[iv m.phase,iv m.seen]).set (0+29) (iv p)
  rw [List.set_append_right _ _ (by rw [Zb7 h];omega),Zb7 h];rfl
 rw [e]
 exact Wk (by rw [ld_len h];omega)
theorem Zll {wv:Value} {m:Ld} {i:Nat} (s:St) (h:i<m.told.length):Zq (Yt wv m) (0+7+(i:Int).toNat*3) (sc s) (Yt wv { m with told:=m.told.set i s }):=by
 have:=Zd9 (enc:=sc) (sz:=3) Zbq m.told [iv m.phase,iv m.seen] (Zia wv m) i (0+7+(i:Int).toNat*3) s h (by simp [Zia])
 exact this
def Zci (m:Ld) (kind phase:Int) (i:Nat):List Fr:=if kind≠3∨(i:Int)≠m.id then [⟨m.id,i,m.deal,kind,m.att,false,⟨phase,0,0⟩⟩] else []
def Zcj (m:Ld) (kind phase:Int):List Fr:=(List.range m.w.length).flatMap (Zci m kind phase)
def Xd (m:Ld):List Fr:=if m.att=0 then Zcj m 1 0 else Zcj m 3 0
def Q6 (m:Ld) (phase:Int):Ld:={ m with state:=Za0,wait:=6,heard:=0,phase:=phase }
def Vu (m:Ld):Ld:={ m with state:=Zl0,wait:=0 }
def noM (m:Ld):Ld × List Fr:=if m.wait=2 then (Vu m,Zcj (Vu m) 7 3) else ({ m with state:=Ub,wait:=0 },[])
theorem Zed (f:Nat→List Fr) (i:Nat):(List.range (i+1)).flatMap f=(List.range i).flatMap f++f i:=by
 rw [List.range_succ,List.flatMap_append];simp
theorem W1 (f:Nat→List Fr) (hf : ∀ i,(f i).length≤1) : ∀ i,((List.range i).flatMap f).length≤i
 | 0=>by simp
 | i+1=>by rw [Zed,List.length_append];have:=W1 f hf i;have:=hf i;omega
theorem Zcr (m:Ld) (kind phase:Int) (i:Nat):(Zci m kind phase i).length≤1:=by unfold Zci;split<;>simp
set_option maxHeartbeats 2000000 attribute [local irreducible] HW HO HQ HD HC QOp Has Upd Zq Gets Yj Ya Zv Wf Yg Zp Wq Z5
attribute [local irreducible] Yt
theorem Qo (lp:Nat) (wv:Value) (wc:List Zo) (m:Ld) (kind phase:Int) (L:Zb) (hm:LdOk wv wc m):HC Tryz.prog 125 [pt lp 0,iv kind,iv phase] (W6 lp wv wc m::L)
  (fun v L' => ∃ c,Y9 v (Zcj m kind phase) c∧L'=c::W6 lp wv wc m::L):=by
 obtain ⟨a,cap,rfl,hcap,hR⟩:=hm.vec.rd Yh
 have hlen:=hm.len
 generalize hwv:Value.slice a m.w.length cap=wv
 have g0:(Yt wv m)[0+0]? = some (iv m.id):=Yl rfl
 have g1:(Yt wv m)[0+1]? = some (iv m.deal):=Yl rfl
 have g2:(Yt wv m)[0+2]? = some (iv m.att):=Yl rfl
 have g3:(Yt wv m)[0+3]? = some (.slice a m.w.length cap):=by rw [hwv];exact Yl rfl
 refine Za (fun _ _=>Tryz.call125 _ _) Tryz.func125 rfl Tryz.ntmps125 (Nat.le_of_ble_eq_true rfl) ?_;simp only [Zd,Nat.reduceAdd]
 repeat' (first|refine uN ?_|refine Z8 S ?_|refine Yq S ?_|(refine uB ?_;intro b)|(refine uP ?_ ?_<;>(intro h;((try simp only [zs,zq,reduceCtorEq] at h);try exact zx)))|refine da 101 ?_|fail)
 refine Zlg ?_
 refine Z2 (σ:=Nat × Value × List Zo) (fun q=>[(0,pt lp 0),(1,iv kind),(2,iv phase),(7,q.2.1),(13,iv m.w.length),(14,iv q.1)]) (fun q=>q.2.2::W6 lp wv wc m::L) (fun q=>q.1≤m.w.length∧Y9 q.2.1 ((List.range q.1).flatMap (Zci m kind phase)) q.2.2) (fun q=>m.w.length-q.1) (0,Vr,[]) uS (List.Sublist.refl _) ⟨by simp,Yk⟩ ?_
 rintro ⟨i,v,c⟩ ⟨hi,hv⟩
 simp only at hi hv ⊢
 have hle:=W1 (Zci m kind phase) (Zcr m kind phase) i
 have step : ∀ x,Zci m kind phase i=x→(List.range (i+1)).flatMap (Zci m kind phase)=(List.range i).flatMap (Zci m kind phase)++x:=fun x hx=>by rw [Zed,hx]
 by_cases hlt:i<m.w.length
 ·by_cases hid:kind=3∧(i:Int)=m.id
  ·have e:Zci m kind phase i=[]:=if_neg (by omega)
   repeat' (first|refine uN ?_|refine X5 S ?_|(refine uB ?_;intro b)|(refine uP ?_ ?_<;>(intro h;((try simp only [zs,zq,reduceCtorEq] at h);try exact zx)))|refine da 101 ?_|fail)
   refine Zi (i+1,v,c) uS (List.Sublist.refl _) ⟨by simp only;omega,?_⟩ (by simp only;omega)
   simp only
   rw [step _ e,List.append_nil]
   exact hv
  ·have e:Zci m kind phase i=[⟨m.id,i,m.deal,kind,m.att,false,⟨phase,0,0⟩⟩]:=if_pos (by omega)
   repeat' (first|refine uN ?_|refine X5 S ?_|(refine uB ?_;intro b)|(refine uP ?_ ?_<;>(intro h;((try simp only [zs,zq,reduceCtorEq] at h);try exact zx)))|refine da 101 ?_|fail)
   all_goals refine fo 1 ?_
   all_goals refine wp1 S ⟨m.id,i,m.deal,kind,m.att,false,⟨phase,0,0⟩⟩ hv Zl Vj ?_
   all_goals intro v' c' hv'
   all_goals repeat' (first|refine uN ?_|refine X5 S ?_|(refine uB ?_;intro b)|(refine uP ?_ ?_<;>(intro h;((try simp only [zs,zq,reduceCtorEq] at h);try exact zx)))|refine da 101 ?_|fail)
   all_goals refine Zi (i+1,v',c') uS (.cons_cons _ (.cons _ (.refl _))) ⟨by simp only;omega,?_⟩ (by simp only;omega)
   all_goals simp only
   all_goals rw [step _ e]
   all_goals exact hv'
 ·repeat' (first|refine uN ?_|refine X5 S ?_|(refine uB ?_;intro b)|(refine uP ?_ ?_<;>(intro h;((try simp only [zs,zq,reduceCtorEq] at h);try exact zx)))|refine da 101 ?_|fail)
  have hi2:i=m.w.length:=by omega
  subst hi2
  exact Xb (LS.refl _) ⟨c,hv,rfl⟩
theorem Zcd (lp:Nat) (wv:Value) (wc:List Zo) (m:Ld) (L:Zb) (hm:LdOk wv wc m):HC Tryz.prog 70 [pt lp 0] (W6 lp wv wc m::L)
  (fun v L' => ∃ c,Y9 v (Xd m) c∧L'=c::W6 lp wv wc m::L):=by
 have g2:(Yt wv m)[0+2]? = some (iv m.att):=Yl rfl
 unfold Xd
 refine Za (fun _ _=>Tryz.call70 _ _) Tryz.func70 rfl Tryz.ntmps70 (Nat.le_of_ble_eq_true rfl) ?_;simp only [Zd,Nat.reduceAdd]
 repeat' (first|refine uN ?_|(refine uP ?_ ?_<;>(intro h;((try simp only [zs,zq,reduceCtorEq] at h);try exact zx)))|fail)
 ·refine gc (Qo lp wv wc m 1 0 L hm) ?_
  rintro v L' ⟨c,hv,rfl⟩
  repeat' (first|refine uN ?_|(refine uP ?_ ?_<;>(intro h;((try simp only [zs,zq,reduceCtorEq] at h);try exact zx)))|fail)
  exact Xb (LS.refl _) ⟨c,by rw [if_pos h];exact hv,rfl⟩
 ·refine gc (Qo lp wv wc m 3 0 L hm) ?_
  rintro v L' ⟨c,hv,rfl⟩
  repeat' (first|refine uN ?_|(refine uP ?_ ?_<;>(intro h;((try simp only [zs,zq,reduceCtorEq] at h);try exact zx)))|fail)
  exact Xb (LS.refl _) ⟨c,by rw [if_neg h];exact hv,rfl⟩
theorem LdOk.of {wv:Value} {wc:List Zo} {m m':Ld} (h:LdOk wv wc m) (e1:m'.w=m.w) (e2:m'.told.length=m.told.length):LdOk wv wc m':=⟨e1▸h.vec,e2▸h.told,e1▸h.len⟩
theorem Q7 (lp:Nat) (wv:Value) (wc:List Zo) (m:Ld) (phase:Int) (L:Zb) (hm:LdOk wv wc m):HC Tryz.prog 129 [pt lp 0,iv phase] (W6 lp wv wc m::L)
  (fun v L' => ∃ c,Y9 v (Zcj (Q6 m phase) 5 phase) c∧L'=c::W6 lp wv wc (Q6 m phase)::L):=by
 have p1:Zq (Yt wv m) (0+4) [bs Za0] (Yt wv { m with state:=Za0 }):=Vd rfl (by decide) rfl rfl rfl
 have p2:Zq (Yt wv { m with state:=Za0 }) (0+5) [iv 6] (Yt wv { m with state:=Za0,wait:=6 }):=Vd rfl (by decide) rfl rfl rfl
 have p3:Zq (Yt wv { m with state:=Za0,wait:=6 }) (0+6) [iv 0] (Yt wv { m with state:=Za0,wait:=6,heard:=0 }):=Vd rfl (by decide) rfl rfl rfl
 have p4:Zq (Yt wv { m with state:=Za0,wait:=6,heard:=0 }) (0+28) [iv phase] (Yt wv (Q6 m phase)):=ld_put28 (m:={ m with state:=Za0,wait:=6,heard:=0 }) hm.told phase
 have k:=Qo lp wv wc (Q6 m phase) 5 phase L (hm.of rfl rfl)
 refine Za (fun _ _=>Tryz.call129 _ _) Tryz.func129 rfl Tryz.ntmps129 (Nat.le_of_ble_eq_true rfl) ?_;simp only [Zd,Nat.reduceAdd]
 repeat' (first|refine uN ?_)
 refine gc k ?_
 rintro v L' ⟨c,hv,rfl⟩
 repeat' (first|refine uN ?_)
 exact Xb (LS.refl _) ⟨c,hv,rfl⟩
theorem Ui (lp:Nat) (wv:Value) (wc:List Zo) (m:Ld) (phase:Int) (L:Zb) (hm:LdOk wv wc m):HC Tryz.prog 130 [pt lp 0,iv phase] (W6 lp wv wc m::L)
  (fun v L' => ∃ c,Y9 v (Zcj (Vu m) 7 phase) c∧L'=c::W6 lp wv wc (Vu m)::L):=by
 have p1:Zq (Yt wv m) (0+4) [bs Zl0] (Yt wv { m with state:=Zl0 }):=Vd rfl (by decide) rfl rfl rfl
 have p2:Zq (Yt wv { m with state:=Zl0 }) (0+5) [iv 0] (Yt wv (Vu m)):=Vd rfl (by decide) rfl rfl rfl
 have k:=Qo lp wv wc (Vu m) 7 phase L (hm.of rfl rfl)
 refine Za (fun _ _=>Tryz.call130 _ _) Tryz.func130 rfl Tryz.ntmps130 (Nat.le_of_ble_eq_true rfl) ?_;simp only [Zd,Nat.reduceAdd]
 repeat' (first|refine uN ?_)
 refine gc k ?_
 rintro v L' ⟨c,hv,rfl⟩
 repeat' (first|refine uN ?_)
 exact Xb (LS.refl _) ⟨c,hv,rfl⟩
theorem no_calls (lp:Nat) (wv:Value) (wc:List Zo) (m:Ld) (L:Zb) (hm:LdOk wv wc m):HC Tryz.prog 127 [pt lp 0] (W6 lp wv wc m::L)
  (fun v L' => ∃ c,Y9 v (noM m).2 c∧L'=c::W6 lp wv wc (noM m).1::L):=by
 have g5:(Yt wv m)[0+5]? = some (iv m.wait):=Yl rfl
 have p1:Zq (Yt wv m) (0+4) [bs Ub] (Yt wv { m with state:=Ub }):=Vd rfl (by decide) rfl rfl rfl
 have p2:Zq (Yt wv { m with state:=Ub }) (0+5) [iv 0] (Yt wv { m with state:=Ub,wait:=0 }):=Vd rfl (by decide) rfl rfl rfl
 have k:=Ui lp wv wc m 3 L hm
 unfold noM
 refine Za (fun _ _=>Tryz.call127 _ _) Tryz.func127 rfl Tryz.ntmps127 (Nat.le_of_ble_eq_true rfl) ?_;simp only [Zd,Nat.reduceAdd]
 repeat' (first|refine uN ?_|(refine uP ?_ ?_<;>(intro h;((try simp only [zs,zq,reduceCtorEq] at h);try exact zx)))|fail)
 ·refine gc k ?_
  rintro v L' ⟨c,hv,rfl⟩
  repeat' (first|refine uN ?_|(refine uP ?_ ?_<;>(intro h;((try simp only [zs,zq,reduceCtorEq] at h);try exact zx)))|fail)
  exact Xb (LS.refl _) ⟨c,by rw [if_pos h];exact hv,by rw [if_pos h]⟩
 ·refine Xb (L':=[]::W6 lp wv wc { m with state:=Ub,wait:=0 }::L) (LS.refl _) ⟨[],by rw [if_neg h];exact Yk,by rw [if_neg h]⟩
theorem Zgx (lp:Nat) (wv:Value) (wc:List Zo) (m:Ld) (L:Zb):HC Tryz.prog 77 [pt lp 0] (W6 lp wv wc m::L) (fun v L'=>v=bs m.state∧L'=W6 lp wv wc m::L):=by
 have g4:(Yt wv m)[0+4]? = some (bs m.state):=Yl rfl
 refine Za (fun _ _=>Tryz.call77 _ _) Tryz.func77 rfl Tryz.ntmps77 (Nat.le_of_ble_eq_true rfl) ?_;simp only [Zd,Nat.reduceAdd]
 repeat' (first|refine uN ?_)
 exact Xb (LS.refl _) ⟨rfl,rfl⟩
theorem Zif (lp:Nat) (wv:Value) (wc:List Zo) (m:Ld) (L:Zb) (h:m.told.length=7):HC Tryz.prog 191 [pt lp 0] (W6 lp wv wc m::L) (fun v L'=>v=iv m.seen∧L'=W6 lp wv wc m::L):=by
 have g4:=Zgw (wv:=wv) h
 refine Za (fun _ _=>Tryz.call191 _ _) Tryz.func191 rfl Tryz.ntmps191 (Nat.le_of_ble_eq_true rfl) ?_;simp only [Zd,Nat.reduceAdd]
 repeat' (first|refine uN ?_)
 exact Xb (LS.refl _) ⟨rfl,rfl⟩
end Go.HL
end

/-! HLKk -/
section
namespace Go.HL
open Go
section c
variable {P:Program} {n:Nat} {ops:List Oper} {Q:Exit→Zn→Zb→Prop} {ρ:Zn} {L:Zb}
end c
end Go.HL
end

/-! HLSl -/
section
namespace Go.HL
open Go
theorem Znr (vs:List Value) : ∀ (pre old post:List Value),old.length=vs.length→Vp (pre++old++post) pre.length vs=pre++vs++post:=by
 intro pre
 induction pre with
 | nil=>intro old post h;simpa using Za1 vs old post h
 | cons x r ih=>intro old post h;simp only [List.cons_append,List.length_cons,Ur,ih old post h]
theorem Zd8 {l vs:List Value} {i:Nat} (h:i+vs.length≤l.length):Zq l i vs (l.take i++vs++l.drop (i+vs.length)):=by
 refine ⟨?_,h⟩
 have hl:l=l.take i++(l.drop i).take vs.length++l.drop (i+vs.length):=by
  rw [List.append_assoc,← List.drop_drop,List.take_append_drop,List.take_append_drop]
 have e:(l.take i).length=i:=by simp;omega
 have:=Znr vs (l.take i) ((l.drop i).take vs.length) (l.drop (i+vs.length)) (by simp;omega)
 rw [← hl,e] at this
 exact this.symm
theorem Zju (pre new rest:List Value):Gets (pre++new++rest) pre.length new:=fun j v h=>by
 have hlt:j<new.length:=(List.getElem?_eq_some_iff.1 h).1
 rw [List.append_assoc,List.getElem?_append_right (by omega),Nat.add_sub_cancel_left,List.getElem?_append_left hlt]
 exact h
section q
variable {P:Program} (S:Tab P) {n:Nat} {ops:List Oper} {Q:Exit→Zn→Zb→Prop} {rest:List Oper} {ρ:Zn} {L:Zb} {ty:TypeId} {pos:String} {af:Array Edge}
theorem qS3 {d:Option Tmp} {g:Option (Nat × Bool)} {t E y0 s0 b0 k1 x1 y1 sz b1 len cap:Nat} {a:Option Addr} {x y z u:Operand} {k k2 k3:IntKind} {l hh m:Int} (h00:Xa ρ=true:=by exact rfl) (hx:ev ρ x=some (.slice a len cap):=by exact rfl) (hy:ev ρ y=some (.int k l):=by exact rfl) (hz:ev ρ z=some (.int k2 hh):=by exact rfl) (hu:ev ρ u=some (.int k3 m):=by exact rfl)
  (ht:Zr S.ty t=some ⟨5,E,y0,s0,b0⟩:=by exact rfl) (he:Zr S.ty E=some ⟨k1,x1,y1,sz,b1⟩:=by exact rfl) (h:0≤l∧l≤hh∧hh≤m∧m≤cap:=by first|assumption|omega) :
  QOp P ⟨d,.slice t x (some y) (some z) (some u),ty,pos,af,g⟩ ρ L (.slice (cut a m.toNat l.toNat sz) (hh.toNat-l.toNat) (m.toNat-l.toNat)):=
 Z6 fun ρe he' kc w hs=>by
  have hsl:=Z3 (S.tyI ht) rfl
  have hsize:(sizeOf E).run P w = .ok sz w:=Yx (S.tyI he) w
  have e1:=he' x (by simp [Op.operands]) _ hx
  have e2:=he' y (by simp [Op.operands]) _ hy
  have e3:=he' z (by simp [Op.operands]) _ hz
  have e4:=he' u (by simp [Op.operands]) _ hu
  have h1:(0:Int)≤hh:=by omega
  have h2:(0:Int)≤m:=by omega
  have h3:hh≤(m.toNat:Int):=by omega
  have h4:l≤(hh.toNat:Int):=by omega
  have hat:(Instr.sliceAt t (.slice a len cap) (some (.int k l)) (some (.int k2 hh)) (some (.int k3 m))).run P w = .ok (.slice (cut a m.toNat l.toNat sz) (hh.toNat-l.toNat) (m.toNat-l.toNat)) w:=by
   unfold Instr.sliceAt
   simp only [Sem.run_bind,run_underlying hsl,Result.andThen_ok]
   unfold Instr.slice
   have g1:(0:Int)≤m∧m≤(cap:Int):=⟨h2,h.2.2.2⟩
   have g2:(0:Int)≤hh∧hh≤(m.toNat:Int):=⟨h1,h3⟩
   have g3:(0:Int)≤l∧l≤(hh.toNat:Int):=⟨h.1,h4⟩
   simp only [Sem.run_bind,run_underlying hsl,Result.andThen_ok,Instr.sliceBounds,Instr.sliceBound,asIntOf,Sem.run_pure,if_pos g1,if_pos g2,if_pos g3,hsize,cut,Option.isSome,if_true]
  simp [execOp,e1,e2,e3,e4,hat]
theorem qCap {d:Option Tmp} {g:Option (Nat × Bool)} {t:Nat} {ti:TyI} {x:Operand} {a:Option Addr} {len cap:Nat} (h00:Xa ρ=true:=by exact rfl) (hx:ev ρ x=some (.slice a len cap):=by exact rfl) (ht:Zr S.ty t=some ti:=by exact rfl) (h5:ti.kind=5:=by exact rfl) :
  QOp P ⟨d,.call { callee := .builtin .cap,args := #[x],argTypes := #[t] },ty,pos,af,g⟩ ρ L (iv cap):=
 Z6 fun ρe he k w hs=>by
  have h1:=Z3 (S.tyI ht) h5
  simp [execOp,resolve,invoke,builtin,he x (by simp [Op.operands,Call.operands]) _ hx,Builtin.cap_,run_underlying h1,goInt]
theorem Zkb {d t E y0 s0 b0 k1 x1 y1 sz by1 m nn b cap:Nat} {u:Value} {l new:List Value} {x y:Operand}
  (hx:ev ρ x=some (sl b 0 nn cap)) (hy:ev ρ y=some u) (ht:Zr S.ty t=some ⟨5,E,y0,s0,b0⟩) (he:Zr S.ty E=some ⟨k1,x1,y1,sz,by1⟩)
  (hn:Nat.blt d n=true) (hs:Src sz ([(b,.cells ⟨l⟩ E)]::L) u m new) (h1:(new.all Value.oneCell')=true) (hroom:nn+m≤cap) (hlen:l.length=cap*sz)
  (h:HO P n ops Q rest ((d,sl b 0 (nn+m) cap)::ρ) ([(b,.cells ⟨l.take (nn*sz)++new++l.drop (nn*sz+new.length)⟩ E)]::L)) :
  HO P n ops Q (⟨some d,.call { callee := .builtin .append,args := #[x,y],argTypes := #[t,t] },ty,pos,af,none⟩::rest) ρ ([(b,.cells ⟨l⟩ E)]::L):=by
 refine Ww rfl rfl hn fun ρe he' k w hsat=>?_
 have hdesc:=Z3 (S.tyI ht) rfl
 obtain ⟨de,i,hde,hi,-,hisz,hiby⟩:=Y7 (S.tyI he)
 simp only at hisz hiby
 have hsize:(sizeOf E).run P w = .ok sz w:=Yx (S.tyI he) w
 have hone : ∀ u∈new,u.oneCell'=true:=fun u hu=>List.all_eq_true.1 h1 u hu
 have e1:=he' x (by simp [Op.operands,Call.operands]) _ hx
 have e2:=he' y (by simp [Op.operands,Call.operands]) _ hy
 have hb':w.heap[b]? = some (.cells ⟨l⟩ E):=hsat.heap Zj
 suffices ∃ w',(Builtin.append_ #[t,t] ty #[sl b 0 nn cap,u]).run P w = .ok (sl b 0 (nn+m) cap) w'∧Sat k w' ([(b,.cells ⟨l.take (nn*sz)++new++l.drop (nn*sz+new.length)⟩ E)]::L) by
  obtain ⟨w',hr,hs'⟩:=this
  refine ⟨_,w',_,?_,hs',h⟩
  simp [execOp,resolve,invoke,builtin,e1,e2,hr]
 rcases hs with ⟨a,cap',rfl,rfl,rfl⟩|⟨b2,j,cap',l2,F,fr,hm,rfl,hb,hg,hlen2⟩
 ·refine ⟨w,?_,by simpa using hsat⟩
  have:nn≤cap:=by omega
  cases a<;>simp [Builtin.append_,run_underlying hdesc,hsize,Builtin.lenOf,Builtin.firstCells,loadCells,loadCellsFrom,this,storeCells]
 ·have hnews : ∀ (q:Nat) (v:Value),new[q]? = some v→w.cell? ((Addr.mk b2 j none).add q)=some v:=fun q v hq=>by
   rw [Xl,hsat.cell hb];exact hg q v hq
  have hsplit:nn*sz+new.length≤l.length:=by
   rw [hlen2,hlen,← Nat.add_mul]
   exact Nat.mul_le_mul_right _ hroom
  have hr:=run_append_room (P:=P) w t ty E i hdesc hi b nn cap ⟨l⟩ hb' ⟨b2,j,none⟩ m cap' new (by rw [hisz];exact hlen2) hnews hone hroom (by rw [hisz];simpa using hsplit)
  rw [hisz] at hr
  refine ⟨_,hr,hsat.upd (o := .cells ⟨l⟩ E) (o' := .cells ⟨l.take (nn*sz)++new++l.drop (nn*sz+new.length)⟩ E) Xw rfl rfl rfl (setRow_heap w b _ _ E _ hb') (fun q hq=>?_)⟩
  simp only [World.setRow,Array.getElem?_modify]
  rw [if_neg (fun e=>hq e.symm)]
theorem Zfa (zs:List Value) (m:Nat) (h:(zs.all Value.oneCell')=true) : ∀ v∈(List.replicate m zs).flatten,v.oneCell'=true:=by
 intro v hv
 obtain ⟨l,hl,hv⟩:=List.mem_flatten.1 hv
 rw [List.eq_of_mem_replicate hl] at hv
 exact List.all_eq_true.1 h v hv
theorem Wo (zs:List Value) (m:Nat):(Builtin.zeroCells ⟨zs⟩ m).toList=(List.replicate m zs).flatten:=by
 have:=Vm zs m
 have e:Builtin.zeroCells ⟨zs⟩ m=madeCells ⟨zs⟩ (m*zs.length):=rfl
 rw [e,this]
theorem o_clear {t E y0 s0 b0 b i m cap:Nat} {z:Value} {zs l:List Value} {x:Operand} {L':Zb} (hx:ev ρ x=some (sl b i m cap)) (ht:Zr S.ty t=some ⟨5,E,y0,s0,b0⟩) (hz:Zr S.zr E=some z) (hzs:z.cells=⟨zs⟩) (h1:(zs.all Value.oneCell')=true)
  (hfit:i+m*zs.length≤l.length) (hu:Upd L b (.cells ⟨l⟩ E) (.cells ⟨l.take i++(List.replicate m zs).flatten++l.drop (i+m*zs.length)⟩ E) L')
  (h:HO P n ops Q rest ρ L') :
  HO P n ops Q (⟨none,.call { callee := .builtin .clear,args := #[x],argTypes := #[t] },ty,pos,af,none⟩::rest) ρ L:=by
 refine ho_do rfl rfl fun ρe he k w hs=>?_
 have hdesc:=Z3 (S.tyI ht) rfl
 have hzero:=Vq (S.zeroI hz) w
 have e1:=he x (by simp [Op.operands,Call.operands]) _ hx
 have hfl:((List.replicate m zs).flatten).length=m*zs.length:=by simp [List.length_flatten,List.map_replicate,List.sum_replicate_nat]
 have hp:Zq l i (List.replicate m zs).flatten (l.take i++(List.replicate m zs).flatten++l.drop (i+m*zs.length)):=by
  have:=Zd8 (l:=l) (i:=i) (vs:=(List.replicate m zs).flatten) (by rw [hfl];exact hfit)
  rw [hfl] at this
  exact this
 obtain ⟨hp1,hp2⟩:=hp
 obtain ⟨w',e3,e4,e5,et,e6,e7⟩:=Uq (P:=P) (k:=k) ((List.replicate m zs).flatten) i 0 l w (hs.heap hu.has) rfl (by simpa using hp2) (Zfa zs m h1)
 by_cases hm:m=0
 ·subst hm
  refine ⟨w,L',.inr ⟨.tuple #[],?_⟩,?_,h⟩
  ·simp [execOp,resolve,invoke,builtin,e1,Builtin.clear_,run_underlying hdesc]
  ·refine hs.upd hu rfl rfl rfl ?_ (fun _ _=>rfl)
   simpa using hs.heap hu.has
 ·refine ⟨w',L',.inr ⟨.tuple #[],?_⟩,hs.upd hu e4 e5 et (by rw [e6,hp1,Nat.add_zero]) e7,h⟩
  ·obtain ⟨m',rfl⟩ : ∃ m',m=m'+1:=⟨m-1,by omega⟩
   have hr:(Builtin.clear_ #[t] ty #[sl b i (m'+1) cap]).run P w = .ok (.tuple #[]) w':=by
    simp only [Builtin.clear_]
    simp only [List.getElem?_toArray,List.getElem?_cons_zero,Sem.run_bind,run_underlying hdesc,Result.andThen_ok]
    simp only [hzero,Result.andThen_ok,hzs,Wo,e3,Sem.run_pure,Sem.run_bind]
   simp [execOp,resolve,invoke,builtin,e1,hr]
theorem Zcw {d t t2 E y0 s0 b0 k1 x1 y1 sz by1 b i len cap ns cap2 k0:Nat} {a:Option Addr} {l new:List Value} {x y:Operand} {L':Zb} (hx:ev ρ x=some (sl b i len cap)) (hy:ev ρ y=some (.slice a ns cap2)) (ht:Zr S.ty t=some ⟨5,E,y0,s0,b0⟩) (he:Zr S.ty E=some ⟨k1,x1,y1,sz,by1⟩) (hn:Nat.blt d n=true)
  (hk:k0=Nat.min ns len) (hlen:new.length=k0*sz) (h1:(new.all Value.oneCell')=true) (hs:k0=0 ∨ ∃ b2 j l2 F fr,a=some ⟨b2,j,none⟩∧Has L b2 (.cells ⟨l2⟩ F fr)∧Gets l2 j new)
  (hfit:i+new.length≤l.length) (hu:Upd L b (.cells ⟨l⟩ E) (.cells ⟨l.take i++new++l.drop (i+new.length)⟩ E) L')
  (h:HO P n ops Q rest ((d,iv k0)::ρ) L') :
  HO P n ops Q (⟨some d,.call { callee := .builtin .copy,args := #[x,y],argTypes := #[t,t2] },ty,pos,af,none⟩::rest) ρ L:=
 Ww rfl rfl hn fun ρe he' kc w hsat=>by
  have hdesc:=Z3 (S.tyI ht) rfl
  have hsize:(sizeOf E).run P w = .ok sz w:=Yx (S.tyI he) w
  have e1:=he' x (by simp [Op.operands,Call.operands]) _ hx
  have e2:=he' y (by simp [Op.operands,Call.operands]) _ hy
  obtain ⟨hp1,hp2⟩:=Zd8 (l:=l) (i:=i) (vs:=new) hfit
  obtain ⟨w',e3,e4,e5,et,e6,e7⟩:=Uq (P:=P) (k:=kc) new i 0 l w (hsat.heap hu.has) rfl (by simpa using hp2) (fun v hv=>List.all_eq_true.1 h1 v hv)
  have hcells:(Builtin.firstCells sz k0 (.slice a ns cap2)).run P w = .ok ⟨new⟩ w:=by
   rcases hs with h0|⟨b2,j,l2,F,fr,rfl,hb,hg⟩
   ·subst h0
    have:new=[]:=List.eq_nil_of_length_eq_zero (by simpa using hlen)
    subst this
    cases a<;>simp [Builtin.firstCells,loadCells,loadCellsFrom]
   ·have hnews : ∀ (q:Nat) (v:Value),new[q]? = some v→w.cell? ((Addr.mk b2 j none).add q)=some v:=fun q v hq=>by
     rw [Xl,hsat.cell hb];exact hg q v hq
    have:=run_firstCells_some (P:=P) w sz k0 ⟨b2,j,none⟩ ns cap2 new hlen hnews
    simpa using this
  refine ⟨_,w',L',?_,hsat.upd hu e4 e5 et (by rw [e6,hp1,Nat.add_zero]) e7,h⟩
  have hr:(Builtin.copy_ #[t,t2] ty #[sl b i len cap,.slice a ns cap2]).run P w = .ok (iv k0) w':=by
   simp only [Builtin.copy_]
   simp only [List.getElem?_toArray,List.getElem?_cons_zero,List.getElem?_cons_succ,Sem.run_bind,run_underlying hdesc,Result.andThen_ok]
   simp only [Builtin.lenOf,Sem.run_pure,Result.andThen_ok,hsize,← hk,hcells,e3,goInt]
  simp [execOp,resolve,invoke,builtin,e1,e2,hr]
theorem Ziq {d t E y0 s0 b0 k1 x1 y1 sz by1:Nat} (ht:Zr S.ty t=some ⟨5,E,y0,s0,b0⟩) (he:Zr S.ty E=some ⟨k1,x1,y1,sz,by1⟩) (hn:Nat.blt d n=true)
  (h : ∀ b,HO P n ops Q rest ((d,sl b 0 0 0)::ρ) ([(b,.cells ⟨[]⟩ E)]::L)):HO P n ops Q (⟨some d,.buildSlice t 0 #[],ty,pos,af,none⟩::rest) ρ L:=by
 refine Ww rfl rfl hn fun ρe he' k w hs=>⟨sl w.heap.size 0 0 0,w.alloc (.cells ⟨[]⟩ E),_,?_,hs.new _,h _⟩
 have hdesc:=Z3 (S.tyI ht) rfl
 have hsize:(sizeOf E).run P w = .ok sz w:=Yx (S.tyI he) w
 have hbs:(Instr.buildSlice t 0 #[]).run P w = .ok (sl w.heap.size 0 0 0) (w.alloc (.cells ⟨[]⟩ E)):=by
  simp only [Instr.buildSlice]
  have e0:Array.range 0 = #[]:=rfl
  simp [run_underlying hdesc,hsize,Instr.fill,newRow,e0]
 simp [execOp,hbs]
theorem Zkc {d t t2 E y0 s0 b0 k1 x1 y1 sz by1 nn m b cap:Nat} {ti2:TyI} {z:Value} {zs l:List Value} {x y:Operand}
  (hx:ev ρ x=some (sl b 0 nn cap)) (hy:ev ρ y=some (iv m)) (ht:Zr S.ty t=some ⟨5,E,y0,s0,b0⟩) (he:Zr S.ty E=some ⟨k1,x1,y1,sz,by1⟩) (ht2:Zr S.ty t2=some ti2) (hi2:ti2.kind=2) (hu2:ti2.x=3) (hz:Zr S.zr E=some z) (hzs:z.cells=⟨zs⟩) (hzl:zs.length=sz)
  (hn:Nat.blt d n=true) (hb:Has L b (.cells ⟨l⟩ E)) (hnn:nn*sz≤l.length) (hgrow:cap<nn+m) (hby:(nn+m)*by1≤140737488355328) (hmax:nn+m≤9223372036854775807)
  (h : ∀ b' cap',nn+m≤cap'→HO P n ops Q rest ((d,sl b' 0 (nn+m) cap')::ρ) ([(b',.cells ⟨l.take (nn*sz)++(List.replicate (cap'-nn) zs).flatten⟩ E)]::L)) :
  HO P n ops Q (⟨some d,.call { callee := .builtin .append,args := #[x,y],argTypes := #[t,t2] },ty,pos,af,none⟩::rest) ρ L:=by
 refine Ww rfl rfl hn fun ρe he' k w hsat=>?_
 have hdesc:=Z3 (S.tyI ht) rfl
 have hint:P.underlying t2=some (.int .i64):=by
  obtain ⟨a1,a2,a3,a4,a5⟩:=ti2
  subst hi2;subst hu2
  exact Zbt (S.tyI ht2) rfl
 obtain ⟨de,i,hde,hi,-,hisz,hiby⟩:=Y7 (S.tyI he)
 simp only at hisz hiby
 have hiz:i.zero=some z:=by
  have:=S.zeroI hz
  unfold zeroI at this
  simpa [hi] using this
 have e1:=he' x (by simp [Op.operands,Call.operands]) _ hx
 have e2:=he' y (by simp [Op.operands,Call.operands]) _ hy
 have hcap:=U8 w (nn+m) cap E
 have holds : ∀ (q:Nat) (v:Value),(l.take (nn*sz))[q]? = some v→w.cell? ((Addr.mk b 0 none).add q)=some v:=fun q v hq=>by
  rw [Xl,hsat.cell hb,Nat.zero_add]
  rw [List.getElem?_take] at hq
  split at hq
  ·exact hq
  ·cases hq
 have hfo:=run_firstCells_some (P:=P) w.drew sz nn ⟨b,0,none⟩ nn cap (l.take (nn*sz)) (by simp;omega) (by simpa using holds)
 have hm1:IntKind.i64.wrap (m:Int)=m:=Qu (by omega)
 have hm2 : ¬ ((m:Int)<0):=by omega
 have hfit : ¬ (281474976710656<Builtin.nextslicecap (nn+m) cap*i.bytes):=by
  rw [hiby]
  have:=growslice_fits (need:=nn+m) (old:=cap) (by omega) hby
  omega
 have hmby : ¬ (281474976710656<(m:Int)*(i.bytes:Int)):=by
  rw [hiby]
  have:m*by1≤(nn+m)*by1:=Nat.mul_le_mul_right _ (by omega)
  have h3:((m*by1:Nat):Int)=(m:Int)*(by1:Int):=by push_cast;rfl
  omega
 have hn2 : ¬ (nn+m≤cap):=by omega
 have h63 : ¬ (9223372036854775807<((nn:Int)+(m:Int))):=by omega
 have hnew:(Builtin.zeroCells ⟨zs⟩ m).toList++(Builtin.zeroCells ⟨zs⟩ (grownCap w (nn+m) cap E-(nn+m))).toList=(List.replicate (grownCap w (nn+m) cap E-nn) zs).flatten:=by
  rw [Wo,Wo,← List.flatten_append,List.replicate_append_replicate]
  congr 2
  omega
 refine ⟨sl w.heap.size 0 (nn+m) (grownCap w (nn+m) cap E),w.drew.alloc (.cells ⟨l.take (nn*sz)++(List.replicate (grownCap w (nn+m) cap E-nn) zs).flatten⟩ E),_,?_,hsat.drew.new _,h _ _ hcap⟩
 have hm0:m*sz=0→(Builtin.zeroCells ⟨zs⟩ m) = #[]:=fun h0=>by
  apply Array.ext'
  rw [Wo]
  apply List.eq_nil_of_length_eq_zero
  simp [List.length_flatten,List.map_replicate,List.sum_replicate_nat,hzl,h0]
 have hr:(Builtin.append_ #[t,t2] ty #[sl b 0 nn cap,iv m]).run P w = .ok (sl w.heap.size 0 (nn+m) (grownCap w (nn+m) cap E)) (w.drew.alloc (.cells ⟨l.take (nn*sz)++(List.replicate (grownCap w (nn+m) cap E-nn) zs).flatten⟩ E)):=by
  rw [← hnew]
  by_cases h0:m*i.size=0
  ·have hz0:=hm0 (by rw [← hisz];exact h0)
   simp [Builtin.append_,run_underlying hdesc,run_underlying hint,sizeOf,typeInfo,zeroValue,hi,hiz,hn2,h63,hfit,hmby,hm1,hm2,Question.forced,hisz,hfo,newRow,grownCap,asInt,asIntOf,iv,hzs,hisz▸h0,hz0]
   congr 2
   apply Array.ext'
   simp [List.append_assoc]
  ·simp [Builtin.append_,run_underlying hdesc,run_underlying hint,sizeOf,typeInfo,zeroValue,hi,hiz,hn2,h63,hfit,hmby,hm1,hm2,Question.forced,hisz,hfo,newRow,grownCap,asInt,asIntOf,iv,hzs,hisz▸h0]
   congr 2
   apply Array.ext'
   simp [List.append_assoc]
 simp [execOp,resolve,invoke,builtin,e1,e2,hr]
end q
end Go.HL
end

/-! WoA -/
section
namespace Go.HL
open Go Go.Proofs
structure Evt where
 site:Int
 deal:Int
 ph:Int
deriving DecidableEq
def ec (e:Evt):List Value:=[iv e.site,iv e.deal,iv e.ph]
theorem Wi (e:Evt):(ec e).length=3:=rfl
theorem Zjr (e:Evt):(ec e).all Value.oneCell'=true:=rfl
theorem Zng {E sz b:Nat}:Own E sz (sl b 0 0 0) 0 [] [(b,.cells ⟨[]⟩ E)] := .inr ⟨b,0,[],rfl,rfl,by simp,by omega,by simp⟩
theorem Zbu {α:Type} {E sz b:Nat} {enc:α→List Value}:Vec E sz enc (sl b 0 0 0) [] [(b,.cells ⟨[]⟩ E)]:=Zng
set_option maxHeartbeats 2000000 attribute [local irreducible] HW HO HQ HD HC QOp Has Upd Zq Gets Yj Ya Zv Wf Yg Zp Wq Z5
theorem Zgg (v:Value) (xs:List Fr) (c:List Zo) (L:Zb) (hv:Y9 v xs c) (hl:xs.length≤100000000):HC Tryz.prog 71 [v] (c::L)
  (fun u L' => ∃ c',Y9 u xs c'∧L'=c'::c::L):=by
 have hv0:=hv
 obtain ⟨a,cap,rfl,hcap,hR⟩:=hv.rd Zl
 rcases hv with ⟨he,h0,h1,rfl⟩|⟨b,cap2,sp,he,rfl,hcs,hle,hall⟩
 ·obtain rfl:xs=[]:=List.eq_nil_of_length_eq_zero (by assumption)
  obtain ⟨rfl,-,rfl⟩:=Value.slice.inj he
  simp only [List.length_nil] at hv0 ⊢
  refine Za (fun _ _=>Tryz.call71 _ _) Tryz.func71 rfl Tryz.ntmps71 (Nat.le_of_ble_eq_true rfl) ?_;simp only [Zd,Nat.reduceAdd]
  repeat' (first|refine uN ?_|(refine uB ?_;intro b)|(refine uP ?_ ?_<;>(intro h;((try simp only [zs,zq,reduceCtorEq] at h);try exact zx)))|fail)
  exact Xb (L':=[]::[]::L) (LS.of_eq rfl) ⟨[],Yk,rfl⟩
 ·have hpos:b=b:=rfl
  obtain ⟨rfl,-,rfl⟩:=Value.slice.inj he
  refine Za (fun _ _=>Tryz.call71 _ _) Tryz.func71 rfl Tryz.ntmps71 (Nat.le_of_ble_eq_true rfl) ?_;simp only [Zd,Nat.reduceAdd]
  repeat' (first|refine uN ?_|(refine uB ?_;intro b)|(refine uP ?_ ?_<;>(intro h;((try simp only [zs,zq,reduceCtorEq] at h);try exact zx)))|fail)
  refine Ziq S rfl rfl rfl (fun nb=>?_)
  repeat' (first|refine uN ?_|(refine uB ?_;intro b)|(refine uP ?_ ?_<;>(intro h;((try simp only [zs,zq,reduceCtorEq] at h);try exact zx)))|fail)
  refine wpA S (ys:=xs) Zbu (Rd.cons (hR L) _) Zl Vj ?_ (hby:=by simp only [List.length_nil];omega) (hmax:=by simp only [List.length_nil];omega)
  intro v' c' hv'
  repeat' (first|refine uN ?_|(refine uB ?_;intro b)|(refine uP ?_ ?_<;>(intro h;((try simp only [zs,zq,reduceCtorEq] at h);try exact zx)))|fail)
  exact Xb (LS.refl _) ⟨c',by simpa using hv',rfl⟩
theorem Zgf (v:Value) (xs:List Evt) (c:List Zo) (L:Zb) (hv:Vec 81 3 ec v xs c) (hl:xs.length≤100000000):HC Tryz.prog 78 [v] (c::L)
  (fun u L' => ∃ c',Vec 81 3 ec u xs c'∧L'=c'::c::L):=by
 have hv0:=hv
 obtain ⟨a,cap,rfl,hcap,hR⟩:=hv.rd Wi
 rcases hv with ⟨he,h0,h1,rfl⟩|⟨b,cap2,sp,he,rfl,hcs,hle,hall⟩
 ·obtain rfl:xs=[]:=List.eq_nil_of_length_eq_zero (by assumption)
  obtain ⟨rfl,-,rfl⟩:=Value.slice.inj he
  simp only [List.length_nil] at hv0 ⊢
  refine Za (fun _ _=>Tryz.call78 _ _) Tryz.func78 rfl Tryz.ntmps78 (Nat.le_of_ble_eq_true rfl) ?_;simp only [Zd,Nat.reduceAdd]
  repeat' (first|refine uN ?_|(refine uB ?_;intro b)|(refine uP ?_ ?_<;>(intro h;((try simp only [zs,zq,reduceCtorEq] at h);try exact zx)))|fail)
  exact Xb (L':=[]::[]::L) (LS.of_eq rfl) ⟨[],Yk,rfl⟩
 ·have hpos:b=b:=rfl
  obtain ⟨rfl,-,rfl⟩:=Value.slice.inj he
  refine Za (fun _ _=>Tryz.call78 _ _) Tryz.func78 rfl Tryz.ntmps78 (Nat.le_of_ble_eq_true rfl) ?_;simp only [Zd,Nat.reduceAdd]
  repeat' (first|refine uN ?_|(refine uB ?_;intro b)|(refine uP ?_ ?_<;>(intro h;((try simp only [zs,zq,reduceCtorEq] at h);try exact zx)))|fail)
  refine Ziq S rfl rfl rfl (fun nb=>?_)
  repeat' (first|refine uN ?_|(refine uB ?_;intro b)|(refine uP ?_ ?_<;>(intro h;((try simp only [zs,zq,reduceCtorEq] at h);try exact zx)))|fail)
  refine wpA S (ys:=xs) Zbu (Rd.cons (hR L) _) Wi Zjr ?_ (hby:=by simp only [List.length_nil];omega) (hmax:=by simp only [List.length_nil];omega)
  intro v' c' hv'
  repeat' (first|refine uN ?_|(refine uB ?_;intro b)|(refine uP ?_ ?_<;>(intro h;((try simp only [zs,zq,reduceCtorEq] at h);try exact zx)))|fail)
  exact Xb (LS.refl _) ⟨c',by simpa using hv',rfl⟩
theorem Zjm (v:Value) (xs:List Int) (c:List Zo) (L:Zb) (hv:Vec 3 1 ic v xs c) (hl:xs.length≤100000000):HC Tryz.prog 63 [v] (c::L)
  (fun u L' => ∃ c',Vec 3 1 ic u xs c'∧L'=c'::c::L):=by
 have hv0:=hv
 obtain ⟨a,cap,rfl,hcap,hR⟩:=hv.rd Yh
 rcases hv with ⟨he,h0,h1,rfl⟩|⟨b,cap2,sp,he,rfl,hcs,hle,hall⟩
 ·obtain rfl:xs=[]:=List.eq_nil_of_length_eq_zero (by assumption)
  obtain ⟨rfl,-,rfl⟩:=Value.slice.inj he
  simp only [List.length_nil] at hv0 ⊢
  refine Za (fun _ _=>Tryz.call63 _ _) Tryz.func63 rfl Tryz.ntmps63 (Nat.le_of_ble_eq_true rfl) ?_;simp only [Zd,Nat.reduceAdd]
  repeat' (first|refine uN ?_|(refine uB ?_;intro b)|(refine uP ?_ ?_<;>(intro h;((try simp only [zs,zq,reduceCtorEq] at h);try exact zx)))|fail)
  exact Xb (L':=[]::[]::L) (LS.of_eq rfl) ⟨[],Yk,rfl⟩
 ·have hpos:b=b:=rfl
  obtain ⟨rfl,-,rfl⟩:=Value.slice.inj he
  refine Za (fun _ _=>Tryz.call63 _ _) Tryz.func63 rfl Tryz.ntmps63 (Nat.le_of_ble_eq_true rfl) ?_;simp only [Zd,Nat.reduceAdd]
  repeat' (first|refine uN ?_|(refine uB ?_;intro b)|(refine uP ?_ ?_<;>(intro h;((try simp only [zs,zq,reduceCtorEq] at h);try exact zx)))|fail)
  refine wpA S (ys:=xs) Zbu (Rd.cons (hR L) _) Yh Zdi ?_ (hby:=by simp only [List.length_nil];omega) (hmax:=by simp only [List.length_nil];omega)
  intro v' c' hv'
  repeat' (first|refine uN ?_|(refine uB ?_;intro b)|(refine uP ?_ ?_<;>(intro h;((try simp only [zs,zq,reduceCtorEq] at h);try exact zx)))|fail)
  exact Xb (LS.refl _) ⟨c',by simpa using hv',rfl⟩
def fzero:List Value:=[iv 0,iv 0,iv 0,iv 0,iv 0,.bool false,iv 0,iv 0,iv 0]
theorem Zh0 {α:Type} {enc:α→List Value} {sz:Nat} (hsz : ∀ x,(enc x).length=sz) (xs:List α) (sp:List Value) (i:Nat) (h:i≤xs.length):((xs.map enc).flatten++sp).take (i*sz)=((xs.take i).map enc).flatten:=by
 have e:(xs.map enc).flatten=((xs.take i).map enc).flatten++((xs.drop i).map enc).flatten:=by rw [← List.flatten_append,← List.map_append,List.take_append_drop]
 rw [e,List.append_assoc]
 exact take_left (by rw [Zz hsz,List.length_take,Nat.min_eq_left h])
theorem Zbc {b i cap l sz:Nat} (h:l<cap):cut (some ⟨b,i,none⟩) cap l sz=some ⟨b,i+l*sz,none⟩:=by
 unfold cut
 rw [if_neg (by omega)]
 simp [Xl]
theorem Zaq (v:Value) (xs:List Fr) (c:List Zo) (i j:Int) (L:Zb) (hv:Y9 v xs c) (hl:xs.length≤100000000) (h0:0≤i) (h1:i<xs.length) (hj:j=i+1):HC Tryz.prog 73 [v,iv i,iv j] (c::L)
  (fun u L' => ∃ c',Y9 u (xs.eraseIdx i.toNat) c'∧L'=c'::L):=by
 subst hj
 obtain ⟨a,cap,rfl,hcap,hR⟩:=hv.rd Zl
 rcases hv with ⟨he,he0,-,rfl⟩|⟨b,cap2,sp,he,rfl,hcs,hle,hall⟩
 ·omega
 obtain ⟨rfl,-,rfl⟩:=Value.slice.inj he
 have hsrc:=fun M=>Zbs (enc:=fc) (sz:=9) Zl (cap:=cap-(i+1).toNat) ((hR M).drop (l:=(i+1).toNat) hcap)
 rw [List.length_drop] at hsrc
 have hone:=Uh (enc:=fc) Vj (xs.drop (i+1).toNat)
 have hcut:=Zh0 Zl xs sp i.toNat (by omega)
 have hlen:((xs.map fc).flatten++sp).length=cap*9:=hall
 generalize hm:xs.length-(i+1).toNat=m at hsrc
 have hm2:i.toNat+m+1=xs.length:=by omega
 have hnl:(((xs.drop (i+1).toNat).map fc).flatten).length=m*9:=by rw [Zz Zl,List.length_drop,hm]
 have hE:((xs.take i.toNat).map fc).flatten++((xs.drop (i+1).toNat).map fc).flatten=((xs.eraseIdx i.toNat).map fc).flatten:=by
  rw [List.eraseIdx_eq_take_drop_succ,List.map_append,List.flatten_append]
  congr 4
  omega
 have hel:(xs.eraseIdx i.toNat).length=i.toNat+m:=by rw [List.length_eraseIdx];split<;>omega
 refine Za (fun _ _=>Tryz.call73 _ _) Tryz.func73 rfl Tryz.ntmps73 (Nat.le_of_ble_eq_true rfl) ?_;simp only [Zd,Nat.reduceAdd]
 repeat' (first|refine uN ?_|refine X5 S ?_|(refine uP ?_ ?_<;>(intro h;((try simp only [zs,zq,reduceCtorEq] at h);try exact zx)))|refine da 101 ?_|fail)
 refine Vc (qS3 S) ?_
 repeat' (first|refine uN ?_|refine X5 S ?_|(refine uP ?_ ?_<;>(intro h;((try simp only [zs,zq,reduceCtorEq] at h);try exact zx)))|refine da 101 ?_|fail)
 have e1:xs.length-(i+1).toNat=m:=hm
 rw [e1]
 refine Zkb S rfl rfl rfl rfl rfl (hsrc L) hone (by omega) hlen ?_
 rw [hcut,hE]
 generalize hsp:List.drop (i.toNat*9+(((xs.drop (i+1).toNat).map fc).flatten).length) ((xs.map fc).flatten++sp)=spa
 have hsl:spa.length=(cap-(i.toNat+m))*9:=by rw [← hsp,List.length_drop,hlen,hnl];omega
 repeat' (first|refine uN ?_|refine X5 S ?_|(refine uP ?_ ?_<;>(intro h;((try simp only [zs,zq,reduceCtorEq] at h);try exact zx)))|refine da 101 ?_|fail)
 have e2:cut (some ⟨b,0,none⟩) cap (((i.toNat+m:Nat):Int)).toNat 9=some ⟨b,(i.toNat+m)*9,none⟩:=by rw [Int.toNat_natCast];simpa using Zbc (b:=b) (i:=0) (cap:=cap) (l:=i.toNat+m) (sz:=9) (by omega)
 have e3:((xs.length:Nat):Int).toNat-(((i.toNat+m:Nat):Int)).toNat=1:=by omega
 have hfl:((xs.eraseIdx i.toNat).map fc).flatten.length=(i.toNat+m)*9:=by rw [Zz Zl,hel]
 have hfit:(i.toNat+m)*9+1*fzero.length≤(((xs.eraseIdx i.toNat).map fc).flatten++spa).length:=by
  rw [List.length_append,hfl,hsl]
  show _+1*9≤_
  omega
 refine o_clear S (b:=b) (i:=(i.toNat+m)*9) (m:=1) (cap:=cap-(((i.toNat+m:Nat):Int)).toNat) (zs:=fzero) ?_ rfl rfl rfl rfl hfit Xw ?_
 ·show some (Value.slice (cut _ _ _ 9) _ _)=_
  rw [e2,e3]
 have e4:(((xs.eraseIdx i.toNat).map fc).flatten++spa).take ((i.toNat+m)*9)=((xs.eraseIdx i.toNat).map fc).flatten:=take_left hfl
 rw [e4]
 generalize hsp2:List.drop ((i.toNat+m)*9+1*fzero.length) (((xs.eraseIdx i.toNat).map fc).flatten++spa)=spb
 have hs2:spb.length+9=(cap-(i.toNat+m))*9:=by
  rw [← hsp2,List.length_drop,List.length_append,hfl,hsl]
  show _-(_+1*9)+9=_
  omega
 repeat' (first|refine uN ?_|refine X5 S ?_|(refine uP ?_ ?_<;>(intro h;((try simp only [zs,zq,reduceCtorEq] at h);try exact zx)))|refine da 101 ?_|fail)
 have hfz:((List.replicate 1 fzero).flatten).length=9:=rfl
 refine Xb (LS.refl _) ⟨_,.inr ⟨b,cap,(List.replicate 1 fzero).flatten++spb,by rw [hel],by rw [List.append_assoc],by rw [hfl,hel],by omega,?_⟩,rfl⟩
 rw [List.length_append,List.length_append,hfl,hfz]
 omega
theorem Zkl {ρ:Zn} {L:Zb} {d:Option Tmp} {g:Option (Nat × Bool)} {ty:TypeId} {pos:String} {af:Array Edge} {x y:Operand} {la ca lb cb a b i:Nat} {l l2:List Value} {ts:Array TypeId} (hx:ev ρ x=some (sl a 0 la ca)) (hy:ev ρ y=some (sl b i lb cb)) (ha:Has L a (.cells ⟨l⟩ 131 (0,0))) (hb:Has L b (.cells ⟨l2⟩ 131 (0,0))) (hne:a≠b) (hl2:l2.length≠0) :
  QOp Tryz.prog ⟨d,.call { callee := .value (.func 199),args := #[x,y],argTypes:=ts },ty,pos,af,g⟩ ρ L (.bool false):=
 Z6 fun ρe he k w hs=>by
  have h1:=hs.heap ha
  have h2:=hs.heap hb
  have e1:=he x (by simp [Op.operands,Call.operands]) _ hx
  have e2:=he y (by simp [Op.operands,Call.operands]) _ hy
  have hT:=Z3 (S.tyI (t:=34) rfl) rfl
  have hz : ∀ w,(Go.sizeOf 131).run Tryz.prog w = .ok 9 w:=fun w=>Yx (S.tyI (t:=131) rfl) w
  have hr:(callFunc 199 #[sl a 0 la ca,sl b i lb cb]).run Tryz.prog w = .ok (.value (.bool false)) w:=by
   rw [run_callFunc_extern Tryz.func199 (by kernel_rfl) (by kernel_rfl) (by kernel_rfl) (e:=Extern.SlicesOverlaps.overlaps #[34,34] #[4]) (by kernel_rfl),
    Lib.run_overlaps_apart w 34 4 131 hT 9 hz ⟨a,0,none⟩ ⟨b,i,none⟩ la ca lb cb hne 131 131 l.length l2.length (by simp [World.shape?,h1]) (by simp [World.shape?,h2]) hl2 (frozen_of_row w a _ ⟨l⟩ _ h1) (frozen_of_row w a _ ⟨l⟩ _ h1)]
   rfl
  have e3:=he (.func 199) (by simp [Op.operands,Call.operands]) (.func (.func 199) #[] #[]) rfl
  simp [execOp,resolve,invoke,Deferred.ofValue,e1,e2,e3,hr]
theorem Zl8 {xs:List Fr} {e:Fr} {b cap k:Nat} {R:List Value} (hk:k≤xs.length) (hc:xs.length+1≤cap) (hR:R.length+(xs.length+1)*9=cap*9) :
  Y9 (sl b 0 (xs.length+1) cap) (xs.take k++e::xs.drop k) [(b,.cells ⟨((xs.take k).map fc).flatten++fc e++((xs.drop k).map fc).flatten++R⟩ 131)]:=by
 have hl:(xs.take k++e::xs.drop k).length=xs.length+1:=by simp;omega
 have hf:(((xs.take k++e::xs.drop k).map fc).flatten)=((xs.take k).map fc).flatten++fc e++((xs.drop k).map fc).flatten:=by simp [List.append_assoc]
 refine .inr ⟨b,cap,R,by rw [hl],by rw [hf],by rw [Zz Zl],by omega,?_⟩
 rw [List.length_append,Zz Zl,hl]
 omega
theorem Zgr (v:Value) (xs:List Fr) (c:List Zo) (i:Int) (e:Fr) (eb:Nat) (L:Zb) (hv:Y9 v xs c) (hl:xs.length≤100000000) (h0:1≤i) (h1:i≤xs.length) (hne : ∀ b o,(b,o)∈c→eb≠b):HC Tryz.prog 152 [v,iv i,sl eb 0 1 1] (c::[(eb,.cells ⟨fc e⟩ 131)]::L)
  (fun u L' => ∃ c',Y9 u (xs.take i.toNat++e::xs.drop i.toNat) c'∧L'=c'::[(eb,.cells ⟨fc e⟩ 131)]::L):=by
 have hv0:=hv
 obtain ⟨a,cap,rfl,hcap,hR⟩:=hv.rd Zl
 rcases hv with ⟨he,he0,-,rfl⟩|⟨b,cap2,sp,he,rfl,hcs,hle,hall⟩
 ·omega
 obtain ⟨rfl,-,rfl⟩:=Value.slice.inj he
 have hlen:((xs.map fc).flatten++sp).length=cap*9:=hall
 by_cases hin:i=xs.length
 ·have e9:xs.take i.toNat++e::xs.drop i.toNat=xs++[e]:=by
   rw [List.take_of_length_le (by omega),List.drop_of_length_le (by omega)]
  rw [e9]
  refine Za (fun _ _=>Tryz.call152 _ _) Tryz.func152 rfl Tryz.ntmps152 (Nat.le_of_ble_eq_true rfl) ?_;simp only [Zd,Nat.reduceAdd]
  repeat' (first|refine uN ?_|refine X5 S ?_|(refine uP ?_ ?_<;>(intro h;((try simp only [zs,zq,reduceCtorEq] at h);try exact zx)))|refine da 101 ?_|fail)
  refine wp1 S e hv0 Zl Vj ?_
  intro v' c' hv'
  repeat' (first|refine uN ?_|refine X5 S ?_|(refine uP ?_ ?_<;>(intro h;((try simp only [zs,zq,reduceCtorEq] at h);try exact zx)))|refine da 101 ?_|fail)
  exact Xb (LS.refl _) ⟨c',hv',rfl⟩
 ·have hne':eb≠b:=hne b _ (List.mem_cons_self)
  have hk:i.toNat<xs.length:=by omega
  generalize hkk:i.toNat=k at hk ⊢
  have hik:i=k:=by omega
  subst hik
  have hA:=Zh0 Zl xs sp k (by omega)
  have hAl:((xs.take k).map fc).flatten.length=k*9:=by rw [Zz Zl,List.length_take,Nat.min_eq_left (by omega)]
  have hFl:((xs.drop k).map fc).flatten.length=(xs.length-k)*9:=by rw [Zz Zl,List.length_drop]
  have hfe:(fc e).length=9:=rfl
  have hsplit:(xs.map fc).flatten++sp=((xs.take k).map fc).flatten++((xs.drop k).map fc).flatten++sp:=by rw [← List.flatten_append,← List.map_append,List.take_append_drop]
  have hF1:=Uh (enc:=fc) Vj (xs.drop k)
  have hg:Gets ((xs.map fc).flatten++sp) (k*9) ((xs.drop k).map fc).flatten:=by
   rw [hsplit,← hAl]
   exact Zju _ _ _
  by_cases hroom:xs.length+1≤cap
  ·have c1:cut (some ⟨b,0,none⟩) cap (((k:Nat):Int)+((1:Nat):Int)).toNat 9=some ⟨b,(k+1)*9,none⟩:=by
    rw [show (((k:Nat):Int)+((1:Nat):Int)).toNat=k+1 by omega];simpa using Zbc (b:=b) (i:=0) (cap:=cap) (l:=k+1) (sz:=9) (by omega)
   have c2:cut (some ⟨b,0,none⟩) cap (((k:Nat):Int)).toNat 9=some ⟨b,k*9,none⟩:=by
    rw [Int.toNat_natCast];simpa using Zbc (b:=b) (i:=0) (cap:=cap) (l:=k) (sz:=9) (by omega)
   refine Za (fun _ _=>Tryz.call152 _ _) Tryz.func152 rfl Tryz.ntmps152 (Nat.le_of_ble_eq_true rfl) ?_;simp only [Zd,Nat.reduceAdd]
   repeat' (first|refine uN ?_|refine X5 S ?_|(refine uP ?_ ?_<;>(intro h;((try simp only [zs,zq,reduceCtorEq] at h);try exact zx)))|refine da 101 ?_|fail)
   refine Vc (qCap S) ?_
   repeat' (first|refine uN ?_|refine X5 S ?_|(refine uP ?_ ?_<;>(intro h;((try simp only [zs,zq,reduceCtorEq] at h);try exact zx)))|refine da 101 ?_|fail)
   refine Vc (Zkl rfl (y := .tmp 66) (b:=b) (i:=(k+1)*9) (lb:=((xs.length:Int)+((1:Nat):Int)).toNat-(((k:Nat):Int)+((1:Nat):Int)).toNat) (cb:=cap-(((k:Nat):Int)+((1:Nat):Int)).toNat) ?_ (Ze Zj) Zj hne' ?_) ?_
   ·show some (Value.slice (cut _ _ _ 9) _ _)=_
    rw [c1]
   ·rw [hlen];omega
   repeat' (first|refine uN ?_|refine X5 S ?_|(refine uP ?_ ?_<;>(intro h;((try simp only [zs,zq,reduceCtorEq] at h);try exact zx)))|refine da 101 ?_|fail)
   refine Zcw S (b:=b) (i:=(k+1)*9) (len:=((xs.length:Int)+((1:Nat):Int)).toNat-(((k:Nat):Int)+((1:Nat):Int)).toNat) (cap:=cap-(((k:Nat):Int)+((1:Nat):Int)).toNat) (a:=some ⟨b,k*9,none⟩) (ns:=((xs.length:Int)+((1:Nat):Int)).toNat-(((k:Nat):Int)).toNat) (cap2:=cap-(((k:Nat):Int)).toNat) (k0:=xs.length-k) (new:=((xs.drop k).map fc).flatten) ?_ ?_ rfl rfl rfl ?_ hFl hF1 (.inr ⟨b,k*9,_,_,_,rfl,Zj,hg⟩) ?_ Xw ?_
   ·show some (Value.slice (cut _ _ _ 9) _ _)=_
    rw [c1]
   ·show some (Value.slice (cut _ _ _ 9) _ _)=_
    rw [c2]
   ·show (xs.length-k:Nat)=min _ _;omega
   ·rw [hFl,hlen];omega
   repeat' (first|refine uN ?_|refine X5 S ?_|(refine uP ?_ ?_<;>(intro h;((try simp only [zs,zq,reduceCtorEq] at h);try exact zx)))|refine da 101 ?_|fail)
   have hT:((xs.map fc).flatten++sp).take ((k+1)*9)=((xs.take k).map fc).flatten++(((xs.map fc).flatten++sp).drop (k*9)).take 9:=by
    rw [← hA,show (k+1)*9=k*9+9 by omega,List.take_add]
   generalize hR2:((xs.map fc).flatten++sp).drop ((k+1)*9+((xs.drop k).map fc).flatten.length)=R2
   have hR2l:R2.length+(xs.length+1)*9=cap*9:=by rw [← hR2,List.length_drop,hlen,hFl];omega
   generalize hB9:(((xs.map fc).flatten++sp).drop (k*9)).take 9=B9 at hT
   have hB9l:B9.length=9:=by rw [← hB9,List.length_take,List.length_drop,hlen];omega
   rw [hT]
   refine Zcw S (b:=b) (i:=k*9) (len:=((xs.length:Int)+((1:Nat):Int)).toNat-(((k:Nat):Int)).toNat) (cap:=cap-(((k:Nat):Int)).toNat) (a:=some ⟨eb,0,none⟩) (ns:=1) (cap2:=1) (k0:=1) (new:=fc e) ?_ rfl rfl rfl rfl ?_ rfl rfl (.inr ⟨eb,0,_,_,_,rfl,Ze Zj,Zbe _⟩) ?_ Xw ?_
   ·show some (Value.slice (cut _ _ _ 9) _ _)=_
    rw [c2]
   ·show (1:Nat)=min _ _;omega
   ·simp only [List.length_append,hAl,hB9l,hFl,hfe];omega
   have hfin:(((xs.take k).map fc).flatten++B9++((xs.drop k).map fc).flatten++R2).take (k*9)++fc e++(((xs.take k).map fc).flatten++B9++((xs.drop k).map fc).flatten++R2).drop (k*9+(fc e).length)=((xs.take k).map fc).flatten++fc e++((xs.drop k).map fc).flatten++R2:=by
    simp only [List.append_assoc]
    rw [take_left hAl,hfe,← hAl,← List.drop_drop,List.drop_left,← hB9l,List.drop_left]
   rw [hfin]
   repeat' (first|refine uN ?_|refine X5 S ?_|(refine uP ?_ ?_<;>(intro h;((try simp only [zs,zq,reduceCtorEq] at h);try exact zx)))|refine da 101 ?_|fail)
   have hn1:((xs.length:Int)+((1:Nat):Int)).toNat=xs.length+1:=by omega
   rw [hn1]
   exact Xb (LS.refl _) ⟨_,Zl8 (by omega) hroom hR2l,rfl⟩
  ·refine Za (fun _ _=>Tryz.call152 _ _) Tryz.func152 rfl Tryz.ntmps152 (Nat.le_of_ble_eq_true rfl) ?_;simp only [Zd,Nat.reduceAdd]
   repeat' (first|refine uN ?_|refine X5 S ?_|(refine uP ?_ ?_<;>(intro h;((try simp only [zs,zq,reduceCtorEq] at h);try exact zx)))|refine da 101 ?_|fail)
   refine Vc (qCap S) ?_
   repeat' (first|refine uN ?_|refine X5 S ?_|(refine uP ?_ ?_<;>(intro h;((try simp only [zs,zq,reduceCtorEq] at h);try exact zx)))|refine da 101 ?_|fail)
   refine Zkc S (m:=xs.length+1-k) (zs:=fzero) (l:=(xs.map fc).flatten++sp) rfl ?_ rfl rfl rfl rfl rfl rfl rfl rfl rfl Zj ?_ ?_ ?_ ?_ ?_
   ·show some (Value.int .i64 _)=some (Value.int .i64 _)
    congr 2
    omega
   ·rw [hlen];show (((k:Nat):Int)).toNat*9≤_;omega
   ·show _<(((k:Nat):Int)).toNat+_;omega
   ·show ((((k:Nat):Int)).toNat+_)*72≤_;omega
   ·show (((k:Nat):Int)).toNat+_≤_;omega
   intro nb cap' hcap'
   repeat' (first|refine uN ?_|refine X5 S ?_|(refine uP ?_ ?_<;>(intro h;((try simp only [zs,zq,reduceCtorEq] at h);try exact zx)))|refine da 101 ?_|fail)
   have d1:cut (some ⟨nb,0,none⟩) cap' (((k:Nat):Int)).toNat 9=some ⟨nb,k*9,none⟩:=by
    rw [Int.toNat_natCast];simpa using Zbc (b:=nb) (i:=0) (cap:=cap') (l:=k) (sz:=9) (by omega)
   have d2:cut (some ⟨nb,0,none⟩) cap' (((k:Nat):Int)+((1:Nat):Int)).toNat 9=some ⟨nb,(k+1)*9,none⟩:=by
    rw [show (((k:Nat):Int)+((1:Nat):Int)).toNat=k+1 by omega];simpa using Zbc (b:=nb) (i:=0) (cap:=cap') (l:=k+1) (sz:=9) (by omega)
   have c2:cut (some ⟨b,0,none⟩) cap (((k:Nat):Int)).toNat 9=some ⟨b,k*9,none⟩:=by
    rw [Int.toNat_natCast];simpa using Zbc (b:=b) (i:=0) (cap:=cap) (l:=k) (sz:=9) (by omega)
   have hA':((xs.map fc).flatten++sp).take ((((k:Nat):Int)).toNat*9)=((xs.take k).map fc).flatten:=hA
   rw [hA']
   have hZl:((List.replicate (cap'-(((k:Nat):Int)).toNat) fzero).flatten).length=(cap'-k)*9:=by
    rw [Int.toNat_natCast]
    simp [List.length_flatten,List.map_replicate,List.sum_replicate_nat,fzero]
   generalize (List.replicate (cap'-(((k:Nat):Int)).toNat) fzero).flatten=Z at hZl
   refine Zcw S (b:=nb) (i:=k*9) (len:=(((k:Nat):Int)).toNat+(xs.length+1-k)-(((k:Nat):Int)).toNat) (cap:=cap'-(((k:Nat):Int)).toNat) (a:=some ⟨eb,0,none⟩) (ns:=1) (cap2:=1) (k0:=1) (new:=fc e) ?_ rfl rfl rfl rfl ?_ rfl rfl (.inr ⟨eb,0,_,_,_,rfl,Ze (Ze Zj),Zbe _⟩) ?_ Xw ?_
   ·show some (Value.slice (cut _ _ _ 9) _ _)=_
    rw [d1]
   ·show (1:Nat)=min _ _;omega
   ·simp only [List.length_append,hAl,hZl,hfe];omega
   rw [take_left hAl]
   have hz1:(((xs.take k).map fc).flatten++Z).drop (k*9+(fc e).length)=Z.drop 9:=by
    rw [hfe,← hAl,← List.drop_drop,List.drop_left]
   rw [hz1]
   have hZ1:(Z.drop 9).length+(k+1)*9=cap'*9:=by rw [List.length_drop,hZl];omega
   generalize Z.drop 9=Z1 at hZ1
   repeat' (first|refine uN ?_|refine X5 S ?_|(refine uP ?_ ?_<;>(intro h;((try simp only [zs,zq,reduceCtorEq] at h);try exact zx)))|refine da 101 ?_|fail)
   refine Zcw S (b:=nb) (i:=(k+1)*9) (len:=(((k:Nat):Int)).toNat+(xs.length+1-k)-(((k:Nat):Int)+((1:Nat):Int)).toNat) (cap:=cap'-(((k:Nat):Int)+((1:Nat):Int)).toNat) (a:=some ⟨b,k*9,none⟩) (ns:=xs.length-(((k:Nat):Int)).toNat) (cap2:=cap-(((k:Nat):Int)).toNat) (k0:=xs.length-k) (new:=((xs.drop k).map fc).flatten) ?_ ?_ rfl rfl rfl ?_ hFl hF1 (.inr ⟨b,k*9,_,_,_,rfl,Ze Zj,hg⟩) ?_ Xw ?_
   ·show some (Value.slice (cut _ _ _ 9) _ _)=_
    rw [d2]
   ·show some (Value.slice (cut _ _ _ 9) _ _)=_
    rw [c2]
   ·show (xs.length-k:Nat)=min _ _;omega
   ·simp only [List.length_append,hAl,hfe,hFl];omega
   have hAe:(((xs.take k).map fc).flatten++fc e).length=(k+1)*9:=by rw [List.length_append,hAl,hfe];omega
   rw [take_left hAe]
   generalize hR2:(((xs.take k).map fc).flatten++fc e++Z1).drop ((k+1)*9+((xs.drop k).map fc).flatten.length)=R2
   have hR2l:R2.length+(xs.length+1)*9=cap'*9:=by rw [← hR2,List.length_drop,List.length_append,hAe,hFl];omega
   repeat' (first|refine uN ?_|refine X5 S ?_|(refine uP ?_ ?_<;>(intro h;((try simp only [zs,zq,reduceCtorEq] at h);try exact zx)))|refine da 101 ?_|fail)
   have hn1:(((k:Nat):Int)).toNat+(xs.length+1-k)=xs.length+1:=by omega
   rw [hn1]
   exact Xb (LS.p0 (LS.c (LS.refl _))) ⟨_,Zl8 (by omega) (by omega) hR2l,rfl⟩
end Go.HL
end

/-! WoB -/
section
namespace Go.HL
open Go Go.Proofs
def pk (p:Int × Int):Value := .agg ⟨[iv p.1,iv p.2]⟩
theorem fl_pair:Vw Tryz.prog 8 133=some [2,2]:=by kernel_rfl
theorem Zh7:Ze6 Tryz.prog 133=true:=by kernel_rfl
theorem pl_int:Tryz.prog.plainKey 3=true:=by kernel_rfl
theorem Zdj:KeyOk (α:=Int × Int) Tryz.prog 133 pk:=by
 have hu:Tryz.prog.underlying 133=some (.array 2 3):=by kernel_rfl
 have hi:=Zbt (S.tyI (t:=3) rfl) rfl
 have hz : ∀ w,(Go.sizeOf 3).run Tryz.prog w = .ok 1 w:=fun w=>Yx (S.tyI (t:=3) rfl) w
 have heq : ∀ (w:World) (a b:Int × Int),(Op.equal 133 (pk a) (pk b)).run Tryz.prog w = .ok (decide (a=b)) w:=fun w a b=>by
  have:=Zhx 8 9992 133 [2,2] [iv a.1,iv a.2] [iv b.1,iv b.2] (pk a) (pk b) (decide (a=b)) w fl_pair (.inl ⟨Zh7,rfl⟩) (.inl ⟨Zh7,rfl⟩) (by
   obtain ⟨a1,a2⟩:=a
   obtain ⟨b1,b2⟩:=b
   simp [Q2,iv,Zh9,Prod.mk.injEq])
  exact this
 refine ⟨fun em w a=>?_,fun w a es l hE=>?_,fun w a=>?_⟩
 ·have hp : ∀ i,i<2 → ∃ v,(part 3 ⟨[iv a.1,iv a.2]⟩ i).run Tryz.prog w = .ok (iv v) w:=fun i h=>by
   match i,h with
   | 0,_=>exact ⟨a.1,run_part_plain w pl_int rfl⟩
   | 1,_=>exact ⟨a.2,run_part_plain w pl_int rfl⟩
  have hc : ∀ v:Int,(Instr.checkKey em 9999 3 (iv v)).run Tryz.prog w = .ok () w:=fun v=>MapKept.run_checkKey hi (by simp only [MapKept.IsKey,iv];rfl) em 9998
  obtain ⟨v0,h0⟩:=hp 0 (by omega)
  obtain ⟨v1,h1⟩:=hp 1 (by omega)
  show (Instr.checkKey em (9999+1) _ _).run _ w=_
  rw [Instr.checkKey]
  simp only [pk,Sem.run_bind,run_underlying hu,Result.andThen_ok]
  simp only [Std.Legacy.Range.forIn_eq_forIn_range',Std.Legacy.Range.size,Nat.sub_zero,Nat.add_one_sub_one,Nat.div_one]
  simp only [List.range',List.forIn_cons,List.forIn_nil,Sem.run_bind,hz,Result.andThen_ok,Nat.zero_mul,Nat.zero_add,Nat.one_mul,Nat.mul_one,h0,h1,hc,Sem.run_pure]
 ·rw [run_findKey_eq w (by rw [hu]) (pk a) es]
  have key : ∀ (es:List MapEntry) (l:List ((Int × Int) × Bool)) (i:Nat),Qx pk es l→(Instr.findAsking 133 (pk a) es i).run Tryz.prog w = .ok (Ws a l i) w:=by
   intro es
   induction es with
   | nil =>
    intro l i h
    cases l with
    | nil=>simp [Instr.findAsking,Ws]
    | cons p r=>simp [Qx] at h
   | cons e es ih =>
    intro l i h
    cases l with
    | nil=>simp [Qx] at h
    | cons p r =>
     obtain ⟨x,b⟩:=p
     simp only [Qx,List.map_cons,List.cons.injEq,Prod.mk.injEq] at h
     obtain ⟨⟨h1,h2⟩,h3⟩:=h
     simp only [Instr.findAsking,h1,Sem.run_bind,heq,Result.andThen_ok,Ws]
     by_cases hax:a=x
     ·subst hax;simp [h2]
     ·simp [hax,ih r (i+1) h3]
  exact key es l 0 hE
 ·have hs:Instr.sameBits 10000 (pk a) (pk a)=true:=by
   show Instr.sameBits (9999+1) (.agg _) (.agg _)=true
   rw [Instr.sameBits]
   simp [pk,Instr.sameBits,iv]
  simp [Instr.keyThatStays,hs]
set_option maxRecDepth 100000
section r
variable {n:Nat} {ops:List Oper} {Q:Exit→Zn→Zb→Prop} {rest:List Oper} {ρ:Zn} {L:Zb} {ty:TypeId} {pos:String} {af:Array Edge}
theorem qmP {d:Option Tmp} {g:Option (Nat × Bool)} {r:Nat} {x y:Operand} {es:List MapEntry} {ck:Nat} {f:Int × Int→Bool} {a b:Int} (h00:Xa ρ=true:=by exact rfl) (hx:ev ρ x=some (.map (some r)):=by exact rfl) (hy:ev ρ y=some (.agg ⟨[iv a,iv b]⟩):=by exact rfl)
  {s0 b0:Nat} (ht:Zr S.ty 107=some ⟨8,133,4,s0,b0⟩:=by exact rfl) (hz:Zr S.zr 4=some (.bool false):=by exact rfl) (hb:Has L r (.map ⟨es⟩ ck):=by (repeat (first|assumption|exact Zj|exact Yw (by assumption)|apply X4|apply Ze))) (hF:Z5 pk es f:=by assumption) :
  QOp Tryz.prog ⟨d,.lookup 107 x y false,ty,pos,af,g⟩ ρ L (.bool (f (a,b))):=by
 have hy':ev ρ y=some (pk (a,b)):=hy
 exact q_mapB S (α:=Int × Int) (key:=pk) (a:=(a,b)) Zdj hx hy' ht hz hb hF
theorem wmP {r ck:Nat} {x y z:Operand} {es:List MapEntry} {f:Int × Int→Bool} {a b:Int} {v:Bool} (hF:Z5 pk es f) (h : ∀ es' ck',Z5 pk es' (fun x=>if x=(a,b) then v else f x)→HO Tryz.prog n ops Q rest ρ ([(r,.map ⟨es'⟩ ck')]::L)) (h00:Xa ρ=true:=by exact rfl) (hx:ev ρ x=some (.map (some r)):=by exact rfl) (hy:ev ρ y=some (.agg ⟨[iv a,iv b]⟩):=by exact rfl) (hzz:ev ρ z=some (.bool v):=by exact rfl) {s0 b0:Nat} (ht:Zr S.ty 107=some ⟨8,133,4,s0,b0⟩:=by exact rfl) :
  HO Tryz.prog n ops Q (⟨none,.mapUpdate 107 x y z,ty,pos,af,none⟩::rest) ρ ([(r,.map ⟨es⟩ ck)]::L):=by
 have hy':ev ρ y=some (pk (a,b)):=hy
 exact o_mapB S (α:=Int × Int) (key:=pk) (a:=(a,b)) (b:=v) Zdj hx hy' hzz ht hF h
end r
end Go.HL
end
