/- Texts laid into one, without what the claim does not use. Conditions: none. -/
import Derived.Test.YtkookaogdkdegacGreatDoorMSaB
import Derived.MapKept
import Derived.WideKeyRuns
import Derived.Carry
import Derived.ProofKit
import Derived.OpenShut
import Derived.Deep.Slices
import Derived.Deep.Strs
import Derived.JoinedCond
import Derived.Deep.DeepHandedRow
import Derived.Stop.LaidErr
import Derived.LaidLaws
import Derived.Lay
import Derived.MakeChecks
import Derived.LaidHandle
import Derived.LaidEql
import Derived.Stop.Asserts
import Derived.RowKitTokens
import Derived.Lib.Overlaps
import Derived.DeepKeys3
set_option linter.unusedVariables false
set_option linter.unusedSimpArgs false
/-! HLMap -/
section
namespace Go.HL
open Go
set_option linter.unusedSectionVars false
def Za5 {α:Type} (key:α→Value) (es:List MapEntry) (l:List (α × Bool)):Prop:=es.map (fun e=>(e.key,e.val))=l.map fun p=>(key p.1,Value.bool p.2)
def Ve {α:Type} [DecidableEq α] (a:α):List (α × Bool)→Nat→Option (Nat × Value)
 | [],_=>none
 | (x,b)::r,i=>if a=x then some (i,.bool b) else Ve a r (i+1)
def Vo {α:Type} [DecidableEq α] (a:α):List (α × Bool)→Bool
 | []=>false
 | (x,b)::r=>if a=x then b else Vo a r
structure KeyOk {α:Type} [DecidableEq α] (P:Program) (kt:TypeId) (key:α→Value):Prop where
 chk : ∀ (em:Bool) (w:World) (a:α),(Instr.checkKey em 10000 kt (key a)).run P w = .ok () w
 find : ∀ (w:World) (a:α) (es:List MapEntry) (l:List (α × Bool)),Za5 key es l→(Instr.findKey kt (key a) es).run P w = .ok (Ve a l 0) w
 stay : ∀ (w:World) (a:α),(Instr.keyThatStays (key a) (key a)).run P w = .ok (key a) w
def Zw {α:Type} [DecidableEq α] (key:α→Value) (es:List MapEntry) (f:α→Bool):Prop := ∃ l:List (α × Bool),Za5 key es l ∧ ∀ a,f a=Vo a l
theorem Zft {α:Type} [DecidableEq α] {key:α→Value}:Zw key [] (fun _=>false):=⟨[],rfl,fun _=>rfl⟩
section k
variable {α:Type} [DecidableEq α]
theorem Qj {a:α} : ∀ {l:List (α × Bool)} {i j:Nat} {v:Value},Ve a l i=some (j,v)→i≤j ∧ ∃ b,v = .bool b∧l[j-i]? = some (a,b)∧Vo a l=b
 | [],i,j,v,h=>by simp [Ve] at h
 | (x,b)::r,i,j,v,h=>by
  simp only [Ve] at h
  split at h
  ·rename_i he
   subst he
   cases h
   exact ⟨Nat.le_refl _,b,rfl,by simp,by simp [Vo]⟩
  ·rename_i he
   obtain ⟨h1,b',h2,h3,h4⟩:=Qj h
   refine ⟨by omega,b',h2,?_,by simp [Vo,he,h4]⟩
   rw [show j-i=(j-(i+1))+1 by omega]
   simpa using h3
theorem Zbw {a:α} : ∀ {l:List (α × Bool)} {i:Nat},Ve a l i=none→Vo a l=false ∧ ∀ p∈l,p.1≠a
 | [],i,h=>⟨rfl,by simp⟩
 | (x,b)::r,i,h=>by
  simp only [Ve] at h
  split at h
  ·cases h
  ·rename_i he
   obtain ⟨h1,h2⟩:=Zbw h
   refine ⟨by simp [Vo,he,h1],fun p hp=>?_⟩
   rcases List.mem_cons.1 hp with rfl|hp
   ·exact fun e=>he e.symm
   ·exact h2 p hp
theorem Zro {a:α} {b0 b:Bool} : ∀ {l:List (α × Bool)} {j:Nat},Ve a l 0=some (j,.bool b0) → ∀ x,Vo x (l.set j (a,b))=if x=a then b else Vo x l:=by
 have key : ∀ (l:List (α × Bool)) (i j:Nat),Ve a l i=some (j,.bool b0) → ∀ x,Vo x (l.set (j-i) (a,b))=if x=a then b else Vo x l:=by
  intro l
  induction l with
  | nil=>intro i j h;simp [Ve] at h
  | cons p r ih =>
   intro i j h x
   obtain ⟨y,c⟩:=p
   simp only [Ve] at h
   split at h
   ·rename_i he
    subst he
    cases h
    simp only [Nat.sub_self,List.set_cons_zero,Vo]
    split<;>simp_all
   ·rename_i he
    have h1:=(Qj h).1
    have:=ih (i+1) j h x
    rw [show j-i=(j-(i+1))+1 by omega,List.set_cons_succ]
    simp only [Vo]
    rw [this]
    by_cases hxy:x=y
    ·subst hxy
     simp [Ne.symm he]
    ·simp [hxy]
 intro l j h
 exact key l 0 j h
theorem Zfp {a:α} {b:Bool} : ∀ {l:List (α × Bool)},(∀ p∈l,p.1≠a) → ∀ x,Vo x (l++[(a,b)])=if x=a then b else Vo x l
 | [],_,x=>by simp [Vo]
 | (y,c)::r,h,x=>by
  have h1:y≠a:=h (y,c) (List.mem_cons_self)
  have ih:=Zfp (b:=b) (fun p hp=>h p (List.mem_cons_of_mem _ hp)) x
  simp only [List.cons_append,Vo,ih]
  by_cases hxy:x=y
  ·subst hxy
   simp [h1]
  ·simp [hxy]
theorem ents_set {key:α→Value} {es:List MapEntry} {l:List (α × Bool)} (h:Za5 key es l) {a:α} {b:Bool} {i:Nat} (hi:i<es.length):Za5 key (es.modify i fun e=>{ e with key:=key a,val := .bool b }) (l.set i (a,b)):=by
 unfold Za5 at *
 apply List.ext_getElem?
 intro k
 have hk:=congrArg (fun z=>z[k]?) h
 simp only [List.getElem?_map] at hk
 simp only [List.getElem?_map,List.getElem?_modify,List.getElem?_set]
 by_cases e:i=k
 ·subst e
  have hl:i<l.length:=by
   have:=congrArg List.length h
   simp at this
   omega
  simp [hi,hl]
 ·simp only [if_neg e]
  cases hes:es[k]? <;> simp_all
theorem Zq0 {key:α→Value} {es:List MapEntry} {l:List (α × Bool)} (h:Za5 key es l) {a:α} {b:Bool} {n:Nat}:Za5 key (es++[{ key:=key a,val := .bool b,born:=n }]) (l++[(a,b)]):=by
 unfold Za5 at *
 simp [h]
end k
section r
variable {α:Type} [DecidableEq α] {P:Program} (S:Tab P) {n:Nat} {ops:List Oper} {Q:Exit→Zr→Zb→Prop} {rest:List Oper} {ρ:Zr} {L:Zb} {ty:TypeId} {pos:String} {af:Array Edge}
theorem q_mapB {d:Option Tmp} {g:Option (Nat × Bool)} {t kt et s0 b0 r:Nat} {key:α→Value} {x y:Operand} {es:List MapEntry} {ck:Nat} {f:α→Bool} {a:α} (hK:KeyOk P kt key) (hx:ev ρ x=some (.map (some r))) (hy:ev ρ y=some (key a))
  (ht:Zt S.ty t=some ⟨8,kt,et,s0,b0⟩) (hz:Zt S.zr et=some (.bool false)) (hb:Has L r (.map ⟨es⟩ ck)) (hF:Zw key es f):QOp P ⟨d,.lookup t x y false,ty,pos,af,g⟩ ρ L (.bool (f a)):=
 Ya fun ρe he k w hs=>by
  obtain ⟨l,hE,hf⟩:=hF
  have hm:=Zjt (S.tyI ht) rfl
  have hzero:=Vq (S.zeroI hz) w
  have hh:=MapKept.run_getObj_map (P:=P) (hs.heap hb)
  have hfind:=hK.find w a es l hE
  have hl:(Instr.lookup t (.map (some r)) (key a) false).run P w = .ok (.bool (f a)) w:=by
   unfold Instr.lookup
   simp only [Sem.run_bind,run_underlying hm,Result.andThen_ok,hh,Sem.run_pure,hK.chk,hfind]
   rw [hf a]
   cases hfb:Ve a l 0 with
   | none=>simp [hzero,(Zbw hfb).1]
   | some q =>
    obtain ⟨j,v⟩:=q
    obtain ⟨-,b,rfl,-,e⟩:=Qj hfb
    simp [e]
  simp only [execOp,he x (by simp [Op.operands]) _ hx,he y (by simp [Op.operands]) _ hy,Sem.run_bind,hl,Result.andThen_ok,Sem.run_pure]
theorem wMk {d t:Nat} (h : ∀ b,HO P n ops Q rest ((d,.map (some b))::ρ) ([(b,.map #[] 0)]::L)) (h00:Y6 ρ=true:=by exact rfl) (hn:Nat.blt d n=true:=by exact rfl):HO P n ops Q (⟨some d,.makeMap t none,ty,pos,af,none⟩::rest) ρ L:=
 Vh rfl rfl hn fun ρe he k w hs=>⟨.map (some w.heap.size),w.alloc (.map #[] 0),_,by simp [execOp,RowKit.run_makeMap],hs.new _,h _⟩
theorem o_mapB {t kt et s0 b0 r ck:Nat} {key:α→Value} {x y z:Operand} {es:List MapEntry} {f:α→Bool} {a:α} {b:Bool} (hK:KeyOk P kt key) (hx:ev ρ x=some (.map (some r))) (hy:ev ρ y=some (key a)) (hzz:ev ρ z=some (.bool b))
  (ht:Zt S.ty t=some ⟨8,kt,et,s0,b0⟩) (hF:Zw key es f) (h : ∀ es' ck',Zw key es' (fun x=>if x=a then b else f x)→HO P n ops Q rest ρ ([(r,.map ⟨es'⟩ ck')]::L)) :
  HO P n ops Q (⟨none,.mapUpdate t x y z,ty,pos,af,none⟩::rest) ρ ([(r,.map ⟨es⟩ ck)]::L):=by
 refine Zpd rfl rfl fun ρe he k w hs=>?_
 obtain ⟨l,hE,hf⟩:=hF
 have hm:=Zjt (S.tyI ht) rfl
 have hb0:w.heap[r]? = some (.map ⟨es⟩ ck):=hs.heap Zh
 have hh:=MapKept.run_getObj_map (P:=P) hb0
 have hfind:=hK.find w a es l hE
 have fin : ∀ (es':List MapEntry) (ck':Nat),Sat k { w with heap:=w.heap.setIfInBounds r (.map ⟨es'⟩ ck') } ([(r,.map ⟨es'⟩ ck')]::L):=fun es' ck'=>by
  have hs2:=MapKept.heap_set (o' := .map ⟨es'⟩ ck') hb0
  exact hs.upd Xr rfl rfl rfl hs2.1 (fun j hj=>hs2.2 j hj)
 have e1:=he x (by simp [Op.operands]) _ hx
 have e2:=he y (by simp [Op.operands]) _ hy
 have e3:=he z (by simp [Op.operands]) _ hzz
 cases hfb:Ve a l 0 with
 | none =>
  obtain ⟨h1,h2⟩:=Zbw hfb
  rw [hfb] at hfind
  refine ⟨_,_,.inl ?_,fin (es++[{ key:=key a,val := .bool b,born:=ck }]) (ck+1),h _ _ ⟨l++[(a,b)],Zq0 hE,fun x=>?_⟩⟩
  ·have hr:(Instr.mapUpdate t (.map (some r)) (key a) (.bool b)).run P w = .ok () { w with heap:=w.heap.setIfInBounds r (.map ⟨es++[{ key:=key a,val := .bool b,born:=ck }]⟩ (ck+1)) }:=by
    unfold Instr.mapUpdate
    simp only [Sem.run_bind,run_underlying hm,Result.andThen_ok,hh,hK.chk,hfind,MapKept.run_setObj_map _ hb0]
    simp
   simp [execOp,e1,e2,e3,hr]
  ·show (if x=a then b else f x)=_
   rw [Zfp h2,hf]
 | some q =>
  obtain ⟨j,v⟩:=q
  obtain ⟨-,b',rfl,hj,hb'⟩:=Qj hfb
  rw [hfb] at hfind
  have hlen:es.length=l.length:=by have:=congrArg List.length hE;simpa using this
  have hjl:j<es.length:=by rw [hlen];exact (List.getElem?_eq_some_iff.1 (by simpa using hj)).1
  have hkey:(es[j]).key=key a:=by
   have h9:=congrArg (fun z=>z[j]?) hE
   simp only [List.getElem?_map,Nat.sub_zero] at h9 hj
   rw [hj,List.getElem?_eq_getElem hjl] at h9
   simp at h9
   exact h9.1
  refine ⟨_,_,.inl ?_,fin (es.modify j fun e=>{ e with key:=key a,val := .bool b }) ck,h _ _ ⟨l.set j (a,b),ents_set hE hjl,fun x=>?_⟩⟩
  ·have hr:(Instr.mapUpdate t (.map (some r)) (key a) (.bool b)).run P w = .ok () { w with heap:=w.heap.setIfInBounds r (.map ⟨es.modify j fun e=>{ e with key:=key a,val := .bool b }⟩ ck) }:=by
    unfold Instr.mapUpdate
    have e9:((((Array.mk es)[j]?).map (·.key)).getD (key a))=key a:=by simp [hjl,hkey]
    simp only [Sem.run_bind,run_underlying hm,Result.andThen_ok,hh,hK.chk,hfind,e9,hK.stay,MapKept.run_setObj_map _ hb0]
    simp
   simp [execOp,e1,e2,e3,hr]
  ·show (if x=a then b else f x)=_
   rw [Zro hfb,hf]
theorem Zht {kt s0 b0:Nat} (hk:Zt S.ty kt=some ⟨2,3,0,s0,b0⟩):KeyOk (α:=Int) P kt iv:=by
 have hd:P.underlying kt=some (.int .i64):=Zdj (S.tyI hk) rfl
 have hI : ∀ a:Int,MapKept.IsKey (.int .i64) (iv a):=fun a=>by simp [MapKept.IsKey]
 refine ⟨fun em w a=>MapKept.run_checkKey hd (hI a) em 9999,fun w a es l hE=>?_,fun w a=>MapKept.run_keyThatStays (hI a)⟩
 refine MapKept.run_findKey hd ?_
 have key : ∀ (es:List MapEntry) (l:List (Int × Bool)) (i:Nat),Za5 iv es l→Instr.findNow (.int .i64) (iv a) es i=some (Ve a l i):=by
  intro es
  induction es with
  | nil =>
   intro l i h
   cases l with
   | nil=>rfl
   | cons p r=>simp [Za5] at h
  | cons e es ih =>
   intro l i h
   cases l with
   | nil=>simp [Za5] at h
   | cons p r =>
    obtain ⟨x,b⟩:=p
    simp only [Za5,List.map_cons,List.cons.injEq,Prod.mk.injEq] at h
    obtain ⟨⟨h1,h2⟩,h3⟩:=h
    simp only [Instr.findNow,h1,Instr.sameNow,if_true,Ve]
    by_cases hax:a=x
    ·subst hax;simp [h2]
    ·have:(a == x)=false:=by simp [hax]
     simp [this,hax,ih r (i+1) h3]
 exact key es l 0 hE
theorem qmI {d:Option Tmp} {g:Option (Nat × Bool)} {t kt et s0 b0 s1 b1 r:Nat} {x y:Operand} {es:List MapEntry} {ck:Nat} {f:Int→Bool} {a:Int} (h00:Y6 ρ=true:=by exact rfl) (hx:ev ρ x=some (.map (some r)):=by exact rfl) (hy:ev ρ y=some (iv a):=by exact rfl)
  (ht:Zt S.ty t=some ⟨8,kt,et,s0,b0⟩:=by exact rfl) (hk:Zt S.ty kt=some ⟨2,3,0,s1,b1⟩:=by exact rfl) (hz:Zt S.zr et=some (.bool false):=by exact rfl) (hb:Has L r (.map ⟨es⟩ ck):=by (repeat (first|assumption|exact Zh|exact Yi (by assumption)|apply Xq|apply Zc))) (hF:Zw iv es f:=by assumption) :
  QOp P ⟨d,.lookup t x y false,ty,pos,af,g⟩ ρ L (.bool (f a)):=q_mapB S (Zht S hk) hx hy ht hz hb hF
theorem wmI {t kt et s0 b0 s1 b1 r ck:Nat} {x y z:Operand} {es:List MapEntry} {f:Int→Bool} {a:Int} {b:Bool} (hF:Zw iv es f) (h : ∀ es' ck',Zw iv es' (fun x=>if x=a then b else f x)→HO P n ops Q rest ρ ([(r,.map ⟨es'⟩ ck')]::L)) (h00:Y6 ρ=true:=by exact rfl) (hx:ev ρ x=some (.map (some r)):=by exact rfl) (hy:ev ρ y=some (iv a):=by exact rfl) (hzz:ev ρ z=some (.bool b):=by exact rfl)
  (ht:Zt S.ty t=some ⟨8,kt,et,s0,b0⟩:=by exact rfl) (hk:Zt S.ty kt=some ⟨2,3,0,s1,b1⟩:=by exact rfl) :
  HO P n ops Q (⟨none,.mapUpdate t x y z,ty,pos,af,none⟩::rest) ρ ([(r,.map ⟨es⟩ ck)]::L):=o_mapB S (Zht S hk) hx hy hzz ht hF h
end r
/-! ### a loop of so many rounds; a call within a region that draws its order -/
def X7 (P:Program) (n:Nat) (c:Code) (Q:Exit→Zr→Zb→Prop):Nat→Exit→Zr→Zb→Prop
 | 0,.normal,ρ,L=>False
 | k+1,.normal,ρ,L=>HW P n c (X7 P n c Q k) ρ L
 | _,e,ρ,L=>Q e ρ L
theorem unQ_succ {P:Program} {n k:Nat} {c:Code} {Q:Exit→Zr→Zb→Prop} {ρ:Zr} {L:Zb} (h:HW P n c (X7 P n c Q k) ρ L):X7 P n c Q (k+1) .normal ρ L:=h
theorem unQ_ret {P:Program} {n k:Nat} {c:Code} {Q:Exit→Zr→Zb→Prop} {ρ:Zr} {L:Zb} (h:Q .ret ρ L):X7 P n c Q k .ret ρ L:=by cases k<;>exact h
theorem unQ_exit {P:Program} {n k i:Nat} {c:Code} {Q:Exit→Zr→Zb→Prop} {ρ:Zr} {L:Zb} (h:Q (.exit i) ρ L):X7 P n c Q k (.exit i) ρ L:=by cases k<;>exact h
theorem Zrg {P:Program} {n:Nat} {c:Code} {Q:Exit→Zr→Zb→Prop} {ρ:Zr} {L:Zb} (m:Nat) (h:HW P n c (X7 P n c Q m) ρ L):HW P n (.loop c) Q ρ L:=by
 intro k w a hs ha b kk cs
 have key : ∀ m ρ L,HW P n c (X7 P n c Q m) ρ L → ∀ a w,Sat k w L→Agr n a ρ →
   ∃ e a' w',post k n Q e a' w'∧Arrives P (lone (b.at a (.code c :: .inLoop c::kk)) cs w) b kk cs e a' w':=by
  intro m
  induction m with
  | zero =>
   intro ρ L h a w hs ha
   obtain ⟨e,a₁,w₁,⟨ρ₁,L₁,ha₁,hs₁,hq⟩,harr⟩:=h k w a hs ha b (.inLoop c::kk) cs
   cases e with
   | normal=>exact hq.elim
   | exit id=>exact ⟨_,a₁,w₁,⟨ρ₁,L₁,ha₁,hs₁,hq⟩,.pass (x := .inLoop c) rfl (fun _ _ => .inl (by simp)) harr⟩
   | goto l=>exact ⟨_,a₁,w₁,⟨ρ₁,L₁,ha₁,hs₁,hq⟩,.pass (x := .inLoop c) rfl (fun _ _ => .inl (by simp)) harr⟩
   | ret=>exact ⟨_,a₁,w₁,⟨ρ₁,L₁,ha₁,hs₁,hq⟩,.pass (x := .inLoop c) rfl (fun _ _ => .inl (by simp)) harr⟩
   | panic ch=>exact ⟨_,a₁,w₁,⟨ρ₁,L₁,ha₁,hs₁,hq⟩,.pass (x := .inLoop c) rfl (fun _ _ => .inl (by simp)) harr⟩
   | outgrown=>exact ⟨_,a₁,w₁,⟨ρ₁,L₁,ha₁,hs₁,hq⟩,.pass (x := .inLoop c) rfl (fun _ _ => .inl (by simp)) harr⟩
  | succ m ih =>
   intro ρ L h a w hs ha
   obtain ⟨e,a₁,w₁,⟨ρ₁,L₁,ha₁,hs₁,hq⟩,harr⟩:=h k w a hs ha b (.inLoop c::kk) cs
   cases e with
   | normal =>
    obtain ⟨e₂,a₂,w₂,hq₂,harr₂⟩:=ih ρ₁ L₁ hq a₁ w₁ hs₁ ha₁
    exact ⟨e₂,a₂,w₂,hq₂,.of_steps (Steps.trans harr (.one step_inLoop)) harr₂⟩
   | exit id=>exact ⟨_,a₁,w₁,⟨ρ₁,L₁,ha₁,hs₁,hq⟩,.pass (x := .inLoop c) rfl (fun _ _ => .inl (by simp)) harr⟩
   | goto l=>exact ⟨_,a₁,w₁,⟨ρ₁,L₁,ha₁,hs₁,hq⟩,.pass (x := .inLoop c) rfl (fun _ _ => .inl (by simp)) harr⟩
   | ret=>exact ⟨_,a₁,w₁,⟨ρ₁,L₁,ha₁,hs₁,hq⟩,.pass (x := .inLoop c) rfl (fun _ _ => .inl (by simp)) harr⟩
   | panic ch=>exact ⟨_,a₁,w₁,⟨ρ₁,L₁,ha₁,hs₁,hq⟩,.pass (x := .inLoop c) rfl (fun _ _ => .inl (by simp)) harr⟩
   | outgrown=>exact ⟨_,a₁,w₁,⟨ρ₁,L₁,ha₁,hs₁,hq⟩,.pass (x := .inLoop c) rfl (fun _ _ => .inl (by simp)) harr⟩
 obtain ⟨e,a',w',hq,harr⟩:=key m ρ L h a w hs ha
 exact ⟨e,a',w',hq,.of_steps (.one step_loop) harr⟩
section df
variable {P:Program} {n:Nat} {ops:List Oper} {Q:Exit→Zr→Zb→Prop} {Ss:List (Nat × Zm)} {rem rem':List (Nat × Oper)} {ρ:Zr} {L:Zb} {ty:TypeId} {pos:String} {af:Array Edge} {g:Option (Nat × Bool)} {d i:Nat}
theorem dcF {f:Operand} {as9:Array Operand} {ts:Array TypeId} {Fn:Nat} {cap args args':List Value} {v:Value} (k:Nat) (F:List Zm) (h : ∀ L,(∀ p∈F,Has L p.1 p.2)→HC P Fn args' L (fun u L'=>u=v∧L'=L)) (hF : ∀ p∈F,Has L p.1 p.2)
  (hr:HD P n ops Q (F.map (fun p=>(i,p))++Ss) rem' ((d,v)::ρ) L) (h00:Y6 ρ=true:=by exact rfl) (hp:Wc k rem=some ((i,⟨some d,.call { callee := .value f,args:=as9,argTypes:=ts },ty,pos,af,g⟩),rem'):=by exact rfl) (hg:Zu ops ρ g=some true:=by exact rfl) (hn:Nat.blt d n=true:=by exact rfl)
  (hf:ev ρ f=some (.func (.func Fn) #[] ⟨cap⟩):=by exact rfl) (ha:Zg1 ρ as9.toList=some args:=by exact rfl) (he:args++cap=args':=by exact rfl) (hc:Q0 ops rem' i ⟨some d,.call { callee := .value f,args:=as9,argTypes:=ts },ty,pos,af,g⟩=true:=by decide +kernel):HD P n ops Q Ss rem ρ L:=
 hd_q (F:=F) hp hc rfl hn (.inl ⟨hg,fun L hL=>q_call hf ha (he▸h L hL)⟩) hF hr
end df
theorem hcHas {P:Program} {F:Nat} {args:List Value} {b:Nat} {o:Obj} {V:Value} (h : ∀ L,HC P F args ([(b,o)]::L) (fun v L'=>v=V∧L'=[(b,o)]::L)) {L:Zb} (hb:Has L b o):HC P F args L (fun v L'=>v=V∧L'=L):=by
 obtain ⟨l1,l2,e⟩:=List.append_of_mem hb
 have hp:List.Perm L.flatten ([(b,o)]::[l1++l2]).flatten:=by
  rw [e]
  simp only [List.flatten_cons,List.flatten_nil,List.append_nil,List.cons_append,List.nil_append]
  exact List.perm_middle
 have hp2 : ∀ {k:Zgv} {w:World},Sat k w ([(b,o)]::[l1++l2])→Sat k w L:=fun hs=>hs.sp (LS.of_perm hp)
 exact ⟨(h []).1,fun k w hs=>((h [l1++l2]).2 k w (hs.sp (LS.of_perm hp.symm))).mono fun e w' ⟨v,L',he,hs',hv,hL⟩=>⟨v,L,he,hp2 (hL▸hs'),hv,rfl⟩⟩
theorem hq2 {P:Program} {F:Nat} {args:List Value} {c1 c2:List Zm} {L L1 L2:Zb} {V:Value} (h : ∀ L,HC P F args (c1::c2::L) (fun v L'=>v=V∧L'=c1::c2::L)) (k1 k2:Nat) (hp1:Qy k1 L=some (c1,L1):=by exact rfl) (hp2:Qy k2 L1=some (c2,L2):=by exact rfl):HC P F args L (fun v L'=>v=V∧L'=L):=
 have hp:List.Perm L (c1::c2::L2):=(Xw hp1).trans ((Xw hp2).cons c1)
 ⟨(h L2).1,fun k w hs=>((h L2).2 k w (hs.perm hp)).mono fun e w' ⟨v,L',he,hs',hv,hL⟩=>⟨v,L,he,(hL▸hs').perm hp.symm,hv,rfl⟩⟩
end Go.HL
end

/-! HLDs -/
section
namespace Go.HL
open Go
theorem Rd.all {α:Type} {enc:α→List Value} {sz:Nat} {L:Zb} {a:Option Addr} {xs:List α} (h:Rd enc sz L a xs) (h0:0<xs.length) : ∃ b i c E fr,a=some ⟨b,i,none⟩∧Has L b (.cells ⟨c⟩ E fr) ∧ ∀ k (hk:k<xs.length),Gets c (i+((k:Int)).toNat*sz) (enc xs[k]):=by
 rcases h with h|⟨b,i,c,E,fr,rfl,hb,hg⟩
 ·rw [h] at h0;simp at h0
 ·exact ⟨b,i,c,E,fr,rfl,hb,fun k hk=>by simpa using hg k _ (List.getElem?_eq_getElem hk)⟩
structure Fresh (b:Bool):Prop where
 any:True
theorem Zpc:Fresh true:=⟨trivial⟩
theorem Zpb:Fresh false:=⟨trivial⟩
theorem Zhk (b:Bool):Fresh b:=⟨trivial⟩
section d
variable {P:Program} {n:Nat} {ops:List Oper} {Q:Exit→Zr→Zb→Prop} {Ss:List (Nat × Zm)} {rem rem':List (Nat × Oper)} {ρ:Zr} {L:Zb} {i:Nat}
theorem d_sp {t j:Nat} {q:Oper} {b wt:Bool} (k:Nat) (h1:b=true→HD P n ops Q Ss rem ((t,.bool true)::ρ) L) (h0:b=false→HD P n ops Q Ss rem ((t,.bool false)::ρ) L) (h00:Y6 ρ=true:=by exact rfl) (hp:Wc k rem=some ((i,q),rem'):=by exact rfl) (hq:q.guard=some (j,wt):=by exact rfl) (hj:V8 ops j=some t:=by exact rfl) (ht:lk ρ t=some (.bool b):=by exact rfl)
  (hb:Fresh b:=by (fail_if_success (with_reducible exact Zpc));(fail_if_success (with_reducible exact Zpb));exact Zhk _):HD P n ops Q Ss rem ρ L:=hd_split ht h1 h0
end d
end Go.HL
end

/-! HLPr -/
section
namespace Go.HL
open Go
section
variable {P:Program} {n:Nat} {ops:List Oper} {Q:Exit→Zr→Zb→Prop} {rest:List Oper} {ρ:Zr} {L:Zb}
theorem pg_t {c:Operand} {x y:Code} {b:Bool} (h00:Y6 ρ=true:=by exact rfl) (hc:ev ρ c=some (.bool b):=by exact rfl) (hb:b=true:=by with_reducible exact rfl):(HW P n x Q ρ L)→HW P n (.cond c x y) Q ρ L:=fun h=>g_t h h00 hc hb
end
section
variable {P:Program} {n:Nat} {ops:List Oper} {Q:Exit→Zr→Zb→Prop} {rest:List Oper} {ρ:Zr} {L:Zb}
theorem pg_f {c:Operand} {x y:Code} {b:Bool} (h00:Y6 ρ=true:=by exact rfl) (hc:ev ρ c=some (.bool b):=by exact rfl) (hb:b=false:=by with_reducible exact rfl):(HW P n y Q ρ L)→HW P n (.cond c x y) Q ρ L:=fun h=>g_f h h00 hc hb
end
section
variable {P:Program} {n:Nat} {ops:List Oper} {Q:Exit→Zr→Zb→Prop} {rest:List Oper} {ρ:Zr} {L:Zb}
theorem pg_bx {id i:Nat} (h00:Y6 ρ=true:=by exact rfl) (hn:Nat.beq i id=false:=by exact rfl):(Q (.exit i) ρ L)→Z6 id Q (.exit i) ρ L:=fun h=>g_bx h h00 hn
end
section
variable {P:Program} {n:Nat} {ops:List Oper} {Q:Exit→Zr→Zb→Prop} {rest:List Oper} {ρ:Zr} {L:Zb}
variable {op:Op} {ty:TypeId} {pos:String} {af:Array Edge} {g:Option (Nat × Bool)} {d:Nat}
theorem Q3 {v:Value} (h:QOp P ⟨some d,op,ty,pos,af,g⟩ ρ L v) (h00:Y6 ρ=true:=by exact rfl) (hg:Zu ops ρ g=some true:=by exact rfl) (hn:Nat.blt d n=true:=by exact rfl):(HO P n ops Q rest ((d,v)::ρ) L)→HO P n ops Q (⟨some d,op,ty,pos,af,g⟩::rest) ρ L:=fun hr=>Vb h hr h00 hg hn
end
section
variable {P:Program} {n:Nat} {ops:List Oper} {Q:Exit→Zr→Zb→Prop} {rest:List Oper} {ρ:Zr} {L:Zb}
variable {op:Op} {ty:TypeId} {pos:String} {af:Array Edge} {g:Option (Nat × Bool)} {d:Nat}
theorem pg_n (h00:Y6 ρ=true:=by exact rfl) (hg:Zu ops ρ g=some false:=by exact rfl) (hn:Nat.blt d n=true:=by exact rfl):(HO P n ops Q rest ((d,undef)::ρ) L)→HO P n ops Q (⟨some d,op,ty,pos,af,g⟩::rest) ρ L:=fun hr=>g_n hr h00 hg hn
end
section
variable {P:Program} {n:Nat} {ops:List Oper} {Q:Exit→Zr→Zb→Prop} {rest:List Oper} {ρ:Zr} {L:Zb}
variable {op:Op} {ty:TypeId} {pos:String} {af:Array Edge} {g:Option (Nat × Bool)} {d:Nat}
theorem pg_on {d:Option Tmp} {j:Nat} {wt:Bool} (h00:Y6 ρ=true:=by exact rfl) (hg:Zu ops ρ (some (j,wt))=some true:=by exact rfl):(HO P n ops Q (⟨d,op,ty,pos,af,none⟩::rest) ρ L)→HO P n ops Q (⟨d,op,ty,pos,af,some (j,wt)⟩::rest) ρ L:=fun h=>g_on h h00 hg
end
section
variable {P:Program} {n:Nat} {ops:List Oper} {Q:Exit→Zr→Zb→Prop} {rest:List Oper} {ρ:Zr} {L:Zb}
variable {op:Op} {ty:TypeId} {pos:String} {af:Array Edge} {g:Option (Nat × Bool)} {d:Nat}
variable {K:Zr→Prop}
theorem Q4 {v:Value} (h:QOp P ⟨some d,op,ty,pos,af,g⟩ ρ L v) (h00:Y6 ρ=true:=by exact rfl) (hg:Zu ops ρ g=some true:=by exact rfl) (hn:Nat.blt d n=true:=by exact rfl):(HQ P n ops K rest ((d,v)::ρ) L)→HQ P n ops K (⟨some d,op,ty,pos,af,g⟩::rest) ρ L:=fun hr=>Zc9 h hr h00 hg hn
end
section
variable {P:Program} {n:Nat} {ops:List Oper} {Q:Exit→Zr→Zb→Prop} {rest:List Oper} {ρ:Zr} {L:Zb}
variable {op:Op} {ty:TypeId} {pos:String} {af:Array Edge} {g:Option (Nat × Bool)} {d:Nat}
variable {K:Zr→Prop}
theorem pk_n (h00:Y6 ρ=true:=by exact rfl) (hg:Zu ops ρ g=some false:=by exact rfl) (hn:Nat.blt d n=true:=by exact rfl):(HQ P n ops K rest ((d,undef)::ρ) L)→HQ P n ops K (⟨some d,op,ty,pos,af,g⟩::rest) ρ L:=fun hr=>k_n hr h00 hg hn
end
section
variable {P:Program} (S:Tab P) {n:Nat} {ops:List Oper} {Q:Exit→Zr→Zb→Prop} {rest:List Oper} {ρ:Zr} {L:Zb} {ty:TypeId} {pos:String} {af:Array Edge}
theorem pwa {d E:Nat} {z:Value} {zs:List Value} (h00:Y6 ρ=true:=by exact rfl) (hz:Zt S.zr E=some z:=by exact rfl) (hc:z.cells=⟨zs⟩:=by exact rfl) (hn:Nat.blt d n=true:=by exact rfl):(∀ b,HO P n ops Q rest ((d,pt b 0)::ρ) ([(b,.cells ⟨zs⟩ E)]::L))→HO P n ops Q (⟨some d,.alloc E,ty,pos,af,none⟩::rest) ρ L:=fun h=>wa S h h00 hz hc hn
end
section
variable {P:Program} (S:Tab P) {n:Nat} {ops:List Oper} {Q:Exit→Zr→Zb→Prop} {rest:List Oper} {ρ:Zr} {L:Zb} {ty:TypeId} {pos:String} {af:Array Edge}
theorem pwb {d E:Nat} {x:Operand} {v:Value} {vs:List Value} (h00:Y6 ρ=true:=by exact rfl) (hx:ev ρ x=some v:=by exact rfl) (hc:v.cells=⟨vs⟩:=by exact rfl) (hn:Nat.blt d n=true:=by exact rfl):(∀ b,HO P n ops Q rest ((d,pt b 0)::ρ) ([(b,.cells ⟨vs⟩ E)]::L))→HO P n ops Q (⟨some d,.box E x,ty,pos,af,none⟩::rest) ρ L:=fun h=>wb h h00 hx hc hn
end
section
variable {P:Program} (S:Tab P) {n:Nat} {ops:List Oper} {Q:Exit→Zr→Zb→Prop} {rest:List Oper} {ρ:Zr} {L:Zb} {ty:TypeId} {pos:String} {af:Array Edge}
theorem pws {t b i E:Nat} {ti:TyI} {x y:Operand} {v:Value} {vs l l':List Value} {L':Zb} (h00:Y6 ρ=true:=by exact rfl) (hx:ev ρ x=some (pt b i):=by exact rfl) (hy:ev ρ y=some v:=by exact rfl) (ht:Zt S.ty t=some ti:=by exact rfl) (hc:v.cells=⟨vs⟩:=by exact rfl) (hsz:ti.size=vs.length:=by exact rfl) (h1:(vs.all Value.oneCell')=true:=by exact rfl) (hu:Upd L b (.cells ⟨l⟩ E (0,0)) (.cells ⟨l'⟩ E (0,0)) L':=by (repeat (first|exact Xr|apply Zoo|apply Zgq))) (hp:Zo l i vs l':=by (first|assumption|exact Zf4 rfl|exact Wy|exact Wj Wy|exact Wj (Wj Wy)|(repeat (first|exact Wy|apply Wj)))):(HO P n ops Q rest ρ L')→HO P n ops Q (⟨none,.store t x y,ty,pos,af,none⟩::rest) ρ L:=fun h=>ws S h h00 hx hy ht hc hsz h1 hu hp
end
section
variable {P:Program} (S:Tab P) {n:Nat} {ops:List Oper} {Q:Exit→Zr→Zb→Prop} {rest:List Oper} {ρ:Zr} {L:Zb} {ty:TypeId} {pos:String} {af:Array Edge}
theorem pwS {d t E y0 s0 b0 k1 x1 y1 by1 len:Nat} {z:Value} {zv:Value} {vals:List Value} {parts:Array (Nat × Operand)} (h00:Y6 ρ=true:=by exact rfl) (ht:Zt S.ty t=some ⟨5,E,y0,s0,b0⟩:=by exact rfl) (he:Zt S.ty E=some ⟨k1,x1,y1,1,by1⟩:=by exact rfl) (hz:Zt S.zr E=some z:=by exact rfl) (hzs:z.cells=⟨[zv]⟩:=by exact rfl) (hp:Zks ρ 0 parts.toList=some vals:=by exact rfl) (hlen:vals.length=len:=by exact rfl) (hsm:Nat.ble len 16777216=true:=by exact rfl) (h1:(vals.all Value.oneCell')=true:=by exact rfl) (hn:Nat.blt d n=true:=by exact rfl):(∀ b,HO P n ops Q rest ((d,sl b 0 len len)::ρ) ([(b,.cells ⟨vals⟩ E)]::L))→HO P n ops Q (⟨some d,.buildSlice t len parts,ty,pos,af,none⟩::rest) ρ L:=fun h=>wS S h h00 ht he hz hzs hp hlen hsm h1 hn
end
section
variable {P:Program} (S:Tab P) {n:Nat} {ops:List Oper} {Q:Exit→Zr→Zb→Prop} {rest:List Oper} {ρ:Zr} {L:Zb} {ty:TypeId} {pos:String} {af:Array Edge}
theorem pwm {d t E y0 s0 b0 k1 x1 y1 by1:Nat} {z zv:Value} {x y:Operand} {kl kc:IntKind} {l c:Int} (h00:Y6 ρ=true:=by exact rfl) (hx:ev ρ x=some (.int kl l):=by exact rfl) (hy:ev ρ y=some (.int kc c):=by exact rfl) (ht:Zt S.ty t=some ⟨5,E,y0,s0,b0⟩:=by exact rfl) (he:Zt S.ty E=some ⟨k1,x1,y1,1,by1⟩:=by exact rfl) (hz:Zt S.zr E=some z:=by exact rfl) (hzs:z.cells = #[zv]:=by exact rfl) (hn:Nat.blt d n=true:=by exact rfl) (hc:0≤l∧l≤c∧(by1:Int)*c≤281474976710656∧c≤9223372036854775807:=by omega):(∀ b,HO P n ops Q rest ((d,sl b 0 l.toNat c.toNat)::ρ) ([(b,.cells ⟨List.replicate c.toNat zv⟩ E)]::L))→HO P n ops Q (⟨some d,.makeSlice t x y,ty,pos,af,none⟩::rest) ρ L:=fun h=>wm S h h00 hx hy ht he hz hzs hn hc
end
section
variable {P:Program} (S:Tab P) {n:Nat} {ops:List Oper} {Q:Exit→Zr→Zb→Prop} {Ss:List (Nat × Zm)} {rem rem':List (Nat × Oper)} {ρ:Zr} {L:Zb} {op:Op} {ty:TypeId} {pos:String} {af:Array Edge} {g:Option (Nat × Bool)} {d i:Nat}
theorem Zdd {v:Value} (k:Nat) (hp:Wc k rem=some ((i,⟨some d,op,ty,pos,af,g⟩),rem')) (h : ∀ L,QOp P ⟨some d,op,ty,pos,af,g⟩ ρ L v) (h00:Y6 ρ=true:=by exact rfl) (hg:Zu ops ρ g=some true:=by exact rfl) (hn:Nat.blt d n=true:=by exact rfl) (hc:Q0 ops rem' i ⟨some d,op,ty,pos,af,g⟩=true:=by decide +kernel):(HD P n ops Q Ss rem' ((d,v)::ρ) L)→HD P n ops Q Ss rem ρ L:=fun hr=>Zgw k hp h hr h00 hg hn hc
end
section
variable {P:Program} (S:Tab P) {n:Nat} {ops:List Oper} {Q:Exit→Zr→Zb→Prop} {Ss:List (Nat × Zm)} {rem rem':List (Nat × Oper)} {ρ:Zr} {L:Zb} {op:Op} {ty:TypeId} {pos:String} {af:Array Edge} {g:Option (Nat × Bool)} {d i:Nat}
theorem pd_n (k:Nat) (h00:Y6 ρ=true:=by exact rfl) (hp:Wc k rem=some ((i,⟨some d,op,ty,pos,af,g⟩),rem'):=by exact rfl) (hg:Zu ops ρ g=some false:=by exact rfl) (hn:Nat.blt d n=true:=by exact rfl) (hc:Q0 ops rem' i ⟨some d,op,ty,pos,af,g⟩=true:=by decide +kernel):(HD P n ops Q Ss rem' ((d,undef)::ρ) L)→HD P n ops Q Ss rem ρ L:=fun hr=>d_n k hr h00 hp hg hn hc
end
section
variable {P:Program} (S:Tab P) {n:Nat} {ops:List Oper} {Q:Exit→Zr→Zb→Prop} {Ss:List (Nat × Zm)} {rem rem':List (Nat × Oper)} {ρ:Zr} {L:Zb} {op:Op} {ty:TypeId} {pos:String} {af:Array Edge} {g:Option (Nat × Bool)} {d i:Nat}
theorem pdl {t b a E:Nat} {ti:TyI} {x:Operand} {l:List Value} {fr:Nat × Nat} {v:Value} (k:Nat) (h00:Y6 ρ=true:=by exact rfl) (hp:Wc k rem=some ((i,⟨some d,.load t x,ty,pos,af,g⟩),rem'):=by exact rfl) (hx:ev ρ x=some (pt b a):=by exact rfl) (ht:Zt S.ty t=some ti:=by exact rfl) (h6:Nat.beq ti.kind 6=false:=by exact rfl) (h7:Nat.beq ti.kind 7=false:=by exact rfl) (hg:Zu ops ρ g=some true:=by exact rfl) (hn:Nat.blt d n=true:=by exact rfl) (hb:Has L b (.cells ⟨l⟩ E fr):=by (repeat (first|assumption|exact Zh|exact Yi (by assumption)|apply Xq|apply Zc))) (hv:l[a]? = some v:=by (first|exact rfl|assumption|exact Gets.at (by assumption) rfl|exact Gets.at0 (by assumption) rfl)) (hc:Q0 ops rem' i ⟨some d,.load t x,ty,pos,af,g⟩=true:=by decide +kernel):(HD P n ops Q ((i,(b,.cells ⟨l⟩ E fr))::Ss) rem' ((d,v)::ρ) L)→HD P n ops Q Ss rem ρ L:=fun hr=>dl S k hr h00 hp hx ht h6 h7 hg hn hb hv hc
end
section
variable {P:Program} (S:Tab P) {n:Nat} {ops:List Oper} {Q:Exit→Zr→Zb→Prop} {Ss:List (Nat × Zm)} {rem rem':List (Nat × Oper)} {ρ:Zr} {L:Zb} {op:Op} {ty:TypeId} {pos:String} {af:Array Edge} {g:Option (Nat × Bool)} {d i:Nat}
theorem pds {t b a E:Nat} {ti:TyI} {x:Operand} {l vs:List Value} {fr:Nat × Nat} (k:Nat) (h00:Y6 ρ=true:=by exact rfl) (hp:Wc k rem=some ((i,⟨some d,.load t x,ty,pos,af,g⟩),rem'):=by exact rfl) (hx:ev ρ x=some (pt b a):=by exact rfl) (ht:Zt S.ty t=some ti:=by exact rfl) (h7:(Nat.beq ti.kind 6 || Nat.beq ti.kind 7)=true:=by exact rfl) (hg:Zu ops ρ g=some true:=by exact rfl) (hn:Nat.blt d n=true:=by exact rfl) (hb:Has L b (.cells ⟨l⟩ E fr):=by (repeat (first|assumption|exact Zh|exact Yi (by assumption)|apply Xq|apply Zc))) (hv:Gets l a vs∧ti.size=vs.length:=by (first|(refine Zfe (by assumption) ?_;rfl)|exact ⟨Zd rfl (Zd rfl (Zd rfl Zx)),rfl⟩|exact ⟨Zd rfl (Zd rfl Zx),rfl⟩|exact ⟨Zd rfl (Zd rfl (Zd rfl (Zd rfl Zx))),rfl⟩|exact ⟨Zd rfl (Zd rfl (Zd rfl (Zd rfl (Zd rfl (Zd rfl (Zd rfl (Zd rfl (Zd rfl Zx)))))))),rfl⟩)) (hc:Q0 ops rem' i ⟨some d,.load t x,ty,pos,af,g⟩=true:=by decide +kernel):(HD P n ops Q ((i,(b,.cells ⟨l⟩ E fr))::Ss) rem' ((d,.agg ⟨vs⟩)::ρ) L)→HD P n ops Q Ss rem ρ L:=fun hr=>ds S k hr h00 hp hx ht h7 hg hn hb hv hc
end
section
variable {P:Program} (S:Tab P) {n:Nat} {ops:List Oper} {Q:Exit→Zr→Zb→Prop} {Ss:List (Nat × Zm)} {rem rem':List (Nat × Oper)} {ρ:Zr} {L:Zb} {op:Op} {ty:TypeId} {pos:String} {af:Array Edge} {g:Option (Nat × Bool)} {d i:Nat}
theorem pdxk {i0:Nat} {p:Zm} {r:List (Nat × Zm)} {K:List (Nat × Zm)→Prop} (hk:Qx ops i0 i=true:=by exact rfl) (hb:Has L p.1 p.2:=by (repeat (first|assumption|exact Zh|exact Yi (by assumption)|apply Xq|apply Zc))):(Zj ops i L r (fun l=>K ((i0,p)::l)))→Zj ops i L ((i0,p)::r) K:=fun h=>dxk h hk hb
end
section
variable {P:Program} (S:Tab P) {n:Nat} {ops:List Oper} {Q:Exit→Zr→Zb→Prop} {Ss:List (Nat × Zm)} {rem rem':List (Nat × Oper)} {ρ:Zr} {L:Zb} {op:Op} {ty:TypeId} {pos:String} {af:Array Edge} {g:Option (Nat × Bool)} {d i:Nat}
theorem pdxd {i0:Nat} {p:Zm} {r:List (Nat × Zm)} {K:List (Nat × Zm)→Prop} (hk:Qx ops i0 i=false:=by exact rfl):(Zj ops i L r K)→Zj ops i L ((i0,p)::r) K:=fun h=>dxd h hk
end
section
variable {P:Program} (S:Tab P) {n:Nat} {ops:List Oper} {Q:Exit→Zr→Zb→Prop} {rest:List Oper} {ρ:Zr} {L:Zb} {ty:TypeId} {pos:String} {af:Array Edge}
theorem pwM {d t E y0 s0 b0 k1 x1 y1 sz by1:Nat} {z:Value} {zs:List Value} {x y:Operand} {kl kc:IntKind} {l c:Int} (h00:Y6 ρ=true:=by exact rfl) (hx:ev ρ x=some (.int kl l):=by exact rfl) (hy:ev ρ y=some (.int kc c):=by exact rfl) (ht:Zt S.ty t=some ⟨5,E,y0,s0,b0⟩:=by exact rfl) (he:Zt S.ty E=some ⟨k1,x1,y1,sz,by1⟩:=by exact rfl) (hz:Zt S.zr E=some z:=by exact rfl) (hzs:z.cells=⟨zs⟩:=by exact rfl) (hzl:Nat.beq zs.length sz=true:=by exact rfl) (hn:Nat.blt d n=true:=by exact rfl) (hc:0≤l∧l≤c∧(by1:Int)*c≤281474976710656∧c≤9223372036854775807:=by omega):(∀ b,HO P n ops Q rest ((d,sl b 0 l.toNat c.toNat)::ρ) ([(b,.cells ⟨(List.replicate c.toNat zs).flatten⟩ E)]::L))→HO P n ops Q (⟨some d,.makeSlice t x y,ty,pos,af,none⟩::rest) ρ L:=fun h=>wM S h h00 hx hy ht he hz hzs hzl hn hc
end
section
variable {P:Program} (S:Tab P) {n:Nat} {ops:List Oper} {Q:Exit→Zr→Zb→Prop} {rest:List Oper} {ρ:Zr} {L:Zb} {ty:TypeId} {pos:String} {af:Array Edge}
theorem pwSa {d t E y0 s0 b0 k1 x1 y1 sz by1 len:Nat} {z:Value} {zs out:List Value} {vals:List (Nat × Value)} {parts:Array (Nat × Operand)} (h00:Y6 ρ=true:=by exact rfl) (ht:Zt S.ty t=some ⟨5,E,y0,s0,b0⟩:=by exact rfl) (he:Zt S.ty E=some ⟨k1,x1,y1,sz,by1⟩:=by exact rfl) (hz:Zt S.zr E=some z:=by exact rfl) (hzs:z.cells=⟨zs⟩:=by exact rfl) (hzl:Nat.beq zs.length sz=true:=by exact rfl) (hp:Wg ρ parts.toList=some vals:=by exact rfl) (hf:((Ux sz 0 vals).bind fun l=>nfL l some)=some out:=by exact rfl) (hol:Nat.beq out.length (len*sz)=true:=by exact rfl) (hsm:Nat.ble (len*sz) 16777216=true:=by exact rfl) (h1:Nat.ble 1 (len*sz)=true:=by exact rfl) (hn:Nat.blt d n=true:=by exact rfl):(∀ b,HO P n ops Q rest ((d,sl b 0 len len)::ρ) ([(b,.cells ⟨out⟩ E)]::L))→HO P n ops Q (⟨some d,.buildSlice t len parts,ty,pos,af,none⟩::rest) ρ L:=fun h=>wSa S h h00 ht he hz hzs hzl hp hf hol hsm h1 hn
end
section
variable {P:Program} (S:Tab P) {n:Nat} {ops:List Oper} {Q:Exit→Zr→Zb→Prop} {rest:List Oper} {ρ:Zr} {L:Zb} {ty:TypeId} {pos:String} {af:Array Edge}
theorem pwSn {d t E y0 s0 b0 k1 x1 y1 sz by1 len:Nat} {z:Value} {zs out:List Value} {vals:List (Nat × Value)} {parts:Array (Nat × Operand)} (h00:Y6 ρ=true:=by exact rfl) (ht:Zt S.ty t=some ⟨5,E,y0,s0,b0⟩:=by exact rfl) (he:Zt S.ty E=some ⟨k1,x1,y1,sz,by1⟩:=by exact rfl) (hz:Zt S.zr E=some z:=by exact rfl) (hzs:z.cells=⟨zs⟩:=by exact rfl) (hzl:Nat.beq zs.length sz=true:=by exact rfl) (hp:Wg ρ parts.toList=some vals:=by exact rfl) (hf:((Zab sz (List.replicate len zs).flatten vals).bind fun l=>nfL l some)=some out:=by exact rfl) (hsm:Nat.ble (len*sz) 16777216=true:=by exact rfl) (h1:Nat.ble 1 (len*sz)=true:=by exact rfl) (hn:Nat.blt d n=true:=by exact rfl):(∀ b,HO P n ops Q rest ((d,sl b 0 len len)::ρ) ([(b,.cells ⟨out⟩ E)]::L))→HO P n ops Q (⟨some d,.buildSlice t len parts,ty,pos,af,none⟩::rest) ρ L:=fun h=>wSn S h h00 ht he hz hzs hzl hp hf hsm h1 hn
end
section
variable {α:Type} [DecidableEq α] {P:Program} (S:Tab P) {n:Nat} {ops:List Oper} {Q:Exit→Zr→Zb→Prop} {rest:List Oper} {ρ:Zr} {L:Zb} {ty:TypeId} {pos:String} {af:Array Edge}
theorem pwMk {d t:Nat} (h00:Y6 ρ=true:=by exact rfl) (hn:Nat.blt d n=true:=by exact rfl):(∀ b,HO P n ops Q rest ((d,.map (some b))::ρ) ([(b,.map #[] 0)]::L))→HO P n ops Q (⟨some d,.makeMap t none,ty,pos,af,none⟩::rest) ρ L:=fun h=>wMk h h00 hn
end
section
variable {P:Program} {n:Nat} {ops:List Oper} {Q:Exit→Zr→Zb→Prop} {rest:List Oper} {ρ:Zr} {L:Zb}
theorem pg_b {c:Operand} {x y:Code} {b:Bool} (h00:Y6 ρ=true:=by exact rfl) (hc:ev ρ c=some (.bool b):=by exact rfl):(b=true→HW P n x Q ρ L)→(b=false→HW P n y Q ρ L)→HW P n (.cond c x y) Q ρ L:=fun ht hf=>g_b ht hf h00 hc
end
section
variable {P:Program} {n:Nat} {ops:List Oper} {Q:Exit→Zr→Zb→Prop} {rest:List Oper} {ρ:Zr} {L:Zb}
variable {op:Op} {ty:TypeId} {pos:String} {af:Array Edge} {g:Option (Nat × Bool)} {d:Nat}
theorem pg_s {d j t:Nat} {wt:Bool} {b:Bool} (h00:Y6 ρ=true:=by exact rfl) (hj:V8 ops j=some t:=by exact rfl) (ht:lk ρ t=some (.bool b):=by exact rfl):(b=true→HO P n ops Q (⟨some d,op,ty,pos,af,some (j,wt)⟩::rest) ((t,.bool true)::ρ) L)→(b=false→HO P n ops Q (⟨some d,op,ty,pos,af,some (j,wt)⟩::rest) ((t,.bool false)::ρ) L)→HO P n ops Q (⟨some d,op,ty,pos,af,some (j,wt)⟩::rest) ρ L:=fun h1 h0=>g_s h1 h0 h00 hj ht
end
section
variable {P:Program} {n:Nat} {ops:List Oper} {Q:Exit→Zr→Zb→Prop} {rest:List Oper} {ρ:Zr} {L:Zb}
variable {op:Op} {ty:TypeId} {pos:String} {af:Array Edge} {g:Option (Nat × Bool)} {d:Nat}
variable {K:Zr→Prop}
theorem pk_s {d j t:Nat} {wt:Bool} {b:Bool} (h00:Y6 ρ=true:=by exact rfl) (hj:V8 ops j=some t:=by exact rfl) (ht:lk ρ t=some (.bool b):=by exact rfl):(b=true→HQ P n ops K (⟨some d,op,ty,pos,af,some (j,wt)⟩::rest) ((t,.bool true)::ρ) L)→(b=false→HQ P n ops K (⟨some d,op,ty,pos,af,some (j,wt)⟩::rest) ((t,.bool false)::ρ) L)→HQ P n ops K (⟨some d,op,ty,pos,af,some (j,wt)⟩::rest) ρ L:=fun h1 h0=>k_s h1 h0 h00 hj ht
end
section
variable {P:Program} {n:Nat} {ops:List Oper} {Q:Exit→Zr→Zb→Prop} {Ss:List (Nat × Zm)} {rem rem':List (Nat × Oper)} {ρ:Zr} {L:Zb} {i:Nat}
theorem pd_sp {t j:Nat} {q:Oper} {b wt:Bool} (k:Nat) (h00:Y6 ρ=true:=by exact rfl) (hp:Wc k rem=some ((i,q),rem'):=by exact rfl) (hq:q.guard=some (j,wt):=by exact rfl) (hj:V8 ops j=some t:=by exact rfl) (ht:lk ρ t=some (.bool b):=by exact rfl) (hb:Fresh b:=by (fail_if_success (with_reducible exact Zpc));(fail_if_success (with_reducible exact Zpb));exact Zhk _):(b=true→HD P n ops Q Ss rem ((t,.bool true)::ρ) L)→(b=false→HD P n ops Q Ss rem ((t,.bool false)::ρ) L)→HD P n ops Q Ss rem ρ L:=fun h1 h0=>d_sp k h1 h0 h00 hp hq hj ht hb
end
end Go.HL
end

/-! HLTop -/
section
namespace Go.HL
open Go Go.ChangeShapes Go.WideShapes Go.ChangeAt Go.RowKit

def Vk (w:World):List Zm:=(List.range w.heap.size).map fun i=>(i,w.heap.getD i default)
def ctx (w:World):Zgv:=(w.os,w.output,w.tape)
theorem Zln {w:World} {b:Nat} {o:Obj} (h:w.heap[b]? = some o):(b,o)∈Vk w:=by
 obtain ⟨hlt,he⟩:=Array.getElem?_eq_some_iff.1 h
 refine List.mem_map.2 ⟨b,List.mem_range.2 hlt,?_⟩
 simp [h]
theorem sat_init (w:World):Sat (ctx w) w [Vk w]:=by
 refine ⟨rfl,rfl,rfl,fun p hp=>?_,?_⟩
 ·simp only [List.flatten_cons,List.flatten_nil,List.append_nil] at hp
  obtain ⟨i,hi,rfl⟩:=List.mem_map.1 hp
  have hlt:=List.mem_range.1 hi
  simp [hlt]
 ·simp only [List.flatten_cons,List.flatten_nil,List.append_nil,Vk,List.map_map]
  have:((fun x:Zm=>x.1) ∘ fun i=>(i,w.heap.getD i default))=id:=rfl
  rw [this,List.map_id]
  exact List.nodup_range
theorem Zim {w w':World} (h:Sat (ctx w) w' [Vk w]):Below w.heap.size w w':=by
 have hb : ∀ k,k<w.heap.size→w'.heap[k]? = w.heap[k]? := fun k hk=>by
  have:=h.has (k,w.heap[k]) (by simp only [List.flatten_cons,List.flatten_nil,List.append_nil];exact Zln (Array.getElem?_eq_getElem hk))
  rw [this,Array.getElem?_eq_getElem hk]
 refine ⟨h.os,h.tape,h.out,?_,hb⟩
 cases hz:w.heap.size with
 | zero=>omega
 | succ m =>
  have h1:=hb m (by omega)
  have h2 : ∃ o,w'.heap[m]? = some o:=⟨_,h1.trans (Array.getElem?_eq_getElem (by omega))⟩
  obtain ⟨o,h3⟩:=h2
  obtain ⟨h4,_⟩:=Array.getElem?_eq_some_iff.1 h3
  omega
theorem Zqt {P:Program} {f:Nat} {args:List Value} {w:World} (h:HC P f args [Vk w] (fun v L'=>v = .bool true∧L'=[Vk w])) :
  Calls P f ⟨args⟩ w fun e w'=>e = .returned (.bool true)∧Below w.heap.size w w':=
 (h.2 (ctx w) w (sat_init w)).mono fun e w' ⟨v,L',h1,h2,h3,h4⟩=>by subst h3;subst h4;exact ⟨h1,Zim h2⟩

theorem Zbr {H:Type} {enc:TypeId × Value→H} {P:Program} (hl:laidOutB P=true) {W W':World} (hb:Below W.heap.size W W') :
  ∀ (ts:List TypeId) (vs:List Value) (ds:List (DataW H)) (ps:List MemPlace),(∀ t∈ts,P.readableRec t=true∧t<P.types.size)→DataW.TrodAll enc P W 0 (fun _=>true) true ts vs ds ps →
   (∀ x∈ps,x.block<W.heap.size)→DataW.TrodAll enc P W' 0 (fun b=>decide (b<W.heap.size)) true ts vs ds ps
 | [],[],[],ps,_,h,_=>h
 | t::ts,v::vs,d::ds,ps,hr,h,hlt=>by
  obtain ⟨p,q,h1,h2,rfl⟩:=h
  exact ⟨p,q,Below.trod hl (hr t (by simp)).1 (hr t (by simp)).2 h1 hb (fun x hx=>hlt x (by simp [hx])),
   Zbr hl hb ts vs ds q (fun t ht=>hr t (by simp [ht])) h2 (fun x hx=>hlt x (by simp [hx])),rfl⟩
 | [],_::_,_,_,_,h,_=>by simp [DataW.TrodAll] at h
 | [],[],_::_,_,_,h,_=>by simp [DataW.TrodAll] at h
 | _::_,[],_,_,_,h,_=>by simp [DataW.TrodAll] at h
 | _::_,_::_,[],_,_,h,_=>by simp [DataW.TrodAll] at h

theorem post_law {H:Type} {enc:TypeId × Value→H} {P:Program} {f:Func} {s:ChangeSpec} {apart fresh handsOn:Bool} {W W':World} {args:Array Value} {ds gs:List (DataW H)} {before:List MemPlace} {tb:TypeId}
  (hl:laidOutB P=true) (hr : ∀ t∈f.params.toList,P.readableRec t=true∧t<P.types.size) (hW:DataW.Whole enc P f.params.toList s.vars apart W args.toList ds gs before) (hb:Below W.heap.size W W')
  (hv:s.vars=[]) (hfn:s.fn H (ds++gs)={ results:=[.lit (.bool true)],args:=ds }) (hrt:f.resultTypes = #[tb]) (hbool:P.underlying tb=some .bool) :
  s.post enc P f apart fresh handsOn false W args (.bool true) W':=by
 have hlt:=hW.lt
 have hW':=hW
 obtain ⟨p,q,hA,hV,rfl,hfz,hnd⟩:=hW
 rw [hv] at hV
 obtain ⟨rfl,rfl⟩:=trodVars_none hV
 refine ⟨ds,[],p++[],[],p,[],hW',?_,?_,?_,hb.frame _,fun h=>by cases h⟩
 ·rw [hfn,hrt]
  exact trodAll_mk1 (shut_bool hbool _)
 ·rw [hfn]
  exact Zbr hl hb _ _ _ _ hr hA (fun x hx=>hlt x (by simp [hx]))
 ·rw [hv,hfn]
  rfl

theorem Zbf {W:World} {b off i:Nat} {c:Array Value} {E:Nat} {fr:Nat × Nat} (hb:W.heap[b]? = some (.cells c E fr)):W.cell? (Addr.add ⟨b,off,none⟩ i)=c[off+i]? := by
 unfold Addr.add
 by_cases h0:i=0
 ·subst h0;simp [World.cell?,hb]
 ·simp [World.cell?,hb,h0]
theorem V9 {W:World} {b:Nat} {o:Obj} (h:W.heap[b]? = some o):Has [Vk W] b o:=by
 simp only [Has,List.flatten_cons,List.flatten_nil,List.append_nil]
 exact Zln h
theorem open_rd {H:Type} {enc:TypeId × Value→H} {P:Program} {W:World} {base:Nat} {r:Reach} {spare:Nat→Bool} {held:Bool} {t e:TypeId} {α:Type} {encV:α→List Value} {sz:Nat} {v:Value} {d:DataW H} {ps:List MemPlace}
  (ht:P.underlying t=some (.slice e)) (hsz:P.cellsOf e=sz) (hpos:0<sz) (hval:Value.okWide P W r base t v) (hd:DataW.Trod enc P W 0 spare held t v d ps)
  (good:α→Prop) (one : ∀ n cs x,DataW.trod enc P W 0 spare held n e cs=some x → ∃ s,cs=encV s∧good s) :
  ∃ a cap,∃ xs:List α,v = .slice a xs.length cap∧Rd encV sz [Vk W] a xs∧(∀ x∈xs,good x)∧xs.length≤cap:=by
 obtain ⟨a,len,cap,rfl⟩:=okWide_slice ht hval
 obtain ⟨fuel,hf⟩:=hd
 rcases Deep.open_slice ht hf with ⟨h1,-⟩|⟨a',len',cap',m,n,D,Pl,h1,-,hl,-,hm,-,hx⟩
 ·simp [Value.cells] at h1
  obtain ⟨rfl,rfl,rfl⟩:=h1
  exact ⟨none,0,[],rfl,Rd.nil,by simp,by simp⟩
 ·simp [Value.cells] at h1
  obtain ⟨rfl,rfl,rfl⟩:=h1
  have hlm:len≤m:=by rw [hm];split<;>omega
  have : ∀ i,i<len → ∃ s,W.cells? 0 (a'.add (i*sz)) sz=some (encV s)∧good s:=fun i hi=>by
   obtain ⟨cs,h1,h2⟩:=hx i (by omega)
   obtain ⟨s,rfl,hg⟩:=one _ _ _ h2
   rw [hsz] at h1
   exact ⟨s,h1,hg⟩
  by_cases h0:len=0
  ·subst h0
   exact ⟨some a',cap,[],rfl,Rd.nil,by simp,by simp⟩
  ·have : ∃ V:_root_.Fin len→α,∀ i,W.cells? 0 (a'.add (i.1*sz)) sz=some (encV (V i))∧good (V i):=⟨fun i=>(this i.1 i.2).choose,fun i=>(this i.1 i.2).choose_spec⟩
   obtain ⟨V,hV⟩:=this
   obtain ⟨-,-,hc⟩:=World.cells?_some (hV ⟨0,by omega⟩).1
   have hlen:=(World.cells?_some (hV ⟨0,by omega⟩).1).2.1
   have h00:=hc 0 hpos
   have hs : ∃ x,W.cell? a'=some x:=by
    simp [Addr.add] at h00
    exact ⟨_,h00.trans (List.getElem?_eq_getElem (by omega))⟩
   obtain ⟨x,hx0⟩:=hs
   obtain ⟨b,off,spot⟩:=a'
   have hblk : ∃ c E fr,W.heap[b]? = some (.cells c E fr)∧spot=none:=by
    unfold World.cell? at hx0
    simp only at hx0
    split at hx0
    ·rename_i c E fr he
     refine ⟨c,E,fr,he,?_⟩
     cases spot with
     | none=>rfl
     | some k=>simp at hx0
    ·cases hx0
   obtain ⟨c,E,fr,he,rfl⟩:=hblk
   refine ⟨some ⟨b,off,none⟩,cap,List.ofFn V,by simp,.inr ⟨b,off,c.toList,E,fr,rfl,V9 (by simpa using he),fun k x hk=>?_⟩,?_,by simpa using hl⟩
   ·have hkl:k<len:=by
     have:=(List.getElem?_eq_some_iff.1 hk).1
     simpa using this
    have hx:V ⟨k,hkl⟩=x:=by
     rw [List.getElem?_ofFn] at hk
     simpa [hkl] using hk
    obtain ⟨-,hl2,hc2⟩:=World.cells?_some (hV ⟨k,hkl⟩).1
    rw [hx] at hl2 hc2
    intro j v hj
    have hjl:=(List.getElem?_eq_some_iff.1 hj).1
    have:=hc2 j (by omega)
    rw [hj] at this
    rw [← this]
    have e:(Addr.add ⟨b,off,none⟩ (k*sz))=⟨b,off+k*sz,none⟩:=by
     unfold Addr.add;split
     ·rename_i h;simp [h]
     ·rfl
    show c.toList[off+k*sz+j]? = _
    simp only [e]
    rw [Zbf he]
    simp
   ·intro x hx
    obtain ⟨i,rfl⟩:=List.mem_ofFn.1 hx
    exact (hV i).2
end Go.HL
end

/-! Seat -/
section
namespace Go.HL
open Go
abbrev Er (T:Nat) (E:Nat→Addr) (cs:List Nat) (L:Zb):Prop:=Errs errTab T E cs L
def ic (x:Int):List Value:=[iv x]
structure St where
 ph:Int
 pr:Int
 att:Int
 deriving DecidableEq
def sc (s:St):List Value:=[iv s.ph,iv s.pr,iv s.att]
structure Fr where
 fr:Int
 to:Int
 dl:Int
 kd:Int
 att:Int
 yes:Bool
 s:St
 deriving DecidableEq
def fc (f:Fr):List Value:=[iv f.fr,iv f.to,iv f.dl,iv f.kd,iv f.att,.bool f.yes,iv f.s.ph,iv f.s.pr,iv f.s.att]
def W2:St:=⟨0,0,0⟩
def W1:Fr:=⟨0,0,0,0,0,false,W2⟩
/-! a walk's steps, each found by itself -/
theorem zs:(∀ {a b:Bool},((!a)=b)↔a = !b)∧((!true)=false)∧((!false)=true)∧(∀ {p:Prop} [Decidable p],(decide p=true)=p)∧(∀ {p:Prop} {x:Decidable p},decide p=false ↔ ¬ p)∧(∀ {p:Prop} [Decidable p],¬ ¬ p↔p)∧(∀ (a b:Bool),((a && b)=true)=(a=true∧b=true))∧(∀ {α:Type} [BEq α] [LawfulBEq α] {a b:α},(a == b)=true↔a=b) ∧
  (∀ (h:Decidable True),@decide True h=true)∧(∀ b:Bool,(b && true)=b)∧(∀ b:Bool,(true && b)=b)∧((¬ True)=False)∧((¬ False)=True):=⟨zA,zB,zC,zD,zE,zF,zG,zH,zI,zJ,zK,zL,zM⟩
theorem zq:(∀ {α:Sort _} (a b:α),(a≠b) = ¬ (a=b))∧(∀ p:Prop,(p∧True)=p)∧(∀ p:Prop,(True∧p)=p)∧(∀ {α:Sort _} (a:α),(a=a)=True):=⟨fun _ _=>rfl,and_true,true_and,fun _=>eq_self _⟩
theorem zx {P:Prop} (f:False:=by first|omega|with_reducible contradiction):P:=f.elim
theorem uN {A B:Prop} (h:B) (f:B→A:=by first|(show _→HW _ _ _ _ _ _;first|exact hw_seq|exact Zrf|exact hw_block|exact hw_exit|exact pg_t|exact pg_f|exact hw_skip|exact hw_ret)|(show _→HO _ _ _ _ _ _ _;first|exact ho_nil|exact Q3 (qe S)|exact Q3 (qg S)|exact Q3 (ql S)|exact Q3 (qs S)|exact Q3 (qt S)|exact Q3 (qc8 S)|exact Q3 (qc32 S)|exact Q3 (qn S)|exact Q3 (qb S)|exact Q3 (qbA S)|exact Q3 (qSl S)|exact Q3 (qSh S)|exact Q3 (qSb S)|exact Q3 (qmI S)|exact Q3 (qA S)|exact Q3 (qB S)|exact Q3 (qx32 S)|exact pg_n|exact pg_on|exact pws S)|(show _→HQ _ _ _ _ _ _ _;first|exact hq_nil|exact Q4 (qe S)|exact Q4 (qg S)|exact Q4 (ql S)|exact Q4 (qs S)|exact Q4 (qt S)|exact Q4 (qc8 S)|exact Q4 (qc32 S)|exact Q4 (qn S)|exact Q4 (qb S)|exact Q4 (qbA S)|exact Q4 (qSl S)|exact Q4 (qSh S)|exact Q4 (qSb S)|exact Q4 (qmI S)|exact Q4 (qA S)|exact Q4 (qB S)|exact Q4 (qx32 S)|exact pk_n)|(show _→HD _ _ _ _ _ _ _ _;first|exact hd_nil|exact Zdd 100 (by exact rfl) (fun _=>qe S)|exact Zdd 100 (by exact rfl) (fun _=>qc8 S)|exact Zdd 100 (by exact rfl) (fun _=>qc32 S)|exact Zdd 100 (by exact rfl) (fun _=>qn S)|exact Zdd 100 (by exact rfl) (fun _=>qb S)|exact Zdd 100 (by exact rfl) (fun _=>qbA S)|exact Zdd 100 (by exact rfl) (fun _=>qSl S)|exact Zdd 100 (by exact rfl) (fun _=>qSh S)|exact Zdd 100 (by exact rfl) (fun _=>qSb S)|exact Zdd 100 (by exact rfl) (fun _=>qmI S)|exact Zdd 100 (by exact rfl) (fun _=>qA S)|exact Zdd 100 (by exact rfl) (fun _=>qB S)|exact Zdd 100 (by exact rfl) (fun _=>qx32 S)|exact pdl S 100|exact pds S 100|exact pd_n 100)|exact Zmb|exact seqQ_ret|exact Zsa|exact Zqp|exact pg_bx|exact blkQ_ret|exact Zkj|exact Zrp|exact Zn0|exact unQ_ret|exact unQ_exit|exact unQ_succ|exact dx|exact dx0|exact pdxd|exact pdxk):A:=f h
theorem uB {A B:Prop} (h:B) (f:B→A:=by first|exact pwa S|exact pwb|exact pwS S|exact pwSa S|exact pwSn S|exact pwMk|exact pwm S|exact pwM S):A:=f h
theorem uP {A B C:Prop} (h:B) (h':C) (f:B→C→A:=by first|exact pg_b|exact pg_s|exact pk_s|exact pd_sp 100):A:=f h h'
theorem uC {X A B:Prop} (c:X) (h:B) (f:X→B→A:=by first|exact fun c=>Q3 (qC c)|exact fun c=>Q4 (qC c)):A:=f c h
theorem uS {a b:Zr} (h:Sub a b:=by repeat (first|exact trivial|refine ⟨rfl,?_⟩)):Sub a b:=h
theorem uL {a b:List Zm} (h:LS a b:=by repeat (first|(with_reducible first|refine LS.p0 ?_|refine LS.p1 ?_|refine LS.p2 ?_|refine LS.p3 ?_|refine LS.p4 ?_|refine LS.p5 ?_|refine LS.p6 ?_|refine LS.p7 ?_|refine LS.p8 ?_|refine LS.p9 ?_|refine LS.p10 ?_|refine LS.p11 ?_|refine LS.p12 ?_|refine LS.e ?_|exact LS.refl _)|refine LS.p0 ?_|refine LS.p1 ?_|refine LS.p2 ?_|refine LS.p3 ?_|refine LS.p4 ?_|refine LS.p5 ?_|refine LS.p6 ?_|refine LS.p7 ?_|refine LS.p8 ?_|refine LS.p9 ?_|refine LS.p10 ?_|refine LS.p11 ?_|refine LS.p12 ?_|(with_reducible refine LS.c ?_))):LS a b:=h
theorem uZ {a b:List Zm} (h:LS a b:=by repeat (first|exact LS.refl _|apply LS.k|apply LS.c)):LS a b:=h
section
variable {P:Program} {n:Nat} {ops:List Oper} {Q:Exit→Zr→Zb→Prop} {Ss:List (Nat × Zm)} {rem rem':List (Nat × Oper)} {ρ:Zr} {L:Zb} {f:Operand} {xa:Array Operand} {ts:Array TypeId} {F d i:Nat} {cap args args':List Value} {v:Value} {ty:TypeId} {pos:String} {af:Array Edge} {g:Option (Nat × Bool)}
theorem Yy (c : ∀ L,HC P F args' L (fun u L'=>u=v∧L'=L)) (hr:HD P n ops Q Ss rem' ((d,v)::ρ) L) (h00:Y6 ρ=true:=by exact rfl) (hp:Wc 0 rem=some ((i,⟨some d,.call { callee := .value f,args:=xa,argTypes:=ts },ty,pos,af,g⟩),rem'):=by exact rfl) (hf:ev ρ f=some (.func (.func F) #[] ⟨cap⟩):=by exact rfl) (ha:Zg1 ρ xa.toList=some args:=by exact rfl) (he:args++cap=args':=by exact rfl)
  (hg:Zu ops ρ g=some true:=by exact rfl) (hn:Nat.blt d n=true:=by exact rfl) (hc:Q0 ops rem' i ⟨some d,.call { callee := .value f,args:=xa,argTypes:=ts },ty,pos,af,g⟩=true:=by decide +kernel):HD P n ops Q Ss rem ρ L:=Zgw 0 hp (fun L=>qC (c L) h00 hf ha he) hr h00 hg hn hc
theorem Yz (c : ∀ L,HC P F args' L (fun u L'=>u=v∧L'=L)) (hr:HD P n ops Q Ss rem' ((d,v)::ρ) L) (h00:Y6 ρ=true:=by exact rfl) (hp:Wc 1 rem=some ((i,⟨some d,.call { callee := .value f,args:=xa,argTypes:=ts },ty,pos,af,g⟩),rem'):=by exact rfl) (hf:ev ρ f=some (.func (.func F) #[] ⟨cap⟩):=by exact rfl) (ha:Zg1 ρ xa.toList=some args:=by exact rfl) (he:args++cap=args':=by exact rfl)
  (hg:Zu ops ρ g=some true:=by exact rfl) (hn:Nat.blt d n=true:=by exact rfl) (hc:Q0 ops rem' i ⟨some d,.call { callee := .value f,args:=xa,argTypes:=ts },ty,pos,af,g⟩=true:=by decide +kernel):HD P n ops Q Ss rem ρ L:=Zgw 1 hp (fun L=>qC (c L) h00 hf ha he) hr h00 hg hn hc
theorem Y0 (c : ∀ L,HC P F args' L (fun u L'=>u=v∧L'=L)) (hr:HD P n ops Q Ss rem' ((d,v)::ρ) L) (h00:Y6 ρ=true:=by exact rfl) (hp:Wc 2 rem=some ((i,⟨some d,.call { callee := .value f,args:=xa,argTypes:=ts },ty,pos,af,g⟩),rem'):=by exact rfl) (hf:ev ρ f=some (.func (.func F) #[] ⟨cap⟩):=by exact rfl) (ha:Zg1 ρ xa.toList=some args:=by exact rfl) (he:args++cap=args':=by exact rfl)
  (hg:Zu ops ρ g=some true:=by exact rfl) (hn:Nat.blt d n=true:=by exact rfl) (hc:Q0 ops rem' i ⟨some d,.call { callee := .value f,args:=xa,argTypes:=ts },ty,pos,af,g⟩=true:=by decide +kernel):HD P n ops Q Ss rem ρ L:=Zgw 2 hp (fun L=>qC (c L) h00 hf ha he) hr h00 hg hn hc
theorem Y1 (c : ∀ L,HC P F args' L (fun u L'=>u=v∧L'=L)) (hr:HD P n ops Q Ss rem' ((d,v)::ρ) L) (h00:Y6 ρ=true:=by exact rfl) (hp:Wc 3 rem=some ((i,⟨some d,.call { callee := .value f,args:=xa,argTypes:=ts },ty,pos,af,g⟩),rem'):=by exact rfl) (hf:ev ρ f=some (.func (.func F) #[] ⟨cap⟩):=by exact rfl) (ha:Zg1 ρ xa.toList=some args:=by exact rfl) (he:args++cap=args':=by exact rfl)
  (hg:Zu ops ρ g=some true:=by exact rfl) (hn:Nat.blt d n=true:=by exact rfl) (hc:Q0 ops rem' i ⟨some d,.call { callee := .value f,args:=xa,argTypes:=ts },ty,pos,af,g⟩=true:=by decide +kernel):HD P n ops Q Ss rem ρ L:=Zgw 3 hp (fun L=>qC (c L) h00 hf ha he) hr h00 hg hn hc
end
end Go.HL
end

/-! LayA -/
section
namespace Go.HL
open Go Go.Proofs Go.ChangeShapes Go.WideShapes Go.ChangeAt Go.RowKit
theorem Zhm {P:Program} {W:World} {n:String} {g:Nat} {v:Value} (hg:P.globalNamed n=some g) (h:W.var? P n=some #[v]):Gl [Vk W] g v:=by
 unfold World.var? at h
 simp only [hg,Option.bind_some] at h
 split at h
 ·rename_i c E fr hh
  cases h
  exact ⟨[v],E,fr,V9 hh,rfl⟩
 ·cases h
theorem Zp5 : "*" ++ "errors.errorString" = "*errors.errorString" := by decide
theorem row_es (u:TypeId) (h:Tryz.prog.typeName? 3 u=some "*errors.errorString"):u=394:=
 typeName_ptr_named (nm := "errors.errorString") (by rw [Zp5];kernel_rfl) (by kernel_rfl) (by decide) u (by rw [Zp5];exact h)
def Zja:Nat→String
 | 1 => "threefold/api.ErrText"
 | 2 => "threefold/api.ErrBound"
 | 3 => "threefold/api.ErrShape"
 | 4 => "threefold/api.ErrNone"
 | 5 => "threefold/api.ErrFull"
 | 6 => "threefold/api.ErrOff"
 | 7 => "threefold/api.ErrSum"
 | 8 => "threefold/api.ErrHeld"
 | _ => "threefold/api.ErrSplit"
def Zc2:List UInt8:=[116,104,114,101,101,102,111,108,100,58,32]
def Zam:Nat→List UInt8
 | 1=>Zc2++[116,101,120,116]
 | 2=>Zc2++[98,111,117,110,100]
 | 3=>Zc2++[115,104,97,112,101]
 | 4=>Zc2++[110,111,110,101]
 | 5=>Zc2++[102,117,108,108]
 | 6=>Zc2++[111,102,102]
 | 7=>Zc2++[115,117,109]
 | 8=>Zc2++[104,101,108,100]
 | _=>Zc2++[115,112,108,105,116]
def Zd6 (cs:List Nat):List (String × DataW Unit):=cs.map fun c=>(Zja c,.iface "*errors.errorString" (.ptr (.agg [.lit (.string (Zam c))])))
theorem Znx {P:Program} {n nm:String} {text:List UInt8} {r:List (String × DataW Unit)} {W:World} {g:Nat} {ti tp te ts:TypeId} {ms:Array (String × TypeId)} {f:Field}
  (h:laidMet P ((n,.iface nm (.ptr (.agg [.lit (.string text)])))::r) W)
  (hg:P.globalNamed n=some g) (ht:(P.globals[g]?).map (·.type)=some ti) (hi:P.underlying ti=some (.interface ms)) (hrow : ∀ u,P.typeName? 3 u=some nm→u=tp)
  (hp:P.underlying tp=some (.pointer te)) (he:P.underlying te=some (.struct #[f])) (hft:f.type=ts) (hfo:f.offset=0) (hs:P.underlying ts=some .string) (hc:P.cellsOf te=1) (hcs:P.cellsOf ts=1) :
  ∃ (a:Addr) (c:Array Value) (t:TypeId),Gl [Vk W] g (.iface tp (.pointer (some a)))∧W.cell? a=some (bs text)∧Has [Vk W] a.block (.cells c t (0,0)):=by
 obtain ⟨ps,⟨g0,t0,cs0,f0,p0,q0,hg0,ht0,hv0,hd0,_,e0⟩,_,hrows⟩:=h
 obtain rfl:=Option.some.inj (hg.symm.trans hg0)
 obtain rfl:=Option.some.inj (ht.symm.trans ht0)
 subst e0
 obtain ⟨l0⟩:=cs0
 have ok0 : ∀ u v,l0=[.iface u v]→Value.okWide P W .any 0 u v:=fun u v e=>by
  subst e
  exact (hrows g 0 (by simp [MemPlace.row])).2 u v (by simpa using World.var?_cell hg0 hv0 0)
 obtain ⟨a0,s0,rfl,hc0,hs0,hz0,rfl⟩:=errorString_of_trod hi hrow hp he hft hfo hs hc hcs hd0 ok0
 obtain ⟨c0,t0,hb0⟩:=(hrows a0.block a0.off (by simp [MemPlace.row])).1
 refine ⟨a0,c0,t0,Zhm hg hv0,?_,V9 hb0⟩
 rw [hc0]
 obtain ⟨⟨s0⟩⟩:=s0
 simp only at hs0
 subst hs0
 rfl
theorem Zfk {n:String} {text:List UInt8} {r:List (String × DataW Unit)} {W:World} {g:Nat}
  (h:laidMet Tryz.prog ((n,.iface "*errors.errorString" (.ptr (.agg [.lit (.string text)])))::r) W) (hg:Tryz.prog.globalNamed n=some g) (ht:(Tryz.prog.globals[g]?).map (·.type)=some 28) :
  ∃ (a:Addr) (c:Array Value) (t:TypeId),Gl [Vk W] g (.iface 394 (.pointer (some a)))∧W.cell? a=some (bs text)∧Has [Vk W] a.block (.cells c t (0,0)):=
 Znx h hg ht Tryz.underlying28 row_es Tryz.underlying394 Tryz.underlying396 rfl rfl Tryz.underlying9 (by kernel_rfl) (by kernel_rfl)
def Zmx (W:World) (c:Nat) (a:Addr):Prop:=(∀ g,Tryz.prog.globalNamed (Zja c)=some g→Gl [Vk W] g (.iface 394 (.pointer (some a))))∧W.cell? a=some (bs (Zam c)) ∧ ∃ l t,Has [Vk W] a.block (.cells l t (0,0))
theorem sents {W:World} : ∀ (cs:List Nat),laidMet Tryz.prog (Zd6 cs) W→(∀ c∈cs,∃ g,Tryz.prog.globalNamed (Zja c)=some g∧(Tryz.prog.globals[g]?).map (·.type)=some 28) → ∀ c∈cs,∃ a,Zmx W c a
 | [],_,_,c,hc=>by cases hc
 | x::cs,h,hn,c,hc=>by
  rcases List.mem_cons.1 hc with rfl|hc
  ·obtain ⟨g,hg,ht⟩:=hn c (by simp)
   obtain ⟨a,l,t,h1,h2,h3⟩:=Zfk h hg ht
   refine ⟨a,fun g' hg'=>?_,h2,l,t,h3⟩
   obtain rfl:=Option.some.inj (hg.symm.trans hg')
   exact h1
  ·exact sents cs h.tail (fun y hy=>hn y (by simp [hy])) c hc
theorem Zhf:(errTab.all fun p=>decide (Tryz.prog.globalNamed (Zja p.2)=some p.1) && decide ((Tryz.prog.globals[p.1]?).map (·.type)=some 28))=true:=by kernel_rfl
theorem errs_of {W:World} {cs:List Nat} (h:laidMet Tryz.prog (Zd6 cs) W) (hm:(cs.all fun c=>errTab.any fun p=>Nat.beq p.2 c)=true:=by rfl) :
  ∃ E,Er 394 E cs [Vk W] ∧ ∀ c∈cs,Zmx W c (E c):=by
 have h1:=sents cs h (fun c hc=>by
  obtain ⟨p,hp,he⟩:=List.any_eq_true.1 (List.all_eq_true.1 hm c hc)
  have h2:=List.all_eq_true.1 Zhf p hp
  simp only [Bool.and_eq_true,decide_eq_true_eq] at h2
  rw [Nat.eq_of_beq_eq_true he] at h2
  exact ⟨p.1,h2.1,h2.2⟩)
 have h2 : ∀ c,∃ a,c∈cs→Zmx W c a:=fun c=>by
  by_cases hc:c∈cs
  ·obtain ⟨a,ha⟩:=h1 c hc
   exact ⟨a,fun _=>ha⟩
  ·exact ⟨⟨0,0,none⟩,fun h=>absurd h hc⟩
 refine ⟨fun c=>Classical.choose (h2 c),fun g c hg hc=>?_,fun c hc=>Classical.choose_spec (h2 c) hc⟩
 have hcm:c∈cs:=List.elem_iff.1 hc
 have h3:=Classical.choose_spec (h2 c) hcm
 have h4:=List.all_eq_true.1 Zhf (g,c) (Qn hg)
 simp only [Bool.and_eq_true,decide_eq_true_eq] at h4
 exact h3.1 g h4.1
end Go.HL
end

/-! ErA -/
section
namespace Go.HL
open Go Go.Proofs Go.RowKit Go.Extern.Stop Go.Stop Go.Extern

theorem Zhr (v:Value) (w:World):(Extern.ReflectliteType.typeOf #[.iface 394 v]).run Tryz.prog w = .ok (.iface 319 (.agg #[.pointer (some ⟨23,394,none⟩)])) w:=by kernel_rfl
theorem Zcg (v:Value) (xT:TypeId) (w:World):(Instr.typeAssert (.iface 394 v) xT 326 true).run Tryz.prog w = .ok (.tuple #[.nilIface,.bool false]) w:=run_typeAssert_lacksB Tryz.underlying326 (by kernel_rfl) (by kernel_rfl) v xT w
theorem Zbk (v:Value) (xT:TypeId) (w:World):(Instr.typeAssert (.iface 394 v) xT 328 true).run Tryz.prog w = .ok (.tuple #[.nilIface,.bool false]) w:=run_typeAssert_lacksB Tryz.underlying328 (by kernel_rfl) (by kernel_rfl) v xT w
end Go.HL
end

/-! ErB -/
section
namespace Go.HL
open Go Go.Proofs Go.RowKit Go.Extern.Stop Go.Stop Go.Extern

def valE:Array Value→Sem Value:=fun args=>ReflectliteValue.unpack (args.getD 0 (.tuple #[]))
def typE:Array Value→Sem Value:=ReflectliteValue.methodAny (ReflectliteValue.valueError "reflectlite.Value.Type" 0) fun t _ _ _=>ReflectliteType.toType t
def rnlE:Array Value→Sem Value:=ReflectliteValue.method (ReflectliteValue.valueError "reflectlite.Value.IsNil" 0) ReflectliteValue.isNil
def elmE:Array Value→Sem Value:=ReflectliteValue.method (ReflectliteValue.valueError "reflectlite.Value.Elem" 0) ReflectliteValue.elem
def setE:Array Value→Sem Value:=ReflectliteValue.set
def kndE:Array Value→Sem Value:=ReflectliteType.abiMethod fun t=>do pure (.int .u8 (← Rtype.kind t))
def telE:Array Value→Sem Value:=ReflectliteType.method ReflectliteType.elem
def impE:Array Value→Sem Value:=ReflectliteType.relation "Implements" ReflectliteType.implements_
def asgE:Array Value→Sem Value:=ReflectliteType.relation "AssignableTo" ReflectliteType.assignableTo
def hT (t:Nat):Value := .pointer (some ⟨23,t,none⟩)
theorem as_vF (t:Addr) (w:World):(valE #[.iface 203 (.pointer (some t))]).run Tryz.prog w = .ok (.agg #[.pointer (some ⟨23,203,none⟩),.pointer (some ⟨w.heap.size,0,none⟩),.int .u64 150]) (w.alloc (.cells #[.pointer (some t)] 203)):=by kernel_rfl
theorem as_tF (a:Addr) (w:World):(typE #[.agg #[.pointer (some ⟨23,203,none⟩),.pointer (some a),.int .u64 150]]).run Tryz.prog w = .ok (.iface 319 (.agg #[.pointer (some ⟨23,203,none⟩)])) w:=by kernel_rfl
theorem Zkc (h:Value) (w:World):(Go.method 534 319 (.agg #[h]) "Kind").run Tryz.prog w = .ok (344,h) w:=by kernel_rfl
theorem as_kFF (w:World):(kndE #[.pointer (some ⟨23,203,none⟩)]).run Tryz.prog w = .ok (.int .u8 22) w:=by kernel_rfl
theorem as_kF (w:World):(kndE #[.pointer (some ⟨23,158,none⟩)]).run Tryz.prog w = .ok (.int .u8 22) w:=by kernel_rfl
theorem rlm (z:Sem Value) (f:TypeId→Addr→Nat→Nat→Sem Value) (v:Value) :
  ReflectliteValue.method z f #[v]=(do match ← ReflectliteValue.parts v with|none=>z|some (t,a,fl)=>f t a fl (fl % 32)):=rfl
theorem as_pFF (a:Addr) (w:World):(ReflectliteValue.parts (.agg #[.pointer (some ⟨23,203,none⟩),.pointer (some a),.int .u64 150])).run Tryz.prog w = .ok (some (203,a,150)) w:=by kernel_rfl
theorem Zj8 (a p:Addr) (W:World) (ha:W.cell? a=some (.pointer (some p))) :
  (rnlE #[.agg #[.pointer (some ⟨23,203,none⟩),.pointer (some a),.int .u64 150]]).run Tryz.prog W = .ok (.bool false) W:=by
 unfold rnlE
 rw [rlm]
 simp only [Sem.run_bind,as_pFF,Result.andThen]
 simp [ReflectliteValue.isNil,loadVar,isAgg,underlying,Tryz.underlying203,ha,Result.andThen]
theorem Zka (h:Value) (w:World):(Go.method 534 319 (.agg #[h]) "Elem").run Tryz.prog w = .ok (356,.agg #[h]) w:=by kernel_rfl
theorem Zkb (h:Value) (w:World):(Go.method 534 319 (.agg #[h]) "Implements").run Tryz.prog w = .ok (357,.agg #[h]) w:=by kernel_rfl
theorem Zj9 (h:Value) (w:World):(Go.method 534 319 (.agg #[h]) "AssignableTo").run Tryz.prog w = .ok (354,.agg #[h]) w:=by kernel_rfl
theorem Zo0 (w:World):(telE #[.agg #[.pointer (some ⟨23,203,none⟩)]]).run Tryz.prog w = .ok (.iface 319 (.agg #[.pointer (some ⟨23,158,none⟩)])) w:=by kernel_rfl
theorem Zo1 (w:World):(impE #[.agg #[.pointer (some ⟨23,158,none⟩)],.iface 319 (.agg #[.pointer (some ⟨23,28,none⟩)])]).run Tryz.prog w = .ok (.bool true) w:=by kernel_rfl
theorem Zke (v:Value) (w:World):(ReflectliteType.typeOf #[.iface 158 v]).run Tryz.prog w = .ok (.iface 319 (.agg #[.pointer (some ⟨23,158,none⟩)])) w:=by kernel_rfl
theorem Zj7 (w:World):(asgE #[.agg #[.pointer (some ⟨23,158,none⟩)],.iface 319 (.agg #[.pointer (some ⟨23,158,none⟩)])]).run Tryz.prog w = .ok (.bool true) w:=by kernel_rfl
theorem Zj6 (w:World):(asgE #[.agg #[.pointer (some ⟨23,394,none⟩)],.iface 319 (.agg #[.pointer (some ⟨23,158,none⟩)])]).run Tryz.prog w = .ok (.bool false) w:=by kernel_rfl
theorem Zo2 (e:Addr) (w:World):(valE #[.iface 158 (.pointer (some e))]).run Tryz.prog w
  = .ok (.agg #[.pointer (some ⟨23,158,none⟩),.pointer (some ⟨w.heap.size,0,none⟩),.int .u64 150]) (w.alloc (.cells #[.pointer (some e)] 158)):=by kernel_rfl
theorem Zql (w:World):(Rtype.elem? 203).run Tryz.prog w = .ok (some 158) w:=by kernel_rfl
theorem as_mk (p:Addr) (w:World):(ReflectliteValue.mk 158 p ReflectliteValue.flagAddr).run Tryz.prog w = .ok (.agg #[.pointer (some ⟨23,158,none⟩),.pointer (some p),.int .u64 406]) w:=by kernel_rfl
theorem as_elemV (a p:Addr) (W:World) (ha:W.cell? a=some (.pointer (some p))) :
  (elmE #[.agg #[.pointer (some ⟨23,203,none⟩),.pointer (some a),.int .u64 150]]).run Tryz.prog W = .ok (.agg #[.pointer (some ⟨23,158,none⟩),.pointer (some p),.int .u64 406]) W:=by
 unfold elmE
 rw [rlm]
 simp only [Sem.run_bind,as_pFF,Result.andThen]
 simp [ReflectliteValue.elem,loadVar,isAgg,underlying,Tryz.underlying203,ha,Result.andThen,Zql,as_mk]
theorem rls (v x:Value):ReflectliteValue.set #[v,x]=(do
  let (some (dst,a,fl),some (src,b,_)):=(← ReflectliteValue.parts v,← ReflectliteValue.parts x)
   | unsupported (.noEntry "extern/(internal/reflectlite.Value).Set.zeroValue")
  if fl / ReflectliteValue.flagAddr % 2 == 0 then unsupported (.noEntry "extern/(internal/reflectlite.Value).Set.unaddressable")
  let val ← loadVar src b
  if ← Rtype.directlyAssignable dst src then storeVar dst a val
  else if ← Rtype.implements dst src then
   if (← Rtype.kind src) == 20 then
    match val with
    | .nilIface=>unsupported (.noEntry "extern/reflectlite: a nil value of one interface type handed on as a value of another")
    | _=>storeVar dst a val
   else storeVar dst a (.iface src val)
  else panicString ("reflectlite.Set: value of type " ++ (← Rtype.spelt src) ++ " is not assignable to type " ++ (← Rtype.spelt dst))
  pure (.tuple #[])):=rfl
theorem as_pFa (a:Addr) (w:World):(ReflectliteValue.parts (.agg #[.pointer (some ⟨23,158,none⟩),.pointer (some a),.int .u64 406])).run Tryz.prog w = .ok (some (158,a,406)) w:=by kernel_rfl
theorem as_pF (a:Addr) (w:World):(ReflectliteValue.parts (.agg #[.pointer (some ⟨23,158,none⟩),.pointer (some a),.int .u64 150])).run Tryz.prog w = .ok (some (158,a,150)) w:=by kernel_rfl
theorem Zqk (w:World):(Rtype.directlyAssignable 158 158).run Tryz.prog w = .ok true w:=by kernel_rfl
theorem as_set (ta b e:Addr) (old:Value) (W:World) (hb:W.cell? b=some (.pointer (some e))) (ht:W.cell? ta=some old) (hf:W.frozen? ta=false) :
  (setE #[.agg #[.pointer (some ⟨23,158,none⟩),.pointer (some ta),.int .u64 406],.agg #[.pointer (some ⟨23,158,none⟩),.pointer (some b),.int .u64 150]]).run Tryz.prog W
   = .ok (.tuple #[]) (W.setCell ta (.pointer (some e))):=by
 unfold setE
 rw [rls]
 simp only [Sem.run_bind,as_pFa,as_pF,Result.andThen]
 simp [ReflectliteValue.flagAddr,loadVar,isAgg,underlying,Tryz.underlying158,hb,Result.andThen,Zqk,storeVar,Value.cells,storeCells,Addr.add]
 rw [run_store Tryz.prog W ta _ _ (by rfl)]
 simp [ht,hf]
theorem Zkd (v:Value) (xT:TypeId) (w:World):(Instr.typeAssert (.iface 394 v) xT 323 true).run Tryz.prog w = .ok (.tuple #[.nilIface,.bool false]) w:=run_typeAssert_lacksB Tryz.underlying323 (by kernel_rfl) (by kernel_rfl) v xT w
abbrev Zmw (w:World) (t:Addr):World:=(w.alloc (.cells #[.pointer (some t)] 203)).alloc (.cells #[.pointer (some ⟨23,203,none⟩),.pointer (some ⟨w.heap.size,0,none⟩),.int .u64 150] 273)

set_option maxHeartbeats 4000000 in
theorem as_hit (e t:Addr) (old:Value) (w:World) (hg:w.cell? ⟨9,0,none⟩=some (.iface 319 (.agg #[.pointer (some ⟨23,28,none⟩)]))) (ht0:w.cell? t=some old) (hf0:w.frozen? t=false) :
  Calls Tryz.prog 136 #[.iface 158 (.pointer (some e)),.iface 203 (.pointer (some t))] w fun ev w'=>ev = .returned (.bool true)∧w'=(((Zmw w t).alloc (.cells #[.pointer (some ⟨23,203,none⟩),.pointer (some ⟨w.heap.size,0,none⟩),.int .u64 150] 273)).alloc (.cells #[.pointer (some e)] 158)).setCell t (.pointer (some e)):=by
 have x0 := @run_callFunc_extern Tryz.prog 185 _ valE Tryz.func185 (by kernel_rfl) (by kernel_rfl) (by kernel_rfl) (by kernel_rfl)
 have x1 := @run_callFunc_extern Tryz.prog 186 _ typE Tryz.func186 (by kernel_rfl) (by kernel_rfl) (by kernel_rfl) (by kernel_rfl)
 have x2 := @run_callFunc_extern Tryz.prog 187 _ rnlE Tryz.func187 (by kernel_rfl) (by kernel_rfl) (by kernel_rfl) (by kernel_rfl)
 have x3 := @run_callFunc_extern Tryz.prog 344 _ kndE Tryz.func344 (by kernel_rfl) (by kernel_rfl) (by kernel_rfl) (by kernel_rfl)
 have x4 := @run_callFunc_extern Tryz.prog 356 _ telE Tryz.func356 (by kernel_rfl) (by kernel_rfl) (by kernel_rfl) (by kernel_rfl)
 have x5 := @run_callFunc_extern Tryz.prog 357 _ impE Tryz.func357 (by kernel_rfl) (by kernel_rfl) (by kernel_rfl) (by kernel_rfl)
 have x6 := @run_callFunc_extern Tryz.prog 189 _ ReflectliteType.typeOf Tryz.func189 (by kernel_rfl) (by kernel_rfl) (by kernel_rfl) (by kernel_rfl)
 have x7 := @run_callFunc_extern Tryz.prog 354 _ asgE Tryz.func354 (by kernel_rfl) (by kernel_rfl) (by kernel_rfl) (by kernel_rfl)
 have x8 := @run_callFunc_extern Tryz.prog 256 _ elmE Tryz.func256 (by kernel_rfl) (by kernel_rfl) (by kernel_rfl) (by kernel_rfl)
 have x9 := @run_callFunc_extern Tryz.prog 257 _ setE Tryz.func257 (by kernel_rfl) (by kernel_rfl) (by kernel_rfl) (by kernel_rfl)
 have f_as_vF:=as_vF
 have f_as_tF:=as_tF
 have f_as_mKind:=Zkc
 have f_as_kFF:=as_kFF
 have f_as_kF:=as_kF
 have f_as_mElem:=Zka
 have f_as_mImpl:=Zkb
 have f_as_mAsgn:=Zj9
 have f_as_elem:=Zo0
 have f_as_impl:=Zo1
 have f_as_typeF:=Zke
 have f_as_asgnF:=Zj7
 have f_as_asgnE:=Zj6
 have f_as_valF:=Zo2
 have f_is_typeOf:=Zhr
 have f_as_noAsE:=Zkd
 have f_is_noUnwrapE:=Zcg
 have f_is_noUnwrapsE:=Zbk
 have n8:=Zj8 ⟨w.heap.size,0,none⟩ t (Zmw w t) (by simp [Zmw])
 have hlt:9<w.heap.size:=by
  rcases Nat.lt_or_ge 9 w.heap.size with h|h
  ·exact h
  ·simp [World.cell?,Array.getElem?_eq_none h] at hg
 have hg2:(Zmw w t).cell? ⟨9,0,none⟩=some (.iface 319 (.agg #[.pointer (some ⟨23,28,none⟩)])):=by
  unfold Zmw
  rw [World.cell?_alloc_lt _ _ ⟨9,0,none⟩ (by simp;omega),World.cell?_alloc_lt _ _ ⟨9,0,none⟩ hlt];exact hg
 have htl:t.block<w.heap.size:=by
  rcases Nat.lt_or_ge t.block w.heap.size with h|h
  ·exact h
  ·simp [World.cell?,Array.getElem?_eq_none h] at ht0
 have el:=as_elemV ⟨w.heap.size,0,none⟩ t ((Zmw w t).alloc (.cells #[.pointer (some ⟨23,203,none⟩),.pointer (some ⟨w.heap.size,0,none⟩),.int .u64 150] 273)) (by unfold Zmw;rw [World.cell?_alloc_lt _ _ ⟨w.heap.size,0,none⟩ (by simp;omega)];simp)
 have st:=as_set t ⟨w.heap.size+1+1+1,0,none⟩ e old (((Zmw w t).alloc (.cells #[.pointer (some ⟨23,203,none⟩),.pointer (some ⟨w.heap.size,0,none⟩),.int .u64 150] 273)).alloc (.cells #[.pointer (some e)] 158))
  (by unfold Zmw;rw [World.cell?_alloc_at _ _ _ _ (by simp)];rfl)
  (by unfold Zmw;rw [World.cell?_alloc_lt _ _ t (by simp;omega),World.cell?_alloc_lt _ _ t (by simp;omega),World.cell?_alloc_lt _ _ t (by simp;omega),World.cell?_alloc_lt _ _ t htl];exact ht0)
  (by unfold Zmw;rw [World.frozen?_alloc_old _ _ t (by simp;omega),World.frozen?_alloc_old _ _ t (by simp;omega),World.frozen?_alloc_old _ _ t (by simp;omega),World.frozen?_alloc_old _ _ t (Nat.ne_of_lt htl)];exact hf0)
 go_enter Tryz.func136,Tryz.ntmps136
 go_wp2
 refine wp_loop_rounds 1 ?_
 rw [rounds_succ]
 go_wp2
 go_ret
 exact ⟨rfl,rfl⟩
set_option maxHeartbeats 4000000 in
theorem as_miss (e t:Addr) (w:World) (hg:w.cell? ⟨9,0,none⟩=some (.iface 319 (.agg #[.pointer (some ⟨23,28,none⟩)]))) :
  Calls Tryz.prog 136 #[.iface 394 (.pointer (some e)),.iface 203 (.pointer (some t))] w fun ev w'=>ev = .returned (.bool false)∧w'=(Zmw w t).alloc (.cells #[.pointer (some ⟨23,203,none⟩),.pointer (some ⟨w.heap.size,0,none⟩),.int .u64 150] 273):=by
 have x0 := @run_callFunc_extern Tryz.prog 185 _ valE Tryz.func185 (by kernel_rfl) (by kernel_rfl) (by kernel_rfl) (by kernel_rfl)
 have x1 := @run_callFunc_extern Tryz.prog 186 _ typE Tryz.func186 (by kernel_rfl) (by kernel_rfl) (by kernel_rfl) (by kernel_rfl)
 have x2 := @run_callFunc_extern Tryz.prog 187 _ rnlE Tryz.func187 (by kernel_rfl) (by kernel_rfl) (by kernel_rfl) (by kernel_rfl)
 have x3 := @run_callFunc_extern Tryz.prog 344 _ kndE Tryz.func344 (by kernel_rfl) (by kernel_rfl) (by kernel_rfl) (by kernel_rfl)
 have x4 := @run_callFunc_extern Tryz.prog 356 _ telE Tryz.func356 (by kernel_rfl) (by kernel_rfl) (by kernel_rfl) (by kernel_rfl)
 have x5 := @run_callFunc_extern Tryz.prog 357 _ impE Tryz.func357 (by kernel_rfl) (by kernel_rfl) (by kernel_rfl) (by kernel_rfl)
 have x6 := @run_callFunc_extern Tryz.prog 189 _ ReflectliteType.typeOf Tryz.func189 (by kernel_rfl) (by kernel_rfl) (by kernel_rfl) (by kernel_rfl)
 have x7 := @run_callFunc_extern Tryz.prog 354 _ asgE Tryz.func354 (by kernel_rfl) (by kernel_rfl) (by kernel_rfl) (by kernel_rfl)
 have x8 := @run_callFunc_extern Tryz.prog 256 _ elmE Tryz.func256 (by kernel_rfl) (by kernel_rfl) (by kernel_rfl) (by kernel_rfl)
 have x9 := @run_callFunc_extern Tryz.prog 257 _ setE Tryz.func257 (by kernel_rfl) (by kernel_rfl) (by kernel_rfl) (by kernel_rfl)
 have f_as_vF:=as_vF
 have f_as_tF:=as_tF
 have f_as_mKind:=Zkc
 have f_as_kFF:=as_kFF
 have f_as_kF:=as_kF
 have f_as_mElem:=Zka
 have f_as_mImpl:=Zkb
 have f_as_mAsgn:=Zj9
 have f_as_elem:=Zo0
 have f_as_impl:=Zo1
 have f_as_typeF:=Zke
 have f_as_asgnF:=Zj7
 have f_as_asgnE:=Zj6
 have f_as_valF:=Zo2
 have f_is_typeOf:=Zhr
 have f_as_noAsE:=Zkd
 have f_is_noUnwrapE:=Zcg
 have f_is_noUnwrapsE:=Zbk
 have n8:=Zj8 ⟨w.heap.size,0,none⟩ t (Zmw w t) (by simp [Zmw])
 have hlt:9<w.heap.size:=by
  rcases Nat.lt_or_ge 9 w.heap.size with h|h
  ·exact h
  ·simp [World.cell?,Array.getElem?_eq_none h] at hg
 have hg2:(Zmw w t).cell? ⟨9,0,none⟩=some (.iface 319 (.agg #[.pointer (some ⟨23,28,none⟩)])):=by
  unfold Zmw
  rw [World.cell?_alloc_lt _ _ ⟨9,0,none⟩ (by simp;omega),World.cell?_alloc_lt _ _ ⟨9,0,none⟩ hlt];exact hg
 go_enter Tryz.func136,Tryz.ntmps136
 go_wp2
 refine wp_loop_rounds 1 ?_
 rw [rounds_succ]
 go_wp2
 go_ret
 exact ⟨rfl,rfl⟩
end Go.HL
end

/-! ErC -/
section
namespace Go.HL
open Go Go.Proofs
def all9:List Nat:=[1,2,3,4,5,6,7,8,9]
structure Ez (T:Nat) (E:Nat→Addr) (L:Zb):Prop where
 ty:T=394
 errs:Er T E all9 L
 blk : ∀ c,List.elem c all9=true → ∃ ca ta,Has L (E c).block (.cells ca ta (0,0))
 one : ∀ c c',List.elem c all9=true→List.elem c' all9=true→E c=E c'→c=c'
 et:Gl L 9 (.iface 319 (.agg #[.pointer (some ⟨23,28,none⟩)]))
theorem Ez.cons {T:Nat} {E:Nat→Addr} {L:Zb} (h:Ez T E L) (c:List Zm):Ez T E (c::L):=
 ⟨h.ty,h.errs.cons c,fun k hk=>let ⟨ca,ta,hb⟩:=h.blk k hk;⟨ca,ta,Zc hb⟩,h.one,h.et.cons⟩
theorem Ez.mono {T:Nat} {E:Nat→Addr} {L L':Zb} (h:Ez T E L) (hl : ∀ b o,Has L b o→Has L' b o):Ez T E L':=
 ⟨h.ty,h.errs.mono hl,fun k hk=>let ⟨ca,ta,hb⟩:=h.blk k hk;⟨ca,ta,hl _ _ hb⟩,h.one,h.et.mono hl⟩
theorem Ez.er {T:Nat} {E:Nat→Addr} {L:Zb} (h:Ez T E L) (cs:List Nat) (hm:(cs.all fun g=>all9.elem g)=true:=by rfl):Er T E cs L:=h.errs.sub hm
theorem Sat.news {k:Zgv} {w:World} {L:Zb} (h:Sat k w L) (o:Obj):Sat k (w.alloc o) L:=(h.new o).sub ((List.Sublist.refl _).cons _)
theorem Gl.cell {k:Zgv} {w:World} {L:Zb} {g:Nat} {v:Value} (hs:Sat k w L) (h:Gl L g v):w.cell? ⟨g,0,none⟩=some v:=by
 obtain ⟨l,E,fr,h1,h2⟩:=h
 rw [hs.cell h1];exact h2
theorem Zgz (e:Addr) (t:Addr) (L:Zb) (hg:Gl L 9 (.iface 319 (.agg #[.pointer (some ⟨23,28,none⟩)]))) :
  HC Tryz.prog 136 [.iface 394 (.pointer (some e)),.iface 203 (.pointer (some t))] L (fun v L'=>v = .bool false∧L'=L):=by
 refine ⟨fun args w=>Tryz.call136 args w,fun k w hs=>?_⟩
 refine (as_miss e t w (hg.cell hs)).mono fun ev w' ⟨he,hw⟩=>⟨_,L,he,?_,rfl,rfl⟩
 rw [hw]
 exact ((hs.news _).news _).news _
theorem Zil (e:Addr) (b E:Nat) (old:Value) (L:Zb) (hg:Gl L 9 (.iface 319 (.agg #[.pointer (some ⟨23,28,none⟩)]))) :
  HC Tryz.prog 136 [.iface 158 (.pointer (some e)),.iface 203 (pt b 0)] ([(b,.cells ⟨[old]⟩ E)]::L) (fun v L'=>v = .bool true∧L'=[(b,.cells ⟨[.pointer (some e)]⟩ E)]::L):=by
 refine ⟨fun args w=>Tryz.call136 args w,fun k w hs=>?_⟩
 have hb:w.heap[b]? = some (.cells ⟨[old]⟩ E):=hs.heap Zh
 refine (as_hit e ⟨b,0,none⟩ old w (hg.cons.cell hs) (by rw [hs.cell Zh];rfl) (by simp [World.frozen?,hb])).mono fun ev w' ⟨he,hw⟩=>⟨_,[(b,.cells ⟨[.pointer (some e)]⟩ E)]::L,he,?_,rfl,rfl⟩
 rw [hw]
 have h2:=(((hs.news (.cells #[.pointer (some ⟨b,0,none⟩)] 203)).news (.cells #[.pointer (some ⟨23,203,none⟩),.pointer (some ⟨w.heap.size,0,none⟩),.int .u64 150] 273)).news (.cells #[.pointer (some ⟨23,203,none⟩),.pointer (some ⟨w.heap.size,0,none⟩),.int .u64 150] 273)).news (.cells #[.pointer (some e)] 158)
 have hb2:=h2.heap Zh
 exact h2.upd Xr rfl rfl rfl (Zcu hb2 0 _) (fun j hj=>heap_setCell_other _ _ j _ hj)
def faC (pb:Nat) (at_:Int) (T:Nat) (E:Nat→Addr) (c:Option Nat):List Zm:=[(pb,.cells ⟨[iv at_,eV T E c]⟩ 160)]
set_option maxHeartbeats 2000000 attribute [local irreducible] HW HO HQ HD HC QOp Has Upd Zo Gets Ye Z6 Zq X0 Z5 Zj X7 Zw
def Zqu:Option Nat→Int
 | none=>0
 | some c=>c
def okE:Option Nat→Prop
 | none=>True
 | some c=>List.elem c all9=true
end Go.HL
end

/-! LayB -/
section
namespace Go.HL
open Go Go.Proofs Go.ChangeShapes Go.WideShapes Go.ChangeAt Go.RowKit
def handL:List (String × DataW Unit):=[("errors.errorType",.iface "internal/reflectlite.rtype" (.agg [.ptr (.lit (.string [101,114,114,111,114]))]))]
theorem hd_et:Tryz.prog.globalNamed "errors.errorType" = some 9:=by kernel_rfl
theorem hd_rt:(Tryz.prog.cutTypes.find? (·.1 == "internal/reflectlite.rtype")).map (·.2)=some 319:=by kernel_rfl
theorem hd_row:((List.range 434).filter fun t=>Tryz.prog.rowNamed t [101,114,114,111,114])=[28]:=by kernel_rfl
theorem hd_size:Tryz.prog.types.size=434:=by kernel_rfl
theorem Zq7:typeHandle Tryz.prog 28 = .pointer (some ⟨23,28,none⟩):=by kernel_rfl
theorem Zq6 {W:World} (h:handlesMet Tryz.prog handL W):Gl [Vk W] 9 (.iface 319 (.agg #[.pointer (some ⟨23,28,none⟩)])):=by
 obtain ⟨name,u,ty,e1,e2,e3,e4,e5⟩:=h _ (List.mem_singleton.2 rfl)
 have en:name=[101,114,114,111,114]:=(Option.some.inj e1).symm
 subst en
 obtain rfl:=Option.some.inj (hd_rt.symm.trans e2)
 have hm:ty∈(List.range 434).filter fun t=>Tryz.prog.rowNamed t [101,114,114,111,114]:=List.mem_filter.2 ⟨List.mem_range.2 (by rw [← hd_size];exact e3),e4⟩
 rw [hd_row] at hm
 obtain rfl:=List.mem_singleton.1 hm
 rw [Zq7] at e5
 exact Zhm hd_et e5
theorem Zi6 {P:Program} {w0:World} {laid:List (String × DataW Unit)} (args:Array Value) (hf:w0.layFits P laid []=true) (hi:w0.layIfaces P laid (w0.layVars P laid)=true) :
  laidMet P laid ((w0.layVars P laid).forCall (fun _ _=>0) ⟨#[],args,[]⟩).memory:=by
 have e1:(laid.filter fun x=>(laid.map (·.1)).contains x.1)=laid:=List.filter_eq_self.2 fun x hx=>List.contains_iff_mem.2 (List.mem_map.2 ⟨x,hx,rfl⟩)
 have e2:(laid.filter fun x => !(laid.map (·.1)).contains x.1)=[]:=List.filter_eq_nil_iff.2 fun x hx=>by rw [List.contains_iff_mem.2 (List.mem_map.2 ⟨x,hx,rfl⟩)];simp
 have h:laidMet P laid (w0.layVars P laid):=laidMet_layVars (w0:=w0) (laid.map (·.1)) [] (by rw [e1]) (by rw [e1];exact hf) (by rw [e1];exact hi) (by rw [e2];exact LaidIn.none)
 exact h.of_heap (by simp [World.memory,World.forCall,Input.heap])
noncomputable def w0H (os:Os):World:=
 let w:=World.holding Tryz.prog os ⟨#[],#[],[]⟩
 { w with heap:=w.heap.modify 9 fun
   | .cells _ t frozen => .cells #[.iface 319 (.agg #[.pointer (some ⟨23,28,none⟩)])] t frozen
   | o=>o }
end Go.HL
end

/-! FvA -/
section
namespace Go.HL
open Go Go.Proofs
def FV (T:Nat) (E:Nat→Addr) (v:Value) (code at_:Int) (c:List Zm):Prop:=(∃ e,okE e∧v=eV T E e∧code=Zqu e∧(e=none∨at_ = -1)∧c=[]) ∨ ∃ (pb k:Nat),List.elem k all9=true∧v = .iface 158 (pt pb 0)∧code=k∧c=faC pb at_ T E (some k)
theorem FV.nil {T:Nat} {E:Nat→Addr} {at_:Int}:FV T E .nilIface 0 at_ [] := .inl ⟨none,trivial,rfl,rfl,.inl rfl,rfl⟩
theorem FV.bare {T:Nat} {E:Nat→Addr} {k:Nat} (h:List.elem k all9=true):FV T E (eV T E (some k)) k (-1) [] := .inl ⟨some k,h,rfl,rfl,.inr rfl,rfl⟩
theorem FV.at {T:Nat} {E:Nat→Addr} {k:Nat} (h:List.elem k all9=true) (pb:Nat) (x:Int):FV T E (.iface 158 (pt pb 0)) k x (faC pb x T E (some k)) := .inr ⟨pb,k,h,rfl,rfl,rfl⟩
theorem FV.zero {T:Nat} {E:Nat→Addr} {v:Value} {at_:Int} {c:List Zm} (h:FV T E v 0 at_ c):v = .nilIface∧c=[]:=by
 rcases h with ⟨e,he,rfl,hc,-,rfl⟩|⟨pb,k,hk,-,hc,-⟩
 ·cases e with
  | none=>exact ⟨rfl,rfl⟩
  | some k =>
   have:k=0:=by simp only [Zqu] at hc;omega
   subst this
   exact absurd (show List.elem 0 all9=true from he) (by decide)
 ·have:k=0:=by omega
  subst this
  exact absurd hk (by decide)
end Go.HL
end

/-! ScEs -/
section
namespace Go.HL
open Go Go.Proofs
def all8:List Nat:=[1,2,3,4,5,6,8,9]
structure Es (T:Nat) (E:Nat→Addr) (L:Zb):Prop where
 ty:T=394
 errs:Er T E all8 L
 et:Gl L 9 (.iface 319 (.agg #[.pointer (some ⟨23,28,none⟩)]))
theorem Es.cons {T:Nat} {E:Nat→Addr} {L:Zb} (h:Es T E L) (c:List Zm):Es T E (c::L):=⟨h.ty,h.errs.cons c,h.et.cons⟩
theorem Es.mono {T:Nat} {E:Nat→Addr} {L L':Zb} (h:Es T E L) (hl : ∀ b o,Has L b o→Has L' b o):Es T E L':=⟨h.ty,h.errs.mono hl,h.et.mono hl⟩
theorem Es.er {T:Nat} {E:Nat→Addr} {L:Zb} (h:Es T E L) (cs:List Nat) (hm:(cs.all fun g=>all8.elem g)=true:=by rfl):Er T E cs L:=h.errs.sub hm
theorem Ez.es {T:Nat} {E:Nat→Addr} {L:Zb} (h:Ez T E L):Es T E L:=⟨h.ty,h.er all8,h.et⟩
end Go.HL
end

/-! LdA -/
section
namespace Go.HL
open Go Go.Proofs
abbrev Xs (v:Value) (xs:List Fr) (c:List Zm):Prop:=Vec 131 9 fc v xs c
theorem Zs (f:Fr):(fc f).length=9:=rfl
theorem Uv (f:Fr):(fc f).all Value.oneCell'=true:=rfl
theorem Zdg (s:St):(sc s).length=3:=rfl
theorem sc_one (s:St):(sc s).all Value.oneCell'=true:=rfl
theorem Xi (x:Int):(ic x).length=1:=rfl
theorem Zno (x:Int):(ic x).all Value.oneCell'=true:=rfl
structure Ld where
 id:Int
 deal:Int
 att:Int
 w:List Int
 state:List UInt8
 wait:Int
 heard:Nat
 told:List St
 phase:Int
 seen:Int
def sAsking:List UInt8:=[97,115,107,105,110,103]
def Zcs:List UInt8:=[112,114,101,112,97,114,105,110,103]
def Zp3:List UInt8:=[100,111,110,101]
def U6:List UInt8:=[114,101,102,117,115,101,100]
def Zk9 (wv:Value) (m:Ld):List Value:=[iv m.id,iv m.deal,iv m.att,wv,bs m.state,iv m.wait,iv m.heard]
def Y5 (wv:Value) (m:Ld):List Value:=Zk9 wv m++(m.told.map sc).flatten++[iv m.phase,iv m.seen]
def Vs (lp:Nat) (wv:Value) (wc:List Zm) (m:Ld):List Zm:=(lp,.cells ⟨Y5 wv m⟩ 193)::wc
structure LdOk (wv:Value) (wc:List Zm) (m:Ld):Prop where
 vec:Vec 3 1 ic wv m.w wc
 told:m.told.length=7
 len:m.w.length≤7
theorem Yt {wv:Value} {m:Ld} {k:Nat} {v:Value} (h:(Zk9 wv m)[k]? = some v):(Y5 wv m)[0+k]? = some v:=by
 have hlt:k<(Zk9 wv m).length:=(List.getElem?_eq_some_iff.1 h).1
 rw [Nat.zero_add,Y5,List.append_assoc,List.getElem?_append_left hlt,h]
theorem ld_len {wv:Value} {m:Ld} (h:m.told.length=7):(Y5 wv m).length=30:=by
 simp [Y5,Zk9,Z7 Zdg,h]
theorem Zdz {wv:Value} {m:Ld} (h:m.told.length=7):(Zk9 wv m++(m.told.map sc).flatten).length=28:=by
 simp [Zk9,Z7 Zdg,h]
theorem ld_phase {wv:Value} {m:Ld} (h:m.told.length=7):(Y5 wv m)[0+28]? = some (iv m.phase):=by
 rw [Y5,List.getElem?_append_right (by rw [Zdz h];omega),Zdz h];rfl
theorem Zi7 {wv:Value} {m:Ld} (h:m.told.length=7):(Y5 wv m)[0+29]? = some (iv m.seen):=by
 rw [Y5,List.getElem?_append_right (by rw [Zdz h];omega),Zdz h];rfl
theorem ld_told {wv:Value} {m:Ld} {i:Nat} {s:St} (h:m.told[i]? = some s):Gets (Y5 wv m) (0+7+(i:Int).toNat*3) (sc s):=by
 have:=Wa (enc:=sc) (sz:=3) Zdg m.told [iv m.phase,iv m.seen] (Zk9 wv m) i s h
 simpa [Y5,Zk9] using this
theorem Vz {wv:Value} {m m':Ld} {k:Nat} {v:Value} (h:Zk9 wv m'=(Zk9 wv m).set k v) (hk:k<7) (e1:m'.told=m.told) (e2:m'.phase=m.phase) (e3:m'.seen=m.seen):Zo (Y5 wv m) (0+k) [v] (Y5 wv m'):=by
 have hlt:k<(Zk9 wv m).length:=hk
 have e:Y5 wv m'=(Y5 wv m).set (0+k) v:=by
  rw [Nat.zero_add,Y5,Y5,h,e1,e2,e3,List.append_assoc,List.append_assoc,List.set_append_left _ _ hlt]
 rw [e]
 exact W5 (by rw [Y5,List.append_assoc,List.length_append];omega)
theorem ld_put28 {wv:Value} {m:Ld} (h:m.told.length=7) (p:Int):Zo (Y5 wv m) (0+28) [iv p] (Y5 wv { m with phase:=p }):=by
 have e:Y5 wv { m with phase:=p }=(Y5 wv m).set (0+28) (iv p):=by
  show Zk9 wv m++(m.told.map sc).flatten++[iv p,iv m.seen]=(Zk9 wv m++(m.told.map sc).flatten++[iv m.phase,iv m.seen]).set (0+28) (iv p)
  rw [List.set_append_right _ _ (by rw [Zdz h];omega),Zdz h];rfl
 rw [e]
 exact W5 (by rw [ld_len h];omega)
theorem Zlb {wv:Value} {m:Ld} (h:m.told.length=7) (p:Int):Zo (Y5 wv m) (0+29) [iv p] (Y5 wv { m with seen:=p }):=by
 have e:Y5 wv { m with seen:=p }=(Y5 wv m).set (0+29) (iv p):=by
  show Zk9 wv m++(m.told.map sc).flatten++[iv m.phase,iv p]=(Zk9 wv m++(m.told.map sc).flatten++[iv m.phase,iv m.seen]).set (0+29) (iv p)
  rw [List.set_append_right _ _ (by rw [Zdz h];omega),Zdz h];rfl
 rw [e]
 exact W5 (by rw [ld_len h];omega)
theorem Zpn {wv:Value} {m:Ld} {i:Nat} (s:St) (h:i<m.told.length):Zo (Y5 wv m) (0+7+(i:Int).toNat*3) (sc s) (Y5 wv { m with told:=m.told.set i s }):=by
 have:=Zf6 (enc:=sc) (sz:=3) Zdg m.told [iv m.phase,iv m.seen] (Zk9 wv m) i (0+7+(i:Int).toNat*3) s h (by simp [Zk9])
 exact this
def Zef (m:Ld) (kind phase:Int) (i:Nat):List Fr:=if kind≠3∨(i:Int)≠m.id then [⟨m.id,i,m.deal,kind,m.att,false,⟨phase,0,0⟩⟩] else []
def Zeg (m:Ld) (kind phase:Int):List Fr:=(List.range m.w.length).flatMap (Zef m kind phase)
def Xx (m:Ld):List Fr:=if m.att=0 then Zeg m 1 0 else Zeg m 3 0
def Zbn (m:Ld) (phase:Int):Ld:={ m with state:=Zcs,wait:=6,heard:=0,phase:=phase }
def Ul (m:Ld):Ld:={ m with state:=Zp3,wait:=0 }
def noM (m:Ld):Ld × List Fr:=if m.wait=2 then (Ul m,Zeg (Ul m) 7 3) else ({ m with state:=U6,wait:=0 },[])
theorem Zga (f:Nat→List Fr) (i:Nat):(List.range (i+1)).flatMap f=(List.range i).flatMap f++f i:=by
 rw [List.range_succ,List.flatMap_append];simp
theorem Vn (f:Nat→List Fr) (hf : ∀ i,(f i).length≤1) : ∀ i,((List.range i).flatMap f).length≤i
 | 0=>by simp
 | i+1=>by rw [Zga,List.length_append];have:=Vn f hf i;have:=hf i;omega
theorem Zel (m:Ld) (kind phase:Int) (i:Nat):(Zef m kind phase i).length≤1:=by unfold Zef;split<;>simp
set_option maxHeartbeats 2000000 attribute [local irreducible] HW HO HQ HD HC QOp Has Upd Zo Gets Ye Z6 Zq X0 Z5 Zj X7 Zw
attribute [local irreducible] Y5
theorem Zau (lp:Nat) (wv:Value) (wc:List Zm) (m:Ld) (kind phase:Int) (L:Zb) (hm:LdOk wv wc m):HC Tryz.prog 125 [pt lp 0,iv kind,iv phase] (Vs lp wv wc m::L)
  (fun v L' => ∃ c,Xs v (Zeg m kind phase) c∧L'=c::Vs lp wv wc m::L):=by
 obtain ⟨a,cap,rfl,hcap,hR⟩:=hm.vec.rd Xi
 have hlen:=hm.len
 generalize hwv:Value.slice a m.w.length cap=wv
 have g0:(Y5 wv m)[0+0]? = some (iv m.id):=Yt rfl
 have g1:(Y5 wv m)[0+1]? = some (iv m.deal):=Yt rfl
 have g2:(Y5 wv m)[0+2]? = some (iv m.att):=Yt rfl
 have g3:(Y5 wv m)[0+3]? = some (.slice a m.w.length cap):=by rw [hwv];exact Yt rfl
 refine Za (fun _ _=>Tryz.call125 _ _) Tryz.func125 rfl Tryz.ntmps125 (Nat.le_of_ble_eq_true rfl) ?_;simp only [Ze,Nat.reduceAdd]
 repeat' (first|refine uN ?_|refine Yd S ?_|refine Yu S ?_|(refine uB ?_;intro b)|(refine uP ?_ ?_<;>(intro h;((try simp only [zs,zq,reduceCtorEq] at h);try exact zx)))|refine da 101 ?_|fail)
 refine Zpk ?_
 refine Zz (σ:=Nat × Value × List Zm) (fun q=>[(0,pt lp 0),(1,iv kind),(2,iv phase),(7,q.2.1),(13,iv m.w.length),(14,iv q.1)]) (fun q=>q.2.2::Vs lp wv wc m::L) (fun q=>q.1≤m.w.length∧Xs q.2.1 ((List.range q.1).flatMap (Zef m kind phase)) q.2.2) (fun q=>m.w.length-q.1) (0,Wn,[]) uS (List.Sublist.refl _) ⟨by simp,Yg⟩ ?_
 rintro ⟨i,v,c⟩ ⟨hi,hv⟩
 simp only at hi hv ⊢
 have hle:=Vn (Zef m kind phase) (Zel m kind phase) i
 have step : ∀ x,Zef m kind phase i=x→(List.range (i+1)).flatMap (Zef m kind phase)=(List.range i).flatMap (Zef m kind phase)++x:=fun x hx=>by rw [Zga,hx]
 by_cases hlt:i<m.w.length
 ·by_cases hid:kind=3∧(i:Int)=m.id
  ·have e:Zef m kind phase i=[]:=if_neg (by omega)
   repeat' (first|refine uN ?_|refine Z0 S ?_|(refine uB ?_;intro b)|(refine uP ?_ ?_<;>(intro h;((try simp only [zs,zq,reduceCtorEq] at h);try exact zx)))|refine da 101 ?_|fail)
   refine Zp (i+1,v,c) uS (List.Sublist.refl _) ⟨by simp only;omega,?_⟩ (by simp only;omega)
   simp only
   rw [step _ e,List.append_nil]
   exact hv
  ·have e:Zef m kind phase i=[⟨m.id,i,m.deal,kind,m.att,false,⟨phase,0,0⟩⟩]:=if_pos (by omega)
   repeat' (first|refine uN ?_|refine Z0 S ?_|(refine uB ?_;intro b)|(refine uP ?_ ?_<;>(intro h;((try simp only [zs,zq,reduceCtorEq] at h);try exact zx)))|refine da 101 ?_|fail)
   all_goals refine fo 1 ?_
   all_goals refine wp1 S ⟨m.id,i,m.deal,kind,m.att,false,⟨phase,0,0⟩⟩ hv Zs Uv ?_
   all_goals intro v' c' hv'
   all_goals repeat' (first|refine uN ?_|refine Z0 S ?_|(refine uB ?_;intro b)|(refine uP ?_ ?_<;>(intro h;((try simp only [zs,zq,reduceCtorEq] at h);try exact zx)))|refine da 101 ?_|fail)
   all_goals refine Zp (i+1,v',c') uS (.cons_cons _ (.cons _ (.refl _))) ⟨by simp only;omega,?_⟩ (by simp only;omega)
   all_goals simp only
   all_goals rw [step _ e]
   all_goals exact hv'
 ·repeat' (first|refine uN ?_|refine Z0 S ?_|(refine uB ?_;intro b)|(refine uP ?_ ?_<;>(intro h;((try simp only [zs,zq,reduceCtorEq] at h);try exact zx)))|refine da 101 ?_|fail)
  have hi2:i=m.w.length:=by omega
  subst hi2
  exact Xn (LS.refl _) ⟨c,hv,rfl⟩
theorem Zea (lp:Nat) (wv:Value) (wc:List Zm) (m:Ld) (L:Zb) (hm:LdOk wv wc m):HC Tryz.prog 70 [pt lp 0] (Vs lp wv wc m::L)
  (fun v L' => ∃ c,Xs v (Xx m) c∧L'=c::Vs lp wv wc m::L):=by
 have g2:(Y5 wv m)[0+2]? = some (iv m.att):=Yt rfl
 unfold Xx
 refine Za (fun _ _=>Tryz.call70 _ _) Tryz.func70 rfl Tryz.ntmps70 (Nat.le_of_ble_eq_true rfl) ?_;simp only [Ze,Nat.reduceAdd]
 repeat' (first|refine uN ?_|(refine uP ?_ ?_<;>(intro h;((try simp only [zs,zq,reduceCtorEq] at h);try exact zx)))|fail)
 ·refine gc (Zau lp wv wc m 1 0 L hm) ?_
  rintro v L' ⟨c,hv,rfl⟩
  repeat' (first|refine uN ?_|(refine uP ?_ ?_<;>(intro h;((try simp only [zs,zq,reduceCtorEq] at h);try exact zx)))|fail)
  exact Xn (LS.refl _) ⟨c,by rw [if_pos h];exact hv,rfl⟩
 ·refine gc (Zau lp wv wc m 3 0 L hm) ?_
  rintro v L' ⟨c,hv,rfl⟩
  repeat' (first|refine uN ?_|(refine uP ?_ ?_<;>(intro h;((try simp only [zs,zq,reduceCtorEq] at h);try exact zx)))|fail)
  exact Xn (LS.refl _) ⟨c,by rw [if_neg h];exact hv,rfl⟩
theorem LdOk.of {wv:Value} {wc:List Zm} {m m':Ld} (h:LdOk wv wc m) (e1:m'.w=m.w) (e2:m'.told.length=m.told.length):LdOk wv wc m':=⟨e1▸h.vec,e2▸h.told,e1▸h.len⟩
theorem Zbo (lp:Nat) (wv:Value) (wc:List Zm) (m:Ld) (phase:Int) (L:Zb) (hm:LdOk wv wc m):HC Tryz.prog 129 [pt lp 0,iv phase] (Vs lp wv wc m::L)
  (fun v L' => ∃ c,Xs v (Zeg (Zbn m phase) 5 phase) c∧L'=c::Vs lp wv wc (Zbn m phase)::L):=by
 have p1:Zo (Y5 wv m) (0+4) [bs Zcs] (Y5 wv { m with state:=Zcs }):=Vz rfl (by decide) rfl rfl rfl
 have p2:Zo (Y5 wv { m with state:=Zcs }) (0+5) [iv 6] (Y5 wv { m with state:=Zcs,wait:=6 }):=Vz rfl (by decide) rfl rfl rfl
 have p3:Zo (Y5 wv { m with state:=Zcs,wait:=6 }) (0+6) [iv 0] (Y5 wv { m with state:=Zcs,wait:=6,heard:=0 }):=Vz rfl (by decide) rfl rfl rfl
 have p4:Zo (Y5 wv { m with state:=Zcs,wait:=6,heard:=0 }) (0+28) [iv phase] (Y5 wv (Zbn m phase)):=ld_put28 (m:={ m with state:=Zcs,wait:=6,heard:=0 }) hm.told phase
 have k:=Zau lp wv wc (Zbn m phase) 5 phase L (hm.of rfl rfl)
 refine Za (fun _ _=>Tryz.call129 _ _) Tryz.func129 rfl Tryz.ntmps129 (Nat.le_of_ble_eq_true rfl) ?_;simp only [Ze,Nat.reduceAdd]
 repeat' (first|refine uN ?_)
 refine gc k ?_
 rintro v L' ⟨c,hv,rfl⟩
 repeat' (first|refine uN ?_)
 exact Xn (LS.refl _) ⟨c,hv,rfl⟩
theorem Qf (lp:Nat) (wv:Value) (wc:List Zm) (m:Ld) (phase:Int) (L:Zb) (hm:LdOk wv wc m):HC Tryz.prog 130 [pt lp 0,iv phase] (Vs lp wv wc m::L)
  (fun v L' => ∃ c,Xs v (Zeg (Ul m) 7 phase) c∧L'=c::Vs lp wv wc (Ul m)::L):=by
 have p1:Zo (Y5 wv m) (0+4) [bs Zp3] (Y5 wv { m with state:=Zp3 }):=Vz rfl (by decide) rfl rfl rfl
 have p2:Zo (Y5 wv { m with state:=Zp3 }) (0+5) [iv 0] (Y5 wv (Ul m)):=Vz rfl (by decide) rfl rfl rfl
 have k:=Zau lp wv wc (Ul m) 7 phase L (hm.of rfl rfl)
 refine Za (fun _ _=>Tryz.call130 _ _) Tryz.func130 rfl Tryz.ntmps130 (Nat.le_of_ble_eq_true rfl) ?_;simp only [Ze,Nat.reduceAdd]
 repeat' (first|refine uN ?_)
 refine gc k ?_
 rintro v L' ⟨c,hv,rfl⟩
 repeat' (first|refine uN ?_)
 exact Xn (LS.refl _) ⟨c,hv,rfl⟩
theorem no_calls (lp:Nat) (wv:Value) (wc:List Zm) (m:Ld) (L:Zb) (hm:LdOk wv wc m):HC Tryz.prog 127 [pt lp 0] (Vs lp wv wc m::L)
  (fun v L' => ∃ c,Xs v (noM m).2 c∧L'=c::Vs lp wv wc (noM m).1::L):=by
 have g5:(Y5 wv m)[0+5]? = some (iv m.wait):=Yt rfl
 have p1:Zo (Y5 wv m) (0+4) [bs U6] (Y5 wv { m with state:=U6 }):=Vz rfl (by decide) rfl rfl rfl
 have p2:Zo (Y5 wv { m with state:=U6 }) (0+5) [iv 0] (Y5 wv { m with state:=U6,wait:=0 }):=Vz rfl (by decide) rfl rfl rfl
 have k:=Qf lp wv wc m 3 L hm
 unfold noM
 refine Za (fun _ _=>Tryz.call127 _ _) Tryz.func127 rfl Tryz.ntmps127 (Nat.le_of_ble_eq_true rfl) ?_;simp only [Ze,Nat.reduceAdd]
 repeat' (first|refine uN ?_|(refine uP ?_ ?_<;>(intro h;((try simp only [zs,zq,reduceCtorEq] at h);try exact zx)))|fail)
 ·refine gc k ?_
  rintro v L' ⟨c,hv,rfl⟩
  repeat' (first|refine uN ?_|(refine uP ?_ ?_<;>(intro h;((try simp only [zs,zq,reduceCtorEq] at h);try exact zx)))|fail)
  exact Xn (LS.refl _) ⟨c,by rw [if_pos h];exact hv,by rw [if_pos h]⟩
 ·refine Xn (L':=[]::Vs lp wv wc { m with state:=U6,wait:=0 }::L) (LS.refl _) ⟨[],by rw [if_neg h];exact Yg,by rw [if_neg h]⟩
theorem Zi9 (lp:Nat) (wv:Value) (wc:List Zm) (m:Ld) (L:Zb):HC Tryz.prog 77 [pt lp 0] (Vs lp wv wc m::L) (fun v L'=>v=bs m.state∧L'=Vs lp wv wc m::L):=by
 have g4:(Y5 wv m)[0+4]? = some (bs m.state):=Yt rfl
 refine Za (fun _ _=>Tryz.call77 _ _) Tryz.func77 rfl Tryz.ntmps77 (Nat.le_of_ble_eq_true rfl) ?_;simp only [Ze,Nat.reduceAdd]
 repeat' (first|refine uN ?_)
 exact Xn (LS.refl _) ⟨rfl,rfl⟩
theorem Zlm (lp:Nat) (wv:Value) (wc:List Zm) (m:Ld) (L:Zb) (h:m.told.length=7):HC Tryz.prog 191 [pt lp 0] (Vs lp wv wc m::L) (fun v L'=>v=iv m.seen∧L'=Vs lp wv wc m::L):=by
 have g4:=Zi7 (wv:=wv) h
 refine Za (fun _ _=>Tryz.call191 _ _) Tryz.func191 rfl Tryz.ntmps191 (Nat.le_of_ble_eq_true rfl) ?_;simp only [Ze,Nat.reduceAdd]
 repeat' (first|refine uN ?_)
 exact Xn (LS.refl _) ⟨rfl,rfl⟩
end Go.HL
end

/-! HLKk -/
section
namespace Go.HL
open Go
section c
variable {P:Program} {n:Nat} {ops:List Oper} {Q:Exit→Zr→Zb→Prop} {ρ:Zr} {L:Zb}
def Zjo {α:Type}:List α→List (α × List α)
 | []=>[]
 | x::r=>(x,r)::(Zjo r).map fun p=>(p.1,x::p.2)
theorem Zfu {α:Type} : ∀ {a b:List α} {x:α},(x,a++b)∈Zjo (a++x::b)
 | [],b,x => .head _
 | y::a,b,x => .tail _ (List.mem_map.2 ⟨(x,a++b),Zfu,rfl⟩)
def Zpt (ops:List Oper) (rem:List (Nat × Oper)):List ((Nat × Oper) × List (Nat × Oper)):=(Zjo rem).filter fun p=>Qq ops.length rem p.1.2
theorem hd_all {Ss:List (Nat × Zm)} {rem:List (Nat × Oper)} (h0:Zpt ops rem≠[]) (h : ∀ x∈Zpt ops rem,HO P n ops (Z5 P n ops Q x.1.1 Ss x.2) [x.1.2] ρ L):HD P n ops Q Ss rem ρ L:=fun hS l hu=>by
 obtain ⟨x0,hx0⟩:=List.exists_mem_of_ne_nil _ h0
 have hx1:=List.mem_filter.1 hx0
 have mem_of : ∀ {rem:List (Nat × Oper)} {x:(Nat × Oper) × List (Nat × Oper)},x∈Zjo rem→x.1∈rem:=by
  intro rem
  induction rem with
  | nil=>intro x hx;cases hx
  | cons y r ih =>
   intro x hx
   rcases List.mem_cons.1 hx with rfl|hx
   ·exact .head _
   ·obtain ⟨z,hz,rfl⟩:=List.mem_map.1 hx
    have h8:=ih hz
    exact .tail _ h8
 have hne:rem.length≠0:=fun e=>by
  rw [List.eq_nil_of_length_eq_zero e] at hx1
  cases hx1.1
 obtain ⟨m,hm⟩:=Nat.exists_eq_succ_of_ne_zero hne
 rw [hm]
 have hrd:=hu.ready (show (x0.1.1,x0.1.2)∈rem from mem_of hx1.1) hx1.2
 refine ⟨fun h0=>(by rw [h0] at hrd;cases hrd),fun j hj=>?_⟩
 obtain ⟨o,hmj,hrj⟩:=hu.readyR_of hj
 obtain ⟨a,b,rfl⟩:=List.append_of_mem hmj
 have hx:((j,o),a++b)∈Zpt ops (a++(j,o)::b):=List.mem_filter.2 ⟨Zfu,hrj⟩
 have h9:=h _ hx
 simp only at h9
 have hlen:m=(a++b).length:=by simp at hm ⊢;omega
 subst hlen
 obtain ⟨h1,h2⟩:=(hu.iff j o).1 hmj
 intro kk w ac hs ha
 have h3:=h9 kk w ac hs ha
 unfold wpList at h3
 have hnorm : ∀ e a1 w1,post kk n (Z5 P n ops Q j Ss (a++b)) e a1 w1→e = .normal:=fun e a1 w1 hx=>by
  obtain ⟨_,_,_,_,hx⟩:=hx
  cases e<;>first|rfl|exact hx.elim
 have fin : ∀ a1 w1,wpList P ops.toArray (post kk n (Z5 P n ops Q j Ss (a++b))) [] a1 w1 → ∃ ρ' L',Agr n a1 ρ'∧Sat kk w1 L'∧Zjp ops j L' Ss∧HAny P n ops Q (a++b).length (ssF ops j Ss) (l.setIfInBounds j true) ρ' L':=fun a1 w1 hx=>by
  obtain ⟨ρ',L',e1,e2,e3,e4⟩:=hx
  refine ⟨ρ',L',e1,e2,e3,e4 (fun s hs=>?_) _ hu.drop⟩
  have:=List.mem_filter.1 hs
  exact ssOk_all.1 e3 s this.1 this.2
 unfold wpOp
 rw [show ops.toArray[j]? = some o by simpa using h1]
 simp only
 split
 ·rename_i hw
  rw [if_pos hw] at h3
  rcases h3 with h3|⟨_,a1,w1,h3⟩
  ·exact .inl (Oper.wp_mono fin (Zco hnorm h3))
  ·cases hnorm _ _ _ h3
 ·rename_i hw
  rw [if_neg hw] at h3
  exact fin _ _ h3
theorem Znk {Ss:List (Nat × Zm)} {rem r1 r2:List (Nat × Oper)} {i j:Nat} {o p:Oper} (h1:HO P n ops (Z5 P n ops Q i Ss r1) [o] ρ L) (h2:HO P n ops (Z5 P n ops Q j Ss r2) [p] ρ L) (hn:Zpt ops rem=[((i,o),r1),((j,p),r2)]:=by exact rfl):HD P n ops Q Ss rem ρ L:=by
 refine hd_all (by rw [hn];simp) fun x hx=>?_
 rw [hn] at hx
 rcases List.mem_cons.1 hx with rfl|hx
 ·exact h1
 ·rcases List.mem_cons.1 hx with rfl|hx
  ·exact h2
  ·cases hx
end c
end Go.HL
end

/-! HLSl -/
section
namespace Go.HL
open Go
theorem Zsc (vs:List Value) : ∀ (pre old post:List Value),old.length=vs.length→Ug (pre++old++post) pre.length vs=pre++vs++post:=by
 intro pre
 induction pre with
 | nil=>intro old post h;simpa using Zct vs old post h
 | cons x r ih=>intro old post h;simp only [List.cons_append,List.length_cons,Qs,ih old post h]
theorem Zf5 {l vs:List Value} {i:Nat} (h:i+vs.length≤l.length):Zo l i vs (l.take i++vs++l.drop (i+vs.length)):=by
 refine ⟨?_,h⟩
 have hl:l=l.take i++(l.drop i).take vs.length++l.drop (i+vs.length):=by
  rw [List.append_assoc,← List.drop_drop,List.take_append_drop,List.take_append_drop]
 have e:(l.take i).length=i:=by simp;omega
 have:=Zsc vs (l.take i) ((l.drop i).take vs.length) (l.drop (i+vs.length)) (by simp;omega)
 rw [← hl,e] at this
 exact this.symm
theorem Znh (pre new rest:List Value):Gets (pre++new++rest) pre.length new:=fun j v h=>by
 have hlt:j<new.length:=(List.getElem?_eq_some_iff.1 h).1
 rw [List.append_assoc,List.getElem?_append_right (by omega),Nat.add_sub_cancel_left,List.getElem?_append_left hlt]
 exact h
section q
variable {P:Program} (S:Tab P) {n:Nat} {ops:List Oper} {Q:Exit→Zr→Zb→Prop} {rest:List Oper} {ρ:Zr} {L:Zb} {ty:TypeId} {pos:String} {af:Array Edge}
theorem qS3 {d:Option Tmp} {g:Option (Nat × Bool)} {t E y0 s0 b0 k1 x1 y1 sz b1 len cap:Nat} {a:Option Addr} {x y z u:Operand} {k k2 k3:IntKind} {l hh m:Int} (h00:Y6 ρ=true:=by exact rfl) (hx:ev ρ x=some (.slice a len cap):=by exact rfl) (hy:ev ρ y=some (.int k l):=by exact rfl) (hz:ev ρ z=some (.int k2 hh):=by exact rfl) (hu:ev ρ u=some (.int k3 m):=by exact rfl)
  (ht:Zt S.ty t=some ⟨5,E,y0,s0,b0⟩:=by exact rfl) (he:Zt S.ty E=some ⟨k1,x1,y1,sz,b1⟩:=by exact rfl) (h:0≤l∧l≤hh∧hh≤m∧m≤cap:=by first|assumption|omega) :
  QOp P ⟨d,.slice t x (some y) (some z) (some u),ty,pos,af,g⟩ ρ L (.slice (cut a m.toNat l.toNat sz) (hh.toNat-l.toNat) (m.toNat-l.toNat)):=
 Ya fun ρe he' kc w hs=>by
  have hsl:=Z9 (S.tyI ht) rfl
  have hsize:(sizeOf E).run P w = .ok sz w:=Y9 (S.tyI he) w
  have e1:=he' x (by simp [Op.operands]) _ hx
  have e2:=he' y (by simp [Op.operands]) _ hy
  have e3:=he' z (by simp [Op.operands]) _ hz
  have e4:=he' u (by simp [Op.operands]) _ hu
  have h1:(0:Int)≤hh:=by omega
  have h2:(0:Int)≤m:=by omega
  have h3:hh≤(m.toNat:Int):=by omega
  have h4:l≤(hh.toNat:Int):=by omega
  have hat:(Instr.sliceAt t (.slice a len cap) (some (.int k l)) (some (.int k2 hh)) (some (.int k3 m))).run P w = .ok (.slice (cut a m.toNat l.toNat sz) (hh.toNat-l.toNat) (m.toNat-l.toNat)) w:=by
   unfold Instr.sliceAt
   simp only [Sem.run_bind,run_underlying hsl,Result.andThen_ok]
   unfold Instr.slice
   have g1:(0:Int)≤m∧m≤(cap:Int):=⟨h2,h.2.2.2⟩
   have g2:(0:Int)≤hh∧hh≤(m.toNat:Int):=⟨h1,h3⟩
   have g3:(0:Int)≤l∧l≤(hh.toNat:Int):=⟨h.1,h4⟩
   simp only [Sem.run_bind,run_underlying hsl,Result.andThen_ok,Instr.sliceBounds,Instr.sliceBound,asIntOf,Sem.run_pure,if_pos g1,if_pos g2,if_pos g3,hsize,cut,Option.isSome,if_true]
  simp [execOp,e1,e2,e3,e4,hat]
theorem qCap {d:Option Tmp} {g:Option (Nat × Bool)} {t:Nat} {ti:TyI} {x:Operand} {a:Option Addr} {len cap:Nat} (h00:Y6 ρ=true:=by exact rfl) (hx:ev ρ x=some (.slice a len cap):=by exact rfl) (ht:Zt S.ty t=some ti:=by exact rfl) (h5:ti.kind=5:=by exact rfl) :
  QOp P ⟨d,.call { callee := .builtin .cap,args := #[x],argTypes := #[t] },ty,pos,af,g⟩ ρ L (iv cap):=
 Ya fun ρe he k w hs=>by
  have h1:=Z9 (S.tyI ht) h5
  simp [execOp,resolve,invoke,builtin,he x (by simp [Op.operands,Call.operands]) _ hx,Builtin.cap_,run_underlying h1,goInt]
theorem Zn3 {d t E y0 s0 b0 k1 x1 y1 sz by1 m nn b cap:Nat} {u:Value} {l new:List Value} {x y:Operand}
  (hx:ev ρ x=some (sl b 0 nn cap)) (hy:ev ρ y=some u) (ht:Zt S.ty t=some ⟨5,E,y0,s0,b0⟩) (he:Zt S.ty E=some ⟨k1,x1,y1,sz,by1⟩)
  (hn:Nat.blt d n=true) (hs:Src sz ([(b,.cells ⟨l⟩ E)]::L) u m new) (h1:(new.all Value.oneCell')=true) (hroom:nn+m≤cap) (hlen:l.length=cap*sz)
  (h:HO P n ops Q rest ((d,sl b 0 (nn+m) cap)::ρ) ([(b,.cells ⟨l.take (nn*sz)++new++l.drop (nn*sz+new.length)⟩ E)]::L)) :
  HO P n ops Q (⟨some d,.call { callee := .builtin .append,args := #[x,y],argTypes := #[t,t] },ty,pos,af,none⟩::rest) ρ ([(b,.cells ⟨l⟩ E)]::L):=by
 refine Vh rfl rfl hn fun ρe he' k w hsat=>?_
 have hdesc:=Z9 (S.tyI ht) rfl
 obtain ⟨de,i,hde,hi,-,hisz,hiby⟩:=Xf (S.tyI he)
 simp only at hisz hiby
 have hsize:(sizeOf E).run P w = .ok sz w:=Y9 (S.tyI he) w
 have hone : ∀ u∈new,u.oneCell'=true:=fun u hu=>List.all_eq_true.1 h1 u hu
 have e1:=he' x (by simp [Op.operands,Call.operands]) _ hx
 have e2:=he' y (by simp [Op.operands,Call.operands]) _ hy
 have hb':w.heap[b]? = some (.cells ⟨l⟩ E):=hsat.heap Zh
 suffices ∃ w',(Builtin.append_ #[t,t] ty #[sl b 0 nn cap,u]).run P w = .ok (sl b 0 (nn+m) cap) w'∧Sat k w' ([(b,.cells ⟨l.take (nn*sz)++new++l.drop (nn*sz+new.length)⟩ E)]::L) by
  obtain ⟨w',hr,hs'⟩:=this
  refine ⟨_,w',_,?_,hs',h⟩
  simp [execOp,resolve,invoke,builtin,e1,e2,hr]
 rcases hs with ⟨a,cap',rfl,rfl,rfl⟩|⟨b2,j,cap',l2,F,fr,hm,rfl,hb,hg,hlen2⟩
 ·refine ⟨w,?_,by simpa using hsat⟩
  have:nn≤cap:=by omega
  cases a<;>simp [Builtin.append_,run_underlying hdesc,hsize,Builtin.lenOf,Builtin.firstCells,loadCells,loadCellsFrom,this,storeCells]
 ·have hnews : ∀ (q:Nat) (v:Value),new[q]? = some v→w.cell? ((Addr.mk b2 j none).add q)=some v:=fun q v hq=>by
   rw [Xy,hsat.cell hb];exact hg q v hq
  have hsplit:nn*sz+new.length≤l.length:=by
   rw [hlen2,hlen,← Nat.add_mul]
   exact Nat.mul_le_mul_right _ hroom
  have hr:=run_append_room (P:=P) w t ty E i hdesc hi b nn cap ⟨l⟩ hb' ⟨b2,j,none⟩ m cap' new (by rw [hisz];exact hlen2) hnews hone hroom (by rw [hisz];simpa using hsplit)
  rw [hisz] at hr
  refine ⟨_,hr,hsat.upd (o := .cells ⟨l⟩ E) (o' := .cells ⟨l.take (nn*sz)++new++l.drop (nn*sz+new.length)⟩ E) Xr rfl rfl rfl (setRow_heap w b _ _ E _ hb') (fun q hq=>?_)⟩
  simp only [World.setRow,Array.getElem?_modify]
  rw [if_neg (fun e=>hq e.symm)]
theorem Zg8 (zs:List Value) (m:Nat) (h:(zs.all Value.oneCell')=true) : ∀ v∈(List.replicate m zs).flatten,v.oneCell'=true:=by
 intro v hv
 obtain ⟨l,hl,hv⟩:=List.mem_flatten.1 hv
 rw [List.eq_of_mem_replicate hl] at hv
 exact List.all_eq_true.1 h v hv
theorem Va (zs:List Value) (m:Nat):(Builtin.zeroCells ⟨zs⟩ m).toList=(List.replicate m zs).flatten:=by
 have:=Uc zs m
 have e:Builtin.zeroCells ⟨zs⟩ m=madeCells ⟨zs⟩ (m*zs.length):=rfl
 rw [e,this]
theorem o_clear {t E y0 s0 b0 b i m cap:Nat} {z:Value} {zs l:List Value} {x:Operand} {L':Zb} (hx:ev ρ x=some (sl b i m cap)) (ht:Zt S.ty t=some ⟨5,E,y0,s0,b0⟩) (hz:Zt S.zr E=some z) (hzs:z.cells=⟨zs⟩) (h1:(zs.all Value.oneCell')=true)
  (hfit:i+m*zs.length≤l.length) (hu:Upd L b (.cells ⟨l⟩ E) (.cells ⟨l.take i++(List.replicate m zs).flatten++l.drop (i+m*zs.length)⟩ E) L')
  (h:HO P n ops Q rest ρ L') :
  HO P n ops Q (⟨none,.call { callee := .builtin .clear,args := #[x],argTypes := #[t] },ty,pos,af,none⟩::rest) ρ L:=by
 refine Zpd rfl rfl fun ρe he k w hs=>?_
 have hdesc:=Z9 (S.tyI ht) rfl
 have hzero:=Vq (S.zeroI hz) w
 have e1:=he x (by simp [Op.operands,Call.operands]) _ hx
 have hfl:((List.replicate m zs).flatten).length=m*zs.length:=by simp [List.length_flatten,List.map_replicate,List.sum_replicate_nat]
 have hp:Zo l i (List.replicate m zs).flatten (l.take i++(List.replicate m zs).flatten++l.drop (i+m*zs.length)):=by
  have:=Zf5 (l:=l) (i:=i) (vs:=(List.replicate m zs).flatten) (by rw [hfl];exact hfit)
  rw [hfl] at this
  exact this
 obtain ⟨hp1,hp2⟩:=hp
 obtain ⟨w',e3,e4,e5,et,e6,e7⟩:=Qr (P:=P) (k:=k) ((List.replicate m zs).flatten) i 0 l w (hs.heap hu.has) rfl (by simpa using hp2) (Zg8 zs m h1)
 by_cases hm:m=0
 ·subst hm
  refine ⟨w,L',.inr ⟨.tuple #[],?_⟩,?_,h⟩
  ·simp [execOp,resolve,invoke,builtin,e1,Builtin.clear_,run_underlying hdesc]
  ·refine hs.upd hu rfl rfl rfl ?_ (fun _ _=>rfl)
   simpa using hs.heap hu.has
 ·refine ⟨w',L',.inr ⟨.tuple #[],?_⟩,hs.upd hu e4 e5 et (by rw [e6,hp1,Nat.add_zero]) e7,h⟩
  ·obtain ⟨m',rfl⟩ : ∃ m',m=m'+1:=⟨m-1,by omega⟩
   have hr:(Builtin.clear_ #[t] ty #[sl b i (m'+1) cap]).run P w = .ok (.tuple #[]) w':=by
    simp only [Builtin.clear_]
    simp only [List.getElem?_toArray,List.getElem?_cons_zero,Sem.run_bind,run_underlying hdesc,Result.andThen_ok]
    simp only [hzero,Result.andThen_ok,hzs,Va,e3,Sem.run_pure,Sem.run_bind]
   simp [execOp,resolve,invoke,builtin,e1,hr]
theorem Zer {d t t2 E y0 s0 b0 k1 x1 y1 sz by1 b i len cap ns cap2 k0:Nat} {a:Option Addr} {l new:List Value} {x y:Operand} {L':Zb} (hx:ev ρ x=some (sl b i len cap)) (hy:ev ρ y=some (.slice a ns cap2)) (ht:Zt S.ty t=some ⟨5,E,y0,s0,b0⟩) (he:Zt S.ty E=some ⟨k1,x1,y1,sz,by1⟩) (hn:Nat.blt d n=true)
  (hk:k0=Nat.min ns len) (hlen:new.length=k0*sz) (h1:(new.all Value.oneCell')=true) (hs:k0=0 ∨ ∃ b2 j l2 F fr,a=some ⟨b2,j,none⟩∧Has L b2 (.cells ⟨l2⟩ F fr)∧Gets l2 j new)
  (hfit:i+new.length≤l.length) (hu:Upd L b (.cells ⟨l⟩ E) (.cells ⟨l.take i++new++l.drop (i+new.length)⟩ E) L')
  (h:HO P n ops Q rest ((d,iv k0)::ρ) L') :
  HO P n ops Q (⟨some d,.call { callee := .builtin .copy,args := #[x,y],argTypes := #[t,t2] },ty,pos,af,none⟩::rest) ρ L:=
 Vh rfl rfl hn fun ρe he' kc w hsat=>by
  have hdesc:=Z9 (S.tyI ht) rfl
  have hsize:(sizeOf E).run P w = .ok sz w:=Y9 (S.tyI he) w
  have e1:=he' x (by simp [Op.operands,Call.operands]) _ hx
  have e2:=he' y (by simp [Op.operands,Call.operands]) _ hy
  obtain ⟨hp1,hp2⟩:=Zf5 (l:=l) (i:=i) (vs:=new) hfit
  obtain ⟨w',e3,e4,e5,et,e6,e7⟩:=Qr (P:=P) (k:=kc) new i 0 l w (hsat.heap hu.has) rfl (by simpa using hp2) (fun v hv=>List.all_eq_true.1 h1 v hv)
  have hcells:(Builtin.firstCells sz k0 (.slice a ns cap2)).run P w = .ok ⟨new⟩ w:=by
   rcases hs with h0|⟨b2,j,l2,F,fr,rfl,hb,hg⟩
   ·subst h0
    have:new=[]:=List.eq_nil_of_length_eq_zero (by simpa using hlen)
    subst this
    cases a<;>simp [Builtin.firstCells,loadCells,loadCellsFrom]
   ·have hnews : ∀ (q:Nat) (v:Value),new[q]? = some v→w.cell? ((Addr.mk b2 j none).add q)=some v:=fun q v hq=>by
     rw [Xy,hsat.cell hb];exact hg q v hq
    have:=run_firstCells_some (P:=P) w sz k0 ⟨b2,j,none⟩ ns cap2 new hlen hnews
    simpa using this
  refine ⟨_,w',L',?_,hsat.upd hu e4 e5 et (by rw [e6,hp1,Nat.add_zero]) e7,h⟩
  have hr:(Builtin.copy_ #[t,t2] ty #[sl b i len cap,.slice a ns cap2]).run P w = .ok (iv k0) w':=by
   simp only [Builtin.copy_]
   simp only [List.getElem?_toArray,List.getElem?_cons_zero,List.getElem?_cons_succ,Sem.run_bind,run_underlying hdesc,Result.andThen_ok]
   simp only [Builtin.lenOf,Sem.run_pure,Result.andThen_ok,hsize,← hk,hcells,e3,goInt]
  simp [execOp,resolve,invoke,builtin,e1,e2,hr]
theorem o_build0 {d t E y0 s0 b0 k1 x1 y1 sz by1:Nat} (ht:Zt S.ty t=some ⟨5,E,y0,s0,b0⟩) (he:Zt S.ty E=some ⟨k1,x1,y1,sz,by1⟩) (hn:Nat.blt d n=true)
  (h : ∀ b,HO P n ops Q rest ((d,sl b 0 0 0)::ρ) ([(b,.cells ⟨[]⟩ E)]::L)):HO P n ops Q (⟨some d,.buildSlice t 0 #[],ty,pos,af,none⟩::rest) ρ L:=by
 refine Vh rfl rfl hn fun ρe he' k w hs=>⟨sl w.heap.size 0 0 0,w.alloc (.cells ⟨[]⟩ E),_,?_,hs.new _,h _⟩
 have hdesc:=Z9 (S.tyI ht) rfl
 have hsize:(sizeOf E).run P w = .ok sz w:=Y9 (S.tyI he) w
 have hbs:(Instr.buildSlice t 0 #[]).run P w = .ok (sl w.heap.size 0 0 0) (w.alloc (.cells ⟨[]⟩ E)):=by
  simp only [Instr.buildSlice]
  have e0:Array.range 0 = #[]:=rfl
  simp [run_underlying hdesc,hsize,Instr.fill,newRow,e0]
 simp [execOp,hbs]
theorem Zn4 {d t t2 E y0 s0 b0 k1 x1 y1 sz by1 nn m b cap:Nat} {ti2:TyI} {z:Value} {zs l:List Value} {x y:Operand}
  (hx:ev ρ x=some (sl b 0 nn cap)) (hy:ev ρ y=some (iv m)) (ht:Zt S.ty t=some ⟨5,E,y0,s0,b0⟩) (he:Zt S.ty E=some ⟨k1,x1,y1,sz,by1⟩) (ht2:Zt S.ty t2=some ti2) (hi2:ti2.kind=2) (hu2:ti2.x=3) (hz:Zt S.zr E=some z) (hzs:z.cells=⟨zs⟩) (hzl:zs.length=sz)
  (hn:Nat.blt d n=true) (hb:Has L b (.cells ⟨l⟩ E)) (hnn:nn*sz≤l.length) (hgrow:cap<nn+m) (hby:(nn+m)*by1≤140737488355328) (hmax:nn+m≤9223372036854775807)
  (h : ∀ b' cap',nn+m≤cap'→HO P n ops Q rest ((d,sl b' 0 (nn+m) cap')::ρ) ([(b',.cells ⟨l.take (nn*sz)++(List.replicate (cap'-nn) zs).flatten⟩ E)]::L)) :
  HO P n ops Q (⟨some d,.call { callee := .builtin .append,args := #[x,y],argTypes := #[t,t2] },ty,pos,af,none⟩::rest) ρ L:=by
 refine Vh rfl rfl hn fun ρe he' k w hsat=>?_
 have hdesc:=Z9 (S.tyI ht) rfl
 have hint:P.underlying t2=some (.int .i64):=by
  obtain ⟨a1,a2,a3,a4,a5⟩:=ti2
  subst hi2;subst hu2
  exact Zdj (S.tyI ht2) rfl
 obtain ⟨de,i,hde,hi,-,hisz,hiby⟩:=Xf (S.tyI he)
 simp only at hisz hiby
 have hiz:i.zero=some z:=by
  have:=S.zeroI hz
  unfold zeroI at this
  simpa [hi] using this
 have e1:=he' x (by simp [Op.operands,Call.operands]) _ hx
 have e2:=he' y (by simp [Op.operands,Call.operands]) _ hy
 have hcap:=Zac w (nn+m) cap E
 have holds : ∀ (q:Nat) (v:Value),(l.take (nn*sz))[q]? = some v→w.cell? ((Addr.mk b 0 none).add q)=some v:=fun q v hq=>by
  rw [Xy,hsat.cell hb,Nat.zero_add]
  rw [List.getElem?_take] at hq
  split at hq
  ·exact hq
  ·cases hq
 have hfo:=run_firstCells_some (P:=P) w.drew sz nn ⟨b,0,none⟩ nn cap (l.take (nn*sz)) (by simp;omega) (by simpa using holds)
 have hm1:IntKind.i64.wrap (m:Int)=m:=V4 (by omega)
 have hm2 : ¬ ((m:Int)<0):=by omega
 have hfit : ¬ (281474976710656<Builtin.nextslicecap (nn+m) cap*i.bytes):=by
  rw [hiby]
  have:=growslice_fits (need:=nn+m) (old:=cap) (by omega) hby
  omega
 have hmby : ¬ (281474976710656<(m:Int)*(i.bytes:Int)):=by
  rw [hiby]
  have:m*by1≤(nn+m)*by1:=Nat.mul_le_mul_right _ (by omega)
  have h3:((m*by1:Nat):Int)=(m:Int)*(by1:Int):=by push_cast;rfl
  omega
 have hn2 : ¬ (nn+m≤cap):=by omega
 have h63 : ¬ (9223372036854775807<((nn:Int)+(m:Int))):=by omega
 have hnew:(Builtin.zeroCells ⟨zs⟩ m).toList++(Builtin.zeroCells ⟨zs⟩ (grownCap w (nn+m) cap E-(nn+m))).toList=(List.replicate (grownCap w (nn+m) cap E-nn) zs).flatten:=by
  rw [Va,Va,← List.flatten_append,List.replicate_append_replicate]
  congr 2
  omega
 refine ⟨sl w.heap.size 0 (nn+m) (grownCap w (nn+m) cap E),w.drew.alloc (.cells ⟨l.take (nn*sz)++(List.replicate (grownCap w (nn+m) cap E-nn) zs).flatten⟩ E),_,?_,hsat.drew.new _,h _ _ hcap⟩
 have hm0:m*sz=0→(Builtin.zeroCells ⟨zs⟩ m) = #[]:=fun h0=>by
  apply Array.ext'
  rw [Va]
  apply List.eq_nil_of_length_eq_zero
  simp [List.length_flatten,List.map_replicate,List.sum_replicate_nat,hzl,h0]
 have hr:(Builtin.append_ #[t,t2] ty #[sl b 0 nn cap,iv m]).run P w = .ok (sl w.heap.size 0 (nn+m) (grownCap w (nn+m) cap E)) (w.drew.alloc (.cells ⟨l.take (nn*sz)++(List.replicate (grownCap w (nn+m) cap E-nn) zs).flatten⟩ E)):=by
  rw [← hnew]
  by_cases h0:m*i.size=0
  ·have hz0:=hm0 (by rw [← hisz];exact h0)
   simp [Builtin.append_,run_underlying hdesc,run_underlying hint,sizeOf,typeInfo,zeroValue,hi,hiz,hn2,h63,hfit,hmby,hm1,hm2,Question.forced,hisz,hfo,newRow,grownCap,asInt,asIntOf,iv,hzs,hisz▸h0,hz0]
   congr 2
   apply Array.ext'
   simp [List.append_assoc]
  ·simp [Builtin.append_,run_underlying hdesc,run_underlying hint,sizeOf,typeInfo,zeroValue,hi,hiz,hn2,h63,hfit,hmby,hm1,hm2,Question.forced,hisz,hfo,newRow,grownCap,asInt,asIntOf,iv,hzs,hisz▸h0]
   congr 2
   apply Array.ext'
   simp [List.append_assoc]
 simp [execOp,resolve,invoke,builtin,e1,e2,hr]
end q
end Go.HL
end

/-! WoA -/
section
namespace Go.HL
open Go Go.Proofs
structure Evt where
 site:Int
 deal:Int
 ph:Int
deriving DecidableEq
def ec (e:Evt):List Value:=[iv e.site,iv e.deal,iv e.ph]
theorem Qh (e:Evt):(ec e).length=3:=rfl
theorem ec_one (e:Evt):(ec e).all Value.oneCell'=true:=rfl
theorem Zrz {E sz b:Nat}:Own E sz (sl b 0 0 0) 0 [] [(b,.cells ⟨[]⟩ E)] := .inr ⟨b,0,[],rfl,rfl,by simp,by omega,by simp⟩
theorem Zii {α:Type} {E sz b:Nat} {enc:α→List Value}:Vec E sz enc (sl b 0 0 0) [] [(b,.cells ⟨[]⟩ E)]:=Zrz
set_option maxHeartbeats 2000000 attribute [local irreducible] HW HO HQ HD HC QOp Has Upd Zo Gets Ye Z6 Zq X0 Z5 Zj X7 Zw
theorem Zip (v:Value) (xs:List Evt) (c:List Zm) (L:Zb) (hv:Vec 81 3 ec v xs c) (hl:xs.length≤100000000):HC Tryz.prog 78 [v] (c::L)
  (fun u L' => ∃ c',Vec 81 3 ec u xs c'∧L'=c'::c::L):=by
 have hv0:=hv
 obtain ⟨a,cap,rfl,hcap,hR⟩:=hv.rd Qh
 rcases hv with ⟨he,h0,h1,rfl⟩|⟨b,cap2,sp,he,rfl,hcs,hle,hall⟩
 ·obtain rfl:xs=[]:=List.eq_nil_of_length_eq_zero (by assumption)
  obtain ⟨rfl,-,rfl⟩:=Value.slice.inj he
  simp only [List.length_nil] at hv0 ⊢
  refine Za (fun _ _=>Tryz.call78 _ _) Tryz.func78 rfl Tryz.ntmps78 (Nat.le_of_ble_eq_true rfl) ?_;simp only [Ze,Nat.reduceAdd]
  repeat' (first|refine uN ?_|(refine uB ?_;intro b)|(refine uP ?_ ?_<;>(intro h;((try simp only [zs,zq,reduceCtorEq] at h);try exact zx)))|fail)
  exact Xn (L':=[]::[]::L) (LS.of_eq rfl) ⟨[],Yg,rfl⟩
 ·have hpos:b=b:=rfl
  obtain ⟨rfl,-,rfl⟩:=Value.slice.inj he
  refine Za (fun _ _=>Tryz.call78 _ _) Tryz.func78 rfl Tryz.ntmps78 (Nat.le_of_ble_eq_true rfl) ?_;simp only [Ze,Nat.reduceAdd]
  repeat' (first|refine uN ?_|(refine uB ?_;intro b)|(refine uP ?_ ?_<;>(intro h;((try simp only [zs,zq,reduceCtorEq] at h);try exact zx)))|fail)
  refine o_build0 S rfl rfl rfl (fun nb=>?_)
  repeat' (first|refine uN ?_|(refine uB ?_;intro b)|(refine uP ?_ ?_<;>(intro h;((try simp only [zs,zq,reduceCtorEq] at h);try exact zx)))|fail)
  refine wpA S (ys:=xs) Zii (Rd.cons (hR L) _) Qh ec_one ?_ (hby:=by simp only [List.length_nil];omega) (hmax:=by simp only [List.length_nil];omega)
  intro v' c' hv'
  repeat' (first|refine uN ?_|(refine uB ?_;intro b)|(refine uP ?_ ?_<;>(intro h;((try simp only [zs,zq,reduceCtorEq] at h);try exact zx)))|fail)
  exact Xn (LS.refl _) ⟨c',by simpa using hv',rfl⟩
theorem Znc (v:Value) (xs:List Int) (c:List Zm) (L:Zb) (hv:Vec 3 1 ic v xs c) (hl:xs.length≤100000000):HC Tryz.prog 63 [v] (c::L)
  (fun u L' => ∃ c',Vec 3 1 ic u xs c'∧L'=c'::c::L):=by
 have hv0:=hv
 obtain ⟨a,cap,rfl,hcap,hR⟩:=hv.rd Xi
 rcases hv with ⟨he,h0,h1,rfl⟩|⟨b,cap2,sp,he,rfl,hcs,hle,hall⟩
 ·obtain rfl:xs=[]:=List.eq_nil_of_length_eq_zero (by assumption)
  obtain ⟨rfl,-,rfl⟩:=Value.slice.inj he
  simp only [List.length_nil] at hv0 ⊢
  refine Za (fun _ _=>Tryz.call63 _ _) Tryz.func63 rfl Tryz.ntmps63 (Nat.le_of_ble_eq_true rfl) ?_;simp only [Ze,Nat.reduceAdd]
  repeat' (first|refine uN ?_|(refine uB ?_;intro b)|(refine uP ?_ ?_<;>(intro h;((try simp only [zs,zq,reduceCtorEq] at h);try exact zx)))|fail)
  exact Xn (L':=[]::[]::L) (LS.of_eq rfl) ⟨[],Yg,rfl⟩
 ·have hpos:b=b:=rfl
  obtain ⟨rfl,-,rfl⟩:=Value.slice.inj he
  refine Za (fun _ _=>Tryz.call63 _ _) Tryz.func63 rfl Tryz.ntmps63 (Nat.le_of_ble_eq_true rfl) ?_;simp only [Ze,Nat.reduceAdd]
  repeat' (first|refine uN ?_|(refine uB ?_;intro b)|(refine uP ?_ ?_<;>(intro h;((try simp only [zs,zq,reduceCtorEq] at h);try exact zx)))|fail)
  refine wpA S (ys:=xs) Zii (Rd.cons (hR L) _) Xi Zno ?_ (hby:=by simp only [List.length_nil];omega) (hmax:=by simp only [List.length_nil];omega)
  intro v' c' hv'
  repeat' (first|refine uN ?_|(refine uB ?_;intro b)|(refine uP ?_ ?_<;>(intro h;((try simp only [zs,zq,reduceCtorEq] at h);try exact zx)))|fail)
  exact Xn (LS.refl _) ⟨c',by simpa using hv',rfl⟩
def fzero:List Value:=[iv 0,iv 0,iv 0,iv 0,iv 0,.bool false,iv 0,iv 0,iv 0]
theorem Zkw {α:Type} {enc:α→List Value} {sz:Nat} (hsz : ∀ x,(enc x).length=sz) (xs:List α) (sp:List Value) (i:Nat) (h:i≤xs.length):((xs.map enc).flatten++sp).take (i*sz)=((xs.take i).map enc).flatten:=by
 have e:(xs.map enc).flatten=((xs.take i).map enc).flatten++((xs.drop i).map enc).flatten:=by rw [← List.flatten_append,← List.map_append,List.take_append_drop]
 rw [e,List.append_assoc]
 exact take_left (by rw [Z7 hsz,List.length_take,Nat.min_eq_left h])
theorem Zc6 {b i cap l sz:Nat} (h:l<cap):cut (some ⟨b,i,none⟩) cap l sz=some ⟨b,i+l*sz,none⟩:=by
 unfold cut
 rw [if_neg (by omega)]
 simp [Xy]
theorem Zca (v:Value) (xs:List Fr) (c:List Zm) (i j:Int) (L:Zb) (hv:Xs v xs c) (hl:xs.length≤100000000) (h0:0≤i) (h1:i<xs.length) (hj:j=i+1):HC Tryz.prog 73 [v,iv i,iv j] (c::L)
  (fun u L' => ∃ c',Xs u (xs.eraseIdx i.toNat) c'∧L'=c'::L):=by
 subst hj
 obtain ⟨a,cap,rfl,hcap,hR⟩:=hv.rd Zs
 rcases hv with ⟨he,he0,-,rfl⟩|⟨b,cap2,sp,he,rfl,hcs,hle,hall⟩
 ·omega
 obtain ⟨rfl,-,rfl⟩:=Value.slice.inj he
 have hsrc:=fun M=>Zia (enc:=fc) (sz:=9) Zs (cap:=cap-(i+1).toNat) ((hR M).drop (l:=(i+1).toNat) hcap)
 rw [List.length_drop] at hsrc
 have hone:=Zbu (enc:=fc) Uv (xs.drop (i+1).toNat)
 have hcut:=Zkw Zs xs sp i.toNat (by omega)
 have hlen:((xs.map fc).flatten++sp).length=cap*9:=hall
 generalize hm:xs.length-(i+1).toNat=m at hsrc
 have hm2:i.toNat+m+1=xs.length:=by omega
 have hnl:(((xs.drop (i+1).toNat).map fc).flatten).length=m*9:=by rw [Z7 Zs,List.length_drop,hm]
 have hE:((xs.take i.toNat).map fc).flatten++((xs.drop (i+1).toNat).map fc).flatten=((xs.eraseIdx i.toNat).map fc).flatten:=by
  rw [List.eraseIdx_eq_take_drop_succ,List.map_append,List.flatten_append]
  congr 4
  omega
 have hel:(xs.eraseIdx i.toNat).length=i.toNat+m:=by rw [List.length_eraseIdx];split<;>omega
 refine Za (fun _ _=>Tryz.call73 _ _) Tryz.func73 rfl Tryz.ntmps73 (Nat.le_of_ble_eq_true rfl) ?_;simp only [Ze,Nat.reduceAdd]
 repeat' (first|refine uN ?_|refine Z0 S ?_|(refine uP ?_ ?_<;>(intro h;((try simp only [zs,zq,reduceCtorEq] at h);try exact zx)))|refine da 101 ?_|fail)
 refine Vb (qS3 S) ?_
 repeat' (first|refine uN ?_|refine Z0 S ?_|(refine uP ?_ ?_<;>(intro h;((try simp only [zs,zq,reduceCtorEq] at h);try exact zx)))|refine da 101 ?_|fail)
 have e1:xs.length-(i+1).toNat=m:=hm
 rw [e1]
 refine Zn3 S rfl rfl rfl rfl rfl (hsrc L) hone (by omega) hlen ?_
 rw [hcut,hE]
 generalize hsp:List.drop (i.toNat*9+(((xs.drop (i+1).toNat).map fc).flatten).length) ((xs.map fc).flatten++sp)=spa
 have hsl:spa.length=(cap-(i.toNat+m))*9:=by rw [← hsp,List.length_drop,hlen,hnl];omega
 repeat' (first|refine uN ?_|refine Z0 S ?_|(refine uP ?_ ?_<;>(intro h;((try simp only [zs,zq,reduceCtorEq] at h);try exact zx)))|refine da 101 ?_|fail)
 have e2:cut (some ⟨b,0,none⟩) cap (((i.toNat+m:Nat):Int)).toNat 9=some ⟨b,(i.toNat+m)*9,none⟩:=by rw [Int.toNat_natCast];simpa using Zc6 (b:=b) (i:=0) (cap:=cap) (l:=i.toNat+m) (sz:=9) (by omega)
 have e3:((xs.length:Nat):Int).toNat-(((i.toNat+m:Nat):Int)).toNat=1:=by omega
 have hfl:((xs.eraseIdx i.toNat).map fc).flatten.length=(i.toNat+m)*9:=by rw [Z7 Zs,hel]
 have hfit:(i.toNat+m)*9+1*fzero.length≤(((xs.eraseIdx i.toNat).map fc).flatten++spa).length:=by
  rw [List.length_append,hfl,hsl]
  show _+1*9≤_
  omega
 refine o_clear S (b:=b) (i:=(i.toNat+m)*9) (m:=1) (cap:=cap-(((i.toNat+m:Nat):Int)).toNat) (zs:=fzero) ?_ rfl rfl rfl rfl hfit Xr ?_
 ·show some (Value.slice (cut _ _ _ 9) _ _)=_
  rw [e2,e3]
 have e4:(((xs.eraseIdx i.toNat).map fc).flatten++spa).take ((i.toNat+m)*9)=((xs.eraseIdx i.toNat).map fc).flatten:=take_left hfl
 rw [e4]
 generalize hsp2:List.drop ((i.toNat+m)*9+1*fzero.length) (((xs.eraseIdx i.toNat).map fc).flatten++spa)=spb
 have hs2:spb.length+9=(cap-(i.toNat+m))*9:=by
  rw [← hsp2,List.length_drop,List.length_append,hfl,hsl]
  show _-(_+1*9)+9=_
  omega
 repeat' (first|refine uN ?_|refine Z0 S ?_|(refine uP ?_ ?_<;>(intro h;((try simp only [zs,zq,reduceCtorEq] at h);try exact zx)))|refine da 101 ?_|fail)
 have hfz:((List.replicate 1 fzero).flatten).length=9:=rfl
 refine Xn (LS.refl _) ⟨_,.inr ⟨b,cap,(List.replicate 1 fzero).flatten++spb,by rw [hel],by rw [List.append_assoc],by rw [hfl,hel],by omega,?_⟩,rfl⟩
 rw [List.length_append,List.length_append,hfl,hfz]
 omega
theorem Zoe {ρ:Zr} {L:Zb} {d:Option Tmp} {g:Option (Nat × Bool)} {ty:TypeId} {pos:String} {af:Array Edge} {x y:Operand} {la ca lb cb a b i:Nat} {l l2:List Value} {ts:Array TypeId} (hx:ev ρ x=some (sl a 0 la ca)) (hy:ev ρ y=some (sl b i lb cb)) (ha:Has L a (.cells ⟨l⟩ 131 (0,0))) (hb:Has L b (.cells ⟨l2⟩ 131 (0,0))) (hne:a≠b) (hl2:l2.length≠0) :
  QOp Tryz.prog ⟨d,.call { callee := .value (.func 199),args := #[x,y],argTypes:=ts },ty,pos,af,g⟩ ρ L (.bool false):=
 Ya fun ρe he k w hs=>by
  have h1:=hs.heap ha
  have h2:=hs.heap hb
  have e1:=he x (by simp [Op.operands,Call.operands]) _ hx
  have e2:=he y (by simp [Op.operands,Call.operands]) _ hy
  have hT:=Z9 (S.tyI (t:=34) rfl) rfl
  have hz : ∀ w,(Go.sizeOf 131).run Tryz.prog w = .ok 9 w:=fun w=>Y9 (S.tyI (t:=131) rfl) w
  have hr:(callFunc 199 #[sl a 0 la ca,sl b i lb cb]).run Tryz.prog w = .ok (.value (.bool false)) w:=by
   rw [run_callFunc_extern Tryz.func199 (by kernel_rfl) (by kernel_rfl) (by kernel_rfl) (e:=Extern.SlicesOverlaps.overlaps #[34,34] #[4]) (by kernel_rfl),
    Lib.run_overlaps_apart w 34 4 131 hT 9 hz ⟨a,0,none⟩ ⟨b,i,none⟩ la ca lb cb hne 131 131 l.length l2.length (by simp [World.shape?,h1]) (by simp [World.shape?,h2]) hl2 (frozen_of_row w a _ ⟨l⟩ _ h1) (frozen_of_row w a _ ⟨l⟩ _ h1)]
   rfl
  have e3:=he (.func 199) (by simp [Op.operands,Call.operands]) (.func (.func 199) #[] #[]) rfl
  simp [execOp,resolve,invoke,Deferred.ofValue,e1,e2,e3,hr]
theorem Zqb {xs:List Fr} {e:Fr} {b cap k:Nat} {R:List Value} (hk:k≤xs.length) (hc:xs.length+1≤cap) (hR:R.length+(xs.length+1)*9=cap*9) :
  Xs (sl b 0 (xs.length+1) cap) (xs.take k++e::xs.drop k) [(b,.cells ⟨((xs.take k).map fc).flatten++fc e++((xs.drop k).map fc).flatten++R⟩ 131)]:=by
 have hl:(xs.take k++e::xs.drop k).length=xs.length+1:=by simp;omega
 have hf:(((xs.take k++e::xs.drop k).map fc).flatten)=((xs.take k).map fc).flatten++fc e++((xs.drop k).map fc).flatten:=by simp [List.append_assoc]
 refine .inr ⟨b,cap,R,by rw [hl],by rw [hf],by rw [Z7 Zs],by omega,?_⟩
 rw [List.length_append,Z7 Zs,hl]
 omega
theorem Zi1 (v:Value) (xs:List Fr) (c:List Zm) (i:Int) (e:Fr) (eb:Nat) (L:Zb) (hv:Xs v xs c) (hl:xs.length≤100000000) (h0:1≤i) (h1:i≤xs.length) (hne : ∀ b o,(b,o)∈c→eb≠b):HC Tryz.prog 152 [v,iv i,sl eb 0 1 1] (c::[(eb,.cells ⟨fc e⟩ 131)]::L)
  (fun u L' => ∃ c',Xs u (xs.take i.toNat++e::xs.drop i.toNat) c'∧L'=c'::[(eb,.cells ⟨fc e⟩ 131)]::L):=by
 have hv0:=hv
 obtain ⟨a,cap,rfl,hcap,hR⟩:=hv.rd Zs
 rcases hv with ⟨he,he0,-,rfl⟩|⟨b,cap2,sp,he,rfl,hcs,hle,hall⟩
 ·omega
 obtain ⟨rfl,-,rfl⟩:=Value.slice.inj he
 have hlen:((xs.map fc).flatten++sp).length=cap*9:=hall
 by_cases hin:i=xs.length
 ·have e9:xs.take i.toNat++e::xs.drop i.toNat=xs++[e]:=by
   rw [List.take_of_length_le (by omega),List.drop_of_length_le (by omega)]
  rw [e9]
  refine Za (fun _ _=>Tryz.call152 _ _) Tryz.func152 rfl Tryz.ntmps152 (Nat.le_of_ble_eq_true rfl) ?_;simp only [Ze,Nat.reduceAdd]
  repeat' (first|refine uN ?_|refine Z0 S ?_|(refine uP ?_ ?_<;>(intro h;((try simp only [zs,zq,reduceCtorEq] at h);try exact zx)))|refine da 101 ?_|fail)
  refine wp1 S e hv0 Zs Uv ?_
  intro v' c' hv'
  repeat' (first|refine uN ?_|refine Z0 S ?_|(refine uP ?_ ?_<;>(intro h;((try simp only [zs,zq,reduceCtorEq] at h);try exact zx)))|refine da 101 ?_|fail)
  exact Xn (LS.refl _) ⟨c',hv',rfl⟩
 ·have hne':eb≠b:=hne b _ (List.mem_cons_self)
  have hk:i.toNat<xs.length:=by omega
  generalize hkk:i.toNat=k at hk ⊢
  have hik:i=k:=by omega
  subst hik
  have hA:=Zkw Zs xs sp k (by omega)
  have hAl:((xs.take k).map fc).flatten.length=k*9:=by rw [Z7 Zs,List.length_take,Nat.min_eq_left (by omega)]
  have hFl:((xs.drop k).map fc).flatten.length=(xs.length-k)*9:=by rw [Z7 Zs,List.length_drop]
  have hfe:(fc e).length=9:=rfl
  have hsplit:(xs.map fc).flatten++sp=((xs.take k).map fc).flatten++((xs.drop k).map fc).flatten++sp:=by rw [← List.flatten_append,← List.map_append,List.take_append_drop]
  have hF1:=Zbu (enc:=fc) Uv (xs.drop k)
  have hg:Gets ((xs.map fc).flatten++sp) (k*9) ((xs.drop k).map fc).flatten:=by
   rw [hsplit,← hAl]
   exact Znh _ _ _
  by_cases hroom:xs.length+1≤cap
  ·have c1:cut (some ⟨b,0,none⟩) cap (((k:Nat):Int)+((1:Nat):Int)).toNat 9=some ⟨b,(k+1)*9,none⟩:=by
    rw [show (((k:Nat):Int)+((1:Nat):Int)).toNat=k+1 by omega];simpa using Zc6 (b:=b) (i:=0) (cap:=cap) (l:=k+1) (sz:=9) (by omega)
   have c2:cut (some ⟨b,0,none⟩) cap (((k:Nat):Int)).toNat 9=some ⟨b,k*9,none⟩:=by
    rw [Int.toNat_natCast];simpa using Zc6 (b:=b) (i:=0) (cap:=cap) (l:=k) (sz:=9) (by omega)
   refine Za (fun _ _=>Tryz.call152 _ _) Tryz.func152 rfl Tryz.ntmps152 (Nat.le_of_ble_eq_true rfl) ?_;simp only [Ze,Nat.reduceAdd]
   repeat' (first|refine uN ?_|refine Z0 S ?_|(refine uP ?_ ?_<;>(intro h;((try simp only [zs,zq,reduceCtorEq] at h);try exact zx)))|refine da 101 ?_|fail)
   refine Vb (qCap S) ?_
   repeat' (first|refine uN ?_|refine Z0 S ?_|(refine uP ?_ ?_<;>(intro h;((try simp only [zs,zq,reduceCtorEq] at h);try exact zx)))|refine da 101 ?_|fail)
   refine Vb (Zoe rfl (y := .tmp 66) (b:=b) (i:=(k+1)*9) (lb:=((xs.length:Int)+((1:Nat):Int)).toNat-(((k:Nat):Int)+((1:Nat):Int)).toNat) (cb:=cap-(((k:Nat):Int)+((1:Nat):Int)).toNat) ?_ (Zc Zh) Zh hne' ?_) ?_
   ·show some (Value.slice (cut _ _ _ 9) _ _)=_
    rw [c1]
   ·rw [hlen];omega
   repeat' (first|refine uN ?_|refine Z0 S ?_|(refine uP ?_ ?_<;>(intro h;((try simp only [zs,zq,reduceCtorEq] at h);try exact zx)))|refine da 101 ?_|fail)
   refine Zer S (b:=b) (i:=(k+1)*9) (len:=((xs.length:Int)+((1:Nat):Int)).toNat-(((k:Nat):Int)+((1:Nat):Int)).toNat) (cap:=cap-(((k:Nat):Int)+((1:Nat):Int)).toNat) (a:=some ⟨b,k*9,none⟩) (ns:=((xs.length:Int)+((1:Nat):Int)).toNat-(((k:Nat):Int)).toNat) (cap2:=cap-(((k:Nat):Int)).toNat) (k0:=xs.length-k) (new:=((xs.drop k).map fc).flatten) ?_ ?_ rfl rfl rfl ?_ hFl hF1 (.inr ⟨b,k*9,_,_,_,rfl,Zh,hg⟩) ?_ Xr ?_
   ·show some (Value.slice (cut _ _ _ 9) _ _)=_
    rw [c1]
   ·show some (Value.slice (cut _ _ _ 9) _ _)=_
    rw [c2]
   ·show (xs.length-k:Nat)=min _ _;omega
   ·rw [hFl,hlen];omega
   repeat' (first|refine uN ?_|refine Z0 S ?_|(refine uP ?_ ?_<;>(intro h;((try simp only [zs,zq,reduceCtorEq] at h);try exact zx)))|refine da 101 ?_|fail)
   have hT:((xs.map fc).flatten++sp).take ((k+1)*9)=((xs.take k).map fc).flatten++(((xs.map fc).flatten++sp).drop (k*9)).take 9:=by
    rw [← hA,show (k+1)*9=k*9+9 by omega,List.take_add]
   generalize hR2:((xs.map fc).flatten++sp).drop ((k+1)*9+((xs.drop k).map fc).flatten.length)=R2
   have hR2l:R2.length+(xs.length+1)*9=cap*9:=by rw [← hR2,List.length_drop,hlen,hFl];omega
   generalize hB9:(((xs.map fc).flatten++sp).drop (k*9)).take 9=B9 at hT
   have hB9l:B9.length=9:=by rw [← hB9,List.length_take,List.length_drop,hlen];omega
   rw [hT]
   refine Zer S (b:=b) (i:=k*9) (len:=((xs.length:Int)+((1:Nat):Int)).toNat-(((k:Nat):Int)).toNat) (cap:=cap-(((k:Nat):Int)).toNat) (a:=some ⟨eb,0,none⟩) (ns:=1) (cap2:=1) (k0:=1) (new:=fc e) ?_ rfl rfl rfl rfl ?_ rfl rfl (.inr ⟨eb,0,_,_,_,rfl,Zc Zh,Zaw _⟩) ?_ Xr ?_
   ·show some (Value.slice (cut _ _ _ 9) _ _)=_
    rw [c2]
   ·show (1:Nat)=min _ _;omega
   ·simp only [List.length_append,hAl,hB9l,hFl,hfe];omega
   have hfin:(((xs.take k).map fc).flatten++B9++((xs.drop k).map fc).flatten++R2).take (k*9)++fc e++(((xs.take k).map fc).flatten++B9++((xs.drop k).map fc).flatten++R2).drop (k*9+(fc e).length)=((xs.take k).map fc).flatten++fc e++((xs.drop k).map fc).flatten++R2:=by
    simp only [List.append_assoc]
    rw [take_left hAl,hfe,← hAl,← List.drop_drop,List.drop_left,← hB9l,List.drop_left]
   rw [hfin]
   repeat' (first|refine uN ?_|refine Z0 S ?_|(refine uP ?_ ?_<;>(intro h;((try simp only [zs,zq,reduceCtorEq] at h);try exact zx)))|refine da 101 ?_|fail)
   have hn1:((xs.length:Int)+((1:Nat):Int)).toNat=xs.length+1:=by omega
   rw [hn1]
   exact Xn (LS.refl _) ⟨_,Zqb (by omega) hroom hR2l,rfl⟩
  ·refine Za (fun _ _=>Tryz.call152 _ _) Tryz.func152 rfl Tryz.ntmps152 (Nat.le_of_ble_eq_true rfl) ?_;simp only [Ze,Nat.reduceAdd]
   repeat' (first|refine uN ?_|refine Z0 S ?_|(refine uP ?_ ?_<;>(intro h;((try simp only [zs,zq,reduceCtorEq] at h);try exact zx)))|refine da 101 ?_|fail)
   refine Vb (qCap S) ?_
   repeat' (first|refine uN ?_|refine Z0 S ?_|(refine uP ?_ ?_<;>(intro h;((try simp only [zs,zq,reduceCtorEq] at h);try exact zx)))|refine da 101 ?_|fail)
   refine Zn4 S (m:=xs.length+1-k) (zs:=fzero) (l:=(xs.map fc).flatten++sp) rfl ?_ rfl rfl rfl rfl rfl rfl rfl rfl rfl Zh ?_ ?_ ?_ ?_ ?_
   ·show some (Value.int .i64 _)=some (Value.int .i64 _)
    congr 2
    omega
   ·rw [hlen];show (((k:Nat):Int)).toNat*9≤_;omega
   ·show _<(((k:Nat):Int)).toNat+_;omega
   ·show ((((k:Nat):Int)).toNat+_)*72≤_;omega
   ·show (((k:Nat):Int)).toNat+_≤_;omega
   intro nb cap' hcap'
   repeat' (first|refine uN ?_|refine Z0 S ?_|(refine uP ?_ ?_<;>(intro h;((try simp only [zs,zq,reduceCtorEq] at h);try exact zx)))|refine da 101 ?_|fail)
   have d1:cut (some ⟨nb,0,none⟩) cap' (((k:Nat):Int)).toNat 9=some ⟨nb,k*9,none⟩:=by
    rw [Int.toNat_natCast];simpa using Zc6 (b:=nb) (i:=0) (cap:=cap') (l:=k) (sz:=9) (by omega)
   have d2:cut (some ⟨nb,0,none⟩) cap' (((k:Nat):Int)+((1:Nat):Int)).toNat 9=some ⟨nb,(k+1)*9,none⟩:=by
    rw [show (((k:Nat):Int)+((1:Nat):Int)).toNat=k+1 by omega];simpa using Zc6 (b:=nb) (i:=0) (cap:=cap') (l:=k+1) (sz:=9) (by omega)
   have c2:cut (some ⟨b,0,none⟩) cap (((k:Nat):Int)).toNat 9=some ⟨b,k*9,none⟩:=by
    rw [Int.toNat_natCast];simpa using Zc6 (b:=b) (i:=0) (cap:=cap) (l:=k) (sz:=9) (by omega)
   have hA':((xs.map fc).flatten++sp).take ((((k:Nat):Int)).toNat*9)=((xs.take k).map fc).flatten:=hA
   rw [hA']
   have hZl:((List.replicate (cap'-(((k:Nat):Int)).toNat) fzero).flatten).length=(cap'-k)*9:=by
    rw [Int.toNat_natCast]
    simp [List.length_flatten,List.map_replicate,List.sum_replicate_nat,fzero]
   generalize (List.replicate (cap'-(((k:Nat):Int)).toNat) fzero).flatten=Z at hZl
   refine Zer S (b:=nb) (i:=k*9) (len:=(((k:Nat):Int)).toNat+(xs.length+1-k)-(((k:Nat):Int)).toNat) (cap:=cap'-(((k:Nat):Int)).toNat) (a:=some ⟨eb,0,none⟩) (ns:=1) (cap2:=1) (k0:=1) (new:=fc e) ?_ rfl rfl rfl rfl ?_ rfl rfl (.inr ⟨eb,0,_,_,_,rfl,Zc (Zc Zh),Zaw _⟩) ?_ Xr ?_
   ·show some (Value.slice (cut _ _ _ 9) _ _)=_
    rw [d1]
   ·show (1:Nat)=min _ _;omega
   ·simp only [List.length_append,hAl,hZl,hfe];omega
   rw [take_left hAl]
   have hz1:(((xs.take k).map fc).flatten++Z).drop (k*9+(fc e).length)=Z.drop 9:=by
    rw [hfe,← hAl,← List.drop_drop,List.drop_left]
   rw [hz1]
   have hZ1:(Z.drop 9).length+(k+1)*9=cap'*9:=by rw [List.length_drop,hZl];omega
   generalize Z.drop 9=Z1 at hZ1
   repeat' (first|refine uN ?_|refine Z0 S ?_|(refine uP ?_ ?_<;>(intro h;((try simp only [zs,zq,reduceCtorEq] at h);try exact zx)))|refine da 101 ?_|fail)
   refine Zer S (b:=nb) (i:=(k+1)*9) (len:=(((k:Nat):Int)).toNat+(xs.length+1-k)-(((k:Nat):Int)+((1:Nat):Int)).toNat) (cap:=cap'-(((k:Nat):Int)+((1:Nat):Int)).toNat) (a:=some ⟨b,k*9,none⟩) (ns:=xs.length-(((k:Nat):Int)).toNat) (cap2:=cap-(((k:Nat):Int)).toNat) (k0:=xs.length-k) (new:=((xs.drop k).map fc).flatten) ?_ ?_ rfl rfl rfl ?_ hFl hF1 (.inr ⟨b,k*9,_,_,_,rfl,Zc Zh,hg⟩) ?_ Xr ?_
   ·show some (Value.slice (cut _ _ _ 9) _ _)=_
    rw [d2]
   ·show some (Value.slice (cut _ _ _ 9) _ _)=_
    rw [c2]
   ·show (xs.length-k:Nat)=min _ _;omega
   ·simp only [List.length_append,hAl,hfe,hFl];omega
   have hAe:(((xs.take k).map fc).flatten++fc e).length=(k+1)*9:=by rw [List.length_append,hAl,hfe];omega
   rw [take_left hAe]
   generalize hR2:(((xs.take k).map fc).flatten++fc e++Z1).drop ((k+1)*9+((xs.drop k).map fc).flatten.length)=R2
   have hR2l:R2.length+(xs.length+1)*9=cap'*9:=by rw [← hR2,List.length_drop,List.length_append,hAe,hFl];omega
   repeat' (first|refine uN ?_|refine Z0 S ?_|(refine uP ?_ ?_<;>(intro h;((try simp only [zs,zq,reduceCtorEq] at h);try exact zx)))|refine da 101 ?_|fail)
   have hn1:(((k:Nat):Int)).toNat+(xs.length+1-k)=xs.length+1:=by omega
   rw [hn1]
   exact Xn (LS.p0 (LS.c (LS.refl _))) ⟨_,Zqb (by omega) (by omega) hR2l,rfl⟩
end Go.HL
end

/-! WoB -/
section
namespace Go.HL
open Go Go.Proofs
def pk (p:Int × Int):Value := .agg ⟨[iv p.1,iv p.2]⟩
theorem fl_pair:Un Tryz.prog 8 133=some [2,2]:=by kernel_rfl
theorem Zk4:Zg3 Tryz.prog 133=true:=by kernel_rfl
theorem pl_int:Tryz.prog.plainKey 3=true:=by kernel_rfl
theorem Zfi:KeyOk (α:=Int × Int) Tryz.prog 133 pk:=by
 have hu:Tryz.prog.underlying 133=some (.array 2 3):=by kernel_rfl
 have hi:=Zdj (S.tyI (t:=3) rfl) rfl
 have hz : ∀ w,(Go.sizeOf 3).run Tryz.prog w = .ok 1 w:=fun w=>Y9 (S.tyI (t:=3) rfl) w
 have heq : ∀ (w:World) (a b:Int × Int),(Op.equal 133 (pk a) (pk b)).run Tryz.prog w = .ok (decide (a=b)) w:=fun w a b=>by
  have:=Zkr 8 9992 133 [2,2] [iv a.1,iv a.2] [iv b.1,iv b.2] (pk a) (pk b) (decide (a=b)) w fl_pair (.inl ⟨Zk4,rfl⟩) (.inl ⟨Zk4,rfl⟩) (by
   obtain ⟨a1,a2⟩:=a
   obtain ⟨b1,b2⟩:=b
   simp [Zbi,iv,Zk8,Prod.mk.injEq])
  exact this
 refine ⟨fun em w a=>?_,fun w a es l hE=>?_,fun w a=>?_⟩
 ·have hp : ∀ i,i<2 → ∃ v,(part 3 ⟨[iv a.1,iv a.2]⟩ i).run Tryz.prog w = .ok (iv v) w:=fun i h=>by
   match i,h with
   | 0,_=>exact ⟨a.1,run_part_plain w pl_int rfl⟩
   | 1,_=>exact ⟨a.2,run_part_plain w pl_int rfl⟩
  have hc : ∀ v:Int,(Instr.checkKey em 9999 3 (iv v)).run Tryz.prog w = .ok () w:=fun v=>MapKept.run_checkKey hi (by simp only [MapKept.IsKey,iv];rfl) em 9998
  obtain ⟨v0,h0⟩:=hp 0 (by omega)
  obtain ⟨v1,h1⟩:=hp 1 (by omega)
  show (Instr.checkKey em (9999+1) _ _).run _ w=_
  rw [Instr.checkKey]
  simp only [pk,Sem.run_bind,run_underlying hu,Result.andThen_ok]
  simp only [Std.Legacy.Range.forIn_eq_forIn_range',Std.Legacy.Range.size,Nat.sub_zero,Nat.add_one_sub_one,Nat.div_one]
  simp only [List.range',List.forIn_cons,List.forIn_nil,Sem.run_bind,hz,Result.andThen_ok,Nat.zero_mul,Nat.zero_add,Nat.one_mul,Nat.mul_one,h0,h1,hc,Sem.run_pure]
 ·rw [run_findKey_eq w (by rw [hu]) (pk a) es]
  have key : ∀ (es:List MapEntry) (l:List ((Int × Int) × Bool)) (i:Nat),Za5 pk es l→(Instr.findAsking 133 (pk a) es i).run Tryz.prog w = .ok (Ve a l i) w:=by
   intro es
   induction es with
   | nil =>
    intro l i h
    cases l with
    | nil=>simp [Instr.findAsking,Ve]
    | cons p r=>simp [Za5] at h
   | cons e es ih =>
    intro l i h
    cases l with
    | nil=>simp [Za5] at h
    | cons p r =>
     obtain ⟨x,b⟩:=p
     simp only [Za5,List.map_cons,List.cons.injEq,Prod.mk.injEq] at h
     obtain ⟨⟨h1,h2⟩,h3⟩:=h
     simp only [Instr.findAsking,h1,Sem.run_bind,heq,Result.andThen_ok,Ve]
     by_cases hax:a=x
     ·subst hax;simp [h2]
     ·simp [hax,ih r (i+1) h3]
  exact key es l 0 hE
 ·have hs:Instr.sameBits 10000 (pk a) (pk a)=true:=by
   show Instr.sameBits (9999+1) (.agg _) (.agg _)=true
   rw [Instr.sameBits]
   simp [pk,Instr.sameBits,iv]
  simp [Instr.keyThatStays,hs]
set_option maxRecDepth 100000
section r
variable {n:Nat} {ops:List Oper} {Q:Exit→Zr→Zb→Prop} {rest:List Oper} {ρ:Zr} {L:Zb} {ty:TypeId} {pos:String} {af:Array Edge}
theorem qmP {d:Option Tmp} {g:Option (Nat × Bool)} {r:Nat} {x y:Operand} {es:List MapEntry} {ck:Nat} {f:Int × Int→Bool} {a b:Int} (h00:Y6 ρ=true:=by exact rfl) (hx:ev ρ x=some (.map (some r)):=by exact rfl) (hy:ev ρ y=some (.agg ⟨[iv a,iv b]⟩):=by exact rfl)
  {s0 b0:Nat} (ht:Zt S.ty 107=some ⟨8,133,4,s0,b0⟩:=by exact rfl) (hz:Zt S.zr 4=some (.bool false):=by exact rfl) (hb:Has L r (.map ⟨es⟩ ck):=by (repeat (first|assumption|exact Zh|exact Yi (by assumption)|apply Xq|apply Zc))) (hF:Zw pk es f:=by assumption) :
  QOp Tryz.prog ⟨d,.lookup 107 x y false,ty,pos,af,g⟩ ρ L (.bool (f (a,b))):=by
 have hy':ev ρ y=some (pk (a,b)):=hy
 exact q_mapB S (α:=Int × Int) (key:=pk) (a:=(a,b)) Zfi hx hy' ht hz hb hF
theorem wmP {r ck:Nat} {x y z:Operand} {es:List MapEntry} {f:Int × Int→Bool} {a b:Int} {v:Bool} (hF:Zw pk es f) (h : ∀ es' ck',Zw pk es' (fun x=>if x=(a,b) then v else f x)→HO Tryz.prog n ops Q rest ρ ([(r,.map ⟨es'⟩ ck')]::L)) (h00:Y6 ρ=true:=by exact rfl) (hx:ev ρ x=some (.map (some r)):=by exact rfl) (hy:ev ρ y=some (.agg ⟨[iv a,iv b]⟩):=by exact rfl) (hzz:ev ρ z=some (.bool v):=by exact rfl) {s0 b0:Nat} (ht:Zt S.ty 107=some ⟨8,133,4,s0,b0⟩:=by exact rfl) :
  HO Tryz.prog n ops Q (⟨none,.mapUpdate 107 x y z,ty,pos,af,none⟩::rest) ρ ([(r,.map ⟨es⟩ ck)]::L):=by
 have hy':ev ρ y=some (pk (a,b)):=hy
 exact o_mapB S (α:=Int × Int) (key:=pk) (a:=(a,b)) (b:=v) Zfi hx hy' hzz ht hF h
end r
end Go.HL
end
