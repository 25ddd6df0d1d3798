/- Texts laid into one, without what the claim does not use. Conditions: none. -/
import Derived.WalkKit
import Derived.WalkSpells
import Derived.WalkLawsBesides
import Derived.Deep.Quiet
import Derived.KernelRfl
import Derived.Test.YtkookaogdkdegaaGreatDoorProg
set_option linter.unusedVariables false
set_option linter.unusedSimpArgs false
/-! HL -/
section
namespace Go.HL
open Go

abbrev Z5:=List (Nat × Value)
abbrev Zr:=Nat × Obj
abbrev Zb:=List (List Zr)
abbrev Zlf:=Os × Array (Nat × ByteArray) × (Nat→Question→Nat)

def lk:Z5→Nat→Option Value
 | [],_=>none
 | (t,v)::r,x=>bif Nat.beq t x then some v else lk r x

def ev (ρ:Z5):Operand→Option Value
 | .tmp t=>lk ρ t
 | .const v=>some v
 | .global g=>some (.pointer (some ⟨g,0,none⟩))
 | .func f=>some (.func (.func f) #[] #[])

def Zlm (ρ:Z5):List Operand→Option (List Value)
 | []=>some []
 | x::r=>match ev ρ x,Zlm ρ r with
  | some v,some vs=>some (v::vs)
  | _,_=>none

structure Sat (k:Zlf) (w:World) (L:Zb):Prop where
 os:w.os=k.1
 out:w.output=k.2.1
 tape:w.tape=k.2.2
 has : ∀ p∈L.flatten,w.heap[p.1]? = some p.2
 nodup:(L.flatten.map (·.1)).Nodup

structure Agr (n:Nat) (a:Act) (ρ:Z5):Prop where
 size:a.tmps.size=n
 defers:a.defers=[]
 get : ∀ t v,lk ρ t=some v→a.tmps[t]? = some v

def post (k:Zlf) (n:Nat) (Q:Exit→Z5→Zb→Prop):Exit→Act→World→Prop:=
 fun e a w => ∃ ρ L,Agr n a ρ∧Sat k w L∧Q e ρ L

def HW (P:Program) (n:Nat) (c:Code) (Q:Exit→Z5→Zb→Prop) (ρ:Z5) (L:Zb):Prop:=
 ∀ k w a,Sat k w L→Agr n a ρ→c.wp P (post k n Q) a w

def HO (P:Program) (n:Nat) (ops:List Oper) (Q:Exit→Z5→Zb→Prop) (l:List Oper) (ρ:Z5) (L:Zb):Prop:=
 ∀ k w a,Sat k w L→Agr n a ρ→wpList P ops.toArray (post k n Q) l a w

def Ziw (P:Program) (f:Nat):Prop := ∀ args w,(callFunc f args).run P w = .ok (.enter f args) w

def HC (P:Program) (f:Nat) (args:List Value) (L:Zb) (Q:Value→Zb→Prop):Prop:=
 Ziw P f ∧ ∀ k w,Sat k w L→Calls P f ⟨args⟩ w fun e w' => ∃ v L',e = .returned v∧Sat k w' L'∧Q v L'

theorem HC.mono {P:Program} {f:Nat} {args:List Value} {L:Zb} {Q Q':Value→Zb→Prop} (h:HC P f args L Q) (hq : ∀ v L',Q v L'→Q' v L'):HC P f args L Q':=
 ⟨h.1,fun k w hs=>(h.2 k w hs).mono fun e w' ⟨v,L',he,hs',hq'⟩=>⟨v,L',he,hs',hq v L' hq'⟩⟩

/-! ### the environment -/
theorem Uh (t:Nat) (v:Value) (ρ:Z5):lk ((t,v)::ρ) t=some v:=by simp [lk]
theorem Ui {t x:Nat} (v:Value) (ρ:Z5) (h:t≠x):lk ((t,v)::ρ) x=lk ρ x:=by
 simp only [lk]
 have:Nat.beq t x=false:=by
  cases hb:Nat.beq t x with
  | false=>rfl
  | true=>exact absurd (Nat.eq_of_beq_eq_true hb) h
 rw [this];rfl

theorem Agr.put {n:Nat} {a:Act} {ρ:Z5} (h:Agr n a ρ) {d:Nat} (hd:d<n) (v:Value):Agr n (a.put (some d) v) ((d,v)::ρ):=by
 refine ⟨by simp [Act.put,h.size],h.defers,fun t x hx=>?_⟩
 by_cases e:d=t
 ·subst e
  rw [Uh] at hx
  cases hx
  simp [Act.put,Array.getElem?_setIfInBounds,h.size,hd]
 ·rw [Ui _ _ e] at hx
  simp [Act.put,Array.getElem?_setIfInBounds,e,h.get t x hx]

theorem Agr.none {n:Nat} {a:Act} {ρ:Z5} (h:Agr n a ρ) (v:Value):Agr n (a.put none v) ρ:=h

theorem Agr.ev {n:Nat} {a:Act} {ρ:Z5} (h:Agr n a ρ) {x:Operand} {v:Value} (hv:ev ρ x=some v):a.eval x=v:=by
 cases x with
 | tmp t=>simp [Act.eval,h.get t v hv]
 | const c=>simpa [HL.ev,Act.eval] using hv
 | global g=>simpa [HL.ev,Act.eval] using hv
 | func f=>simpa [HL.ev,Act.eval] using hv

def Sub:Z5→Z5→Prop
 | [],_=>True
 | (t,v)::r,ρ=>lk ρ t=some v∧Sub r ρ

theorem Agr.sub {n:Nat} {a:Act} {ρ:Z5} (h:Agr n a ρ) : ∀ {ρ':Z5},Sub ρ' ρ→Agr n a ρ'
 | [],_=>⟨h.size,h.defers,fun t v hv=>by simp [lk] at hv⟩
 | (t,v)::r,hs=>by
  have ih:=Agr.sub h hs.2
  refine ⟨h.size,h.defers,fun x u hx=>?_⟩
  by_cases e:t=x
  ·subst e
   rw [Uh] at hx
   cases hx
   exact h.get _ _ hs.1
  ·rw [Ui _ _ e] at hx
   exact ih.get x u hx

/-! ### control -/
section control
variable {P:Program} {n:Nat} {Q:Exit→Z5→Zb→Prop} {ρ:Z5} {L:Zb}

def Z8 (P:Program) (n:Nat) (y:Code) (Q:Exit→Z5→Zb→Prop):Exit→Z5→Zb→Prop
 | .normal,ρ,L=>HW P n y Q ρ L
 | e,ρ,L=>Q e ρ L
def Z0 (id:Nat) (Q:Exit→Z5→Zb→Prop):Exit→Z5→Zb→Prop
 | .exit i,ρ,L=>if i=id then Q .normal ρ L else Q (.exit i) ρ L
 | e,ρ,L=>Q e ρ L

theorem HW.mono {c:Code} {Q':Exit→Z5→Zb→Prop} (h:HW P n c Q ρ L) (hq : ∀ e ρ L,Q e ρ L→Q' e ρ L):HW P n c Q' ρ L:=
 fun k w a hs ha=>wp_mono (h k w a hs ha) fun e a' w' ⟨ρ',L',h1,h2,h3⟩=>⟨ρ',L',h1,h2,hq _ _ _ h3⟩

theorem Zjo {x y:Code} (h:HW P n x (Z8 P n y Q) ρ L):HW P n (.seq x y) Q ρ L:=by
 intro k w a hs ha
 refine wp_seq (wp_mono (h k w a hs ha) fun e a' w' ⟨ρ',L',h1,h2,h3⟩=>?_)
 cases e with
 | normal=>exact h3 k w' a' h2 h1
 | exit id=>exact ⟨ρ',L',h1,h2,h3⟩
 | goto l=>exact ⟨ρ',L',h1,h2,h3⟩
 | ret=>exact ⟨ρ',L',h1,h2,h3⟩
 | panic c=>exact ⟨ρ',L',h1,h2,h3⟩
 | outgrown=>exact ⟨ρ',L',h1,h2,h3⟩
theorem hw_block {id:Nat} {c:Code} (h:HW P n c (Z0 id Q) ρ L):HW P n (.block id c) Q ρ L:=by
 intro k w a hs ha
 refine wp_block (wp_mono (h k w a hs ha) fun e a' w' ⟨ρ',L',h1,h2,h3⟩=>?_)
 cases e with
 | exit i =>
  simp only [Z0] at h3
  simp only [Exit.inBlock]
  split
  ·rename_i hi;rw [if_pos hi] at h3;exact ⟨ρ',L',h1,h2,h3⟩
  ·rename_i hi;rw [if_neg hi] at h3;exact ⟨ρ',L',h1,h2,h3⟩
 | normal=>exact ⟨ρ',L',h1,h2,h3⟩
 | goto l=>exact ⟨ρ',L',h1,h2,h3⟩
 | ret=>exact ⟨ρ',L',h1,h2,h3⟩
 | panic c=>exact ⟨ρ',L',h1,h2,h3⟩
 | outgrown=>exact ⟨ρ',L',h1,h2,h3⟩
theorem hw_skip (h:Q .normal ρ L):HW P n .skip Q ρ L:=fun k w a hs ha=>wp_skip ⟨ρ,L,ha,hs,h⟩
theorem hw_exit {id:Nat} (h:Q (.exit id) ρ L):HW P n (.exit id) Q ρ L:=fun k w a hs ha=>wp_exit ⟨ρ,L,ha,hs,h⟩
theorem hw_ret (h:Q .ret ρ L):HW P n .ret Q ρ L:=fun k w a hs ha=>wp_ret ⟨ρ,L,ha,hs,h⟩
theorem hw_true {c:Operand} {x y:Code} {b:Bool} (hc:ev ρ c=some (.bool b)) (hb:b=true) (h:HW P n x Q ρ L):HW P n (.cond c x y) Q ρ L:=
 fun k w a hs ha=>wp_cond_true (ha.ev (hb▸hc)) (h k w a hs ha)
theorem hw_false {c:Operand} {x y:Code} {b:Bool} (hc:ev ρ c=some (.bool b)) (hb:b=false) (h:HW P n y Q ρ L):HW P n (.cond c x y) Q ρ L:=
 fun k w a hs ha=>wp_cond_false (ha.ev (hb▸hc)) (h k w a hs ha)
theorem hw_bool {c:Operand} {x y:Code} {b:Bool} (hc:ev ρ c=some (.bool b)) (ht:b=true→HW P n x Q ρ L) (hf:b=false→HW P n y Q ρ L):HW P n (.cond c x y) Q ρ L:=by
 intro k w a hs ha
 exact wp_cond_split (ha.ev hc) (fun h=>ht h k w a hs ha) (fun h=>hf h k w a hs ha)
theorem Zbb {id:Nat} {l:List Oper} (h:HO P n l Q l ρ L):HW P n (.region id l.toArray false) Q ρ L:=
 fun k w a hs ha=>wp_region_lit (h k w a hs ha)

theorem Zsr {y:Code} (h:HW P n y Q ρ L):Z8 P n y Q .normal ρ L:=h
theorem seqQ_ret {y:Code} (h:Q .ret ρ L):Z8 P n y Q .ret ρ L:=h
theorem Zzi {y:Code} {i:Nat} (h:Q (.exit i) ρ L):Z8 P n y Q (.exit i) ρ L:=h
theorem Zqg {id:Nat} (h:Q .normal ρ L):Z0 id Q .normal ρ L:=h
theorem blkQ_ret {id:Nat} (h:Q .ret ρ L):Z0 id Q .ret ρ L:=h
theorem Zxr {id:Nat} (h:Q .normal ρ L):Z0 id Q (.exit id) ρ L:=by simpa [Z0] using h
theorem Zxq {id i:Nat} (hn:Nat.beq i id=false) (h:Q (.exit i) ρ L):Z0 id Q (.exit i) ρ L:=by
 have:i≠id:=fun e=>by subst e;simp at hn
 simpa [Z0,this] using h

theorem Zgo {c:Code} {ρ':Z5} (h:HW P n c Q ρ' L) (hs:Sub ρ' ρ):HW P n c Q ρ L:=fun k w a hs' ha=>h k w a hs' (ha.sub hs)

theorem Vg : ∀ {l₁ l₂:Zb},List.Sublist l₁ l₂→List.Sublist l₁.flatten l₂.flatten
 | _,_,.slnil=>List.Sublist.refl _
 | _,_,.cons a h=>by
  simp only [List.flatten_cons]
  exact (Vg h).trans (List.sublist_append_right _ _)
 | _,_,.cons_cons a h=>by
  simp only [List.flatten_cons]
  exact (List.append_sublist_append_left a).2 (Vg h)
theorem Sat.sub {k:Zlf} {w:World} {L':Zb} (h:Sat k w L) (hs:List.Sublist L' L):Sat k w L':=
 ⟨h.os,h.out,h.tape,fun p hp=>h.has p ((Vg hs).subset hp),h.nodup.sublist ((Vg hs).map _)⟩
theorem Sat.perm {k:Zlf} {w:World} {L':Zb} (h:Sat k w L) (hs:List.Perm L L'):Sat k w L':=
 ⟨h.os,h.out,h.tape,fun p hp=>h.has p (hs.flatten.mem_iff.2 hp),(hs.flatten.map _).nodup_iff.1 h.nodup⟩
theorem hw_perm {c:Code} {L':Zb} (h:HW P n c Q ρ L') (hs:List.Perm L L'):HW P n c Q ρ L:=fun k w a hs' ha=>h k w a (hs'.perm hs) ha

/-! ### other cuts of the same blocks -/
def LS (a b:List Zr):Prop := ∃ l,List.Perm l a∧List.Sublist l b
theorem LS.refl (a:List Zr):LS a a:=⟨a,.refl _,.refl _⟩
theorem LS.of_eq {a b:List Zr} (h:a=b):LS a b:=h▸LS.refl a
theorem LS.of_perm {a b:List Zr} (h:List.Perm a b):LS a b:=⟨b,h.symm,.refl _⟩
theorem LS.of_sub {a b:List Zr} (h:List.Sublist a b):LS a b:=⟨a,.refl _,h⟩
theorem LS.skip {a b:List Zr} (x:Zr) (h:LS a b):LS a (x::b):=let ⟨l,h1,h2⟩:=h;⟨l,h1,.cons _ h2⟩
theorem LS.both {a b:List Zr} (x:Zr) (h:LS a b):LS (x::a) (x::b):=let ⟨l,h1,h2⟩:=h;⟨x::l,h1.cons x,h2.cons_cons x⟩
theorem LS.skips {a b:List Zr} (c:List Zr) (h:LS a b):LS a (c++b):=let ⟨l,h1,h2⟩:=h;⟨l,h1,h2.trans (List.sublist_append_right _ _)⟩
theorem LS.boths {a b:List Zr} (c:List Zr) (h:LS a b):LS (c++a) (c++b):=let ⟨l,h1,h2⟩:=h;⟨c++l,h1.append_left c,(List.append_sublist_append_left c).2 h2⟩
theorem LS.c {a x:List Zr} {L:Zb} (h:LS a L.flatten):LS a (x::L).flatten:=by rw [List.flatten_cons];exact h.skips x
theorem LS.k {x:List Zr} {A L:Zb} (h:LS A.flatten L.flatten):LS (x::A).flatten (x::L).flatten:=by rw [List.flatten_cons,List.flatten_cons];exact h.boths x
theorem LS.trans {a b c:List Zr} (h:LS a b) (h':LS b c):LS a c:=by
 obtain ⟨l,h1,h2⟩:=h
 obtain ⟨m,h3,h4⟩:=h'
 obtain ⟨l',h5,h6⟩:=List.exists_perm_sublist h2 h3.symm
 exact ⟨l',h5.trans h1,h6.trans h4⟩
theorem Sat.sp {k:Zlf} {w:World} {L L':Zb} (h:Sat k w L) (hf:LS L'.flatten L.flatten):Sat k w L':=by
 obtain ⟨l,hp,hs⟩:=hf
 refine ⟨h.os,h.out,h.tape,fun p hp'=>h.has p (hs.subset (hp.mem_iff.2 hp')),?_⟩
 exact (hp.map _).nodup_iff.1 (h.nodup.sublist (hs.map _))
def Zo {σ:Type} (env:σ→Z5) (heap:σ→Zb) (inv:σ→Prop) (μ:σ→Nat) (m:Nat) (Q:Exit→Z5→Zb→Prop):Exit→Z5→Zb→Prop
 | .normal,ρ,L => ∃ s',Sub (env s') ρ∧LS (heap s').flatten L.flatten∧inv s'∧μ s'<m
 | e,ρ,L=>Q e ρ L
theorem Zp {σ:Type} {c:Code} (env:σ→Z5) (heap:σ→Zb) (inv:σ→Prop) (μ:σ→Nat) (s:σ)
  (hρ:Sub (env s) ρ) (hL:List.Sublist (heap s) L) (hi:inv s)
  (round : ∀ s,inv s→HW P n c (Zo env heap inv μ (μ s) Q) (env s) (heap s)):HW P n (.loop c) Q ρ L:=by
 intro k w a hs ha b kk cs
 have key : ∀ m s,μ s=m→inv s → ∀ a w,Sat k w (heap s)→Agr n a (env s) →
   ∃ e a' w',post k n Q e a' w'∧Arrives P (lone (b.at a (.code c :: .inLoop c::kk)) cs w) b kk cs e a' w':=by
  intro m
  induction m using Nat.strongRecOn with
  | _ m ih =>
   intro s hm hi a w hs ha
   obtain ⟨e,a₁,w₁,⟨ρ₁,L₁,ha₁,hs₁,hq⟩,harr⟩:=round s hi k w a hs ha b (.inLoop c::kk) cs
   cases e with
   | normal =>
    obtain ⟨s',hsub,hL',hi',hlt⟩:=hq
    obtain ⟨e₂,a₂,w₂,hq₂,harr₂⟩:=ih (μ s') (hm▸hlt) s' rfl hi' a₁ w₁ (hs₁.sp hL') (ha₁.sub hsub)
    exact ⟨e₂,a₂,w₂,hq₂,.of_steps (Steps.trans harr (.one step_inLoop)) harr₂⟩
   | exit id=>exact ⟨_,a₁,w₁,⟨ρ₁,L₁,ha₁,hs₁,hq⟩,.pass (x := .inLoop c) rfl (fun _ _ => .inl (by simp)) harr⟩
   | goto l=>exact ⟨_,a₁,w₁,⟨ρ₁,L₁,ha₁,hs₁,hq⟩,.pass (x := .inLoop c) rfl (fun _ _ => .inl (by simp)) harr⟩
   | ret=>exact ⟨_,a₁,w₁,⟨ρ₁,L₁,ha₁,hs₁,hq⟩,.pass (x := .inLoop c) rfl (fun _ _ => .inl (by simp)) harr⟩
   | panic ch=>exact ⟨_,a₁,w₁,⟨ρ₁,L₁,ha₁,hs₁,hq⟩,.pass (x := .inLoop c) rfl (fun _ _ => .inl (by simp)) harr⟩
   | outgrown=>exact ⟨_,a₁,w₁,⟨ρ₁,L₁,ha₁,hs₁,hq⟩,.pass (x := .inLoop c) rfl (fun _ _ => .inl (by simp)) harr⟩
 obtain ⟨e,a',w',hq,harr⟩:=key _ s rfl hi a w (hs.sub hL) (ha.sub hρ)
 exact ⟨e,a',w',hq,.of_steps (.one step_loop) harr⟩
theorem Zyp {σ:Type} {env:σ→Z5} {heap:σ→Zb} {inv:σ→Prop} {μ:σ→Nat} {m:Nat} (h:Q .ret ρ L):Zo env heap inv μ m Q .ret ρ L:=h
theorem Zul {σ:Type} {env:σ→Z5} {heap:σ→Zb} {inv:σ→Prop} {μ:σ→Nat} {m i:Nat} (h:Q (.exit i) ρ L):Zo env heap inv μ m Q (.exit i) ρ L:=h
theorem Zq {σ:Type} {env:σ→Z5} {heap:σ→Zb} {inv:σ→Prop} {μ:σ→Nat} {m:Nat} (s':σ) (h:Sub (env s') ρ) (hL:List.Sublist (heap s') L) (hi:inv s') (hm:μ s'<m):Zo env heap inv μ m Q .normal ρ L:=⟨s',h,LS.of_sub (Vg hL),hi,hm⟩
theorem Zg {σ:Type} {env:σ→Z5} {heap:σ→Zb} {inv:σ→Prop} {μ:σ→Nat} {m:Nat} (s':σ) (h:Sub (env s') ρ) (hL:LS (heap s').flatten L.flatten) (hi:inv s') (hm:μ s'<m):Zo env heap inv μ m Q .normal ρ L:=⟨s',h,hL,hi,hm⟩
end control

/-! ### a function -/
def Xm (P:Program) (fn:Func) (Q:Value→Zb→Prop):Exit→Z5→Zb→Prop
 | .normal,ρ,L | .ret,ρ,L => ∀ (k:Zlf) (w:World) (a:Act),Sat k w L→Agr fn.ntmps a ρ → ∃ v L',(results fn a.tmps).run P w = .ok v w∧Sat k w L'∧Q v L'
 | _,_,_=>False

def Zd:Nat→List Value→Z5
 | _,[]=>[]
 | i,v::r=>(i,v)::Zd (i+1) r

theorem lk_args0 (vs:List Value) : ∀ (i t:Nat) (v:Value),lk (Zd i vs) t=some v→i≤t∧vs[t-i]? = some v:=by
 induction vs with
 | nil=>intro i t v h;simp [Zd,lk] at h
 | cons x r ih =>
  intro i t v h
  simp only [Zd] at h
  by_cases e:i=t
  ·subst e
   rw [Uh] at h
   cases h
   simp
  ·rw [Ui _ _ e] at h
   obtain ⟨h1,h2⟩:=ih (i+1) t v h
   refine ⟨by omega,?_⟩
   rw [show t-i=(t-(i+1))+1 by omega]
   simpa using h2

theorem Za {P:Program} {f:Nat} {fn:Func} {c:Code} {args:List Value} {L:Zb} {Q:Value→Zb→Prop}
  (he:Ziw P f) (hf:P.funcs[f]? = some fn) (hb:fn.body=some c) {n:Nat} (hn:fn.ntmps=n) (hlen:args.length≤n)
  (h:HW P n c (Xm P fn Q) (Zd 0 args) L):HC P f args L Q:=by
 subst hn
 refine ⟨he,fun k w hs=>calls_of_wp hf hb (wp_mono (h k w _ hs ⟨?_,rfl,?_⟩) ?_)⟩
 ·have hlen':args.length≤fn.ntmps:=hlen
  simp;omega
 ·intro t v hv
  obtain ⟨_,h2⟩:=lk_args0 args 0 t v hv
  have hlt:t<args.length:=(List.getElem?_eq_some_iff.1 h2).1
  rw [Array.getElem?_append_left (by simpa using hlt)]
  simpa using h2
 ·intro e a' w' ⟨ρ',L',ha',hs',hq⟩
  cases e with
  | normal =>
   obtain ⟨v,L2,hr,hs2,hq2⟩:=hq k w' a' hs' ha'
   exact ⟨ha'.defers,v,hr,v,L2,rfl,hs2,hq2⟩
  | ret =>
   obtain ⟨v,L2,hr,hs2,hq2⟩:=hq k w' a' hs' ha'
   exact ⟨ha'.defers,v,hr,v,L2,rfl,hs2,hq2⟩
  | exit i=>exact hq.elim
  | goto i=>exact hq.elim
  | panic ch=>exact hq.elim
  | outgrown=>exact hq.elim

section results
variable {P:Program} {fn:Func} {Q:Value→Zb→Prop} {ρ:Z5} {L:Zb}
def ResV (P:Program) (ρ:Z5) (L:Zb):ResultVar→Value→Prop
 | .tmp t,v=>lk ρ t=some v
 | .cell t T,v => ∃ p,lk ρ t=some (.pointer (some p)) ∧ ∀ k w,Sat k w L→(loadVar T p).run P w = .ok v w
def rv (tmps:Array Value):ResultVar→Sem Value
 | .tmp t=>pure (tmps.getD t undef)
 | .cell a t=>do loadVar t (← asAddr (tmps.getD a undef))
theorem Uj (fn:Func) (tmps:Array Value):results fn tmps=(do
 let vs ← fn.results.mapM (rv tmps)
 pure (if h:vs.size=1 then vs[0] else .tuple vs)):=rfl
theorem ResV.run {n:Nat} {r:ResultVar} {v:Value} (h:ResV P ρ L r v) {k:Zlf} {w:World} {a:Act} (hs:Sat k w L) (ha:Agr n a ρ):(rv a.tmps r).run P w = .ok v w:=by
 cases r with
 | tmp t=>simp [rv,ha.get _ _ h]
 | cell t T =>
  obtain ⟨p,hp,hr⟩:=h
  simp [rv,ha.get _ _ hp,asAddr,hr k w hs]
theorem Xb {r:ResultVar} {v:Value} (hr:fn.results = #[r]) (hv:ResV P ρ L r v) {L':Zb} (hL:List.Sublist L' L) (h:Q v L'):Xm P fn Q .ret ρ L:=
 fun k w a hs ha=>⟨v,L',by simp [Uj,hr,hv.run hs ha],hs.sub hL,h⟩
theorem Wb {r s:ResultVar} {x y:Value} (hr:fn.results = #[r,s]) (hx:ResV P ρ L r x) (hy:ResV P ρ L s y) {L':Zb} (hL:List.Sublist L' L)
  (h:Q (.tuple ⟨[x,y]⟩) L'):Xm P fn Q .ret ρ L:=
 fun k w a hs ha=>⟨.tuple ⟨[x,y]⟩,L',by simp [Uj,hr,hx.run hs ha,hy.run hs ha],hs.sub hL,h⟩
end results
end Go.HL
end

/-! HLOps -/
section
namespace Go.HL
open Go

/-! ### the types that a program has, as9 numbers -/
structure TyI where
 kind:Nat   -- 0 other,1 bool,2 int,3 string,4 pointer,5 slice,6 array,7 struct,8 map,9 interface,10 func
 x:Nat
 y:Nat
 size:Nat
 bytes:Nat
 deriving DecidableEq

def Zc0:IntKind→Nat
 | .i8=>0 | .i16=>1 | .i32=>2 | .i64=>3 | .u8=>4 | .u16=>5 | .u32=>6 | .u64=>7
def Zby:Nat→IntKind
 | 0 => .i8|1 => .i16|2 => .i32|3 => .i64|4 => .u8|5 => .u16|6 => .u32|_ => .u64
theorem Zgp (k:IntKind):Zby (Zc0 k)=k:=by cases k<;>rfl

def Zae:TypeDesc→Nat × Nat × Nat
 | .bool=>(1,0,0)
 | .int k=>(2,Zc0 k,0)
 | .string=>(3,0,0)
 | .pointer e=>(4,e,0)
 | .slice e=>(5,e,0)
 | .array n e=>(6,n,e)
 | .struct fs=>(7,fs.size,0)
 | .map k e=>(8,k,e)
 | .interface ms=>(9,ms.size,0)
 | .func ps rs _=>(10,ps.size,rs.size)
 | _=>(0,0,0)
def tyI (P:Program) (t:Nat):Option TyI:=
 match P.underlying t,P.info? t with
 | some d,some i=>some ⟨(Zae d).1,(Zae d).2.1,(Zae d).2.2,i.size,i.bytes⟩
 | _,_=>none
def fldI (P:Program) (s f:Nat):Option Nat:=
 match P.underlying s with
 | some (.struct fs)=>match fs[f]? with
  | some fd=>match P.info? fd.type with
   | some i=>if i.size=0 then none else some fd.offset
   | none=>none
  | none=>none
 | _=>none
def fldT (P:Program) (s f:Nat):Option (Nat × Nat):=
 match P.underlying s with
 | some (.struct fs)=>match fs[f]? with
  | some fd=>some (fd.offset,fd.type)
  | none=>none
 | _=>none
def stI (P:Program) (t:Nat):Option (List (Nat × Nat × Nat)):=
 match P.underlying t with
 | some (.struct fs)=>fs.toList.mapM fun f=>(P.info? f.type).map fun i=>(f.offset,i.size,f.type)
 | _=>none
def zeroI (P:Program) (t:Nat):Option Value:=(P.info? t).bind (·.zero)

def Yh {α:Type}:List (Nat × α)→Nat→Option α
 | [],_=>none
 | (t,v)::r,x=>bif Nat.beq t x then some v else Yh r x
theorem Zb0 {α:Type} {l:List (Nat × α)} {x:Nat} {v:α} (h:Yh l x=some v):(x,v)∈l:=by
 induction l with
 | nil=>simp [Yh] at h
 | cons p r ih =>
  obtain ⟨t,u⟩:=p
  simp only [Yh] at h
  cases hb:Nat.beq t x with
  | true =>
   rw [hb] at h
   cases h
   have:=Nat.eq_of_beq_eq_true hb
   subst this
   exact .head _
  | false=>rw [hb] at h;exact .tail _ (ih h)

def Zji (g:Nat→Option (List Nat)):List Field→Nat→Option (List Nat)
 | [],_=>some []
 | f::r,off=>match g f.type with
  | some l=>if f.name ≠ "_" ∧ f.offset=off∧0<l.length then (match Zji g r (off+l.length) with
   | some m=>some (l++m)
   | none=>none) else none
  | none=>none
def Zav (P:Program):Nat→Nat→Option (List Nat)
 | 0,_=>none
 | d+1,t=>match P.underlying t,P.info? t with
  | some .bool,some i=>if i.size=1 then some [1] else none
  | some (.int _),some i=>if i.size=1 then some [2] else none
  | some .string,some i=>if i.size=1 then some [3] else none
  | some (.struct fs),some i=>if P.stoodInHeld t=true then none else (match Zji (Zav P d) fs.toList 0 with
   | some l=>if i.size=l.length then some l else none
   | none=>none)
  | some (.array n e),some i=>(match Zav P d e with
   | some l=>if i.size=n*l.length∧(P.info? e).map (·.size)=some l.length∧0<l.length then some (List.replicate n l).flatten else none
   | none=>none)
  | _,_=>none
def Zlo (P:Program) (t:Nat):Bool:=match P.underlying t with
 | some (.struct _)=>true
 | some (.array _ _)=>true
 | _=>false
structure Tab (P:Program) where
 ty:List (Nat × TyI)
 fl:List (Nat × Nat × Nat)
 zr:List (Nat × Value)
 st:List (Nat × List (Nat × Nat × Nat))
 eq:List (Nat × List Nat)
 ty_ok:(ty.all fun p=>decide (tyI P p.1=some p.2))=true
 fl_ok:(fl.all fun p=>decide (fldI P (p.1 / 64) (p.1 % 64)=some p.2.1) && decide (fldT P (p.1 / 64) (p.1 % 64)=some p.2))=true
 zr_ok : ∀ p∈zr,zeroI P p.1=some p.2
 st_ok:(st.all fun p=>decide (stI P p.1=some p.2))=true
 eq_ok:(eq.all fun p=>decide (Zav P 8 p.1=some p.2) && Zlo P p.1 && !(P.eqGuardType P.depth p.1))=true
 mixed:P.follows .mixedOrders=true

section tab
variable {P:Program} (S:Tab P)
theorem Tab.tyI {t:Nat} {i:TyI} (h:Yh S.ty t=some i):HL.tyI P t=some i:=by
 have:=List.all_eq_true.1 S.ty_ok _ (Zb0 h)
 exact of_decide_eq_true this
theorem Tab.fldI {s f o ft:Nat} (h:Yh S.fl (s*64+f)=some (o,ft)) (hf:Nat.blt f 64=true):HL.fldI P s f=some o∧HL.fldT P s f=some (o,ft):=by
 have hf':f<64:=Nat.le_of_ble_eq_true hf
 have:=List.all_eq_true.1 S.fl_ok _ (Zb0 h)
 simp only [Bool.and_eq_true,decide_eq_true_eq] at this
 have e1:(s*64+f) / 64=s:=by omega
 have e2:(s*64+f) % 64=f:=by omega
 rw [e1,e2] at this
 exact this
theorem Tab.stI {t:Nat} {i:List (Nat × Nat × Nat)} (h:Yh S.st t=some i):HL.stI P t=some i:=by
 have:=List.all_eq_true.1 S.st_ok _ (Zb0 h)
 exact of_decide_eq_true this
theorem Tab.zeroI {t:Nat} {v:Value} (h:Yh S.zr t=some v):HL.zeroI P t=some v:=S.zr_ok _ (Zb0 h)
end tab

section tyfacts
variable {P:Program} {t:Nat} {i:TyI}
theorem Wd (h:tyI P t=some i) : ∃ d j,P.underlying t=some d∧P.info? t=some j∧Zae d=(i.kind,i.x,i.y)∧j.size=i.size∧j.bytes=i.bytes:=by
 unfold tyI at h
 split at h
 ·rename_i d j hd hj
  cases h
  exact ⟨d,j,hd,hj,rfl,rfl,rfl⟩
 ·cases h
theorem X7 (h:tyI P t=some i) (w:World):(sizeOf t).run P w = .ok i.size w:=by
 obtain ⟨d,j,hd,hj,_,hs,_⟩:=Wd h
 simp [sizeOf,typeInfo,hj,hs]
theorem Zzs (h:tyI P t=some i) (hk:Nat.beq i.kind 6=false) (hk':Nat.beq i.kind 7=false) (w:World):(isAgg t).run P w = .ok false w:=by
 obtain ⟨d,j,hd,hj,he,hs,_⟩:=Wd h
 have k6:i.kind≠6:=fun e=>by rw [e] at hk;cases hk
 have k7:i.kind≠7:=fun e=>by rw [e] at hk';cases hk'
 cases d<;>simp [isAgg,run_underlying hd]<;>simp [Zae] at he<;>omega
theorem ty_agg (h:tyI P t=some i) (hk:(Nat.beq i.kind 6 || Nat.beq i.kind 7)=true) (w:World):(isAgg t).run P w = .ok true w:=by
 obtain ⟨d,j,hd,hj,he,hs,_⟩:=Wd h
 have k:i.kind=6∨i.kind=7:=by
  simp only [Bool.or_eq_true] at hk
  exact hk.imp Nat.eq_of_beq_eq_true Nat.eq_of_beq_eq_true
 cases d<;>simp [isAgg,run_underlying hd]<;>simp [Zae] at he<;>omega
theorem Zgz (h:tyI P t=some i) (hk:i.kind=2):P.underlying t=some (.int (Zby i.x)):=by
 obtain ⟨d,j,hd,hj,he,hs,_⟩:=Wd h
 rw [hd]
 cases d<;>simp [Zae,hk] at he
 rw [← he.1,Zgp]
theorem Zw9 (h:tyI P t=some i) (hk:i.kind=1):P.underlying t=some .bool:=by
 obtain ⟨d,j,hd,hj,he,hs,_⟩:=Wd h
 rw [hd]
 cases d<;>simp [Zae,hk] at he
 rfl
theorem Uv (h:tyI P t=some i) (hk:i.kind=3):P.underlying t=some .string:=by
 obtain ⟨d,j,hd,hj,he,hs,_⟩:=Wd h
 rw [hd]
 cases d<;>simp [Zae,hk] at he
 rfl
theorem Zcb (h:tyI P t=some i) (hk:i.kind=4):P.underlying t=some (.pointer i.x):=by
 obtain ⟨d,j,hd,hj,he,hs,_⟩:=Wd h
 rw [hd]
 cases d<;>simp [Zae,hk] at he
 rw [he.1]
theorem Yy (h:tyI P t=some i) (hk:i.kind=5):P.underlying t=some (.slice i.x):=by
 obtain ⟨d,j,hd,hj,he,hs,_⟩:=Wd h
 rw [hd]
 cases d<;>simp [Zae,hk] at he
 rw [he.1]
theorem Zk5 (h:tyI P t=some i) (hk:i.kind=6):P.underlying t=some (.array i.x i.y):=by
 obtain ⟨d,j,hd,hj,he,hs,_⟩:=Wd h
 rw [hd]
 cases d<;>simp [Zae,hk] at he
 rw [he.1,he.2]
theorem Zpn (h:tyI P t=some i) (hk:i.kind=8):P.underlying t=some (.map i.x i.y):=by
 obtain ⟨d,j,hd,hj,he,hs,_⟩:=Wd h
 rw [hd]
 cases d<;>simp [Zae,hk] at he
 rw [he.1,he.2]
theorem Znl (h:tyI P t=some i):(P.underlying t).isSome=true:=by
 obtain ⟨d,j,hd,hj,he,hs,_⟩:=Wd h
 simp [hd]
theorem Qz {v:Value} (h:zeroI P t=some v) (w:World):(zeroValue t).run P w = .ok v w:=by
 unfold zeroI at h
 cases hj:P.info? t with
 | none=>simp [hj] at h
 | some j =>
  simp [hj] at h
  simp [zeroValue,typeInfo,hj,h]
end tyfacts

/-! ### blocks -/
def Has (L:Zb) (b:Nat) (o:Obj):Prop:=(b,o)∈L.flatten
theorem Zh {b:Nat} {o:Obj} {c:List Zr} {L:Zb}:Has (((b,o)::c)::L) b o:=by simp [Has]
theorem Wy {b:Nat} {o:Obj} {e:Zr} {c:List Zr} {L:Zb} (h:Has (c::L) b o):Has ((e::c)::L) b o:=by
 simp only [Has,List.flatten_cons,List.cons_append,List.mem_cons] at *
 exact .inr h
theorem Zc {b:Nat} {o:Obj} {c:List Zr} {L:Zb} (h:Has L b o):Has (c::L) b o:=by
 simp only [Has,List.flatten_cons,List.mem_append] at *
 exact .inr h
theorem Yo {b:Nat} {o:Obj} {c:List Zr} {L:Zb} (h:(b,o)∈c):Has (c::L) b o:=by
 simp only [Has,List.flatten_cons,List.mem_append]
 exact .inl h
theorem Sat.heap {k:Zlf} {w:World} {L:Zb} (h:Sat k w L) {b:Nat} {o:Obj} (hb:Has L b o):w.heap[b]? = some o:=h.has _ hb
theorem Sat.cell {k:Zlf} {w:World} {L:Zb} (h:Sat k w L) {b:Nat} {l:List Value} {E:Nat} {fr:Nat × Nat} (hb:Has L b (.cells ⟨l⟩ E fr)) (j:Nat):w.cell? ⟨b,j,none⟩=l[j]? := by
 rw [cell_of_row w b j ⟨l⟩ E fr (h.heap hb)]
 simp

def Gets (l:List Value) (i:Nat) (vs:List Value):Prop := ∀ j v,vs[j]? = some v→l[i+j]? = some v
theorem Ze {l:List Value} {i:Nat} {a:Value} {vs:List Value} (h:l[i]? = some a) (h2:Gets l (i+1) vs):Gets l i (a::vs):=by
 intro j v hj
 match j with
 | 0=>simp at hj;subst hj;simpa using h
 | j+1 =>
  have:=h2 j v (by simpa using hj)
  rw [show i+(j+1)=i+1+j by omega]
  exact this
theorem Z4 {l:List Value} {i:Nat}:Gets l i []:=by intro j v hj;simp at hj

theorem Va (b i n:Nat):(Addr.mk b i none).add n=⟨b,i+n,none⟩:=by
 unfold Addr.add
 split
 ·rename_i h;subst h;rfl
 ·rfl
theorem Zev {P:Program} {k:Zlf} {w:World} {L:Zb} (hs:Sat k w L) {b i E:Nat} {l vs:List Value} {fr:Nat × Nat} (hb:Has L b (.cells ⟨l⟩ E fr)) (hg:Gets l i vs) :
  (loadCells ⟨b,i,none⟩ vs.length).run P w = .ok ⟨vs⟩ w:=by
 have:=run_loadCells_list (P:=P) w ⟨b,i,none⟩ vs (fun j v hj=>by rw [Va,hs.cell hb];exact hg j v hj)
 simpa using this

/-! ### an operation that yields one value and leaves the blocks as9 they are -/
def QOp (P:Program) (o:Oper) (ρ:Z5) (L:Zb) (v:Value):Prop:=
 ∀ k a,(∀ x∈o.op.operands,∀ u,ev ρ x=some u→a.eval x=u) → ∀ w,Sat k w L→o.quietAt P a (fun w'=>Sat k w' L) w v

section rules
variable {P:Program} {n:Nat} {ops:List Oper} {Q:Exit→Z5→Zb→Prop} {rest:List Oper} {o:Oper} {ρ:Z5} {L:Zb}

theorem Vx (o:Oper) (h:o.guard=none) (y:Nat→Option Bool):Region.wanted o y=true:=by simp [Region.wanted,h]
theorem ho_nil (h:Q .normal ρ L):HO P n ops Q [] ρ L:=fun k w a hs ha=>⟨ρ,L,ha,hs,h⟩
theorem Zki {k:Zlf} {w:World} {a:Act} {v:Value} {K:Act→World→Prop} {Q':Exit→Act→World→Prop} (hs:Sat k w L) (h:o.quietAt P a (fun w'=>Sat k w' L) w v)
  (hK : ∀ w',Sat k w' L→K (a.put o.dst v) w'):o.wp P a w K Q':=by
 unfold Oper.quietAt at h
 unfold Oper.wp
 generalize (execOp a.eval o).run P w=r at *
 cases r with
 | ok nx w' =>
  cases nx<;>simp only [Oper.quietUpon] at h<;>simp only [Oper.upon]
  case value u =>
   obtain ⟨e1,e2⟩:=h
   rw [e1,e2]
   exact hK _ hs
  case skip =>
   obtain ⟨e1,e2⟩:=h
   rw [e1,← e2]
   exact hK _ hs
  case enter f args =>
   obtain ⟨e1,hc⟩:=h
   rw [e1]
   exact hc.mono fun e w'' ⟨he,hw''⟩=>by subst he;exact hK _ hw''
 | halt x w'=>simp only [Oper.quietUpon] at h

theorem ho_q {v:Value} {d:Nat} {op:Op} {ty:TypeId} {pos:String} {af:Array Edge} (hn:Nat.blt d n=true) (h:QOp P ⟨some d,op,ty,pos,af,none⟩ ρ L v) (hr:HO P n ops Q rest ((d,v)::ρ) L) :
  HO P n ops Q (⟨some d,op,ty,pos,af,none⟩::rest) ρ L:=by
 have hg:(Oper.mk (some d) op ty pos af none).guard=none:=rfl
 intro k w a hs ha
 have hlt:d<n:=Nat.le_of_ble_eq_true hn
 unfold wpList
 rw [if_pos (Vx _ hg _)]
 refine .inl (Zki hs (h k a (fun x _ u hu=>ha.ev hu) w hs) fun w' hs'=>?_)
 exact hr k w' _ hs' (ha.put hlt v)

def Zaf (ops:List Oper) (j:Nat):Option Nat:=(ops[j]?).bind (·.dst)
theorem V6 {a:Act} {j t:Nat} {b wt:Bool} (ha:Agr n a ρ) (hg:o.guard=some (j,wt)) (hj:Zaf ops j=some t) (ht:lk ρ t=some (.bool b)):Region.wanted o (yielded ops.toArray a.tmps)=(b == wt):=by
 unfold Zaf at hj
 simp [Region.wanted,hg,yielded,hj,ha.get _ _ ht]
theorem Zwh {v:Value} {d j t:Nat} {wt:Bool} {op:Op} {ty:TypeId} {pos:String} {af:Array Edge} (hn:Nat.blt d n=true) (hj:Zaf ops j=some t) (ht:lk ρ t=some (.bool wt)) (h:QOp P ⟨some d,op,ty,pos,af,some (j,wt)⟩ ρ L v)
  (hr:HO P n ops Q rest ((d,v)::ρ) L):HO P n ops Q (⟨some d,op,ty,pos,af,some (j,wt)⟩::rest) ρ L:=by
 have hg:(Oper.mk (some d) op ty pos af (some (j,wt))).guard=some (j,wt):=rfl
 intro k w a hs ha
 have hlt:d<n:=Nat.le_of_ble_eq_true hn
 unfold wpList
 rw [if_pos (by rw [V6 ha hg hj ht];simp)]
 refine .inl (Zki hs (h k a (fun x _ u hu=>ha.ev hu) w hs) fun w' hs'=>?_)
 exact hr k w' _ hs' (ha.put hlt v)
theorem Zwg {d j t:Nat} {wt b:Bool} {op:Op} {ty:TypeId} {pos:String} {af:Array Edge} (hn:Nat.blt d n=true) (hj:Zaf ops j=some t) (ht:lk ρ t=some (.bool b)) (hb:(!wt)=b)
  (hr:HO P n ops Q rest ((d,undef)::ρ) L):HO P n ops Q (⟨some d,op,ty,pos,af,some (j,wt)⟩::rest) ρ L:=by
 subst hb
 have hg:(Oper.mk (some d) op ty pos af (some (j,wt))).guard=some (j,wt):=rfl
 intro k w a hs ha
 have hlt:d<n:=Nat.le_of_ble_eq_true hn
 unfold wpList
 rw [if_neg (by rw [V6 ha hg hj ht];cases wt<;>simp)]
 exact hr k w _ hs (ha.put hlt undef)
theorem Agr.name {a:Act} (ha:Agr n a ρ) {t:Nat} {b c:Bool} (ht:lk ρ t=some (.bool b)) (hb:b=c):Agr n a ((t,.bool c)::ρ):=by
 subst hb
 refine ⟨ha.size,ha.defers,fun x u hx=>?_⟩
 by_cases e:t=x
 ·subst e
  rw [Uh] at hx
  cases hx
  exact ha.get _ _ ht
 ·rw [Ui _ _ e] at hx
  exact ha.get _ _ hx
theorem Zyb {l:List Oper} (t:Nat) {b:Bool} (ht:lk ρ t=some (.bool b)) (h1:b=true→HO P n ops Q l ((t,.bool true)::ρ) L) (h0:b=false→HO P n ops Q l ((t,.bool false)::ρ) L):HO P n ops Q l ρ L:=by
 intro k w a hs ha
 cases hb:b with
 | true=>exact h1 hb k w a hs (ha.name ht hb)
 | false=>exact h0 hb k w a hs (ha.name ht hb)
theorem ho_skipu {d j t:Nat} {wt:Bool} {v:Value} {op:Op} {ty:TypeId} {pos:String} {af:Array Edge} (hj:Zaf ops j=some t) (ht:lk ρ t=some v) (hb:v=undef) (hn:Nat.blt d n=true)
  (hr:HO P n ops Q rest ((d,undef)::ρ) L):HO P n ops Q (⟨some d,op,ty,pos,af,some (j,wt)⟩::rest) ρ L:=by
 subst hb
 intro k w a hs ha
 have hlt:d<n:=Nat.le_of_ble_eq_true hn
 unfold wpList
 have hw:Region.wanted (Oper.mk (some d) op ty pos af (some (j,wt))) (yielded ops.toArray a.tmps)=false:=by
  unfold Zaf at hj
  simp [Region.wanted,yielded,hj,ha.get _ _ ht,undef]
 rw [if_neg (by rw [hw];simp)]
 exact hr k w _ hs (ha.put hlt undef)
theorem Zya {d j t:Nat} {wt:Bool} {op:Op} {ty:TypeId} {pos:String} {af:Array Edge} {b:Bool} (hj:Zaf ops j=some t) (ht:lk ρ t=some (.bool b))
  (h1:b=true→HO P n ops Q (⟨some d,op,ty,pos,af,some (j,wt)⟩::rest) ((t,.bool true)::ρ) L) (h0:b=false→HO P n ops Q (⟨some d,op,ty,pos,af,some (j,wt)⟩::rest) ((t,.bool false)::ρ) L) :
  HO P n ops Q (⟨some d,op,ty,pos,af,some (j,wt)⟩::rest) ρ L:=Zyb t ht h1 h0
end rules

/-! ### the operations that read -/
section q
variable {P:Program} {ρ:Z5} {L:Zb} {d:Option Tmp} {ty:TypeId} {pos:String} {af:Array Edge} {g:Option (Nat × Bool)}

theorem Yz {o:Oper} {v:Value} (h : ∀ (ρe:Operand→Value),(∀ x∈o.op.operands,∀ u,ev ρ x=some u→ρe x=u) → ∀ k w,Sat k w L→(execOp ρe o).run P w = .ok (.value v) w):QOp P o ρ L v:=by
 intro k a he w hs
 unfold Oper.quietAt
 rw [h a.eval he k w hs]
 exact ⟨rfl,rfl⟩
theorem q_move {x:Operand} {v:Value} (hx:ev ρ x=some v):QOp P ⟨d,.move x,ty,pos,af,g⟩ ρ L v:=
 Yz fun ρe he k w hs=>by simp [execOp,he x (by simp [Op.operands]) v hx]
theorem q_assign {x:Operand} {v:Value} (hx:ev ρ x=some v):QOp P ⟨d,.assign x,ty,pos,af,g⟩ ρ L v:=
 Yz fun ρe he k w hs=>by simp [execOp,he x (by simp [Op.operands]) v hx]
theorem q_pickt {c x y:Operand} {v:Value} {b:Bool} (hc:ev ρ c=some (.bool b)) (hb:b=true) (hx:ev ρ x=some v):QOp P ⟨d,.pick c x y,ty,pos,af,g⟩ ρ L v:=by
 subst hb;exact Yz fun ρe he k w hs=>by simp [execOp,asBool,he c (by simp [Op.operands]) _ hc,he x (by simp [Op.operands]) v hx]
theorem q_pickf {c x y:Operand} {v:Value} {b:Bool} (hc:ev ρ c=some (.bool b)) (hb:b=false) (hy:ev ρ y=some v):QOp P ⟨d,.pick c x y,ty,pos,af,g⟩ ρ L v:=by
 subst hb;exact Yz fun ρe he k w hs=>by simp [execOp,asBool,he c (by simp [Op.operands]) _ hc,he y (by simp [Op.operands]) v hy]
theorem Zy6 {x:Operand} {j:Nat} {vs:List Value} {v:Value} (hx:ev ρ x=some (.tuple ⟨vs⟩)) (hv:vs[j]? = some v):QOp P ⟨d,.extract x j,ty,pos,af,g⟩ ρ L v:=
 Yz fun ρe he k w hs=>by simp [execOp,Instr.extract,he x (by simp [Op.operands]) _ hx,hv]
theorem Zu1 {x:Operand} {p:Addr} (hx:ev ρ x=some (.pointer (some p))):QOp P ⟨d,.nilCheck x,ty,pos,af,g⟩ ρ L (.pointer (some p)):=
 Yz fun ρe he k w hs=>by simp [execOp,he x (by simp [Op.operands]) _ hx]
theorem Zu0 {f:Nat} {cap:Array Operand} {vs:List Value} (hv:Zlm ρ cap.toList=some vs):QOp P ⟨d,.makeFunc (.func f) #[] cap,ty,pos,af,g⟩ ρ L (.func (.func f) #[] ⟨vs⟩):=by
 refine Yz fun ρe he k w hs=>?_
 have hm:cap.map ρe=⟨vs⟩:=by
  have key : ∀ (l:List Operand) (us:List Value),(∀ x∈l,∀ u,ev ρ x=some u→ρe x=u)→Zlm ρ l=some us→l.map ρe=us:=by
   intro l
   induction l with
   | nil=>intro us _ h;simp [Zlm] at h;simp [← h]
   | cons x r ih =>
    intro us hl h
    simp only [Zlm] at h
    cases hx:ev ρ x with
    | none=>simp [hx] at h
    | some u =>
     cases hr:Zlm ρ r with
     | none=>simp [hx,hr] at h
     | some us' =>
      simp [hx,hr] at h
      rw [List.map_cons,hl x (by simp) u hx,ih us' (fun y hy=>hl y (by simp [hy])) hr]
      exact h
  have:=key cap.toList vs (fun x hx=>he x (by simp [Op.operands];exact Array.mem_toList_iff.1 hx)) hv
  apply Array.toList_inj.1
  simpa using this
 simp [execOp,Instr.makeFunc,hm]
end q
end Go.HL
end

/-! SeatT -/
section
namespace Go.HL
open Go Go.Proofs
set_option maxRecDepth 100000
def tyL:List (Nat × TyI):=[(2,⟨2,3,0,1,8⟩),
 (3,⟨2,3,0,1,8⟩),
 (4,⟨1,0,0,1,1⟩),
 (5,⟨2,4,0,1,1⟩),
 (9,⟨3,0,0,1,16⟩),
 (12,⟨2,7,0,1,8⟩),
 (13,⟨7,2,0,2,24⟩),
 (20,⟨9,0,0,1,16⟩),
 (21,⟨2,2,0,1,4⟩),
 (22,⟨5,28,0,1,24⟩),
 (24,⟨5,9,0,1,24⟩),
 (25,⟨4,47,0,1,8⟩),
 (26,⟨5,3,0,1,24⟩),
 (27,⟨7,2,0,2,40⟩),
 (28,⟨7,2,0,2,40⟩),
 (35,⟨9,1,0,1,16⟩),
 (36,⟨9,1,0,1,16⟩),
 (42,⟨5,52,0,1,24⟩),
 (43,⟨5,103,0,1,24⟩),
 (44,⟨5,97,0,1,24⟩),
 (45,⟨5,66,0,1,24⟩),
 (46,⟨7,5,0,5,120⟩),
 (47,⟨7,5,0,5,120⟩),
 (48,⟨4,51,0,1,8⟩),
 (49,⟨5,5,0,1,24⟩),
 (50,⟨7,4,0,4,40⟩),
 (51,⟨7,4,0,4,40⟩),
 (52,⟨4,58,0,1,8⟩),
 (53,⟨4,82,0,1,8⟩),
 (55,⟨5,83,0,1,24⟩),
 (56,⟨5,4,0,1,24⟩),
 (57,⟨7,4,0,4,64⟩),
 (58,⟨7,4,0,4,64⟩),
 (62,⟨7,2,0,2,16⟩),
 (63,⟨7,2,0,2,16⟩),
 (65,⟨7,3,0,3,24⟩),
 (66,⟨7,3,0,3,24⟩),
 (68,⟨7,3,0,3,24⟩),
 (69,⟨7,3,0,3,24⟩),
 (71,⟨4,74,0,1,8⟩),
 (72,⟨4,150,0,1,8⟩),
 (73,⟨7,1,0,1,8⟩),
 (74,⟨7,1,0,1,8⟩),
 (79,⟨4,89,0,1,8⟩),
 (81,⟨7,3,0,3,40⟩),
 (82,⟨7,3,0,3,40⟩),
 (83,⟨4,93,0,1,8⟩),
 (87,⟨5,69,0,1,24⟩),
 (88,⟨7,4,0,4,64⟩),
 (89,⟨7,4,0,4,64⟩),
 (92,⟨7,9,0,9,112⟩),
 (93,⟨7,9,0,9,112⟩),
 (96,⟨7,7,0,9,72⟩),
 (97,⟨7,7,0,9,72⟩),
 (103,⟨6,2,3,2,16⟩),
 (116,⟨7,2,0,2,24⟩),
 (117,⟨7,2,0,2,24⟩),
 (119,⟨8,9,117,1,8⟩),
 (121,⟨4,125,0,1,8⟩),
 (123,⟨4,121,0,1,8⟩),
 (124,⟨7,2,0,2,24⟩),
 (125,⟨7,2,0,2,24⟩),
 (134,⟨2,7,0,1,8⟩),
 (138,⟨4,140,0,1,8⟩),
 (139,⟨7,2,0,2,32⟩),
 (140,⟨7,2,0,2,32⟩),
 (146,⟨8,103,4,1,8⟩),
 (147,⟨5,157,0,1,24⟩),
 (148,⟨5,174,0,1,24⟩),
 (149,⟨7,5,0,5,104⟩),
 (150,⟨7,5,0,5,104⟩),
 (151,⟨4,205,0,1,8⟩),
 (154,⟨4,211,0,1,8⟩),
 (157,⟨4,162,0,1,8⟩),
 (158,⟨4,256,0,1,8⟩),
 (159,⟨6,6,158,6,48⟩),
 (160,⟨6,6,4,6,6⟩),
 (161,⟨7,4,0,14,72⟩),
 (162,⟨7,4,0,14,72⟩),
 (174,⟨7,3,0,3,24⟩),
 (196,⟨2,6,0,1,4⟩),
 (199,⟨2,7,0,1,8⟩),
 (202,⟨4,5,0,1,8⟩),
 (204,⟨7,3,0,3,40⟩),
 (205,⟨7,3,0,3,40⟩),
 (206,⟨4,251,0,1,8⟩),
 (209,⟨8,3,4,1,8⟩),
 (210,⟨7,3,0,3,24⟩),
 (211,⟨7,3,0,3,24⟩),
 (221,⟨6,6,9,6,96⟩),
 (230,⟨9,1,0,1,16⟩),
 (233,⟨9,1,0,1,16⟩),
 (235,⟨9,1,0,1,16⟩),
 (236,⟨5,36,0,1,24⟩),
 (247,⟨7,2,0,4,32⟩),
 (248,⟨7,2,0,4,32⟩),
 (249,⟨6,6,248,24,192⟩),
 (250,⟨7,3,0,26,208⟩),
 (251,⟨7,3,0,26,208⟩),
 (254,⟨6,7,69,21,168⟩),
 (255,⟨7,10,0,30,264⟩),
 (256,⟨7,10,0,30,264⟩),
 (267,⟨2,3,0,1,8⟩),
 (270,⟨4,295,0,1,8⟩),
 (281,⟨6,24,5,24,24⟩),
 (286,⟨6,256,5,256,256⟩),
 (287,⟨7,2,0,2,2⟩),
 (288,⟨7,2,0,2,2⟩),
 (289,⟨6,16,288,32,32⟩),
 (294,⟨7,3,0,3,48⟩),
 (295,⟨7,3,0,3,48⟩),
 (299,⟨6,3,3,3,24⟩),
 (300,⟨5,299,0,1,24⟩),
 (303,⟨6,20,199,20,160⟩),
 (304,⟨6,65,5,65,65⟩),
 (307,⟨4,309,0,1,8⟩),
 (308,⟨7,1,0,1,16⟩),
 (309,⟨7,1,0,1,16⟩),
 (312,⟨6,32,5,32,32⟩),
 (313,⟨6,64,5,64,64⟩),
 (335,⟨2,5,0,1,2⟩),
 (336,⟨5,335,0,1,24⟩),
 (338,⟨5,196,0,1,24⟩),
 (348,⟨4,36,0,1,8⟩)]
def flL:List (Nat × Nat × Nat):=[(832,0,9),(833,1,12),(1728,0,9),(1729,1,26),(1792,0,9),(1793,1,26),(2944,0,26),(2945,1,42),(2946,2,43),(2947,3,44),(2948,4,45),(3008,0,26),(3009,1,42),(3010,2,43),(3011,3,44),(3012,4,45),(3200,0,9),(3201,1,4),(3202,2,3),(3203,3,4),(3264,0,9),(3265,1,4),(3266,2,3),(3267,3,4),(3648,0,53),(3649,1,48),(3650,2,55),(3651,3,56),(3712,0,53),(3713,1,48),(3714,2,55),(3715,3,56),(3968,0,3),(3969,1,3),(4032,0,3),(4033,1,3),(4160,0,3),(4161,1,3),(4162,2,3),(4224,0,3),(4225,1,3),(4226,2,3),(4352,0,3),(4353,1,3),(4354,2,3),(4416,0,3),(4417,1,3),(4418,2,3),(4672,0,72),(4736,0,72),(5184,0,3),(5185,1,79),(5186,2,56),(5248,0,3),(5249,1,79),(5250,2,56),(5632,0,48),(5633,1,26),(5634,2,87),(5635,3,4),(5696,0,48),(5697,1,26),(5698,2,87),(5699,3,4),(5888,0,3),(5889,1,3),(5890,2,3),(5891,3,26),(5892,4,9),(5893,5,3),(5894,6,44),(5895,7,3),(5896,8,3),(5952,0,3),(5953,1,3),(5954,2,3),(5955,3,26),(5956,4,9),(5957,5,3),(5958,6,44),(5959,7,3),(5960,8,3),(6144,0,3),(6145,1,3),(6146,2,3),(6147,3,3),(6148,4,3),(6149,5,4),(6150,6,69),(6208,0,3),(6209,1,3),(6210,2,3),(6211,3,3),(6212,4,3),(6213,5,4),(6214,6,69),(7424,0,9),(7425,1,115),(7488,0,9),(7489,1,115),(7936,0,3),(7937,1,36),(8000,0,3),(8001,1,36),(8896,0,138),(8897,1,49),(8960,0,138),(8961,1,49),(9536,0,26),(9537,1,147),(9538,2,146),(9539,3,44),(9540,4,148),(9600,0,26),(9601,1,147),(9602,2,146),(9603,3,44),(9604,4,148),(10304,0,154),(10305,1,151),(10306,2,159),(10307,8,160),(10368,0,154),(10369,1,151),(10370,2,159),(10371,8,160),(11136,0,3),(11137,1,3),(11138,2,3),(13056,0,49),(13057,1,4),(13058,2,3),(13120,0,49),(13121,1,4),(13122,2,3),(13440,0,206),(13441,1,3),(13442,2,209),(13504,0,206),(13505,1,3),(13506,2,209),(15808,0,3),(15809,1,69),(15872,0,3),(15873,1,69),(16000,0,151),(16001,1,249),(16002,25,4),(16064,0,151),(16065,1,249),(16066,25,4),(16320,0,3),(16321,1,3),(16322,2,3),(16323,3,26),(16324,4,9),(16325,5,3),(16326,6,3),(16327,7,254),(16328,28,3),(16329,29,3),(16384,0,3),(16385,1,3),(16386,2,3),(16387,3,26),(16388,4,9),(16389,5,3),(16390,6,3),(16391,7,254),(16392,28,3),(16393,29,3),(18368,0,5),(18369,1,5),(18432,0,5),(18433,1,5),(18816,0,9),(18817,1,9),(18818,2,36),(18880,0,9),(18881,1,9),(18882,2,36),(19712,0,9),(19776,0,9)]
def zrL:List (Nat × Value):=[(2,.int .i64 0),
 (3,.int .i64 0),
 (4,.bool false),
 (5,.int .u8 0),
 (9,.string ⟨⟨[]⟩⟩),
 (12,.int .u64 0),
 (13,.agg ⟨[.string ⟨⟨[]⟩⟩,.int .u64 0]⟩),
 (20,.nilIface),
 (21,.int .i32 0),
 (22,.slice none 0 0),
 (24,.slice none 0 0),
 (25,.pointer none),
 (26,.slice none 0 0),
 (27,.agg ⟨[.string ⟨⟨[]⟩⟩,.slice none 0 0]⟩),
 (28,.agg ⟨[.string ⟨⟨[]⟩⟩,.slice none 0 0]⟩),
 (35,.nilIface),
 (36,.nilIface),
 (42,.slice none 0 0),
 (43,.slice none 0 0),
 (44,.slice none 0 0),
 (45,.slice none 0 0),
 (46,.agg ⟨[.slice none 0 0,.slice none 0 0,.slice none 0 0,.slice none 0 0,.slice none 0 0]⟩),
 (47,.agg ⟨[.slice none 0 0,.slice none 0 0,.slice none 0 0,.slice none 0 0,.slice none 0 0]⟩),
 (48,.pointer none),
 (49,.slice none 0 0),
 (50,.agg ⟨[.string ⟨⟨[]⟩⟩,.bool false,.int .i64 0,.bool false]⟩),
 (51,.agg ⟨[.string ⟨⟨[]⟩⟩,.bool false,.int .i64 0,.bool false]⟩),
 (52,.pointer none),
 (53,.pointer none),
 (55,.slice none 0 0),
 (56,.slice none 0 0),
 (57,.agg ⟨[.pointer none,.pointer none,.slice none 0 0,.slice none 0 0]⟩),
 (58,.agg ⟨[.pointer none,.pointer none,.slice none 0 0,.slice none 0 0]⟩),
 (62,.agg ⟨[.int .i64 0,.int .i64 0]⟩),
 (63,.agg ⟨[.int .i64 0,.int .i64 0]⟩),
 (65,.agg ⟨[.int .i64 0,.int .i64 0,.int .i64 0]⟩),
 (66,.agg ⟨[.int .i64 0,.int .i64 0,.int .i64 0]⟩),
 (68,.agg ⟨[.int .i64 0,.int .i64 0,.int .i64 0]⟩),
 (69,.agg ⟨[.int .i64 0,.int .i64 0,.int .i64 0]⟩),
 (71,.pointer none),
 (72,.pointer none),
 (73,.agg ⟨[.pointer none]⟩),
 (74,.agg ⟨[.pointer none]⟩),
 (79,.pointer none),
 (81,.agg ⟨[.int .i64 0,.pointer none,.slice none 0 0]⟩),
 (82,.agg ⟨[.int .i64 0,.pointer none,.slice none 0 0]⟩),
 (83,.pointer none),
 (87,.slice none 0 0),
 (88,.agg ⟨[.pointer none,.slice none 0 0,.slice none 0 0,.bool false]⟩),
 (89,.agg ⟨[.pointer none,.slice none 0 0,.slice none 0 0,.bool false]⟩),
 (92,.agg ⟨[.int .i64 0,.int .i64 0,.int .i64 0,.slice none 0 0,.string ⟨⟨[]⟩⟩,.int .i64 0,.slice none 0 0,.int .i64 0,.int .i64 0]⟩),
 (93,.agg ⟨[.int .i64 0,.int .i64 0,.int .i64 0,.slice none 0 0,.string ⟨⟨[]⟩⟩,.int .i64 0,.slice none 0 0,.int .i64 0,.int .i64 0]⟩),
 (96,.agg ⟨[.int .i64 0,.int .i64 0,.int .i64 0,.int .i64 0,.int .i64 0,.bool false,.int .i64 0,.int .i64 0,.int .i64 0]⟩),
 (97,.agg ⟨[.int .i64 0,.int .i64 0,.int .i64 0,.int .i64 0,.int .i64 0,.bool false,.int .i64 0,.int .i64 0,.int .i64 0]⟩),
 (103,.agg ⟨[.int .i64 0,.int .i64 0]⟩),
 (116,.agg ⟨[.string ⟨⟨[]⟩⟩,.nilFunc]⟩),
 (117,.agg ⟨[.string ⟨⟨[]⟩⟩,.nilFunc]⟩),
 (119,.map none),
 (121,.pointer none),
 (123,.pointer none),
 (124,.agg ⟨[.int .i64 0,.nilIface]⟩),
 (125,.agg ⟨[.int .i64 0,.nilIface]⟩),
 (134,.int .u64 0),
 (138,.pointer none),
 (139,.agg ⟨[.pointer none,.slice none 0 0]⟩),
 (140,.agg ⟨[.pointer none,.slice none 0 0]⟩),
 (146,.map none),
 (147,.slice none 0 0),
 (148,.slice none 0 0),
 (149,.agg ⟨[.slice none 0 0,.slice none 0 0,.map none,.slice none 0 0,.slice none 0 0]⟩),
 (150,.agg ⟨[.slice none 0 0,.slice none 0 0,.map none,.slice none 0 0,.slice none 0 0]⟩),
 (151,.pointer none),
 (154,.pointer none),
 (157,.pointer none),
 (158,.pointer none),
 (159,.agg ⟨[.pointer none,.pointer none,.pointer none,.pointer none,.pointer none,.pointer none]⟩),
 (160,.agg ⟨[.bool false,.bool false,.bool false,.bool false,.bool false,.bool false]⟩),
 (161,.agg ⟨[.pointer none,.pointer none,.pointer none,.pointer none,.pointer none,.pointer none,.pointer none,.pointer none,.bool false,.bool false,.bool false,.bool false,.bool false,.bool false]⟩),
 (162,.agg ⟨[.pointer none,.pointer none,.pointer none,.pointer none,.pointer none,.pointer none,.pointer none,.pointer none,.bool false,.bool false,.bool false,.bool false,.bool false,.bool false]⟩),
 (174,.agg ⟨[.int .i64 0,.int .i64 0,.int .i64 0]⟩),
 (196,.int .u32 0),
 (199,.int .u64 0),
 (202,.pointer none),
 (204,.agg ⟨[.slice none 0 0,.bool false,.int .i64 0]⟩),
 (205,.agg ⟨[.slice none 0 0,.bool false,.int .i64 0]⟩),
 (206,.pointer none),
 (209,.map none),
 (210,.agg ⟨[.pointer none,.int .i64 0,.map none]⟩),
 (211,.agg ⟨[.pointer none,.int .i64 0,.map none]⟩),
 (221,.agg ⟨[.string ⟨⟨[]⟩⟩,.string ⟨⟨[]⟩⟩,.string ⟨⟨[]⟩⟩,.string ⟨⟨[]⟩⟩,.string ⟨⟨[]⟩⟩,.string ⟨⟨[]⟩⟩]⟩),
 (230,.nilIface),
 (233,.nilIface),
 (235,.nilIface),
 (236,.slice none 0 0),
 (247,.agg ⟨[.int .i64 0,.int .i64 0,.int .i64 0,.int .i64 0]⟩),
 (248,.agg ⟨[.int .i64 0,.int .i64 0,.int .i64 0,.int .i64 0]⟩),
 (249,.agg ⟨[.int .i64 0,.int .i64 0,.int .i64 0,.int .i64 0,.int .i64 0,.int .i64 0,.int .i64 0,.int .i64 0,.int .i64 0,.int .i64 0,.int .i64 0,.int .i64 0,.int .i64 0,.int .i64 0,.int .i64 0,.int .i64 0,.int .i64 0,.int .i64 0,.int .i64 0,.int .i64 0,.int .i64 0,.int .i64 0,.int .i64 0,.int .i64 0]⟩),
 (250,.agg ⟨[.pointer none,.int .i64 0,.int .i64 0,.int .i64 0,.int .i64 0,.int .i64 0,.int .i64 0,.int .i64 0,.int .i64 0,.int .i64 0,.int .i64 0,.int .i64 0,.int .i64 0,.int .i64 0,.int .i64 0,.int .i64 0,.int .i64 0,.int .i64 0,.int .i64 0,.int .i64 0,.int .i64 0,.int .i64 0,.int .i64 0,.int .i64 0,.int .i64 0,.bool false]⟩),
 (251,.agg ⟨[.pointer none,.int .i64 0,.int .i64 0,.int .i64 0,.int .i64 0,.int .i64 0,.int .i64 0,.int .i64 0,.int .i64 0,.int .i64 0,.int .i64 0,.int .i64 0,.int .i64 0,.int .i64 0,.int .i64 0,.int .i64 0,.int .i64 0,.int .i64 0,.int .i64 0,.int .i64 0,.int .i64 0,.int .i64 0,.int .i64 0,.int .i64 0,.int .i64 0,.bool false]⟩),
 (254,.agg ⟨[.int .i64 0,.int .i64 0,.int .i64 0,.int .i64 0,.int .i64 0,.int .i64 0,.int .i64 0,.int .i64 0,.int .i64 0,.int .i64 0,.int .i64 0,.int .i64 0,.int .i64 0,.int .i64 0,.int .i64 0,.int .i64 0,.int .i64 0,.int .i64 0,.int .i64 0,.int .i64 0,.int .i64 0]⟩),
 (255,.agg ⟨[.int .i64 0,.int .i64 0,.int .i64 0,.slice none 0 0,.string ⟨⟨[]⟩⟩,.int .i64 0,.int .i64 0,.int .i64 0,.int .i64 0,.int .i64 0,.int .i64 0,.int .i64 0,.int .i64 0,.int .i64 0,.int .i64 0,.int .i64 0,.int .i64 0,.int .i64 0,.int .i64 0,.int .i64 0,.int .i64 0,.int .i64 0,.int .i64 0,.int .i64 0,.int .i64 0,.int .i64 0,.int .i64 0,.int .i64 0,.int .i64 0,.int .i64 0]⟩),
 (256,.agg ⟨[.int .i64 0,.int .i64 0,.int .i64 0,.slice none 0 0,.string ⟨⟨[]⟩⟩,.int .i64 0,.int .i64 0,.int .i64 0,.int .i64 0,.int .i64 0,.int .i64 0,.int .i64 0,.int .i64 0,.int .i64 0,.int .i64 0,.int .i64 0,.int .i64 0,.int .i64 0,.int .i64 0,.int .i64 0,.int .i64 0,.int .i64 0,.int .i64 0,.int .i64 0,.int .i64 0,.int .i64 0,.int .i64 0,.int .i64 0,.int .i64 0,.int .i64 0]⟩),
 (267,.int .i64 0),
 (270,.pointer none),
 (281,.agg ⟨[.int .u8 0,.int .u8 0,.int .u8 0,.int .u8 0,.int .u8 0,.int .u8 0,.int .u8 0,.int .u8 0,.int .u8 0,.int .u8 0,.int .u8 0,.int .u8 0,.int .u8 0,.int .u8 0,.int .u8 0,.int .u8 0,.int .u8 0,.int .u8 0,.int .u8 0,.int .u8 0,.int .u8 0,.int .u8 0,.int .u8 0,.int .u8 0]⟩),
 (287,.agg ⟨[.int .u8 0,.int .u8 0]⟩),
 (288,.agg ⟨[.int .u8 0,.int .u8 0]⟩),
 (289,.agg ⟨[.int .u8 0,.int .u8 0,.int .u8 0,.int .u8 0,.int .u8 0,.int .u8 0,.int .u8 0,.int .u8 0,.int .u8 0,.int .u8 0,.int .u8 0,.int .u8 0,.int .u8 0,.int .u8 0,.int .u8 0,.int .u8 0,.int .u8 0,.int .u8 0,.int .u8 0,.int .u8 0,.int .u8 0,.int .u8 0,.int .u8 0,.int .u8 0,.int .u8 0,.int .u8 0,.int .u8 0,.int .u8 0,.int .u8 0,.int .u8 0,.int .u8 0,.int .u8 0]⟩),
 (294,.agg ⟨[.string ⟨⟨[]⟩⟩,.string ⟨⟨[]⟩⟩,.nilIface]⟩),
 (295,.agg ⟨[.string ⟨⟨[]⟩⟩,.string ⟨⟨[]⟩⟩,.nilIface]⟩),
 (299,.agg ⟨[.int .i64 0,.int .i64 0,.int .i64 0]⟩),
 (300,.slice none 0 0),
 (303,.agg ⟨[.int .u64 0,.int .u64 0,.int .u64 0,.int .u64 0,.int .u64 0,.int .u64 0,.int .u64 0,.int .u64 0,.int .u64 0,.int .u64 0,.int .u64 0,.int .u64 0,.int .u64 0,.int .u64 0,.int .u64 0,.int .u64 0,.int .u64 0,.int .u64 0,.int .u64 0,.int .u64 0]⟩),
 (307,.pointer none),
 (308,.agg ⟨[.string ⟨⟨[]⟩⟩]⟩),
 (309,.agg ⟨[.string ⟨⟨[]⟩⟩]⟩),
 (312,.agg ⟨[.int .u8 0,.int .u8 0,.int .u8 0,.int .u8 0,.int .u8 0,.int .u8 0,.int .u8 0,.int .u8 0,.int .u8 0,.int .u8 0,.int .u8 0,.int .u8 0,.int .u8 0,.int .u8 0,.int .u8 0,.int .u8 0,.int .u8 0,.int .u8 0,.int .u8 0,.int .u8 0,.int .u8 0,.int .u8 0,.int .u8 0,.int .u8 0,.int .u8 0,.int .u8 0,.int .u8 0,.int .u8 0,.int .u8 0,.int .u8 0,.int .u8 0,.int .u8 0]⟩),
 (313,.agg ⟨[.int .u8 0,.int .u8 0,.int .u8 0,.int .u8 0,.int .u8 0,.int .u8 0,.int .u8 0,.int .u8 0,.int .u8 0,.int .u8 0,.int .u8 0,.int .u8 0,.int .u8 0,.int .u8 0,.int .u8 0,.int .u8 0,.int .u8 0,.int .u8 0,.int .u8 0,.int .u8 0,.int .u8 0,.int .u8 0,.int .u8 0,.int .u8 0,.int .u8 0,.int .u8 0,.int .u8 0,.int .u8 0,.int .u8 0,.int .u8 0,.int .u8 0,.int .u8 0,.int .u8 0,.int .u8 0,.int .u8 0,.int .u8 0,.int .u8 0,.int .u8 0,.int .u8 0,.int .u8 0,.int .u8 0,.int .u8 0,.int .u8 0,.int .u8 0,.int .u8 0,.int .u8 0,.int .u8 0,.int .u8 0,.int .u8 0,.int .u8 0,.int .u8 0,.int .u8 0,.int .u8 0,.int .u8 0,.int .u8 0,.int .u8 0,.int .u8 0,.int .u8 0,.int .u8 0,.int .u8 0,.int .u8 0,.int .u8 0,.int .u8 0,.int .u8 0]⟩),
 (335,.int .u16 0),
 (336,.slice none 0 0),
 (338,.slice none 0 0),
 (348,.pointer none)]
def stL:List (Nat × List (Nat × Nat × Nat)):=[(13,[(0,1,9),(1,1,12)]),(27,[(0,1,9),(1,1,26)]),(28,[(0,1,9),(1,1,26)]),(46,[(0,1,26),(1,1,42),(2,1,43),(3,1,44),(4,1,45)]),(47,[(0,1,26),(1,1,42),(2,1,43),(3,1,44),(4,1,45)]),(50,[(0,1,9),(1,1,4),(2,1,3),(3,1,4)]),(51,[(0,1,9),(1,1,4),(2,1,3),(3,1,4)]),(57,[(0,1,53),(1,1,48),(2,1,55),(3,1,56)]),(58,[(0,1,53),(1,1,48),(2,1,55),(3,1,56)]),(62,[(0,1,3),(1,1,3)]),(63,[(0,1,3),(1,1,3)]),(65,[(0,1,3),(1,1,3),(2,1,3)]),(66,[(0,1,3),(1,1,3),(2,1,3)]),(68,[(0,1,3),(1,1,3),(2,1,3)]),(69,[(0,1,3),(1,1,3),(2,1,3)]),(73,[(0,1,72)]),(74,[(0,1,72)]),(81,[(0,1,3),(1,1,79),(2,1,56)]),(82,[(0,1,3),(1,1,79),(2,1,56)]),(88,[(0,1,48),(1,1,26),(2,1,87),(3,1,4)]),(89,[(0,1,48),(1,1,26),(2,1,87),(3,1,4)]),(92,[(0,1,3),(1,1,3),(2,1,3),(3,1,26),(4,1,9),(5,1,3),(6,1,44),(7,1,3),(8,1,3)]),(93,[(0,1,3),(1,1,3),(2,1,3),(3,1,26),(4,1,9),(5,1,3),(6,1,44),(7,1,3),(8,1,3)]),(96,[(0,1,3),(1,1,3),(2,1,3),(3,1,3),(4,1,3),(5,1,4),(6,3,69)]),(97,[(0,1,3),(1,1,3),(2,1,3),(3,1,3),(4,1,3),(5,1,4),(6,3,69)]),(116,[(0,1,9),(1,1,115)]),(117,[(0,1,9),(1,1,115)]),(124,[(0,1,3),(1,1,36)]),(125,[(0,1,3),(1,1,36)]),(139,[(0,1,138),(1,1,49)]),(140,[(0,1,138),(1,1,49)]),(149,[(0,1,26),(1,1,147),(2,1,146),(3,1,44),(4,1,148)]),(150,[(0,1,26),(1,1,147),(2,1,146),(3,1,44),(4,1,148)]),(161,[(0,1,154),(1,1,151),(2,6,159),(8,6,160)]),(162,[(0,1,154),(1,1,151),(2,6,159),(8,6,160)]),(174,[(0,1,3),(1,1,3),(2,1,3)]),(204,[(0,1,49),(1,1,4),(2,1,3)]),(205,[(0,1,49),(1,1,4),(2,1,3)]),(210,[(0,1,206),(1,1,3),(2,1,209)]),(211,[(0,1,206),(1,1,3),(2,1,209)]),(247,[(0,1,3),(1,3,69)]),(248,[(0,1,3),(1,3,69)]),(250,[(0,1,151),(1,24,249),(25,1,4)]),(251,[(0,1,151),(1,24,249),(25,1,4)]),(255,[(0,1,3),(1,1,3),(2,1,3),(3,1,26),(4,1,9),(5,1,3),(6,1,3),(7,21,254),(28,1,3),(29,1,3)]),(256,[(0,1,3),(1,1,3),(2,1,3),(3,1,26),(4,1,9),(5,1,3),(6,1,3),(7,21,254),(28,1,3),(29,1,3)]),(287,[(0,1,5),(1,1,5)]),(288,[(0,1,5),(1,1,5)]),(294,[(0,1,9),(1,1,9),(2,1,36)]),(295,[(0,1,9),(1,1,9),(2,1,36)]),(308,[(0,1,9)]),(309,[(0,1,9)])]
def eqL:List (Nat × List Nat):=[(63,[2,2]),(66,[2,2,2]),(69,[2,2,2]),(97,[2,2,2,2,2,1,2,2,2]),(103,[2,2]),(174,[2,2,2]),(248,[2,2,2,2]),(299,[2,2,2])]
theorem stL_ok:(stL.all fun p=>decide (stI Tryz.prog p.1=some p.2))=true:=by kernel_rfl
theorem tyL_ok:(tyL.all fun p=>decide (tyI Tryz.prog p.1=some p.2))=true:=by kernel_rfl
theorem flL_ok:(flL.all fun p=>decide (fldI Tryz.prog (p.1 / 64) (p.1 % 64)=some p.2.1) && decide (fldT Tryz.prog (p.1 / 64) (p.1 % 64)=some p.2))=true:=by kernel_rfl
theorem zr2:zeroI Tryz.prog 2=some (.int .i64 0):=by kernel_rfl
theorem zr3:zeroI Tryz.prog 3=some (.int .i64 0):=by kernel_rfl
theorem zr4:zeroI Tryz.prog 4=some (.bool false):=by kernel_rfl
theorem zr5:zeroI Tryz.prog 5=some (.int .u8 0):=by kernel_rfl
theorem zr9:zeroI Tryz.prog 9=some (.string ⟨⟨[]⟩⟩):=by kernel_rfl
theorem zr12:zeroI Tryz.prog 12=some (.int .u64 0):=by kernel_rfl
theorem zr13:zeroI Tryz.prog 13=some (.agg ⟨[.string ⟨⟨[]⟩⟩,.int .u64 0]⟩):=by kernel_rfl
theorem zr20:zeroI Tryz.prog 20=some (.nilIface):=by kernel_rfl
theorem zr21:zeroI Tryz.prog 21=some (.int .i32 0):=by kernel_rfl
theorem zr22:zeroI Tryz.prog 22=some (.slice none 0 0):=by kernel_rfl
theorem zr24:zeroI Tryz.prog 24=some (.slice none 0 0):=by kernel_rfl
theorem zr25:zeroI Tryz.prog 25=some (.pointer none):=by kernel_rfl
theorem zr26:zeroI Tryz.prog 26=some (.slice none 0 0):=by kernel_rfl
theorem zr27:zeroI Tryz.prog 27=some (.agg ⟨[.string ⟨⟨[]⟩⟩,.slice none 0 0]⟩):=by kernel_rfl
theorem zr28:zeroI Tryz.prog 28=some (.agg ⟨[.string ⟨⟨[]⟩⟩,.slice none 0 0]⟩):=by kernel_rfl
theorem zr35:zeroI Tryz.prog 35=some (.nilIface):=by kernel_rfl
theorem zr36:zeroI Tryz.prog 36=some (.nilIface):=by kernel_rfl
theorem zr42:zeroI Tryz.prog 42=some (.slice none 0 0):=by kernel_rfl
theorem zr43:zeroI Tryz.prog 43=some (.slice none 0 0):=by kernel_rfl
theorem zr44:zeroI Tryz.prog 44=some (.slice none 0 0):=by kernel_rfl
theorem zr45:zeroI Tryz.prog 45=some (.slice none 0 0):=by kernel_rfl
theorem zr46:zeroI Tryz.prog 46=some (.agg ⟨[.slice none 0 0,.slice none 0 0,.slice none 0 0,.slice none 0 0,.slice none 0 0]⟩):=by kernel_rfl
theorem zr47:zeroI Tryz.prog 47=some (.agg ⟨[.slice none 0 0,.slice none 0 0,.slice none 0 0,.slice none 0 0,.slice none 0 0]⟩):=by kernel_rfl
theorem zr48:zeroI Tryz.prog 48=some (.pointer none):=by kernel_rfl
theorem zr49:zeroI Tryz.prog 49=some (.slice none 0 0):=by kernel_rfl
theorem zr50:zeroI Tryz.prog 50=some (.agg ⟨[.string ⟨⟨[]⟩⟩,.bool false,.int .i64 0,.bool false]⟩):=by kernel_rfl
theorem zr51:zeroI Tryz.prog 51=some (.agg ⟨[.string ⟨⟨[]⟩⟩,.bool false,.int .i64 0,.bool false]⟩):=by kernel_rfl
theorem zr52:zeroI Tryz.prog 52=some (.pointer none):=by kernel_rfl
theorem zr53:zeroI Tryz.prog 53=some (.pointer none):=by kernel_rfl
theorem zr55:zeroI Tryz.prog 55=some (.slice none 0 0):=by kernel_rfl
theorem zr56:zeroI Tryz.prog 56=some (.slice none 0 0):=by kernel_rfl
theorem zr57:zeroI Tryz.prog 57=some (.agg ⟨[.pointer none,.pointer none,.slice none 0 0,.slice none 0 0]⟩):=by kernel_rfl
theorem zr58:zeroI Tryz.prog 58=some (.agg ⟨[.pointer none,.pointer none,.slice none 0 0,.slice none 0 0]⟩):=by kernel_rfl
theorem zr62:zeroI Tryz.prog 62=some (.agg ⟨[.int .i64 0,.int .i64 0]⟩):=by kernel_rfl
theorem zr63:zeroI Tryz.prog 63=some (.agg ⟨[.int .i64 0,.int .i64 0]⟩):=by kernel_rfl
theorem zr65:zeroI Tryz.prog 65=some (.agg ⟨[.int .i64 0,.int .i64 0,.int .i64 0]⟩):=by kernel_rfl
theorem zr66:zeroI Tryz.prog 66=some (.agg ⟨[.int .i64 0,.int .i64 0,.int .i64 0]⟩):=by kernel_rfl
theorem zr68:zeroI Tryz.prog 68=some (.agg ⟨[.int .i64 0,.int .i64 0,.int .i64 0]⟩):=by kernel_rfl
theorem zr69:zeroI Tryz.prog 69=some (.agg ⟨[.int .i64 0,.int .i64 0,.int .i64 0]⟩):=by kernel_rfl
theorem zr71:zeroI Tryz.prog 71=some (.pointer none):=by kernel_rfl
theorem zr72:zeroI Tryz.prog 72=some (.pointer none):=by kernel_rfl
theorem zr73:zeroI Tryz.prog 73=some (.agg ⟨[.pointer none]⟩):=by kernel_rfl
theorem zr74:zeroI Tryz.prog 74=some (.agg ⟨[.pointer none]⟩):=by kernel_rfl
theorem zr79:zeroI Tryz.prog 79=some (.pointer none):=by kernel_rfl
theorem zr81:zeroI Tryz.prog 81=some (.agg ⟨[.int .i64 0,.pointer none,.slice none 0 0]⟩):=by kernel_rfl
theorem zr82:zeroI Tryz.prog 82=some (.agg ⟨[.int .i64 0,.pointer none,.slice none 0 0]⟩):=by kernel_rfl
theorem zr83:zeroI Tryz.prog 83=some (.pointer none):=by kernel_rfl
theorem zr87:zeroI Tryz.prog 87=some (.slice none 0 0):=by kernel_rfl
theorem zr88:zeroI Tryz.prog 88=some (.agg ⟨[.pointer none,.slice none 0 0,.slice none 0 0,.bool false]⟩):=by kernel_rfl
theorem zr89:zeroI Tryz.prog 89=some (.agg ⟨[.pointer none,.slice none 0 0,.slice none 0 0,.bool false]⟩):=by kernel_rfl
theorem zr92:zeroI Tryz.prog 92=some (.agg ⟨[.int .i64 0,.int .i64 0,.int .i64 0,.slice none 0 0,.string ⟨⟨[]⟩⟩,.int .i64 0,.slice none 0 0,.int .i64 0,.int .i64 0]⟩):=by kernel_rfl
theorem zr93:zeroI Tryz.prog 93=some (.agg ⟨[.int .i64 0,.int .i64 0,.int .i64 0,.slice none 0 0,.string ⟨⟨[]⟩⟩,.int .i64 0,.slice none 0 0,.int .i64 0,.int .i64 0]⟩):=by kernel_rfl
theorem zr96:zeroI Tryz.prog 96=some (.agg ⟨[.int .i64 0,.int .i64 0,.int .i64 0,.int .i64 0,.int .i64 0,.bool false,.int .i64 0,.int .i64 0,.int .i64 0]⟩):=by kernel_rfl
theorem zr97:zeroI Tryz.prog 97=some (.agg ⟨[.int .i64 0,.int .i64 0,.int .i64 0,.int .i64 0,.int .i64 0,.bool false,.int .i64 0,.int .i64 0,.int .i64 0]⟩):=by kernel_rfl
theorem zr103:zeroI Tryz.prog 103=some (.agg ⟨[.int .i64 0,.int .i64 0]⟩):=by kernel_rfl
theorem zr116:zeroI Tryz.prog 116=some (.agg ⟨[.string ⟨⟨[]⟩⟩,.nilFunc]⟩):=by kernel_rfl
theorem zr117:zeroI Tryz.prog 117=some (.agg ⟨[.string ⟨⟨[]⟩⟩,.nilFunc]⟩):=by kernel_rfl
theorem zr119:zeroI Tryz.prog 119=some (.map none):=by kernel_rfl
theorem zr121:zeroI Tryz.prog 121=some (.pointer none):=by kernel_rfl
theorem zr123:zeroI Tryz.prog 123=some (.pointer none):=by kernel_rfl
theorem zr124:zeroI Tryz.prog 124=some (.agg ⟨[.int .i64 0,.nilIface]⟩):=by kernel_rfl
theorem zr125:zeroI Tryz.prog 125=some (.agg ⟨[.int .i64 0,.nilIface]⟩):=by kernel_rfl
theorem zr134:zeroI Tryz.prog 134=some (.int .u64 0):=by kernel_rfl
theorem zr138:zeroI Tryz.prog 138=some (.pointer none):=by kernel_rfl
theorem zr139:zeroI Tryz.prog 139=some (.agg ⟨[.pointer none,.slice none 0 0]⟩):=by kernel_rfl
theorem zr140:zeroI Tryz.prog 140=some (.agg ⟨[.pointer none,.slice none 0 0]⟩):=by kernel_rfl
theorem zr146:zeroI Tryz.prog 146=some (.map none):=by kernel_rfl
theorem zr147:zeroI Tryz.prog 147=some (.slice none 0 0):=by kernel_rfl
theorem zr148:zeroI Tryz.prog 148=some (.slice none 0 0):=by kernel_rfl
theorem zr149:zeroI Tryz.prog 149=some (.agg ⟨[.slice none 0 0,.slice none 0 0,.map none,.slice none 0 0,.slice none 0 0]⟩):=by kernel_rfl
theorem zr150:zeroI Tryz.prog 150=some (.agg ⟨[.slice none 0 0,.slice none 0 0,.map none,.slice none 0 0,.slice none 0 0]⟩):=by kernel_rfl
theorem zr151:zeroI Tryz.prog 151=some (.pointer none):=by kernel_rfl
theorem zr154:zeroI Tryz.prog 154=some (.pointer none):=by kernel_rfl
theorem zr157:zeroI Tryz.prog 157=some (.pointer none):=by kernel_rfl
theorem zr158:zeroI Tryz.prog 158=some (.pointer none):=by kernel_rfl
theorem zr159:zeroI Tryz.prog 159=some (.agg ⟨[.pointer none,.pointer none,.pointer none,.pointer none,.pointer none,.pointer none]⟩):=by kernel_rfl
theorem zr160:zeroI Tryz.prog 160=some (.agg ⟨[.bool false,.bool false,.bool false,.bool false,.bool false,.bool false]⟩):=by kernel_rfl
theorem zr161:zeroI Tryz.prog 161=some (.agg ⟨[.pointer none,.pointer none,.pointer none,.pointer none,.pointer none,.pointer none,.pointer none,.pointer none,.bool false,.bool false,.bool false,.bool false,.bool false,.bool false]⟩):=by kernel_rfl
theorem zr162:zeroI Tryz.prog 162=some (.agg ⟨[.pointer none,.pointer none,.pointer none,.pointer none,.pointer none,.pointer none,.pointer none,.pointer none,.bool false,.bool false,.bool false,.bool false,.bool false,.bool false]⟩):=by kernel_rfl
theorem zr174:zeroI Tryz.prog 174=some (.agg ⟨[.int .i64 0,.int .i64 0,.int .i64 0]⟩):=by kernel_rfl
theorem zr196:zeroI Tryz.prog 196=some (.int .u32 0):=by kernel_rfl
theorem zr199:zeroI Tryz.prog 199=some (.int .u64 0):=by kernel_rfl
theorem zr202:zeroI Tryz.prog 202=some (.pointer none):=by kernel_rfl
theorem zr204:zeroI Tryz.prog 204=some (.agg ⟨[.slice none 0 0,.bool false,.int .i64 0]⟩):=by kernel_rfl
theorem zr205:zeroI Tryz.prog 205=some (.agg ⟨[.slice none 0 0,.bool false,.int .i64 0]⟩):=by kernel_rfl
theorem zr206:zeroI Tryz.prog 206=some (.pointer none):=by kernel_rfl
theorem zr209:zeroI Tryz.prog 209=some (.map none):=by kernel_rfl
theorem zr210:zeroI Tryz.prog 210=some (.agg ⟨[.pointer none,.int .i64 0,.map none]⟩):=by kernel_rfl
theorem zr211:zeroI Tryz.prog 211=some (.agg ⟨[.pointer none,.int .i64 0,.map none]⟩):=by kernel_rfl
theorem zr221:zeroI Tryz.prog 221=some (.agg ⟨[.string ⟨⟨[]⟩⟩,.string ⟨⟨[]⟩⟩,.string ⟨⟨[]⟩⟩,.string ⟨⟨[]⟩⟩,.string ⟨⟨[]⟩⟩,.string ⟨⟨[]⟩⟩]⟩):=by kernel_rfl
theorem zr230:zeroI Tryz.prog 230=some (.nilIface):=by kernel_rfl
theorem zr233:zeroI Tryz.prog 233=some (.nilIface):=by kernel_rfl
theorem zr235:zeroI Tryz.prog 235=some (.nilIface):=by kernel_rfl
theorem zr236:zeroI Tryz.prog 236=some (.slice none 0 0):=by kernel_rfl
theorem zr247:zeroI Tryz.prog 247=some (.agg ⟨[.int .i64 0,.int .i64 0,.int .i64 0,.int .i64 0]⟩):=by kernel_rfl
theorem zr248:zeroI Tryz.prog 248=some (.agg ⟨[.int .i64 0,.int .i64 0,.int .i64 0,.int .i64 0]⟩):=by kernel_rfl
theorem zr249:zeroI Tryz.prog 249=some (.agg ⟨[.int .i64 0,.int .i64 0,.int .i64 0,.int .i64 0,.int .i64 0,.int .i64 0,.int .i64 0,.int .i64 0,.int .i64 0,.int .i64 0,.int .i64 0,.int .i64 0,.int .i64 0,.int .i64 0,.int .i64 0,.int .i64 0,.int .i64 0,.int .i64 0,.int .i64 0,.int .i64 0,.int .i64 0,.int .i64 0,.int .i64 0,.int .i64 0]⟩):=by kernel_rfl
theorem zr250:zeroI Tryz.prog 250=some (.agg ⟨[.pointer none,.int .i64 0,.int .i64 0,.int .i64 0,.int .i64 0,.int .i64 0,.int .i64 0,.int .i64 0,.int .i64 0,.int .i64 0,.int .i64 0,.int .i64 0,.int .i64 0,.int .i64 0,.int .i64 0,.int .i64 0,.int .i64 0,.int .i64 0,.int .i64 0,.int .i64 0,.int .i64 0,.int .i64 0,.int .i64 0,.int .i64 0,.int .i64 0,.bool false]⟩):=by kernel_rfl
theorem zr251:zeroI Tryz.prog 251=some (.agg ⟨[.pointer none,.int .i64 0,.int .i64 0,.int .i64 0,.int .i64 0,.int .i64 0,.int .i64 0,.int .i64 0,.int .i64 0,.int .i64 0,.int .i64 0,.int .i64 0,.int .i64 0,.int .i64 0,.int .i64 0,.int .i64 0,.int .i64 0,.int .i64 0,.int .i64 0,.int .i64 0,.int .i64 0,.int .i64 0,.int .i64 0,.int .i64 0,.int .i64 0,.bool false]⟩):=by kernel_rfl
theorem zr254:zeroI Tryz.prog 254=some (.agg ⟨[.int .i64 0,.int .i64 0,.int .i64 0,.int .i64 0,.int .i64 0,.int .i64 0,.int .i64 0,.int .i64 0,.int .i64 0,.int .i64 0,.int .i64 0,.int .i64 0,.int .i64 0,.int .i64 0,.int .i64 0,.int .i64 0,.int .i64 0,.int .i64 0,.int .i64 0,.int .i64 0,.int .i64 0]⟩):=by kernel_rfl
theorem zr255:zeroI Tryz.prog 255=some (.agg ⟨[.int .i64 0,.int .i64 0,.int .i64 0,.slice none 0 0,.string ⟨⟨[]⟩⟩,.int .i64 0,.int .i64 0,.int .i64 0,.int .i64 0,.int .i64 0,.int .i64 0,.int .i64 0,.int .i64 0,.int .i64 0,.int .i64 0,.int .i64 0,.int .i64 0,.int .i64 0,.int .i64 0,.int .i64 0,.int .i64 0,.int .i64 0,.int .i64 0,.int .i64 0,.int .i64 0,.int .i64 0,.int .i64 0,.int .i64 0,.int .i64 0,.int .i64 0]⟩):=by kernel_rfl
theorem zr256:zeroI Tryz.prog 256=some (.agg ⟨[.int .i64 0,.int .i64 0,.int .i64 0,.slice none 0 0,.string ⟨⟨[]⟩⟩,.int .i64 0,.int .i64 0,.int .i64 0,.int .i64 0,.int .i64 0,.int .i64 0,.int .i64 0,.int .i64 0,.int .i64 0,.int .i64 0,.int .i64 0,.int .i64 0,.int .i64 0,.int .i64 0,.int .i64 0,.int .i64 0,.int .i64 0,.int .i64 0,.int .i64 0,.int .i64 0,.int .i64 0,.int .i64 0,.int .i64 0,.int .i64 0,.int .i64 0]⟩):=by kernel_rfl
theorem zr267:zeroI Tryz.prog 267=some (.int .i64 0):=by kernel_rfl
theorem zr270:zeroI Tryz.prog 270=some (.pointer none):=by kernel_rfl
theorem zr281:zeroI Tryz.prog 281=some (.agg ⟨[.int .u8 0,.int .u8 0,.int .u8 0,.int .u8 0,.int .u8 0,.int .u8 0,.int .u8 0,.int .u8 0,.int .u8 0,.int .u8 0,.int .u8 0,.int .u8 0,.int .u8 0,.int .u8 0,.int .u8 0,.int .u8 0,.int .u8 0,.int .u8 0,.int .u8 0,.int .u8 0,.int .u8 0,.int .u8 0,.int .u8 0,.int .u8 0]⟩):=by kernel_rfl
theorem zr287:zeroI Tryz.prog 287=some (.agg ⟨[.int .u8 0,.int .u8 0]⟩):=by kernel_rfl
theorem zr288:zeroI Tryz.prog 288=some (.agg ⟨[.int .u8 0,.int .u8 0]⟩):=by kernel_rfl
theorem zr289:zeroI Tryz.prog 289=some (.agg ⟨[.int .u8 0,.int .u8 0,.int .u8 0,.int .u8 0,.int .u8 0,.int .u8 0,.int .u8 0,.int .u8 0,.int .u8 0,.int .u8 0,.int .u8 0,.int .u8 0,.int .u8 0,.int .u8 0,.int .u8 0,.int .u8 0,.int .u8 0,.int .u8 0,.int .u8 0,.int .u8 0,.int .u8 0,.int .u8 0,.int .u8 0,.int .u8 0,.int .u8 0,.int .u8 0,.int .u8 0,.int .u8 0,.int .u8 0,.int .u8 0,.int .u8 0,.int .u8 0]⟩):=by kernel_rfl
theorem zr294:zeroI Tryz.prog 294=some (.agg ⟨[.string ⟨⟨[]⟩⟩,.string ⟨⟨[]⟩⟩,.nilIface]⟩):=by kernel_rfl
theorem zr295:zeroI Tryz.prog 295=some (.agg ⟨[.string ⟨⟨[]⟩⟩,.string ⟨⟨[]⟩⟩,.nilIface]⟩):=by kernel_rfl
theorem zr299:zeroI Tryz.prog 299=some (.agg ⟨[.int .i64 0,.int .i64 0,.int .i64 0]⟩):=by kernel_rfl
theorem zr300:zeroI Tryz.prog 300=some (.slice none 0 0):=by kernel_rfl
theorem zr303:zeroI Tryz.prog 303=some (.agg ⟨[.int .u64 0,.int .u64 0,.int .u64 0,.int .u64 0,.int .u64 0,.int .u64 0,.int .u64 0,.int .u64 0,.int .u64 0,.int .u64 0,.int .u64 0,.int .u64 0,.int .u64 0,.int .u64 0,.int .u64 0,.int .u64 0,.int .u64 0,.int .u64 0,.int .u64 0,.int .u64 0]⟩):=by kernel_rfl
theorem zr307:zeroI Tryz.prog 307=some (.pointer none):=by kernel_rfl
theorem zr308:zeroI Tryz.prog 308=some (.agg ⟨[.string ⟨⟨[]⟩⟩]⟩):=by kernel_rfl
theorem zr309:zeroI Tryz.prog 309=some (.agg ⟨[.string ⟨⟨[]⟩⟩]⟩):=by kernel_rfl
theorem zr312:zeroI Tryz.prog 312=some (.agg ⟨[.int .u8 0,.int .u8 0,.int .u8 0,.int .u8 0,.int .u8 0,.int .u8 0,.int .u8 0,.int .u8 0,.int .u8 0,.int .u8 0,.int .u8 0,.int .u8 0,.int .u8 0,.int .u8 0,.int .u8 0,.int .u8 0,.int .u8 0,.int .u8 0,.int .u8 0,.int .u8 0,.int .u8 0,.int .u8 0,.int .u8 0,.int .u8 0,.int .u8 0,.int .u8 0,.int .u8 0,.int .u8 0,.int .u8 0,.int .u8 0,.int .u8 0,.int .u8 0]⟩):=by kernel_rfl
theorem zr313:zeroI Tryz.prog 313=some (.agg ⟨[.int .u8 0,.int .u8 0,.int .u8 0,.int .u8 0,.int .u8 0,.int .u8 0,.int .u8 0,.int .u8 0,.int .u8 0,.int .u8 0,.int .u8 0,.int .u8 0,.int .u8 0,.int .u8 0,.int .u8 0,.int .u8 0,.int .u8 0,.int .u8 0,.int .u8 0,.int .u8 0,.int .u8 0,.int .u8 0,.int .u8 0,.int .u8 0,.int .u8 0,.int .u8 0,.int .u8 0,.int .u8 0,.int .u8 0,.int .u8 0,.int .u8 0,.int .u8 0,.int .u8 0,.int .u8 0,.int .u8 0,.int .u8 0,.int .u8 0,.int .u8 0,.int .u8 0,.int .u8 0,.int .u8 0,.int .u8 0,.int .u8 0,.int .u8 0,.int .u8 0,.int .u8 0,.int .u8 0,.int .u8 0,.int .u8 0,.int .u8 0,.int .u8 0,.int .u8 0,.int .u8 0,.int .u8 0,.int .u8 0,.int .u8 0,.int .u8 0,.int .u8 0,.int .u8 0,.int .u8 0,.int .u8 0,.int .u8 0,.int .u8 0,.int .u8 0]⟩):=by kernel_rfl
theorem zr335:zeroI Tryz.prog 335=some (.int .u16 0):=by kernel_rfl
theorem zr336:zeroI Tryz.prog 336=some (.slice none 0 0):=by kernel_rfl
theorem zr338:zeroI Tryz.prog 338=some (.slice none 0 0):=by kernel_rfl
theorem zr348:zeroI Tryz.prog 348=some (.pointer none):=by kernel_rfl
theorem zrL_ok : ∀ p∈zrL,zeroI Tryz.prog p.1=some p.2:=by
 intro p hp
 simp only [zrL,List.mem_cons,List.not_mem_nil,or_false] at hp
 rcases hp with rfl|rfl|rfl|rfl|rfl|rfl|rfl|rfl|rfl|rfl|rfl|rfl|rfl|rfl|rfl|rfl|rfl|rfl|rfl|rfl|rfl|rfl|rfl|rfl|rfl|rfl|rfl|rfl|rfl|rfl|rfl|rfl|rfl|rfl|rfl|rfl|rfl|rfl|rfl|rfl|rfl|rfl|rfl|rfl|rfl|rfl|rfl|rfl|rfl|rfl|rfl|rfl|rfl|rfl|rfl|rfl|rfl|rfl|rfl|rfl|rfl|rfl|rfl|rfl|rfl|rfl|rfl|rfl|rfl|rfl|rfl|rfl|rfl|rfl|rfl|rfl|rfl|rfl|rfl|rfl|rfl|rfl|rfl|rfl|rfl|rfl|rfl|rfl|rfl|rfl|rfl|rfl|rfl|rfl|rfl|rfl|rfl|rfl|rfl|rfl|rfl|rfl|rfl|rfl|rfl|rfl|rfl|rfl|rfl|rfl|rfl|rfl|rfl|rfl|rfl|rfl|rfl|rfl|rfl|rfl|rfl|rfl
 ·exact zr2
 ·exact zr3
 ·exact zr4
 ·exact zr5
 ·exact zr9
 ·exact zr12
 ·exact zr13
 ·exact zr20
 ·exact zr21
 ·exact zr22
 ·exact zr24
 ·exact zr25
 ·exact zr26
 ·exact zr27
 ·exact zr28
 ·exact zr35
 ·exact zr36
 ·exact zr42
 ·exact zr43
 ·exact zr44
 ·exact zr45
 ·exact zr46
 ·exact zr47
 ·exact zr48
 ·exact zr49
 ·exact zr50
 ·exact zr51
 ·exact zr52
 ·exact zr53
 ·exact zr55
 ·exact zr56
 ·exact zr57
 ·exact zr58
 ·exact zr62
 ·exact zr63
 ·exact zr65
 ·exact zr66
 ·exact zr68
 ·exact zr69
 ·exact zr71
 ·exact zr72
 ·exact zr73
 ·exact zr74
 ·exact zr79
 ·exact zr81
 ·exact zr82
 ·exact zr83
 ·exact zr87
 ·exact zr88
 ·exact zr89
 ·exact zr92
 ·exact zr93
 ·exact zr96
 ·exact zr97
 ·exact zr103
 ·exact zr116
 ·exact zr117
 ·exact zr119
 ·exact zr121
 ·exact zr123
 ·exact zr124
 ·exact zr125
 ·exact zr134
 ·exact zr138
 ·exact zr139
 ·exact zr140
 ·exact zr146
 ·exact zr147
 ·exact zr148
 ·exact zr149
 ·exact zr150
 ·exact zr151
 ·exact zr154
 ·exact zr157
 ·exact zr158
 ·exact zr159
 ·exact zr160
 ·exact zr161
 ·exact zr162
 ·exact zr174
 ·exact zr196
 ·exact zr199
 ·exact zr202
 ·exact zr204
 ·exact zr205
 ·exact zr206
 ·exact zr209
 ·exact zr210
 ·exact zr211
 ·exact zr221
 ·exact zr230
 ·exact zr233
 ·exact zr235
 ·exact zr236
 ·exact zr247
 ·exact zr248
 ·exact zr249
 ·exact zr250
 ·exact zr251
 ·exact zr254
 ·exact zr255
 ·exact zr256
 ·exact zr267
 ·exact zr270
 ·exact zr281
 ·exact zr287
 ·exact zr288
 ·exact zr289
 ·exact zr294
 ·exact zr295
 ·exact zr299
 ·exact zr300
 ·exact zr303
 ·exact zr307
 ·exact zr308
 ·exact zr309
 ·exact zr312
 ·exact zr313
 ·exact zr335
 ·exact zr336
 ·exact zr338
 ·exact zr348
theorem eqL_ok:(eqL.all fun p=>decide (Zav Tryz.prog 8 p.1=some p.2) && Zlo Tryz.prog p.1 && !(Tryz.prog.eqGuardType Tryz.prog.depth p.1))=true:=by kernel_rfl
def errTab:List (Nat × Nat):=[(1,1),(0,2),(4,3),(2,4),(13,5),(6,6),(5,8),(7,9)]
def S:Tab Tryz.prog:=⟨tyL,flL,zrL,stL,eqL,tyL_ok,flL_ok,zrL_ok,stL_ok,eqL_ok,by kernel_rfl⟩
end Go.HL
end

/-! HLRead -/
section
namespace Go.HL
open Go

abbrev iv (n:Int):Value := .int .i64 n
abbrev bs (l:List UInt8):Value := .string ⟨⟨l⟩⟩
abbrev pt (b i:Nat):Value := .pointer (some ⟨b,i,none⟩)
abbrev sl (b i len cap:Nat):Value := .slice (some ⟨b,i,none⟩) len cap
abbrev Ys:Value := .slice none 0 0

theorem Gets.at0 {l vs:List Value} {i:Nat} {v:Value} (h:Gets l i vs) (hv:vs[0]? = some v):l[i]? = some v:=h 0 v hv
theorem Gets.at {l vs:List Value} {i j:Nat} {v:Value} (h:Gets l i vs) (hv:vs[j]? = some v):l[i+j]? = some v:=h j v hv
def Rd {α:Type} (enc:α→List Value) (sz:Nat) (L:Zb) (a:Option Addr) (xs:List α):Prop:=
 xs=[] ∨ ∃ b i l E fr,a=some ⟨b,i,none⟩∧Has L b (.cells ⟨l⟩ E fr) ∧ ∀ (k:Nat) (x:α),xs[k]? = some x→Gets l (i+k*sz) (enc x)
theorem Rd.cons {α:Type} {enc:α→List Value} {sz:Nat} {L:Zb} {a:Option Addr} {xs:List α} (h:Rd enc sz L a xs) (c:List Zr):Rd enc sz (c::L) a xs:=by
 rcases h with h|⟨b,i,l,E,fr,h1,h2,h3⟩
 ·exact .inl h
 ·exact .inr ⟨b,i,l,E,fr,h1,Zc h2,h3⟩
theorem Rd.at {α:Type} {enc:α→List Value} {sz:Nat} {L:Zb} {a:Option Addr} {xs:List α} (h:Rd enc sz L a xs) {j:Int} (h0:0≤j) (h1:j<xs.length) :
  ∃ b i l E fr,a=some ⟨b,i,none⟩∧Has L b (.cells ⟨l⟩ E fr)∧Gets l (i+j.toNat*sz) (enc (xs[j.toNat]'(by omega))):=by
 rcases h with h|⟨b,i,l,E,fr,h2,h3,h4⟩
 ·subst h;simp at h1;omega
 ·exact ⟨b,i,l,E,fr,h2,h3,h4 j.toNat _ (List.getElem?_eq_getElem (by omega))⟩
theorem Rd.at1 {α:Type} {enc:α→List Value} {L:Zb} {a:Option Addr} {xs:List α} (h:Rd enc 1 L a xs) {j:Int} (h0:0≤j) (h1:j<xs.length) :
  ∃ b i l E fr,a=some ⟨b,i,none⟩∧Has L b (.cells ⟨l⟩ E fr)∧Gets l (i+j.toNat) (enc (xs[j.toNat]'(by omega))):=by
 obtain ⟨b,i,l,E,fr,h2,h3,h4⟩:=h.at h0 h1
 rw [Nat.mul_one] at h4
 exact ⟨b,i,l,E,fr,h2,h3,h4⟩
theorem Zq0 {l:List Value} {i:Nat} {vs us:List Value} (h:Gets l i vs) (h2:Gets l (i+vs.length) us):Gets l i (vs++us):=by
 intro j v hj
 by_cases hlt:j<vs.length
 ·rw [List.getElem?_append_left hlt] at hj
  exact h j v hj
 ·rw [List.getElem?_append_right (by omega)] at hj
  have:=h2 _ v hj
  rw [show i+j=i+vs.length+(j-vs.length) by omega]
  exact this
theorem Zgn {α:Type} {enc:α→List Value} {sz:Nat} {l:List Value} (hsz : ∀ x,(enc x).length=sz) : ∀ (xs:List α) (i:Nat),(∀ (k:Nat) (x:α),xs[k]? = some x→Gets l (i+k*sz) (enc x))→Gets l i (xs.map enc).flatten
 | [],i,_=>by simpa using Z4
 | x::r,i,h=>by
  simp only [List.map_cons,List.flatten_cons]
  refine Zq0 (by simpa using h 0 x rfl) ?_
  rw [hsz]
  refine Zgn hsz r (i+sz) fun k y hy=>?_
  have:=h (k+1) y (by simpa using hy)
  rw [Nat.add_mul,Nat.one_mul] at this
  rw [show i+sz+k*sz=i+(k*sz+sz) by omega]
  exact this
theorem Uu {α:Type} {xs:List α} {j:Int} (h0:0≤j) (h:j<xs.length):xs.take (j+1).toNat=xs.take j.toNat++[xs[j.toNat]'(by omega)]:=by
 rw [show (j+1).toNat=j.toNat+1 by omega,List.take_succ_eq_append_getElem (by omega)]
theorem Qy {α:Type} {xs:List α} {j:Int} (h : ¬ j<xs.length):xs.take j.toNat=xs:=List.take_of_length_le (by omega)
theorem Rd.nil {α:Type} {enc:α→List Value} {sz:Nat} {L:Zb} {a:Option Addr}:Rd enc sz L a [] := .inl rfl

section q
variable {P:Program} (S:Tab P) {ρ:Z5} {L:Zb} {d:Option Tmp} {ty:TypeId} {pos:String} {af:Array Edge} {g:Option (Nat × Bool)}

theorem Zoz {t b i E:Nat} {ti:TyI} {x:Operand} {l:List Value} {fr:Nat × Nat} {v:Value} (hx:ev ρ x=some (pt b i)) (ht:Yh S.ty t=some ti)
  (h6:Nat.beq ti.kind 6=false) (h7:Nat.beq ti.kind 7=false) (hb:Has L b (.cells ⟨l⟩ E fr)) (hv:l[i]? = some v):QOp P ⟨d,.load t x,ty,pos,af,g⟩ ρ L v:=
 Yz fun ρe he k w hs=>by
  have h1:=Zzs (S.tyI ht) h6 h7 w
  have h2:w.cell? ⟨b,i,none⟩=some v:=by rw [hs.cell hb,hv]
  simp [execOp,he x (by simp [Op.operands]) _ hx,Instr.loadAt,Instr.sureAddr,loadVar,h1,h2]
theorem Zw0 {t b i E:Nat} {ti:TyI} {x:Operand} {l vs:List Value} {fr:Nat × Nat} (hx:ev ρ x=some (pt b i)) (ht:Yh S.ty t=some ti)
  (h7:(Nat.beq ti.kind 6 || Nat.beq ti.kind 7)=true) (hb:Has L b (.cells ⟨l⟩ E fr)) (hv:Gets l i vs∧ti.size=vs.length):QOp P ⟨d,.load t x,ty,pos,af,g⟩ ρ L (.agg ⟨vs⟩):=
 Yz fun ρe he k w hs=>by
  obtain ⟨hv,hn⟩:=hv
  have h1:=ty_agg (S.tyI ht) h7 w
  have h2:=Zev (P:=P) hs hb hv
  have h3:=X7 (S.tyI ht) w
  simp [execOp,he x (by simp [Op.operands]) _ hx,Instr.loadAt,Instr.sureAddr,loadVar,h1,h2,h3,hn]
theorem Zr8 {s f b i o ft:Nat} {x:Operand} (hx:ev ρ x=some (pt b i)) (hf:Yh S.fl (s*64+f)=some (o,ft)) (hlt:Nat.blt f 64=true):QOp P ⟨d,.fieldAddr s x f,ty,pos,af,g⟩ ρ L (pt b (i+o)):=
 Yz fun ρe he k w hs=>by
  obtain ⟨h,-⟩:=S.fldI hf hlt
  unfold fldI at h
  split at h
  ·rename_i fs hfs
   split at h
   ·rename_i fd hfd
    split at h
    ·rename_i inf hinf
     split at h
     ·cases h
     ·rename_i hsz
      cases h
      simp [execOp,he x (by simp [Op.operands]) _ hx,Instr.fieldAt,run_underlying hfs,hfd,Instr.sureAddr,fieldPlace,sizeOf,typeInfo,hinf,hsz,Va]
    ·cases h
   ·cases h
  ·cases h
theorem Zhl {t b i len cap e y0 s0 b0 k1 x1 y1 sz b1:Nat} {x y:Operand} {k:IntKind} {j:Int} (hx:ev ρ x=some (sl b i len cap)) (hy:ev ρ y=some (.int k j)) (ht:Yh S.ty t=some ⟨5,e,y0,s0,b0⟩)
  (he':Yh S.ty e=some ⟨k1,x1,y1,sz,b1⟩) (hj:0≤j∧j<len):QOp P ⟨d,.indexAddr t x y,ty,pos,af,g⟩ ρ L (pt b (i+j.toNat*sz)):=
 Yz fun ρe he k w hs=>by
  have h1:=Yy (S.tyI ht) rfl
  have h2:=X7 (S.tyI he') w
  simp [execOp,he x (by simp [Op.operands]) _ hx,he y (by simp [Op.operands]) _ hy,Instr.indexAt,asIntOf,run_underlying h1,hj,h2,Va]
theorem Zox {t b i len cap e y0 s0 b0 k1 x1 y1 b1:Nat} {x y:Operand} {k:IntKind} {j:Int} (hx:ev ρ x=some (sl b i len cap)) (hy:ev ρ y=some (.int k j)) (ht:Yh S.ty t=some ⟨5,e,y0,s0,b0⟩)
  (he':Yh S.ty e=some ⟨k1,x1,y1,1,b1⟩) (hj:0≤j∧j<len):QOp P ⟨d,.indexAddr t x y,ty,pos,af,g⟩ ρ L (pt b (i+j.toNat)):=by
 have:=Zhl (d:=d) (ty:=ty) (pos:=pos) (af:=af) (g:=g) (L:=L) S hx hy ht he' hj
 rw [Nat.mul_one] at this
 exact this
theorem Zoy {t b i len e s0 b0 k1 x1 y1 sz b1:Nat} {x y:Operand} {k:IntKind} {j:Int} (hx:ev ρ x=some (pt b i)) (hy:ev ρ y=some (.int k j)) (ht:Yh S.ty t=some ⟨6,len,e,s0,b0⟩)
  (he':Yh S.ty e=some ⟨k1,x1,y1,sz,b1⟩) (hj:0≤j∧j<len):QOp P ⟨d,.indexAddr t x y,ty,pos,af,g⟩ ρ L (pt b (i+j.toNat*sz)):=
 Yz fun ρe he k w hs=>by
  have h1:=Zk5 (S.tyI ht) rfl
  have h2:=X7 (S.tyI he') w
  simp [execOp,he x (by simp [Op.operands]) _ hx,he y (by simp [Op.operands]) _ hy,Instr.indexAt,asIntOf,Instr.sureAddr,run_underlying h1,hj,h2,Va]

/-! arithmetic -/
theorem Zac {a:Int} (h : -9223372036854775808≤a∧a≤9223372036854775807):IntKind.i64.wrap a=a:=IntWalk.i64_in a h
theorem Zg8 {op:BinOp} {t:Nat} {x y:Operand} {k k':IntKind} {a b:Int} (w:World):(eqGuard op t x y (.int k a) (.int k' b)).run P w = .ok () w:=by
 cases op<;>simp [eqGuard]
theorem Xx {op:BinOp} {t t':Nat} {x y:Operand} {k:IntKind} {a b:Int} {v:Value} (hx:ev ρ x=some (.int k a)) (hy:ev ρ y=some (.int k b)) (hv : ∀ w,(binOp op t (.int k a) (.int k b)).run P w = .ok v w) :
  QOp P ⟨d,.binOp op t x y t',ty,pos,af,g⟩ ρ L v:=
 Yz fun ρe he k w hs=>by simp [execOp,he x (by simp [Op.operands]) _ hx,he y (by simp [Op.operands]) _ hy,Zg8,hv w]
theorem q_add {t t':Nat} {x y:Operand} {a b:Int} (hx:ev ρ x=some (iv a)) (hy:ev ρ y=some (iv b)) (h : -9223372036854775808≤a+b∧a+b≤9223372036854775807):QOp P ⟨d,.binOp .add t x y t',ty,pos,af,g⟩ ρ L (iv (a+b)):=
 Xx hx hy fun w=>by simp [binOp,Op.intArith,Zac h]
theorem q_sub {t t':Nat} {x y:Operand} {a b:Int} (hx:ev ρ x=some (iv a)) (hy:ev ρ y=some (iv b)) (h : -9223372036854775808≤a-b∧a-b≤9223372036854775807):QOp P ⟨d,.binOp .sub t x y t',ty,pos,af,g⟩ ρ L (iv (a-b)):=
 Xx hx hy fun w=>by simp [binOp,Op.intArith,Zac h]
theorem q_mul {t t':Nat} {x y:Operand} {a b:Int} (hx:ev ρ x=some (iv a)) (hy:ev ρ y=some (iv b)) (h : -9223372036854775808≤a*b∧a*b≤9223372036854775807):QOp P ⟨d,.binOp .mul t x y t',ty,pos,af,g⟩ ρ L (iv (a*b)):=
 Xx hx hy fun w=>by simp [binOp,Op.intArith,Zac h]
theorem q_quo {t t':Nat} {x y:Operand} {a b:Int} (hx:ev ρ x=some (iv a)) (hy:ev ρ y=some (iv b)) (h:0≤a∧a≤9223372036854775807∧1≤b):QOp P ⟨d,.binOp .quo t x y t',ty,pos,af,g⟩ ρ L (iv (a / b)):=
 Xx hx hy fun w=>by
  have h2:b≠0:=by omega
  simp [binOp,Op.intDiv,IntWalk.i64_quo a b h,h2]
theorem q_rem {t t':Nat} {x y:Operand} {a b:Int} (hx:ev ρ x=some (iv a)) (hy:ev ρ y=some (iv b)) (h:0≤a∧a≤9223372036854775807∧1≤b):QOp P ⟨d,.binOp .rem t x y t',ty,pos,af,g⟩ ρ L (iv (a % b)):=
 Xx hx hy fun w=>by
  have h2:b≠0:=by omega
  simp [binOp,Op.intDiv,IntWalk.rem_in a b h.1,h2]
theorem q_lss {t t':Nat} {x y:Operand} {k:IntKind} {a b:Int} (hx:ev ρ x=some (.int k a)) (hy:ev ρ y=some (.int k b)):QOp P ⟨d,.binOp .lss t x y t',ty,pos,af,g⟩ ρ L (.bool (decide (a<b))):=
 Xx hx hy fun w=>by simp [binOp,Op.intCmp]
theorem q_leq {t t':Nat} {x y:Operand} {k:IntKind} {a b:Int} (hx:ev ρ x=some (.int k a)) (hy:ev ρ y=some (.int k b)):QOp P ⟨d,.binOp .leq t x y t',ty,pos,af,g⟩ ρ L (.bool (decide (a≤b))):=
 Xx hx hy fun w=>by simp [binOp,Op.intCmp]
theorem q_gtr {t t':Nat} {x y:Operand} {k:IntKind} {a b:Int} (hx:ev ρ x=some (.int k a)) (hy:ev ρ y=some (.int k b)):QOp P ⟨d,.binOp .gtr t x y t',ty,pos,af,g⟩ ρ L (.bool (decide (b<a))):=
 Xx hx hy fun w=>by simp [binOp,Op.intCmp]
theorem q_geq {t t':Nat} {x y:Operand} {k:IntKind} {a b:Int} (hx:ev ρ x=some (.int k a)) (hy:ev ρ y=some (.int k b)):QOp P ⟨d,.binOp .geq t x y t',ty,pos,af,g⟩ ρ L (.bool (decide (b≤a))):=
 Xx hx hy fun w=>by simp [binOp,Op.intCmp]
theorem q_eql {t t':Nat} {x y:Operand} {k:IntKind} {a b:Int} (hx:ev ρ x=some (.int k a)) (hy:ev ρ y=some (.int k b)):QOp P ⟨d,.binOp .eql t x y t',ty,pos,af,g⟩ ρ L (.bool (decide (a=b))):=
 Xx hx hy fun w=>by simp [binOp,Op.intCmp];rfl
theorem q_neq {t t':Nat} {x y:Operand} {k:IntKind} {a b:Int} (hx:ev ρ x=some (.int k a)) (hy:ev ρ y=some (.int k b)):QOp P ⟨d,.binOp .neq t x y t',ty,pos,af,g⟩ ρ L (.bool (decide (a≠b))):=
 Xx hx hy fun w=>by
  simp only [binOp,Op.intCmp,ne_eq,not_true_eq_false,if_false]
  by_cases e:a=b
  ·simp [e]
  ·simp [e,bne_iff_ne.2 e]
theorem q_not {t:Nat} {x:Operand} {b:Bool} (hx:ev ρ x=some (.bool b)):QOp P ⟨d,.unOp .not t x,ty,pos,af,g⟩ ρ L (.bool (!b)):=
 Yz fun ρe he k w hs=>by simp [execOp,he x (by simp [Op.operands]) _ hx,Op.unary]
theorem q_not_t {t:Nat} {x:Operand} {b:Bool} (hx:ev ρ x=some (.bool b)) (hb:b=true):QOp P ⟨d,.unOp .not t x,ty,pos,af,g⟩ ρ L (.bool false):=by subst hb;exact q_not hx
theorem q_not_f {t:Nat} {x:Operand} {b:Bool} (hx:ev ρ x=some (.bool b)) (hb:b=false):QOp P ⟨d,.unOp .not t x,ty,pos,af,g⟩ ρ L (.bool true):=by subst hb;exact q_not hx
theorem q_eqlB {t t':Nat} {ti:TyI} {x y:Operand} {a b:Bool} (hx:ev ρ x=some (.bool a)) (hy:ev ρ y=some (.bool b)) (ht:Yh S.ty t=some ti) (h1:ti.kind=1):QOp P ⟨d,.binOp .eql t x y t',ty,pos,af,g⟩ ρ L (.bool (decide (a=b))):=
 Yz fun ρe he k w hs=>by
  have e:(a == b)=decide (a=b):=by cases a<;>cases b<;>rfl
  simp [execOp,he x (by simp [Op.operands]) _ hx,he y (by simp [Op.operands]) _ hy,eqGuard,run_eql_bool w t a b (Zw9 (S.tyI ht) h1),e]
theorem q_neqB {t t':Nat} {ti:TyI} {x y:Operand} {a b:Bool} (hx:ev ρ x=some (.bool a)) (hy:ev ρ y=some (.bool b)) (ht:Yh S.ty t=some ti) (h1:ti.kind=1):QOp P ⟨d,.binOp .neq t x y t',ty,pos,af,g⟩ ρ L (.bool (decide (a≠b))):=
 Yz fun ρe he k w hs=>by
  have e:(!(a == b))=decide (a≠b):=by cases a<;>cases b<;>rfl
  simp only [execOp,he x (by simp [Op.operands]) _ hx,he y (by simp [Op.operands]) _ hy]
  simp [eqGuard,run_neq_bool w t a b (Zw9 (S.tyI ht) h1)]
  cases a<;>cases b<;>rfl
theorem Zia (a:List UInt8):(ByteArray.mk ⟨a⟩).toList=a:=by
 exact Go.ByteArray.toList_mk a
theorem Zbs (a:List UInt8):(ByteArray.mk ⟨a⟩).size=a.length:=by simp [ByteArray.size]
theorem Zxm (a b:List UInt8):(ByteArray.mk ⟨a⟩)++(ByteArray.mk ⟨b⟩)=ByteArray.mk ⟨a++b⟩:=by
 apply ByteArray.ext
 simp [ByteArray.data_append]
theorem q_eqlS {t t':Nat} {x y:Operand} {a b:List UInt8} (hx:ev ρ x=some (bs a)) (hy:ev ρ y=some (bs b)):QOp P ⟨d,.binOp .eql t x y t',ty,pos,af,g⟩ ρ L (.bool (decide (a=b))):=
 Yz fun ρe he k w hs=>by
  simp only [execOp,he x (by simp [Op.operands]) _ hx,he y (by simp [Op.operands]) _ hy]
  simp [eqGuard,binOp,Op.stringOp,Zia]
  by_cases e:a=b<;>simp [e]
theorem q_neqS {t t':Nat} {x y:Operand} {a b:List UInt8} (hx:ev ρ x=some (bs a)) (hy:ev ρ y=some (bs b)):QOp P ⟨d,.binOp .neq t x y t',ty,pos,af,g⟩ ρ L (.bool (decide (a≠b))):=
 Yz fun ρe he k w hs=>by
  simp only [execOp,he x (by simp [Op.operands]) _ hx,he y (by simp [Op.operands]) _ hy]
  simp [eqGuard,binOp,Op.stringOp,Zia]
  by_cases e:a=b<;>simp [e]
theorem q_addS {t t':Nat} {x y:Operand} {a b:List UInt8} (hx:ev ρ x=some (bs a)) (hy:ev ρ y=some (bs b)) (h:a.length+b.length≤9223372036854775807):QOp P ⟨d,.binOp .add t x y t',ty,pos,af,g⟩ ρ L (bs (a++b)):=
 Yz fun ρe he k w hs=>by
  simp only [execOp,he x (by simp [Op.operands]) _ hx,he y (by simp [Op.operands]) _ hy]
  have h2:=run_string_add_sum (P:=P) w ⟨⟨a⟩⟩ ⟨⟨b⟩⟩ (by simp only [Zbs];exact h)
  simp [eqGuard,binOp,h2,Zxm]
/-! nil -/
theorem Vb {t:Nat} {x y:Value} {b:Bool} {w:World} (h : ∀ dd,(Op.equalIn (dd+1) t x y).run P w = .ok b w):(Op.equal t x y).run P w = .ok b w:=h 9999
theorem Zid {t e:Nat} {p:Option Addr} (h:P.underlying t=some (.pointer e)) (dd:Nat) (w:World):(Op.equalIn (dd+1) t (.pointer p) (.pointer none)).run P w = .ok p.isNone w:=by
 cases p<;>simp [Op.equalIn,run_underlying h]
theorem Zwb {t:Nat} {ms:Array (String × TypeId)} {u:Nat} {v:Value} (h:P.underlying t=some (.interface ms)) (dd:Nat) (w:World):(Op.equalIn (dd+1) t (.iface u v) .nilIface).run P w = .ok false w:=by
 simp [Op.equalIn,run_underlying h]
theorem Zqo {t:Nat} {ms:Array (String × TypeId)} (h:P.underlying t=some (.interface ms)) (dd:Nat) (w:World):(Op.equalIn (dd+1) t .nilIface .nilIface).run P w = .ok true w:=by
 simp [Op.equalIn,run_underlying h]
theorem Zie {t e:Nat} {p:Option Addr} {len cap:Nat} (h:P.underlying t=some (.slice e)) (dd:Nat) (w:World):(Op.equalIn (dd+1) t (.slice p len cap) Ys).run P w = .ok p.isNone w:=by
 cases p<;>simp [Op.equalIn,run_underlying h]
theorem Zb2 {t t':Nat} {x y:Operand} {u v:Value} {b:Bool} (hx:ev ρ x=some u) (hy:ev ρ y=some v) (hg : ∀ w:World,(eqGuard .eql t x y u v).run P w = .ok () w) (hb : ∀ w,(Op.equal t u v).run P w = .ok b w)
  (hop:binOp .eql t u v=(do pure (.bool (← Op.equal t u v)))):QOp P ⟨d,.binOp .eql t x y t',ty,pos,af,g⟩ ρ L (.bool b):=
 Yz fun ρe he k w hs=>by
  simp only [execOp,he x (by simp [Op.operands]) _ hx,he y (by simp [Op.operands]) _ hy]
  simp [hg w,hop,hb w]
theorem Zaj {t t':Nat} {x y:Operand} {u v:Value} {b:Bool} (hx:ev ρ x=some u) (hy:ev ρ y=some v) (hg : ∀ w:World,(eqGuard .neq t x y u v).run P w = .ok () w) (hb : ∀ w,(Op.equal t u v).run P w = .ok b w)
  (hop:binOp .neq t u v=(do pure (.bool (!(← Op.equal t u v))))):QOp P ⟨d,.binOp .neq t x y t',ty,pos,af,g⟩ ρ L (.bool (!b)):=
 Yz fun ρe he k w hs=>by
  simp only [execOp,he x (by simp [Op.operands]) _ hx,he y (by simp [Op.operands]) _ hy]
  simp [hg w,hop,hb w]
theorem q_eqlPn {t t':Nat} {ti:TyI} {x y:Operand} {p:Addr} (hx:ev ρ x=some (.pointer (some p))) (hy:ev ρ y=some (.pointer none)) (ht:Yh S.ty t=some ti) (h4:ti.kind=4):QOp P ⟨d,.binOp .eql t x y t',ty,pos,af,g⟩ ρ L (.bool false):=
 Zb2 (b:=false) hx hy (fun w=>by simp [eqGuard]) (fun w=>Vb fun dd=>Zid (Zcb (S.tyI ht) h4) dd w) rfl
theorem q_eqlPnn {t t':Nat} {ti:TyI} {x y:Operand} (hx:ev ρ x=some (.pointer none)) (hy:ev ρ y=some (.pointer none)) (ht:Yh S.ty t=some ti) (h4:ti.kind=4):QOp P ⟨d,.binOp .eql t x y t',ty,pos,af,g⟩ ρ L (.bool true):=
 Zb2 (b:=true) hx hy (fun w=>by simp [eqGuard]) (fun w=>Vb fun dd=>Zid (Zcb (S.tyI ht) h4) dd w) rfl
theorem q_neqPn {t t':Nat} {ti:TyI} {x y:Operand} {p:Addr} (hx:ev ρ x=some (.pointer (some p))) (hy:ev ρ y=some (.pointer none)) (ht:Yh S.ty t=some ti) (h4:ti.kind=4):QOp P ⟨d,.binOp .neq t x y t',ty,pos,af,g⟩ ρ L (.bool true):=
 Zaj (b:=false) hx hy (fun w=>by simp [eqGuard]) (fun w=>Vb fun dd=>Zid (Zcb (S.tyI ht) h4) dd w) rfl
theorem q_neqPnn {t t':Nat} {ti:TyI} {x y:Operand} (hx:ev ρ x=some (.pointer none)) (hy:ev ρ y=some (.pointer none)) (ht:Yh S.ty t=some ti) (h4:ti.kind=4):QOp P ⟨d,.binOp .neq t x y t',ty,pos,af,g⟩ ρ L (.bool false):=
 Zaj (b:=true) hx hy (fun w=>by simp [eqGuard]) (fun w=>Vb fun dd=>Zid (Zcb (S.tyI ht) h4) dd w) rfl
theorem Zge {t:Nat} {i:TyI} (h:tyI P t=some i) (hk:i.kind=9) : ∃ ms,P.underlying t=some (.interface ms):=by
 obtain ⟨d,j,hd,hj,he,hs,_⟩:=Wd h
 rw [hd]
 cases d<;>simp [Zae,hk] at he
 exact ⟨_,rfl⟩
theorem q_eqlIn {t t' u:Nat} {ti:TyI} {x y:Operand} {v:Value} (hx:ev ρ x=some (.iface u v)) (hy:ev ρ y=some .nilIface) (ht:Yh S.ty t=some ti) (h9:ti.kind=9):QOp P ⟨d,.binOp .eql t x y t',ty,pos,af,g⟩ ρ L (.bool false):=by
 obtain ⟨ms,hms⟩:=Zge (S.tyI ht) h9
 exact Zb2 (b:=false) hx hy (fun w=>by simp [eqGuard]) (fun w=>Vb fun dd=>Zwb hms dd w) rfl
theorem q_neqIn {t t' u:Nat} {ti:TyI} {x y:Operand} {v:Value} (hx:ev ρ x=some (.iface u v)) (hy:ev ρ y=some .nilIface) (ht:Yh S.ty t=some ti) (h9:ti.kind=9):QOp P ⟨d,.binOp .neq t x y t',ty,pos,af,g⟩ ρ L (.bool true):=by
 obtain ⟨ms,hms⟩:=Zge (S.tyI ht) h9
 exact Zaj (b:=false) hx hy (fun w=>by simp [eqGuard]) (fun w=>Vb fun dd=>Zwb hms dd w) rfl
theorem q_eqlInn {t t':Nat} {ti:TyI} {x:Operand} (hx:ev ρ x=some .nilIface) (ht:Yh S.ty t=some ti) (h9:ti.kind=9):QOp P ⟨d,.binOp .eql t x (.const .nilIface) t',ty,pos,af,g⟩ ρ L (.bool true):=by
 obtain ⟨ms,hms⟩:=Zge (S.tyI ht) h9
 exact Zb2 (b:=true) hx rfl (fun w=>by cases x<;>simp [eqGuard]) (fun w=>Vb fun dd=>Zqo hms dd w) rfl
theorem q_neqInn {t t':Nat} {ti:TyI} {x:Operand} (hx:ev ρ x=some .nilIface) (ht:Yh S.ty t=some ti) (h9:ti.kind=9):QOp P ⟨d,.binOp .neq t x (.const .nilIface) t',ty,pos,af,g⟩ ρ L (.bool false):=by
 obtain ⟨ms,hms⟩:=Zge (S.tyI ht) h9
 exact Zaj (b:=true) hx rfl (fun w=>by cases x<;>simp [eqGuard]) (fun w=>Vb fun dd=>Zqo hms dd w) rfl

/-! lengths, parts -/
theorem q_lenS {t:Nat} {ti:TyI} {x:Operand} {a:Option Addr} {len cap:Nat} (hx:ev ρ x=some (.slice a len cap)) (ht:Yh S.ty t=some ti) (h5:ti.kind=5) :
  QOp P ⟨d,.call { callee := .builtin .len,args := #[x],argTypes := #[t] },ty,pos,af,g⟩ ρ L (iv len):=
 Yz fun ρe he k w hs=>by
  have h1:=Yy (S.tyI ht) h5
  simp [execOp,resolve,invoke,builtin,he x (by simp [Op.operands,Call.operands]) _ hx,Builtin.len_,run_underlying h1,goInt]
theorem q_lenT {t:Nat} {ti:TyI} {x:Operand} {l:List UInt8} (hx:ev ρ x=some (bs l)) (ht:Yh S.ty t=some ti) (h3:ti.kind=3) :
  QOp P ⟨d,.call { callee := .builtin .len,args := #[x],argTypes := #[t] },ty,pos,af,g⟩ ρ L (iv l.length):=
 Yz fun ρe he k w hs=>by
  have h1:=Uv (S.tyI ht) h3
  have h2:(Builtin.len_ #[t] ty #[bs l]).run P w = .ok (iv l.length) w:=by rw [run_len_string w t ty _ h1,Zbs];rfl
  simp [execOp,resolve,invoke,builtin,he x (by simp [Op.operands,Call.operands]) _ hx,h2]
theorem q_lenA {t len e s0 b0:Nat} {x:Operand} {v:Value} (hx:ev ρ x=some v) (ht:Yh S.ty t=some ⟨6,len,e,s0,b0⟩) :
  QOp P ⟨d,.call { callee := .builtin .len,args := #[x],argTypes := #[t] },ty,pos,af,g⟩ ρ L (iv len):=
 Yz fun ρe he k w hs=>by
  have h1:=Zk5 (S.tyI ht) rfl
  have h3:(Builtin.len_ #[t] ty #[ρe x]).run P w = .ok (iv len) w:=by
   simp [Builtin.len_,run_underlying h1,goInt]
  simp [execOp,resolve,invoke,builtin,h3]
theorem q_max {ts:Array TypeId} {x y:Operand} {k:IntKind} {a b:Int} (hx:ev ρ x=some (.int k a)) (hy:ev ρ y=some (.int k b)) :
  QOp P ⟨d,.call { callee := .builtin .max,args := #[x,y],argTypes:=ts },ty,pos,af,g⟩ ρ L (.int k (max a b)):=
 Yz fun ρe he k w hs=>by
  have e:(if a<b then b else a)=max a b:=by simp only [Int.max_def];split<;>split<;>omega
  simp [execOp,resolve,invoke,builtin,he x (by simp [Op.operands,Call.operands]) _ hx,he y (by simp [Op.operands,Call.operands]) _ hy,run_max_int2,e]
theorem q_min {ts:Array TypeId} {x y:Operand} {k:IntKind} {a b:Int} (hx:ev ρ x=some (.int k a)) (hy:ev ρ y=some (.int k b)) :
  QOp P ⟨d,.call { callee := .builtin .min,args := #[x,y],argTypes:=ts },ty,pos,af,g⟩ ρ L (.int k (min a b)):=
 Yz fun ρe he k w hs=>by
  have e:(if b<a then b else a)=min a b:=by simp only [Int.min_def];split<;>split<;>omega
  simp [execOp,resolve,invoke,builtin,he x (by simp [Op.operands,Call.operands]) _ hx,he y (by simp [Op.operands,Call.operands]) _ hy,run_min_int2,e]
end q
end Go.HL
end

/-! HLWrite -/
section
namespace Go.HL
open Go

def Upd (L:Zb) (b:Nat) (o o':Obj) (L':Zb):Prop := ∃ l r,L.flatten=l++(b,o)::r∧L'.flatten=l++(b,o')::r
theorem W3 {b:Nat} {o o':Obj} {c:List Zr} {L:Zb}:Upd (((b,o)::c)::L) b o o' (((b,o')::c)::L):=⟨[],c++L.flatten,by simp,by simp⟩
theorem Zvo {b:Nat} {o o':Obj} {e:Zr} {c c':List Zr} {L L':Zb} (h:Upd (c::L) b o o' (c'::L')):Upd ((e::c)::L) b o o' ((e::c')::L'):=by
 obtain ⟨l,r,h1,h2⟩:=h
 simp only [List.flatten_cons] at h1 h2
 exact ⟨e::l,r,by simp [h1],by simp [h2]⟩
theorem Zk7 {b:Nat} {o o':Obj} {c:List Zr} {L L':Zb} (h:Upd L b o o' L'):Upd (c::L) b o o' (c::L'):=by
 obtain ⟨l,r,h1,h2⟩:=h
 exact ⟨c++l,r,by simp [h1],by simp [h2]⟩
theorem Upd.has {L L':Zb} {b:Nat} {o o':Obj} (h:Upd L b o o' L'):Has L b o:=by
 obtain ⟨l,r,h1,h2⟩:=h
 simp [Has,h1]
theorem Sat.upd {k:Zlf} {w w':World} {L L':Zb} {b:Nat} {o o':Obj} (h:Sat k w L) (hu:Upd L b o o' L') (h1:w'.os=w.os) (h2:w'.output=w.output) (ht:w'.tape=w.tape)
  (h3:w'.heap[b]? = some o') (h4 : ∀ j,j≠b→w'.heap[j]? = w.heap[j]?):Sat k w' L':=by
 obtain ⟨l,r,e1,e2⟩:=hu
 have hnd:=h.nodup
 have hh:=h.has
 rw [e1] at hnd hh
 simp only [List.map_append,List.map_cons] at hnd
 have hd:=List.nodup_append.1 hnd
 have hd2:=List.nodup_cons.1 hd.2.1
 refine ⟨h1.trans h.os,h2.trans h.out,ht.trans h.tape,?_,?_⟩
 ·rw [e2]
  intro p hp
  rcases List.mem_append.1 hp with hp|hp
  ·rw [h4 p.1 (fun e=>hd.2.2 p.1 (List.mem_map_of_mem hp) b (by simp) e)]
   exact hh p (List.mem_append.2 (.inl hp))
  ·rcases List.mem_cons.1 hp with hp|hp
   ·subst hp;exact h3
   ·rw [h4 p.1 (fun e=>hd2.1 (e▸List.mem_map_of_mem hp))]
    exact hh p (List.mem_append.2 (.inr (List.mem_cons.2 (.inr hp))))
 ·rw [e2]
  simpa using hnd
theorem Sat.new {k:Zlf} {w:World} {L:Zb} (h:Sat k w L) (o:Obj):Sat k (w.alloc o) ([(w.heap.size,o)]::L):=by
 have hlt : ∀ p∈L.flatten,p.1<w.heap.size:=fun p hp=>(Array.getElem?_eq_some_iff.1 (h.has p hp)).1
 refine ⟨h.os,h.out,h.tape,fun p hp=>?_,?_⟩
 ·simp only [List.flatten_cons,List.cons_append,List.nil_append,List.mem_cons] at hp
  rcases hp with hp|hp
  ·subst hp;exact heap_alloc_new w o
  ·rw [Go.heap_alloc_old w o (hlt p hp)]
   exact h.has p hp
 ·simp only [List.flatten_cons,List.cons_append,List.nil_append,List.map_cons,List.nodup_cons]
  refine ⟨fun hm=>?_,h.nodup⟩
  obtain ⟨p,hp,e⟩:=List.mem_map.1 hm
  have:=hlt p hp
  omega
theorem Sat.drew {k:Zlf} {w:World} {L:Zb} (h:Sat k w L):Sat k w.drew L:=⟨h.os,h.out,h.tape,h.has,h.nodup⟩

def Zap:List Value→Nat→List Value→List Value
 | l,_,[]=>l
 | l,i,v::r=>Zap (l.set i v) (i+1) r
def Zt (l:List Value) (i:Nat) (vs l':List Value):Prop:=l'=Zap l i vs∧i+vs.length≤l.length
theorem Vf {l:List Value} {i:Nat} {v:Value} (h:i<l.length):Zt l i [v] (l.set i v):=⟨rfl,by simp;omega⟩
theorem Us {x v:Value} {l:List Value}:Zt (x::l) 0 [v] (v::l):=⟨by simp [Zap],by simp⟩
theorem Zb8 (vs:List Value) : ∀ (x:Value) (l:List Value) (i:Nat),Zap (x::l) (i+1) vs=x::Zap l i vs:=by
 induction vs with
 | nil=>intro x l i;rfl
 | cons v r ih=>intro x l i;simp [Zap,ih]
theorem V4 {x:Value} {l vs l':List Value} {i:Nat} (h:Zt l i vs l'):Zt (x::l) (i+1) vs (x::l'):=by
 obtain ⟨h1,h2⟩:=h
 exact ⟨by rw [Zb8,h1],by simp;omega⟩
theorem Zzj (vs:List Value) : ∀ (l:List Value),l.length=vs.length→Zap l 0 vs=vs:=by
 induction vs with
 | nil=>intro l h;simpa [Zap] using h
 | cons v r ih =>
  intro l h
  match l,h with
  | x::l,h =>
   simp only [Zap,List.set_cons_zero]
   rw [Zb8,ih l (by simpa using h)]
theorem Zke {l vs:List Value} (h:l.length=vs.length):Zt l 0 vs vs:=⟨(Zzj vs l h).symm,by omega⟩
theorem Zgb (vs:List Value) : ∀ (l r:List Value),l.length=vs.length→Zap (l++r) 0 vs=vs++r:=by
  induction vs with
  | nil => intro l r h;have:l=[]:=by simpa using h
           subst this;simp [Zap]
  | cons v vs ih =>
    intro l r h
    match l,h with
    | x::l,h =>
      simp only [Zap,List.cons_append,List.set_cons_zero]
      rw [Zb8,ih l r (by simpa using h)]
theorem Zuy {l r vs:List Value} (h:l.length=vs.length):Zt (l++r) 0 vs (vs++r):=⟨(Zgb vs l r h).symm,by simp;omega⟩

theorem Zgc {w:World} {b:Nat} {l:List Value} {E:Nat} {fr:Nat × Nat} (h:w.heap[b]? = some (.cells ⟨l⟩ E fr)) (j:Nat) (v:Value) :
  (w.setCell ⟨b,j,none⟩ v).heap[b]? = some (.cells ⟨l.set j v⟩ E fr):=by
 have hb:=(Array.getElem?_eq_some_iff.1 h).1
 have h':=(Array.getElem?_eq_some_iff.1 h).2
 simp only [World.setCell,Array.getElem?_modify,h,Option.map_some,if_true]
 simp
theorem Zb6 {P:Program} {k:Zlf} {b E:Nat} {fr:Nat × Nat} (vs:List Value) : ∀ (i0 i:Nat) (l:List Value) (w:World),
  w.heap[b]? = some (.cells ⟨l⟩ E fr)→(fr=(0,0))→i0+i+vs.length≤l.length→(∀ v∈vs,v.oneCell'=true) →
  ∃ w',(storeCells ⟨b,i0,none⟩ vs i).run P w = .ok () w'∧w'.os=w.os∧w'.output=w.output∧w'.tape=w.tape∧w'.heap[b]? = some (.cells ⟨Zap l (i0+i) vs⟩ E fr) ∧ ∀ j,j≠b→w'.heap[j]? = w.heap[j]? := by
 induction vs with
 | nil=>intro i0 i l w hb hf hl hc;exact ⟨w,by simp [storeCells],rfl,rfl,rfl,hb,fun _ _=>rfl⟩
 | cons v r ih =>
  intro i0 i l w hb hf hl hc
  simp only [List.length_cons] at hl
  have hcell:w.cell? ⟨b,i0+i,none⟩=some (l[i0+i]'(by omega)):=by
   rw [cell_of_row w b _ ⟨l⟩ E fr hb]
   simp
  have hfz:w.frozen? ⟨b,i0+i,none⟩=false:=by
   subst hf
   exact frozen_of_row w b _ ⟨l⟩ E hb
  have hst:(store (Addr.mk b (i0+i) none) v).run P w = .ok () (w.setCell ⟨b,i0+i,none⟩ v):=by
   rw [run_store P w _ v _ (hc v (by simp))]
   simp [hcell,hfz]
  have hb':=Zgc hb (i0+i) v
  obtain ⟨w',h1,h2,h3,ht,h4,h5⟩:=ih i0 (i+1) (l.set (i0+i) v) (w.setCell ⟨b,i0+i,none⟩ v) hb' hf (by simp;omega) (fun u hu=>hc u (by simp [hu]))
  refine ⟨w',?_,h2,h3,ht,?_,fun j hj=>?_⟩
  ·simp only [storeCells,Va]
   simp [hst,h1]
  ·rw [h4]
   simp only [Zap]
   rw [show i0+(i+1)=i0+i+1 by omega]
  ·rw [h5 j hj]
   exact heap_setCell_other w _ j v hj

section o
variable {P:Program} (S:Tab P) {n:Nat} {ops:List Oper} {Q:Exit→Z5→Zb→Prop} {rest:List Oper} {ρ:Z5} {L:Zb} {ty:TypeId} {pos:String} {af:Array Edge}

theorem Qh {o:Oper} {d:Nat} (hg:o.guard=none) (hd:o.dst=some d) (hn:Nat.blt d n=true)
  (h : ∀ (ρe:Operand→Value),(∀ x∈o.op.operands,∀ u,ev ρ x=some u→ρe x=u) → ∀ k w,Sat k w L → ∃ v w' L',(execOp ρe o).run P w = .ok (.value v) w'∧Sat k w' L'∧HO P n ops Q rest ((d,v)::ρ) L'):HO P n ops Q (o::rest) ρ L:=by
 intro k w a hs ha
 have hlt:d<n:=Nat.le_of_ble_eq_true hn
 unfold wpList
 rw [if_pos (Vx o hg _)]
 obtain ⟨v,w',L',hr,hs',hK⟩:=h a.eval (fun x _ u hu=>ha.ev hu) k w hs
 refine .inl ?_
 unfold Oper.wp
 rw [hr]
 simp only [Oper.upon]
 rw [hd]
 exact hK k w' _ hs' (ha.put hlt v)
theorem Zwf {o:Oper} (hg:o.guard=none) (hd:o.dst=none)
  (h : ∀ (ρe:Operand→Value),(∀ x∈o.op.operands,∀ u,ev ρ x=some u→ρe x=u) → ∀ k w,Sat k w L → ∃ w' L',((execOp ρe o).run P w = .ok .skip w' ∨ ∃ v,(execOp ρe o).run P w = .ok (.value v) w')∧Sat k w' L'∧HO P n ops Q rest ρ L'):HO P n ops Q (o::rest) ρ L:=by
 intro k w a hs ha
 unfold wpList
 rw [if_pos (Vx o hg _)]
 obtain ⟨w',L',hr,hs',hK⟩:=h a.eval (fun x _ u hu=>ha.ev hu) k w hs
 refine .inl ?_
 unfold Oper.wp
 rcases hr with hr|⟨v,hr⟩
 all_goals
  rw [hr]
  simp only [Oper.upon]
  rw [hd]
  exact hK k w' a hs' ha

theorem o_alloc {d E:Nat} {z:Value} {zs:List Value} (hz:Yh S.zr E=some z) (hc:z.cells=⟨zs⟩) (hn:Nat.blt d n=true)
  (h : ∀ b,HO P n ops Q rest ((d,pt b 0)::ρ) ([(b,.cells ⟨zs⟩ E)]::L)):HO P n ops Q (⟨some d,.alloc E,ty,pos,af,none⟩::rest) ρ L:=
 Qh rfl rfl hn fun ρe he k w hs=>⟨pt w.heap.size 0,w.alloc (.cells ⟨zs⟩ E),_,by
  have h1:=Qz (S.zeroI hz) w
  simp [execOp,Instr.alloc,h1,newVar,newRow,hc],hs.new _,h _⟩
theorem o_box {d E:Nat} {x:Operand} {v:Value} {vs:List Value} (hx:ev ρ x=some v) (hc:v.cells=⟨vs⟩) (hn:Nat.blt d n=true)
  (h : ∀ b,HO P n ops Q rest ((d,pt b 0)::ρ) ([(b,.cells ⟨vs⟩ E)]::L)):HO P n ops Q (⟨some d,.box E x,ty,pos,af,none⟩::rest) ρ L:=
 Qh rfl rfl hn fun ρe he k w hs=>⟨pt w.heap.size 0,w.alloc (.cells ⟨vs⟩ E),_,by
  simp [execOp,Instr.box,he x (by simp [Op.operands]) _ hx,newVar,newRow,hc],hs.new _,h _⟩
theorem o_store {t b i E:Nat} {ti:TyI} {x y:Operand} {v:Value} {vs l l':List Value} {L':Zb} (hx:ev ρ x=some (pt b i)) (hy:ev ρ y=some v) (ht:Yh S.ty t=some ti)
  (hc:v.cells=⟨vs⟩) (hsz:ti.size=vs.length) (h1:(vs.all Value.oneCell')=true) (hp:Zt l i vs l') (hu:Upd L b (.cells ⟨l⟩ E (0,0)) (.cells ⟨l'⟩ E (0,0)) L')
  (h:HO P n ops Q rest ρ L'):HO P n ops Q (⟨none,.store t x y,ty,pos,af,none⟩::rest) ρ L:=
 Zwf rfl rfl fun ρe he k w hs=>by
  obtain ⟨hp1,hp2⟩:=hp
  obtain ⟨w',e1,e2,e3,et,e4,e5⟩:=Zb6 (P:=P) (k:=k) vs i 0 l w (hs.heap hu.has) rfl (by simpa using hp2) (fun v hv=>List.all_eq_true.1 h1 v hv)
  refine ⟨w',L',.inl ?_,hs.upd hu e2 e3 et (by rw [e4,hp1,Nat.add_zero]) e5,h⟩
  have h2:=X7 (S.tyI ht) w
  have h3:v.cells.size=vs.length:=by rw [hc];rfl
  have h4:v.cells.toList=vs:=by rw [hc]
  simp [execOp,Instr.storeAt,he x (by simp [Op.operands]) _ hx,he y (by simp [Op.operands]) _ hy,Instr.sureAddr,storeVar,h2,h3,hsz,h4,e1]

/-! ### calls -/
theorem evs_map {l:List Operand} {ρe:Operand→Value} : ∀ {us:List Value},(∀ x∈l,∀ u,ev ρ x=some u→ρe x=u)→Zlm ρ l=some us→l.map ρe=us:=by
 induction l with
 | nil=>intro us _ h;simp [Zlm] at h;simp [← h]
 | cons x r ih =>
  intro us hl h
  simp only [Zlm] at h
  cases hx:ev ρ x with
  | none=>simp [hx] at h
  | some u =>
   cases hr:Zlm ρ r with
   | none=>simp [hx,hr] at h
   | some us' =>
    simp [hx,hr] at h
    rw [List.map_cons,hl x (by simp) u hx,ih (fun y hy=>hl y (by simp [hy])) hr]
    exact h
theorem Zqi {f:Operand} {as9:Array Operand} {ts:Array TypeId} {o:Oper} {ρe:Operand→Value} {F:Nat} {cap args:List Value} (hf:ev ρ f=some (.func (.func F) #[] ⟨cap⟩)) (ha:Zlm ρ as9.toList=some args)
  (he : ∀ x∈(Op.call { callee := .value f,args:=as9,argTypes:=ts }).operands,∀ u,ev ρ x=some u→ρe x=u) (hop:o.op = .call { callee := .value f,args:=as9,argTypes:=ts }) (hen:Ziw P F) (w:World) :
  (execOp ρe o).run P w = .ok (.enter F ⟨args++cap⟩) w:=by
 have e1:ρe f = .func (.func F) #[] ⟨cap⟩:=he f (by simp [Op.operands,Call.operands]) _ hf
 have e2:as9.map ρe=⟨args⟩:=by
  have:=evs_map (l:=as9.toList) (ρe:=ρe) (fun x hx u hu=>he x (by simp [Op.operands,Call.operands];exact .inr (Array.mem_toList_iff.1 hx)) u hu) ha
  apply Array.toList_inj.1
  simpa using this
 have e3:=hen ⟨args++cap⟩ w
 simp only [execOp,hop,resolve,e1,e2]
 simp [Deferred.ofValue,invoke,e3]
theorem q_call {d:Option Tmp} {g:Option (Nat × Bool)} {f:Operand} {as9:Array Operand} {ts:Array TypeId} {F:Nat} {cap args:List Value} {v:Value} (hf:ev ρ f=some (.func (.func F) #[] ⟨cap⟩)) (ha:Zlm ρ as9.toList=some args)
  (hc:HC P F (args++cap) L (fun u L'=>u=v∧L'=L)):QOp P ⟨d,.call { callee := .value f,args:=as9,argTypes:=ts },ty,pos,af,g⟩ ρ L v:=by
 intro k a he w hs
 unfold Oper.quietAt
 rw [Zqi hf ha he rfl hc.1 w]
 exact ⟨rfl,(hc.2 k w hs).mono fun e w' ⟨u,L',h1,h2,h3,h4⟩=>by subst h3;subst h4;exact ⟨h1,h2⟩⟩
theorem o_call {d:Nat} {f:Operand} {as9:Array Operand} {ts:Array TypeId} {F:Nat} {cap args:List Value} {R:Value→Zb→Prop} (hf:ev ρ f=some (.func (.func F) #[] ⟨cap⟩)) (ha:Zlm ρ as9.toList=some args)
  (hc:HC P F (args++cap) L R) (hn:Nat.blt d n=true) (h : ∀ v L',R v L'→HO P n ops Q rest ((d,v)::ρ) L'):HO P n ops Q (⟨some d,.call { callee := .value f,args:=as9,argTypes:=ts },ty,pos,af,none⟩::rest) ρ L:=by
 intro k w a hs haa
 have hlt:d<n:=Nat.le_of_ble_eq_true hn
 unfold wpList
 rw [if_pos (Vx _ rfl _)]
 refine .inl ?_
 unfold Oper.wp
 rw [Zqi hf ha (fun x _ u hu=>haa.ev hu) rfl hc.1 w]
 refine (hc.2 k w hs).mono fun e w' ⟨u,L',h1,h2,h3⟩=>?_
 subst h1
 exact h u L' h3 k w' _ h2 (haa.put hlt u)
theorem ho_perm {l:List Oper} {L':Zb} (h:HO P n ops Q l ρ L') (hs:List.Perm L L'):HO P n ops Q l ρ L:=fun k w a hs' ha=>h k w a (hs'.perm hs) ha
end o
end Go.HL
end

/-! HLDraw -/
section
namespace Go.HL
open Go

section draw
variable {P:Program} {n:Nat} {ops:List Oper} {K:Z5→Prop} {rest:List Oper} {o:Oper} {ρ:Z5} {L:Zb}

def HQ (P:Program) (n:Nat) (ops:List Oper) (K:Z5→Prop) (l:List Oper) (ρ:Z5) (L:Zb):Prop:=
 ∀ k a,Agr n a ρ→wpQuiet P ops.toArray (fun w=>Sat k w L) (fun a' => ∃ ρ',Agr n a' ρ'∧K ρ') l a
theorem hq_nil (h:K ρ):HQ P n ops K [] ρ L:=fun k a ha=>⟨ρ,ha,h⟩
theorem hq_q {v:Value} {d:Nat} {op:Op} {ty:TypeId} {pos:String} {af:Array Edge} (hn:Nat.blt d n=true) (h:QOp P ⟨some d,op,ty,pos,af,none⟩ ρ L v) (hr:HQ P n ops K rest ((d,v)::ρ) L) :
  HQ P n ops K (⟨some d,op,ty,pos,af,none⟩::rest) ρ L:=by
 have hg:(Oper.mk (some d) op ty pos af none).guard=none:=rfl
 intro k a ha
 have hlt:d<n:=Nat.le_of_ble_eq_true hn
 unfold wpQuiet
 rw [if_pos (Vx _ hg _)]
 refine ⟨v,fun w hs=>h k a (fun x _ u hu=>ha.ev hu) w hs,?_⟩
 exact hr k _ (ha.put hlt v)
theorem Zwj {v:Value} {d j t:Nat} {wt:Bool} {op:Op} {ty:TypeId} {pos:String} {af:Array Edge} (hn:Nat.blt d n=true) (hj:Zaf ops j=some t) (ht:lk ρ t=some (.bool wt)) (h:QOp P ⟨some d,op,ty,pos,af,some (j,wt)⟩ ρ L v)
  (hr:HQ P n ops K rest ((d,v)::ρ) L):HQ P n ops K (⟨some d,op,ty,pos,af,some (j,wt)⟩::rest) ρ L:=by
 have hg:(Oper.mk (some d) op ty pos af (some (j,wt))).guard=some (j,wt):=rfl
 intro k a ha
 have hlt:d<n:=Nat.le_of_ble_eq_true hn
 unfold wpQuiet
 rw [if_pos (by rw [V6 ha hg hj ht];simp)]
 refine ⟨v,fun w hs=>h k a (fun x _ u hu=>ha.ev hu) w hs,?_⟩
 exact hr k _ (ha.put hlt v)
theorem Zwi {d j t:Nat} {wt b:Bool} {op:Op} {ty:TypeId} {pos:String} {af:Array Edge} (hn:Nat.blt d n=true) (hj:Zaf ops j=some t) (ht:lk ρ t=some (.bool b)) (hb:(!wt)=b)
  (hr:HQ P n ops K rest ((d,undef)::ρ) L):HQ P n ops K (⟨some d,op,ty,pos,af,some (j,wt)⟩::rest) ρ L:=by
 subst hb
 have hg:(Oper.mk (some d) op ty pos af (some (j,wt))).guard=some (j,wt):=rfl
 intro k a ha
 have hlt:d<n:=Nat.le_of_ble_eq_true hn
 unfold wpQuiet
 rw [if_neg (by rw [V6 ha hg hj ht];cases wt<;>simp)]
 exact hr k _ (ha.put hlt undef)
theorem Zyd {l:List Oper} (t:Nat) {b:Bool} (ht:lk ρ t=some (.bool b)) (h1:b=true→HQ P n ops K l ((t,.bool true)::ρ) L) (h0:b=false→HQ P n ops K l ((t,.bool false)::ρ) L):HQ P n ops K l ρ L:=by
 intro k a ha
 cases hb:b with
 | true=>exact h1 hb k a (ha.name ht hb)
 | false=>exact h0 hb k a (ha.name ht hb)
theorem hq_skipu {d j t:Nat} {wt:Bool} {v:Value} {op:Op} {ty:TypeId} {pos:String} {af:Array Edge} (hj:Zaf ops j=some t) (ht:lk ρ t=some v) (hb:v=undef) (hn:Nat.blt d n=true)
  (hr:HQ P n ops K rest ((d,undef)::ρ) L):HQ P n ops K (⟨some d,op,ty,pos,af,some (j,wt)⟩::rest) ρ L:=by
 subst hb
 intro k a ha
 have hlt:d<n:=Nat.le_of_ble_eq_true hn
 unfold wpQuiet
 have hw:Region.wanted (Oper.mk (some d) op ty pos af (some (j,wt))) (yielded ops.toArray a.tmps)=false:=by
  unfold Zaf at hj
  simp [Region.wanted,yielded,hj,ha.get _ _ ht,undef]
 rw [if_neg (by rw [hw];simp)]
 exact hr k _ (ha.put hlt undef)
theorem Zyc {d j t:Nat} {wt:Bool} {op:Op} {ty:TypeId} {pos:String} {af:Array Edge} {b:Bool} (hj:Zaf ops j=some t) (ht:lk ρ t=some (.bool b))
  (h1:b=true→HQ P n ops K (⟨some d,op,ty,pos,af,some (j,wt)⟩::rest) ((t,.bool true)::ρ) L) (h0:b=false→HQ P n ops K (⟨some d,op,ty,pos,af,some (j,wt)⟩::rest) ((t,.bool false)::ρ) L) :
  HQ P n ops K (⟨some d,op,ty,pos,af,some (j,wt)⟩::rest) ρ L:=Zyd t ht h1 h0
theorem wpQuiet_mono' {P:Program} {ops:Array Oper} {C:World→Prop} {Q Q':Act→Prop} (hq : ∀ a,Q a→Q' a) : ∀ (l:List Oper) (a:Act),wpQuiet P ops C Q l a→wpQuiet P ops C Q' l a
 | [],a,h=>hq a h
 | o::l,a,h=>by
  unfold wpQuiet at *
  split
  ·rename_i hw
   rw [if_pos hw] at h
   exact Oper.quiet_mono (fun a' h'=>wpQuiet_mono' hq l a' h') h
  ·rename_i hw
   rw [if_neg hw] at h
   exact wpQuiet_mono' hq l _ h
theorem Zq5 {id:Nat} {Q:Exit→Z5→Zb→Prop} (S:Tab P) (hB:Region.lexB .any ops.toArray=true) (h:HQ P n ops (fun ρ'=>Q .normal ρ' L) ops ρ L):HW P n (.region id ops.toArray true) Q ρ L:=by
 intro k w a hs ha
 refine wp_region_quiet (C:=fun w=>Sat k w L) S.mixed hB hs.drew ?_
 exact wpQuiet_mono' (fun a' ⟨ρ',h1,h2⟩ w' hs'=>⟨ρ',L,h1,hs',h2⟩) _ _ (h k a ha)
end draw
end Go.HL
end

/-! HLApp -/
section
namespace Go.HL
open Go

def Own (E sz:Nat) (v:Value) (n:Nat) (cs:List Value) (c:List Zr):Prop:=
 (v=Ys∧n=0∧cs=[]∧c=[]) ∨
 ∃ b cap sp,v=sl b 0 n cap∧c=[(b,.cells ⟨cs++sp⟩ E)]∧cs.length=n*sz∧n≤cap∧(cs++sp).length=cap*sz
theorem own_nil {E sz:Nat}:Own E sz Ys 0 [] [] := .inl ⟨rfl,rfl,rfl,rfl⟩
def Src (sz:Nat) (L:Zb) (u:Value) (n:Nat) (new:List Value):Prop:=
 (∃ a cap,u = .slice a 0 cap∧n=0∧new=[]) ∨ ∃ b i cap l F fr,0<n∧u=sl b i n cap∧Has L b (.cells ⟨l⟩ F fr)∧Gets l i new∧new.length=n*sz
theorem Yx {α:Type} {enc:α→List Value} {sz:Nat} (hsz : ∀ x,(enc x).length=sz) : ∀ ys:List α,((ys.map enc).flatten).length=ys.length*sz
 | []=>by simp
 | y::ys=>by simp [Yx hsz ys,hsz,Nat.add_mul,Nat.add_comm]
theorem Zne {α:Type} {enc:α→List Value} {sz:Nat} {L:Zb} {a:Option Addr} {cap:Nat} {xs:List α} (hsz : ∀ x,(enc x).length=sz) (h:Rd enc sz L a xs):Src sz L (.slice a xs.length cap) xs.length (xs.map enc).flatten:=by
 cases xs with
 | nil=>exact .inl ⟨a,cap,rfl,rfl,rfl⟩
 | cons x r =>
  rcases h with h|⟨b,i,l,E,fr,rfl,hb,hg⟩
  ·cases h
  ·exact .inr ⟨b,i,cap,l,E,fr,by simp,rfl,hb,Zgn hsz _ _ hg,Yx hsz _⟩
theorem src_one {sz b i cap F:Nat} {L:Zb} {l new:List Value} {fr:Nat × Nat} (hb:Has L b (.cells ⟨l⟩ F fr)) (hg:Gets l i new) (hl:new.length=sz):Src sz L (sl b i 1 cap) 1 new:=
 .inr ⟨b,i,cap,l,F,fr,by omega,rfl,hb,hg,by omega⟩

theorem Zdi (zs:List Value) (n:Nat) : ∃ sp:List Value,Builtin.zeroCells ⟨zs⟩ n=⟨sp⟩∧sp.length=n*zs.length:=by
 refine ⟨(Builtin.zeroCells ⟨zs⟩ n).toList,rfl,?_⟩
 rw [Array.length_toList,size_zeroCells]
 rfl
theorem take_left {a b:List Value} {n:Nat} (h:a.length=n):(a++b).take n=a:=by subst h;simp

section app
variable {P:Program} (S:Tab P) {n:Nat} {ops:List Oper} {Q:Exit→Z5→Zb→Prop} {rest:List Oper} {ρ:Z5} {L:Zb} {ty:TypeId} {pos:String} {af:Array Edge}

theorem Zcy (w:World) (need old e:Nat):need≤grownCap w need old e:=Nat.le_add_right _ _

theorem Zr1 {d t E y0 s0 b0 k1 x1 y1 sz by1 m nn:Nat} {z v u:Value} {zs cs new:List Value} {c:List Zr} {x y:Operand}
  (hx:ev ρ x=some v) (hy:ev ρ y=some u) (ht:Yh S.ty t=some ⟨5,E,y0,s0,b0⟩) (he:Yh S.ty E=some ⟨k1,x1,y1,sz,by1⟩) (hz:Yh S.zr E=some z) (hzs:z.cells=⟨zs⟩) (hzl:zs.length=sz)
  (hn:Nat.blt d n=true) (ho:Own E sz v nn cs c) (hs:Src sz (c::L) u m new) (h1:(new.all Value.oneCell')=true) (hby:(nn+m)*by1≤140737488355328) (hmax:nn+m≤9223372036854775807)
  (h : ∀ v' c',Own E sz v' (nn+m) (cs++new) c'→HO P n ops Q rest ((d,v')::ρ) (c'::L)) :
  HO P n ops Q (⟨some d,.call { callee := .builtin .append,args := #[x,y],argTypes := #[t,t] },ty,pos,af,none⟩::rest) ρ (c::L):=by
 refine Qh rfl rfl hn fun ρe he' k w hsat=>?_
 have hdesc:=Yy (S.tyI ht) rfl
 obtain ⟨de,i,hde,hi,-,hisz,hiby⟩:=Wd (S.tyI he)
 simp only at hisz hiby
 have hiz:i.zero=some z:=by
  have:=S.zeroI hz
  unfold zeroI at this
  simpa [hi] using this
 have hsize:(sizeOf E).run P w = .ok sz w:=X7 (S.tyI he) w
 have hone : ∀ u∈new,u.oneCell'=true:=fun u hu=>List.all_eq_true.1 h1 u hu
 have e1:=he' x (by simp [Op.operands,Call.operands]) _ hx
 have e2:=he' y (by simp [Op.operands,Call.operands]) _ hy
 suffices ∃ v' w' c',(Builtin.append_ #[t,t] ty #[v,u]).run P w = .ok v' w'∧Sat k w' (c'::L)∧Own E sz v' (nn+m) (cs++new) c' by
  obtain ⟨v',w',c',hr,hs',ho'⟩:=this
  refine ⟨v',w',c'::L,?_,hs',h v' c' ho'⟩
  simp [execOp,resolve,invoke,builtin,e1,e2,hr]
 have hdrop:Sat k w L:=hsat.sub (.cons _ (.refl _))
 rcases hs with ⟨a,cap,rfl,rfl,rfl⟩|⟨b,j,cap,l,F,fr,hm,rfl,hb,hg,hlen⟩
 · -- nothing comes
  rcases ho with ⟨rfl,rfl,rfl,rfl⟩|⟨b',cap',sp,rfl,rfl,hcs,hle,hall⟩
  ·refine ⟨Ys,w,[],?_,hsat,.inl ⟨rfl,rfl,rfl,rfl⟩⟩
   cases a<;>simp [Builtin.append_,run_underlying hdesc,hsize,Builtin.lenOf,Builtin.firstCells,loadCells,loadCellsFrom]
  ·refine ⟨sl b' 0 nn cap',w,[(b',.cells ⟨cs++sp⟩ E)],?_,hsat,.inr ⟨b',cap',sp,by simp,by simp,by simp [hcs],by omega,by simpa using hall⟩⟩
   cases a<;>simp [Builtin.append_,run_underlying hdesc,hsize,Builtin.lenOf,Builtin.firstCells,loadCells,loadCellsFrom,hle,storeCells]
 ·have hnews : ∀ (q:Nat) (v:Value),new[q]? = some v→w.cell? ((Addr.mk b j none).add q)=some v:=fun q v hq=>by
   rw [Va,hsat.cell hb];exact hg q v hq
  rcases ho with ⟨rfl,rfl,rfl,rfl⟩|⟨b',cap',sp,rfl,rfl,hcs,hle,hall⟩
  ·have hr:=run_append_nil (P:=P) w t ty E i z hdesc hi hiz ⟨b,j,none⟩ m cap new (by rw [hisz];exact hlen) hnews hm (by omega) (by rw [hiby];simp at hby;omega)
   obtain ⟨sp,hsp,hspl⟩:=Zdi zs (grownCap w m 0 E-m)
   rw [hzs,hsp] at hr
   have hcap:=Zcy w m 0 E
   refine ⟨_,_,[(w.heap.size,.cells ⟨new++sp⟩ E)],by simpa using hr,?_,.inr ⟨w.heap.size,grownCap w m 0 E,sp,by simp,by simp,by simpa using hlen,by omega,?_⟩⟩
   ·have:=(hdrop.drew).new (.cells ⟨new++sp⟩ E)
    simpa using this
   ·simp only [List.nil_append,List.length_append,hspl,hlen,hzl]
    rw [Nat.sub_mul]
    have:m*sz≤grownCap w m 0 E*sz:=Nat.mul_le_mul_right _ hcap
    omega
  ·have hb':w.heap[b']? = some (.cells ⟨cs++sp⟩ E):=hsat.heap Zh
   by_cases hroom:nn+m≤cap'
   ·have hsplit:nn*sz+new.length≤(cs++sp).length:=by
     rw [hlen,hall,← Nat.add_mul]
     exact Nat.mul_le_mul_right _ hroom
    have hr:=run_append_room (P:=P) w t ty E i hdesc hi b' nn cap' ⟨cs++sp⟩ hb' ⟨b,j,none⟩ m cap new (by rw [hisz];exact hlen) hnews hone hroom (by rw [hisz];simpa using hsplit)
    rw [hisz] at hr
    have e3:(cs++sp).take (nn*sz)++new++(cs++sp).drop (nn*sz+new.length)=(cs++new)++sp.drop new.length:=by
     rw [take_left hcs,← hcs,List.drop_append,List.drop_of_length_le (by omega)]
     simp
    simp only [] at hr
    rw [e3] at hr
    refine ⟨_,_,[(b',.cells ⟨(cs++new)++sp.drop new.length⟩ E)],hr,?_,.inr ⟨b',cap',sp.drop new.length,rfl,rfl,by simp [hcs,hlen,Nat.add_mul],hroom,?_⟩⟩
    ·refine hsat.upd (o := .cells ⟨cs++sp⟩ E) (o' := .cells ⟨(cs++new)++sp.drop new.length⟩ E) W3 rfl rfl rfl (setRow_heap w b' _ _ E _ hb') (fun q hq=>?_)
     simp only [World.setRow,Array.getElem?_modify]
     rw [if_neg (fun e=>hq e.symm)]
    ·simp only [List.length_append,List.length_drop] at hall hsplit ⊢
     omega
   ·have hfit:Builtin.nextslicecap (nn+m) cap'*i.bytes≤281474976710656:=by
     rw [hiby];exact growslice_fits (by omega) hby
    have holds : ∀ (q:Nat) (v:Value),cs[q]? = some v→w.cell? ((Addr.mk b' 0 none).add q)=some v:=fun q v hq=>by
     rw [Va,hsat.cell Zh,Nat.zero_add]
     rw [List.getElem?_append_left (List.getElem?_eq_some_iff.1 hq).1];exact hq
    have hr:=run_append_grow (P:=P) w t ty E i z hdesc hi hiz ⟨b',0,none⟩ nn cap' cs (by rw [hisz];exact hcs) holds ⟨b,j,none⟩ m cap new (by rw [hisz];exact hlen) hnews (by omega) (by omega) hfit
    obtain ⟨sp',hsp,hspl⟩:=Zdi zs (grownCap w (nn+m) cap' E-(nn+m))
    rw [hzs,hsp] at hr
    have hcap:=Zcy w (nn+m) cap' E
    refine ⟨sl w.heap.size 0 (nn+m) (grownCap w (nn+m) cap' E),w.drew.alloc (.cells ⟨(cs++new)++sp'⟩ E),[(w.heap.size,.cells ⟨(cs++new)++sp'⟩ E)],?_,?_,.inr ⟨w.heap.size,grownCap w (nn+m) cap' E,sp',rfl,rfl,by simp [hcs,hlen,Nat.add_mul],hcap,?_⟩⟩
    ·rw [hr];simp
    ·exact (hdrop.drew).new (.cells ⟨(cs++new)++sp'⟩ E)
    ·simp only [List.length_append,hspl,hlen,hcs,hzl]
     rw [← Nat.add_mul,Nat.sub_mul]
     have:(nn+m)*sz≤grownCap w (nn+m) cap' E*sz:=Nat.mul_le_mul_right _ hcap
     omega
def Zqq (ρ:Z5):Nat→List (Nat × Operand)→Option (List Value)
 | _,[]=>some []
 | k,(i,x)::r=>bif Nat.beq i k then (match ev ρ x,Zqq ρ (k+1) r with
  | some v,some vs=>some (v::vs)
  | _,_=>none) else none
theorem Zqt {ρe:Operand→Value} : ∀ (parts:List (Nat × Operand)) (k:Nat) (vals pre zs:List Value),(∀ p∈parts,∀ u,ev ρ p.2=some u→ρe p.2=u)→Zqq ρ k parts=some vals→pre.length=k→zs.length=vals.length →
  (vals.all Value.oneCell')=true→Instr.fill (fun i=>some (i,1)) ⟨pre++zs⟩ (parts.map fun p=>(p.1,ρe p.2))=some ⟨pre++vals⟩
 | [],k,vals,pre,zs,_,h,_,hz,_=>by
  simp [Zqq] at h;subst h
  have:zs=[]:=by simpa using hz
  subst this
  simp [Instr.fill]
 | (i, x)::r,k,vals,pre,zs,he,h,hp,hz,h1=>by
  simp only [Zqq] at h
  cases hb:Nat.beq i k with
  | false=>rw [hb] at h;cases h
  | true =>
   rw [hb] at h
   have hik:=Nat.eq_of_beq_eq_true hb
   subst hik
   cases hx:ev ρ x with
   | none=>simp [hx] at h
   | some v =>
    cases hr:Zqq ρ (i+1) r with
    | none=>simp [hx,hr] at h
    | some vs =>
     simp [hx,hr] at h
     subst h
     match zs,hz with
     | z::zs,hz =>
      simp only [List.all_cons,Bool.and_eq_true] at h1
      have hev:=he (i,x) (by simp) v hx
      have hc:v.cells = #[v]:=by cases v<;>first|rfl|(simp [Value.oneCell'] at h1)
      have ih:=Zqt r (i+1) vs (pre++[v]) zs (fun p hp=>he p (by simp [hp])) hr (by simp [hp]) (by simpa using hz) h1.2
      simp only [List.map_cons,Instr.fill,hev,hc]
      simp only [List.append_assoc,List.cons_append,List.nil_append] at ih
      have e:(Array.mk (pre++z::zs)).setIfInBounds i v=⟨pre++v::zs⟩:=by
       apply Array.toList_inj.1
       simp [List.set_append,hp]
      simp [hp,e,ih]
theorem Zlq {d t E y0 s0 b0 k1 x1 y1 by1 len:Nat} {z:Value} {zv:Value} {vals:List Value} {parts:Array (Nat × Operand)} (ht:Yh S.ty t=some ⟨5,E,y0,s0,b0⟩) (he:Yh S.ty E=some ⟨k1,x1,y1,1,by1⟩) (hz:Yh S.zr E=some z) (hzs:z.cells=⟨[zv]⟩)
  (hp:Zqq ρ 0 parts.toList=some vals) (hlen:vals.length=len) (hsm:Nat.ble len 16777216=true) (h1:(vals.all Value.oneCell')=true) (hn:Nat.blt d n=true)
  (h : ∀ b,HO P n ops Q rest ((d,sl b 0 len len)::ρ) ([(b,.cells ⟨vals⟩ E)]::L)):HO P n ops Q (⟨some d,.buildSlice t len parts,ty,pos,af,none⟩::rest) ρ L:=by
 refine Qh rfl rfl hn fun ρe he' k w hs=>⟨sl w.heap.size 0 len len,w.alloc (.cells ⟨vals⟩ E),_,?_,hs.new _,h _⟩
 have hdesc:=Yy (S.tyI ht) rfl
 have hsize:(sizeOf E).run P w = .ok 1 w:=X7 (S.tyI he) w
 have hzero:=Qz (S.zeroI hz) w
 have hle:len≤16777216:=Nat.le_of_ble_eq_true hsm
 have hparts : ∀ p∈parts.toList,∀ u,ev ρ p.2=some u→ρe p.2=u:=fun p hp u hu=>he' p.2 (by simp [Op.operands];exact ⟨p.1,by simpa using Array.mem_toList_iff.1 hp⟩) u hu
 have hfill:=Zqt (ρ:=ρ) parts.toList 0 vals [] (List.replicate len zv) hparts hp rfl (by simp [hlen]) h1
 have hm:(parts.map fun p=>(p.1,ρe p.2)).toList=parts.toList.map fun p=>(p.1,ρe p.2):=by simp
 have hbs : ∀ pp:Array (Nat × Value),pp.toList=parts.toList.map (fun p=>(p.1,ρe p.2))→(Instr.buildSlice t len pp).run P w = .ok (sl w.heap.size 0 len len) (w.alloc (.cells ⟨vals⟩ E)):=by
  intro pp hpp
  have hl2 : ¬ (16777216<len):=by omega
  simp only [List.nil_append] at hfill
  by_cases h0:len=0
  ·subst h0
   have hv:vals=[]:=by simpa using hlen
   subst hv
   simp only [List.replicate_zero] at hfill
   have hf2:Instr.fill (fun i=>some (i,1)) #[] (List.map (fun p=>(p.fst,ρe p.snd)) parts.toList)=some ⟨[]⟩:=hfill
   have e0:Array.range 0 = #[]:=rfl
   simp only [Instr.buildSlice]
   simp [run_underlying hdesc,hsize,hpp,e0,hf2,newRow]
  ·have harr:Array.map (fun j=>(z.cells)[j % z.cells.size]!) (Array.range len)=⟨List.replicate len zv⟩:=by
    rw [hzs]
    apply Array.toList_inj.1
    simp [List.map_const',Nat.mod_one]
   have hf2:Instr.fill (fun i=>some (i,1)) (Array.replicate len zv) (List.map (fun p=>(p.fst,ρe p.snd)) parts.toList)=some ⟨vals⟩:=by
    have e1:Array.replicate len zv=⟨List.replicate len zv⟩:=by simp
    rw [e1];exact hfill
   simp only [Instr.buildSlice]
   simp [run_underlying hdesc,hsize,hzero,h0,hl2,harr,hpp,hf2,newRow]
 have:=hbs (parts.map fun p=>(p.1,ρe p.2)) (by simp)
 simp [execOp,this]
theorem Sat.nilc {k:Zlf} {w:World} (h:Sat k w L):Sat k w ([]::L):=⟨h.os,h.out,h.tape,by simpa using h.has,by simpa using h.nodup⟩
theorem Zoe {l:List Oper} (h:HO P n ops Q l ρ ([]::L)):HO P n ops Q l ρ L:=fun k w a hs ha=>h k w a hs.nilc ha
theorem Zih {c:Code} (h:HW P n c Q ρ ([]::L)):HW P n c Q ρ L:=fun k w a hs ha=>h k w a hs.nilc ha
theorem Zen {α:Type} {enc:α→List Value} (he : ∀ x,(enc x).all Value.oneCell'=true) (xs:List α):((xs.map enc).flatten.all Value.oneCell')=true:=by
 simp only [List.all_eq_true,List.mem_flatten,List.mem_map]
 rintro v ⟨l,⟨x,_,rfl⟩,hv⟩
 exact List.all_eq_true.1 (he x) v hv
theorem Wx {α:Type} {enc:α→List Value} {sz:Nat} (hsz : ∀ x,(enc x).length=sz) : ∀ (xs:List α) (sp:List Value) (pre:List Value) (k:Nat) (x:α),xs[k]? = some x→Gets (pre++(xs.map enc).flatten++sp) (pre.length+k*sz) (enc x)
 | [],sp,pre,k,x,h=>by simp at h
 | y::r,sp,pre,0,x,h=>by
  simp at h;subst h
  intro j v hj
  have hlt:j<(enc y).length:=(List.getElem?_eq_some_iff.1 hj).1
  simp only [List.map_cons,List.flatten_cons,Nat.zero_mul,Nat.add_zero,List.append_assoc]
  rw [List.getElem?_append_right (by omega),List.getElem?_append_left (by simpa using hlt)]
  simpa using hj
 | y::r,sp,pre,k+1,x,h=>by
  have:=Wx hsz r sp (pre++enc y) k x (by simpa using h)
  simp only [List.map_cons,List.flatten_cons,List.append_assoc,List.length_append,hsz] at this ⊢
  rw [show pre.length+(k+1)*sz=pre.length+sz+k*sz by rw [Nat.add_mul,Nat.one_mul];omega]
  exact this
theorem Own.rd {α:Type} {enc:α→List Value} {E sz:Nat} (hsz : ∀ x,(enc x).length=sz) {v:Value} {nn:Nat} {xs:List α} {c:List Zr} (h:Own E sz v nn (xs.map enc).flatten c) (hl:xs.length=nn) :
  ∃ a cap,v = .slice a xs.length cap∧Rd enc sz (c::L) a xs:=by
 rcases h with ⟨rfl,h0,hcs,rfl⟩|⟨b,cap,sp,rfl,rfl,hcs,hle,hall⟩
 ·refine ⟨none,0,by rw [hl,h0],.inl ?_⟩
  exact List.eq_nil_of_length_eq_zero (by omega)
 ·refine ⟨some ⟨b,0,none⟩,cap,by rw [hl],.inr ⟨b,0,_,E,(0,0),rfl,Zh,fun k x hx=>?_⟩⟩
  have:=Wx hsz xs sp [] k x hx
  simpa using this
end app
end Go.HL
end

/-! HLMore -/
section
namespace Go.HL
open Go

def cut (a:Option Addr) (cap l sz:Nat):Option Addr:=if cap=l then a else a.map (·.add (l*sz))
theorem Rd.drop {α:Type} {enc:α→List Value} {sz:Nat} {L:Zb} {a:Option Addr} {xs:List α} {cap l:Nat} (h:Rd enc sz L a xs) (hc:xs.length≤cap):Rd enc sz L (cut a cap l sz) (xs.drop l):=by
 by_cases hl:xs.length≤l
 ·exact .inl (List.drop_of_length_le hl)
 ·rcases h with h|⟨b,i,c,E,fr,rfl,hb,hg⟩
  ·exact .inl (by simp [h])
  ·refine .inr ⟨b,i+l*sz,c,E,fr,?_,hb,fun k x hx=>?_⟩
   ·unfold cut
    rw [if_neg (by omega)]
    simp only [Option.map_some,Va]
   ·rw [List.getElem?_drop] at hx
    have:=hg _ _ hx
    rw [Nat.add_mul,← Nat.add_assoc] at this
    exact this
theorem Rd.take {α:Type} {enc:α→List Value} {sz:Nat} {L:Zb} {a:Option Addr} {xs:List α} {n:Nat} (h:Rd enc sz L a xs):Rd enc sz L a (xs.take n):=by
 rcases h with h|⟨b,i,c,E,fr,rfl,hb,hg⟩
 ·exact .inl (by simp [h])
 ·refine .inr ⟨b,i,c,E,fr,rfl,hb,fun k x hx=>?_⟩
  rw [List.getElem?_take] at hx
  split at hx
  ·exact hg _ _ hx
  ·cases hx
theorem Zn7 {P:Program} {t e:Nat} (h:P.underlying t=some (.slice e)):P.elem t=e∧P.underlying t=some (.slice (P.elem t)):=by
 have:P.elem t=e:=by simp [Program.elem,h]
 exact ⟨this,by rw [this];exact h⟩
section q
variable {P:Program} (S:Tab P) {ρ:Z5} {L:Zb} {d:Option Tmp} {ty:TypeId} {pos:String} {af:Array Edge} {g:Option (Nat × Bool)}
theorem Zy9 {t E y0 s0 b0 k1 x1 y1 sz b1 len cap:Nat} {a:Option Addr} {x y:Operand} {k:IntKind} {l:Int} (hx:ev ρ x=some (.slice a len cap)) (hy:ev ρ y=some (.int k l)) (ht:Yh S.ty t=some ⟨5,E,y0,s0,b0⟩)
  (he':Yh S.ty E=some ⟨k1,x1,y1,sz,b1⟩) (h:0≤l∧l≤len):QOp P ⟨d,.slice t x (some y) none none,ty,pos,af,g⟩ ρ L (.slice (cut a cap l.toNat sz) (len-l.toNat) (cap-l.toNat)):=
 Yz fun ρe he k w hs=>by
  obtain ⟨e1,e2⟩:=Zn7 (Yy (S.tyI ht) rfl)
  have h2:=X7 (S.tyI he') w
  simp [execOp,he x (by simp [Op.operands]) _ hx,he y (by simp [Op.operands]) _ hy,run_sliceAt_slice _ _ _ _ _ _ e2,run_slice_l _ _ _ _ _ e2 _ _ h.1 h.2,e1,h2,Result.andThen,sliced,cut]
theorem Zy7 {t E y0 s0 b0 k1 x1 y1 sz b1 len cap:Nat} {a:Option Addr} {x y:Operand} {k:IntKind} {l:Int} (hx:ev ρ x=some (.slice a len cap)) (hy:ev ρ y=some (.int k l)) (ht:Yh S.ty t=some ⟨5,E,y0,s0,b0⟩)
  (he':Yh S.ty E=some ⟨k1,x1,y1,sz,b1⟩) (h:0≤l∧l≤cap):QOp P ⟨d,.slice t x none (some y) none,ty,pos,af,g⟩ ρ L (.slice a l.toNat cap):=
 Yz fun ρe he k w hs=>by
  obtain ⟨e1,e2⟩:=Zn7 (Yy (S.tyI ht) rfl)
  have h2:=X7 (S.tyI he') w
  have:(if cap=0 then a else a.map (·.add (0*sz)))=a:=by
   split
   ·rfl
   ·cases a<;>simp [Addr.add]
  simp [execOp,he x (by simp [Op.operands]) _ hx,he y (by simp [Op.operands]) _ hy,run_sliceAt_slice _ _ _ _ _ _ e2,run_slice_h _ _ _ _ _ e2 _ _ h.1 h.2,e1,h2,Result.andThen,sliced]
  simpa using this
theorem Zy8 {t E y0 s0 b0 k1 x1 y1 sz b1 len cap:Nat} {a:Option Addr} {x y z:Operand} {k k2:IntKind} {l hh:Int} (hx:ev ρ x=some (.slice a len cap)) (hy:ev ρ y=some (.int k l)) (hz:ev ρ z=some (.int k2 hh)) (ht:Yh S.ty t=some ⟨5,E,y0,s0,b0⟩)
  (he':Yh S.ty E=some ⟨k1,x1,y1,sz,b1⟩) (h:0≤l∧l≤hh∧hh≤cap):QOp P ⟨d,.slice t x (some y) (some z) none,ty,pos,af,g⟩ ρ L (.slice (cut a cap l.toNat sz) (hh.toNat-l.toNat) (cap-l.toNat)):=
 Yz fun ρe he k w hs=>by
  obtain ⟨e1,e2⟩:=Zn7 (Yy (S.tyI ht) rfl)
  have h2:=X7 (S.tyI he') w
  simp [execOp,he x (by simp [Op.operands]) _ hx,he y (by simp [Op.operands]) _ hy,he z (by simp [Op.operands]) _ hz,run_sliceAt_slice _ _ _ _ _ _ e2,run_slice_lh _ _ _ _ _ e2 _ _ _ _ h.1 h.2.1 h.2.2,e1,h2,Result.andThen,sliced,cut]
end q
end Go.HL
end
