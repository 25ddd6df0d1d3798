/- Texts laid into one, without what the claim does not use. Conditions: none. -/
import Derived.Leaving
import Derived.Conc.Holds
import Derived.SevenTiedAt
import Derived.JoinedCond
import Derived.WalkKit
import Derived.WalkSpells
import Derived.WalkLawsBesides
import Derived.Deep.Quiet
import Derived.KernelRfl
import Derived.Test.YtkookaogdkdegacGreatDoorProg
set_option linter.unusedVariables false
set_option linter.unusedSimpArgs false
/-! CdLv -/
section
namespace Go.HL
open Go
theorem and_mk {a b:Bool} (ha:a=true) (hb:b=true):(a && b)=true:=by rw [ha,hb];rfl
theorem Zci {a:Assume} {C:Checked} {os:Os} {f:FuncId} {r:Reach} {Pre:World→Array Value→Prop} {Post:World→Array Value→Value→World→Prop} (h:ReturnsInHanded a C os f r Pre Post):ReturnsInLeavingWide a C os f r Pre Post:=fun enter=>by
 obtain ⟨h0,h1,h2,h3,h4⟩:=h enter
 refine ⟨h0,h1,h2,h3,fun w tape i hi=>?_⟩
 obtain ⟨n,v,w',e1,e2,e3,e4,⟨j,last,e5,e6,e7,e8,e9⟩,e10⟩:=h4 w tape i hi
 exact ⟨n,v,w',e1,e2,e3,e4,⟨j,last,e5,e6,e8,onlyLeaving_of_quiet e7,e9⟩,e10⟩
theorem Zei (Lk:Looks) {p:Pinned} {s:OpenSpec} {c:OpenClaim} (al:List (List PathCond)) (kinds:List LaidKind) (tests:Bool) (har:Bool × String) (lk:Bool) (g:Bool)
  (hc:c.holds p s) (hal : ∀ D∈al,(c.withDomain D).holds p s) (hw:c.wfByText s=true) (hwal : ∀ D∈al,(c.withDomain D).wfByText s=true)
  (htie:c.laidByTextAt Lk p kinds tests)
  (hst:c.start = .entering) (hnb:c.noBlocks=false∧c.again=false) (hm:p.checked.prog.mainIs=some (har.1,har.2.toList)) (hn:(!har.1 && har.2.isEmpty && !lk)=false)
  (hl : ∀ f fn,p.checked.prog.funcNamed c.func=some f→p.checked.prog.funcs[f]? = some fn→lk=p.checked.prog.looks [] ∧ ∀ (j:Nat) t,fn.params[j]? = some t→p.checked.prog.wantsStandIn t=false)
  (hg:g=c.goesBy p.checked.prog) :
  Claim7.holds p (.plain s) { stood:={ row:=c,standIns:=[],harness:=har,looks:=lk },kinds:=[],alts:=al,laidByText:=true,laidKinds:=kinds,laidTests:=tests,laidLooks:=Lk,goes:=g }:=by
 have h6 : ∀ r:OpenClaim,Claim7.isSixth { stood:={ row:=r,standIns:=[],harness:=har,looks:=lk },kinds:=[] }=false:=fun r=>by simpa [Claim7.isSixth] using hn
 refine ⟨Claim7.tied_new_at Lk kinds tests (Claim7.new_of_sixth hc har lk hst hnb hm (h6 c) hl) hw,fun D hD=>?_,htie,(fun h=>by cases h),hg⟩
 exact Claim7.tied_new_at Lk kinds tests (Claim7.new_of_sixth (hal D hD) har lk hst hnb hm (h6 _) hl) (hwal D hD)
end Go.HL
end

/-! HL -/
section
namespace Go.HL
open Go

abbrev Zr:=List (Nat × Value)
abbrev Zm:=Nat × Obj
abbrev Zb:=List (List Zm)
abbrev Zgv:=Os × Array (Nat × ByteArray) × (Nat→Question→Nat)

def lk:Zr→Nat→Option Value
 | [],_=>none
 | (t,v)::r,x=>bif Nat.beq t x then some v else lk r x

def ev (ρ:Zr):Operand→Option Value
 | .tmp t=>lk ρ t
 | .const v=>some v
 | .global g=>some (.pointer (some ⟨g,0,none⟩))
 | .func f=>some (.func (.func f) #[] #[])

def Zg1 (ρ:Zr):List Operand→Option (List Value)
 | []=>some []
 | x::r=>match ev ρ x,Zg1 ρ r with
  | some v,some vs=>some (v::vs)
  | _,_=>none

structure Sat (k:Zgv) (w:World) (L:Zb):Prop where
 os:w.os=k.1
 out:w.output=k.2.1
 tape:w.tape=k.2.2
 has : ∀ p∈L.flatten,w.heap[p.1]? = some p.2
 nodup:(L.flatten.map (·.1)).Nodup

structure Agr (n:Nat) (a:Act) (ρ:Zr):Prop where
 size:a.tmps.size=n
 defers:a.defers=[]
 get : ∀ t v,lk ρ t=some v→a.tmps[t]? = some v

def post (k:Zgv) (n:Nat) (Q:Exit→Zr→Zb→Prop):Exit→Act→World→Prop:=
 fun e a w => ∃ ρ L,Agr n a ρ∧Sat k w L∧Q e ρ L

def HW (P:Program) (n:Nat) (c:Code) (Q:Exit→Zr→Zb→Prop) (ρ:Zr) (L:Zb):Prop:=
 ∀ k w a,Sat k w L→Agr n a ρ→c.wp P (post k n Q) a w

def HO (P:Program) (n:Nat) (ops:List Oper) (Q:Exit→Zr→Zb→Prop) (l:List Oper) (ρ:Zr) (L:Zb):Prop:=
 ∀ k w a,Sat k w L→Agr n a ρ→wpList P ops.toArray (post k n Q) l a w

def Zex (P:Program) (f:Nat):Prop := ∀ args w,(callFunc f args).run P w = .ok (.enter f args) w

def HC (P:Program) (f:Nat) (args:List Value) (L:Zb) (Q:Value→Zb→Prop):Prop:=
 Zex P f ∧ ∀ k w,Sat k w L→Calls P f ⟨args⟩ w fun e w' => ∃ v L',e = .returned v∧Sat k w' L'∧Q v L'

theorem HC.mono {P:Program} {f:Nat} {args:List Value} {L:Zb} {Q Q':Value→Zb→Prop} (h:HC P f args L Q) (hq : ∀ v L',Q v L'→Q' v L'):HC P f args L Q':=
 ⟨h.1,fun k w hs=>(h.2 k w hs).mono fun e w' ⟨v,L',he,hs',hq'⟩=>⟨v,L',he,hs',hq v L' hq'⟩⟩

/-! ### the environment -/
theorem Wr (t:Nat) (v:Value) (ρ:Zr):lk ((t,v)::ρ) t=some v:=by simp [lk]
theorem Ws {t x:Nat} (v:Value) (ρ:Zr) (h:t≠x):lk ((t,v)::ρ) x=lk ρ x:=by
 simp only [lk]
 have:Nat.beq t x=false:=by
  cases hb:Nat.beq t x with
  | false=>rfl
  | true=>exact absurd (Nat.eq_of_beq_eq_true hb) h
 rw [this];rfl

theorem Agr.put {n:Nat} {a:Act} {ρ:Zr} (h:Agr n a ρ) {d:Nat} (hd:d<n) (v:Value):Agr n (a.put (some d) v) ((d,v)::ρ):=by
 refine ⟨by simp [Act.put,h.size],h.defers,fun t x hx=>?_⟩
 by_cases e:d=t
 ·subst e
  rw [Wr] at hx
  cases hx
  simp [Act.put,Array.getElem?_setIfInBounds,h.size,hd]
 ·rw [Ws _ _ e] at hx
  simp [Act.put,Array.getElem?_setIfInBounds,e,h.get t x hx]

theorem Agr.none {n:Nat} {a:Act} {ρ:Zr} (h:Agr n a ρ) (v:Value):Agr n (a.put none v) ρ:=h

theorem Agr.ev {n:Nat} {a:Act} {ρ:Zr} (h:Agr n a ρ) {x:Operand} {v:Value} (hv:ev ρ x=some v):a.eval x=v:=by
 cases x with
 | tmp t=>simp [Act.eval,h.get t v hv]
 | const c=>simpa [HL.ev,Act.eval] using hv
 | global g=>simpa [HL.ev,Act.eval] using hv
 | func f=>simpa [HL.ev,Act.eval] using hv

def Sub:Zr→Zr→Prop
 | [],_=>True
 | (t,v)::r,ρ=>lk ρ t=some v∧Sub r ρ

theorem Agr.sub {n:Nat} {a:Act} {ρ:Zr} (h:Agr n a ρ) : ∀ {ρ':Zr},Sub ρ' ρ→Agr n a ρ'
 | [],_=>⟨h.size,h.defers,fun t v hv=>by simp [lk] at hv⟩
 | (t,v)::r,hs=>by
  have ih:=Agr.sub h hs.2
  refine ⟨h.size,h.defers,fun x u hx=>?_⟩
  by_cases e:t=x
  ·subst e
   rw [Wr] at hx
   cases hx
   exact h.get _ _ hs.1
  ·rw [Ws _ _ e] at hx
   exact ih.get x u hx

/-! ### control -/
section control
variable {P:Program} {n:Nat} {Q:Exit→Zr→Zb→Prop} {ρ:Zr} {L:Zb}

def Ye (P:Program) (n:Nat) (y:Code) (Q:Exit→Zr→Zb→Prop):Exit→Zr→Zb→Prop
 | .normal,ρ,L=>HW P n y Q ρ L
 | e,ρ,L=>Q e ρ L
def Z6 (id:Nat) (Q:Exit→Zr→Zb→Prop):Exit→Zr→Zb→Prop
 | .exit i,ρ,L=>if i=id then Q .normal ρ L else Q (.exit i) ρ L
 | e,ρ,L=>Q e ρ L

theorem HW.mono {c:Code} {Q':Exit→Zr→Zb→Prop} (h:HW P n c Q ρ L) (hq : ∀ e ρ L,Q e ρ L→Q' e ρ L):HW P n c Q' ρ L:=
 fun k w a hs ha=>wp_mono (h k w a hs ha) fun e a' w' ⟨ρ',L',h1,h2,h3⟩=>⟨ρ',L',h1,h2,hq _ _ _ h3⟩

theorem hw_seq {x y:Code} (h:HW P n x (Ye P n y Q) ρ L):HW P n (.seq x y) Q ρ L:=by
 intro k w a hs ha
 refine wp_seq (wp_mono (h k w a hs ha) fun e a' w' ⟨ρ',L',h1,h2,h3⟩=>?_)
 cases e with
 | normal=>exact h3 k w' a' h2 h1
 | exit id=>exact ⟨ρ',L',h1,h2,h3⟩
 | goto l=>exact ⟨ρ',L',h1,h2,h3⟩
 | ret=>exact ⟨ρ',L',h1,h2,h3⟩
 | panic c=>exact ⟨ρ',L',h1,h2,h3⟩
 | outgrown=>exact ⟨ρ',L',h1,h2,h3⟩
theorem hw_block {id:Nat} {c:Code} (h:HW P n c (Z6 id Q) ρ L):HW P n (.block id c) Q ρ L:=by
 intro k w a hs ha
 refine wp_block (wp_mono (h k w a hs ha) fun e a' w' ⟨ρ',L',h1,h2,h3⟩=>?_)
 cases e with
 | exit i =>
  simp only [Z6] at h3
  simp only [Exit.inBlock]
  split
  ·rename_i hi;rw [if_pos hi] at h3;exact ⟨ρ',L',h1,h2,h3⟩
  ·rename_i hi;rw [if_neg hi] at h3;exact ⟨ρ',L',h1,h2,h3⟩
 | normal=>exact ⟨ρ',L',h1,h2,h3⟩
 | goto l=>exact ⟨ρ',L',h1,h2,h3⟩
 | ret=>exact ⟨ρ',L',h1,h2,h3⟩
 | panic c=>exact ⟨ρ',L',h1,h2,h3⟩
 | outgrown=>exact ⟨ρ',L',h1,h2,h3⟩
theorem hw_skip (h:Q .normal ρ L):HW P n .skip Q ρ L:=fun k w a hs ha=>wp_skip ⟨ρ,L,ha,hs,h⟩
theorem hw_exit {id:Nat} (h:Q (.exit id) ρ L):HW P n (.exit id) Q ρ L:=fun k w a hs ha=>wp_exit ⟨ρ,L,ha,hs,h⟩
theorem hw_ret (h:Q .ret ρ L):HW P n .ret Q ρ L:=fun k w a hs ha=>wp_ret ⟨ρ,L,ha,hs,h⟩
theorem hw_true {c:Operand} {x y:Code} {b:Bool} (hc:ev ρ c=some (.bool b)) (hb:b=true) (h:HW P n x Q ρ L):HW P n (.cond c x y) Q ρ L:=
 fun k w a hs ha=>wp_cond_true (ha.ev (hb▸hc)) (h k w a hs ha)
theorem hw_false {c:Operand} {x y:Code} {b:Bool} (hc:ev ρ c=some (.bool b)) (hb:b=false) (h:HW P n y Q ρ L):HW P n (.cond c x y) Q ρ L:=
 fun k w a hs ha=>wp_cond_false (ha.ev (hb▸hc)) (h k w a hs ha)
theorem hw_bool {c:Operand} {x y:Code} {b:Bool} (hc:ev ρ c=some (.bool b)) (ht:b=true→HW P n x Q ρ L) (hf:b=false→HW P n y Q ρ L):HW P n (.cond c x y) Q ρ L:=by
 intro k w a hs ha
 exact wp_cond_split (ha.ev hc) (fun h=>ht h k w a hs ha) (fun h=>hf h k w a hs ha)
theorem Zrf {id:Nat} {l:List Oper} (h:HO P n l Q l ρ L):HW P n (.region id l.toArray false) Q ρ L:=
 fun k w a hs ha=>wp_region_lit (h k w a hs ha)

theorem Zmb {y:Code} (h:HW P n y Q ρ L):Ye P n y Q .normal ρ L:=h
theorem seqQ_ret {y:Code} (h:Q .ret ρ L):Ye P n y Q .ret ρ L:=h
theorem Zsa {y:Code} {i:Nat} (h:Q (.exit i) ρ L):Ye P n y Q (.exit i) ρ L:=h
theorem Zkj {id:Nat} (h:Q .normal ρ L):Z6 id Q .normal ρ L:=h
theorem blkQ_ret {id:Nat} (h:Q .ret ρ L):Z6 id Q .ret ρ L:=h
theorem Zqp {id:Nat} (h:Q .normal ρ L):Z6 id Q (.exit id) ρ L:=by simpa [Z6] using h
theorem Zqo {id i:Nat} (hn:Nat.beq i id=false) (h:Q (.exit i) ρ L):Z6 id Q (.exit i) ρ L:=by
 have:i≠id:=fun e=>by subst e;simp at hn
 simpa [Z6,this] using h

theorem hw_sub {c:Code} {ρ':Zr} (h:HW P n c Q ρ' L) (hs:Sub ρ' ρ):HW P n c Q ρ L:=fun k w a hs' ha=>h k w a hs' (ha.sub hs)

theorem X3 : ∀ {l₁ l₂:Zb},List.Sublist l₁ l₂→List.Sublist l₁.flatten l₂.flatten
 | _,_,.slnil=>List.Sublist.refl _
 | _,_,.cons a h=>by
  simp only [List.flatten_cons]
  exact (X3 h).trans (List.sublist_append_right _ _)
 | _,_,.cons_cons a h=>by
  simp only [List.flatten_cons]
  exact (List.append_sublist_append_left a).2 (X3 h)
theorem Sat.sub {k:Zgv} {w:World} {L':Zb} (h:Sat k w L) (hs:List.Sublist L' L):Sat k w L':=
 ⟨h.os,h.out,h.tape,fun p hp=>h.has p ((X3 hs).subset hp),h.nodup.sublist ((X3 hs).map _)⟩
theorem Sat.perm {k:Zgv} {w:World} {L':Zb} (h:Sat k w L) (hs:List.Perm L L'):Sat k w L':=
 ⟨h.os,h.out,h.tape,fun p hp=>h.has p (hs.flatten.mem_iff.2 hp),(hs.flatten.map _).nodup_iff.1 h.nodup⟩
theorem hw_perm {c:Code} {L':Zb} (h:HW P n c Q ρ L') (hs:List.Perm L L'):HW P n c Q ρ L:=fun k w a hs' ha=>h k w a (hs'.perm hs) ha

/-! ### other cuts of the same blocks -/
def LS (a b:List Zm):Prop := ∃ l,List.Perm l a∧List.Sublist l b
theorem LS.refl (a:List Zm):LS a a:=⟨a,.refl _,.refl _⟩
theorem LS.of_eq {a b:List Zm} (h:a=b):LS a b:=h▸LS.refl a
theorem LS.of_perm {a b:List Zm} (h:List.Perm a b):LS a b:=⟨b,h.symm,.refl _⟩
theorem LS.of_sub {a b:List Zm} (h:List.Sublist a b):LS a b:=⟨a,.refl _,h⟩
theorem LS.skip {a b:List Zm} (x:Zm) (h:LS a b):LS a (x::b):=let ⟨l,h1,h2⟩:=h;⟨l,h1,.cons _ h2⟩
theorem LS.skips {a b:List Zm} (c:List Zm) (h:LS a b):LS a (c++b):=let ⟨l,h1,h2⟩:=h;⟨l,h1,h2.trans (List.sublist_append_right _ _)⟩
theorem LS.boths {a b:List Zm} (c:List Zm) (h:LS a b):LS (c++a) (c++b):=let ⟨l,h1,h2⟩:=h;⟨c++l,h1.append_left c,(List.append_sublist_append_left c).2 h2⟩
theorem LS.c {a x:List Zm} {L:Zb} (h:LS a L.flatten):LS a (x::L).flatten:=by rw [List.flatten_cons];exact h.skips x
theorem LS.k {x:List Zm} {A L:Zb} (h:LS A.flatten L.flatten):LS (x::A).flatten (x::L).flatten:=by rw [List.flatten_cons,List.flatten_cons];exact h.boths x
theorem LS.trans {a b c:List Zm} (h:LS a b) (h':LS b c):LS a c:=by
 obtain ⟨l,h1,h2⟩:=h
 obtain ⟨m,h3,h4⟩:=h'
 obtain ⟨l',h5,h6⟩:=List.exists_perm_sublist h2 h3.symm
 exact ⟨l',h5.trans h1,h6.trans h4⟩
theorem Sat.sp {k:Zgv} {w:World} {L L':Zb} (h:Sat k w L) (hf:LS L'.flatten L.flatten):Sat k w L':=by
 obtain ⟨l,hp,hs⟩:=hf
 refine ⟨h.os,h.out,h.tape,fun p hp'=>h.has p (hs.subset (hp.mem_iff.2 hp')),?_⟩
 exact (hp.map _).nodup_iff.1 (h.nodup.sublist (hs.map _))
def Zq {σ:Type} (env:σ→Zr) (heap:σ→Zb) (inv:σ→Prop) (μ:σ→Nat) (m:Nat) (Q:Exit→Zr→Zb→Prop):Exit→Zr→Zb→Prop
 | .normal,ρ,L => ∃ s',Sub (env s') ρ∧LS (heap s').flatten L.flatten∧inv s'∧μ s'<m
 | e,ρ,L=>Q e ρ L
theorem Zz {σ:Type} {c:Code} (env:σ→Zr) (heap:σ→Zb) (inv:σ→Prop) (μ:σ→Nat) (s:σ)
  (hρ:Sub (env s) ρ) (hL:List.Sublist (heap s) L) (hi:inv s)
  (round : ∀ s,inv s→HW P n c (Zq env heap inv μ (μ s) Q) (env s) (heap s)):HW P n (.loop c) Q ρ L:=by
 intro k w a hs ha b kk cs
 have key : ∀ m s,μ s=m→inv s → ∀ a w,Sat k w (heap s)→Agr n a (env s) →
   ∃ e a' w',post k n Q e a' w'∧Arrives P (lone (b.at a (.code c :: .inLoop c::kk)) cs w) b kk cs e a' w':=by
  intro m
  induction m using Nat.strongRecOn with
  | _ m ih =>
   intro s hm hi a w hs ha
   obtain ⟨e,a₁,w₁,⟨ρ₁,L₁,ha₁,hs₁,hq⟩,harr⟩:=round s hi k w a hs ha b (.inLoop c::kk) cs
   cases e with
   | normal =>
    obtain ⟨s',hsub,hL',hi',hlt⟩:=hq
    obtain ⟨e₂,a₂,w₂,hq₂,harr₂⟩:=ih (μ s') (hm▸hlt) s' rfl hi' a₁ w₁ (hs₁.sp hL') (ha₁.sub hsub)
    exact ⟨e₂,a₂,w₂,hq₂,.of_steps (Steps.trans harr (.one step_inLoop)) harr₂⟩
   | exit id=>exact ⟨_,a₁,w₁,⟨ρ₁,L₁,ha₁,hs₁,hq⟩,.pass (x := .inLoop c) rfl (fun _ _ => .inl (by simp)) harr⟩
   | goto l=>exact ⟨_,a₁,w₁,⟨ρ₁,L₁,ha₁,hs₁,hq⟩,.pass (x := .inLoop c) rfl (fun _ _ => .inl (by simp)) harr⟩
   | ret=>exact ⟨_,a₁,w₁,⟨ρ₁,L₁,ha₁,hs₁,hq⟩,.pass (x := .inLoop c) rfl (fun _ _ => .inl (by simp)) harr⟩
   | panic ch=>exact ⟨_,a₁,w₁,⟨ρ₁,L₁,ha₁,hs₁,hq⟩,.pass (x := .inLoop c) rfl (fun _ _ => .inl (by simp)) harr⟩
   | outgrown=>exact ⟨_,a₁,w₁,⟨ρ₁,L₁,ha₁,hs₁,hq⟩,.pass (x := .inLoop c) rfl (fun _ _ => .inl (by simp)) harr⟩
 obtain ⟨e,a',w',hq,harr⟩:=key _ s rfl hi a w (hs.sub hL) (ha.sub hρ)
 exact ⟨e,a',w',hq,.of_steps (.one step_loop) harr⟩
theorem Zrp {σ:Type} {env:σ→Zr} {heap:σ→Zb} {inv:σ→Prop} {μ:σ→Nat} {m:Nat} (h:Q .ret ρ L):Zq env heap inv μ m Q .ret ρ L:=h
theorem Zn0 {σ:Type} {env:σ→Zr} {heap:σ→Zb} {inv:σ→Prop} {μ:σ→Nat} {m i:Nat} (h:Q (.exit i) ρ L):Zq env heap inv μ m Q (.exit i) ρ L:=h
theorem Zp {σ:Type} {env:σ→Zr} {heap:σ→Zb} {inv:σ→Prop} {μ:σ→Nat} {m:Nat} (s':σ) (h:Sub (env s') ρ) (hL:List.Sublist (heap s') L) (hi:inv s') (hm:μ s'<m):Zq env heap inv μ m Q .normal ρ L:=⟨s',h,LS.of_sub (X3 hL),hi,hm⟩
theorem Zy {σ:Type} {env:σ→Zr} {heap:σ→Zb} {inv:σ→Prop} {μ:σ→Nat} {m:Nat} (s':σ) (h:Sub (env s') ρ) (hL:LS (heap s').flatten L.flatten) (hi:inv s') (hm:μ s'<m):Zq env heap inv μ m Q .normal ρ L:=⟨s',h,hL,hi,hm⟩
end control

/-! ### a function -/
def X0 (P:Program) (fn:Func) (Q:Value→Zb→Prop):Exit→Zr→Zb→Prop
 | .normal,ρ,L | .ret,ρ,L => ∀ (k:Zgv) (w:World) (a:Act),Sat k w L→Agr fn.ntmps a ρ → ∃ v L',(results fn a.tmps).run P w = .ok v w∧Sat k w L'∧Q v L'
 | _,_,_=>False

def Ze:Nat→List Value→Zr
 | _,[]=>[]
 | i,v::r=>(i,v)::Ze (i+1) r

theorem lk_args0 (vs:List Value) : ∀ (i t:Nat) (v:Value),lk (Ze i vs) t=some v→i≤t∧vs[t-i]? = some v:=by
 induction vs with
 | nil=>intro i t v h;simp [Ze,lk] at h
 | cons x r ih =>
  intro i t v h
  simp only [Ze] at h
  by_cases e:i=t
  ·subst e
   rw [Wr] at h
   cases h
   simp
  ·rw [Ws _ _ e] at h
   obtain ⟨h1,h2⟩:=ih (i+1) t v h
   refine ⟨by omega,?_⟩
   rw [show t-i=(t-(i+1))+1 by omega]
   simpa using h2

theorem Za {P:Program} {f:Nat} {fn:Func} {c:Code} {args:List Value} {L:Zb} {Q:Value→Zb→Prop}
  (he:Zex P f) (hf:P.funcs[f]? = some fn) (hb:fn.body=some c) {n:Nat} (hn:fn.ntmps=n) (hlen:args.length≤n)
  (h:HW P n c (X0 P fn Q) (Ze 0 args) L):HC P f args L Q:=by
 subst hn
 refine ⟨he,fun k w hs=>calls_of_wp hf hb (wp_mono (h k w _ hs ⟨?_,rfl,?_⟩) ?_)⟩
 ·have hlen':args.length≤fn.ntmps:=hlen
  simp;omega
 ·intro t v hv
  obtain ⟨_,h2⟩:=lk_args0 args 0 t v hv
  have hlt:t<args.length:=(List.getElem?_eq_some_iff.1 h2).1
  rw [Array.getElem?_append_left (by simpa using hlt)]
  simpa using h2
 ·intro e a' w' ⟨ρ',L',ha',hs',hq⟩
  cases e with
  | normal =>
   obtain ⟨v,L2,hr,hs2,hq2⟩:=hq k w' a' hs' ha'
   exact ⟨ha'.defers,v,hr,v,L2,rfl,hs2,hq2⟩
  | ret =>
   obtain ⟨v,L2,hr,hs2,hq2⟩:=hq k w' a' hs' ha'
   exact ⟨ha'.defers,v,hr,v,L2,rfl,hs2,hq2⟩
  | exit i=>exact hq.elim
  | goto i=>exact hq.elim
  | panic ch=>exact hq.elim
  | outgrown=>exact hq.elim

section results
variable {P:Program} {fn:Func} {Q:Value→Zb→Prop} {ρ:Zr} {L:Zb}
def ResV (P:Program) (ρ:Zr) (L:Zb):ResultVar→Value→Prop
 | .tmp t,v=>lk ρ t=some v
 | .cell t T,v => ∃ p,lk ρ t=some (.pointer (some p)) ∧ ∀ k w,Sat k w L→(loadVar T p).run P w = .ok v w
def rv (tmps:Array Value):ResultVar→Sem Value
 | .tmp t=>pure (tmps.getD t undef)
 | .cell a t=>do loadVar t (← asAddr (tmps.getD a undef))
theorem Wv (fn:Func) (tmps:Array Value):results fn tmps=(do
 let vs ← fn.results.mapM (rv tmps)
 pure (if h:vs.size=1 then vs[0] else .tuple vs)):=rfl
theorem ResV.run {n:Nat} {r:ResultVar} {v:Value} (h:ResV P ρ L r v) {k:Zgv} {w:World} {a:Act} (hs:Sat k w L) (ha:Agr n a ρ):(rv a.tmps r).run P w = .ok v w:=by
 cases r with
 | tmp t=>simp [rv,ha.get _ _ h]
 | cell t T =>
  obtain ⟨p,hp,hr⟩:=h
  simp [rv,ha.get _ _ hp,asAddr,hr k w hs]
theorem Yr {r:ResultVar} {v:Value} (hr:fn.results = #[r]) (hv:ResV P ρ L r v) {L':Zb} (hL:List.Sublist L' L) (h:Q v L'):X0 P fn Q .ret ρ L:=
 fun k w a hs ha=>⟨v,L',by simp [Wv,hr,hv.run hs ha],hs.sub hL,h⟩
theorem X5 {r s:ResultVar} {x y:Value} (hr:fn.results = #[r,s]) (hx:ResV P ρ L r x) (hy:ResV P ρ L s y) {L':Zb} (hL:List.Sublist L' L)
  (h:Q (.tuple ⟨[x,y]⟩) L'):X0 P fn Q .ret ρ L:=
 fun k w a hs ha=>⟨.tuple ⟨[x,y]⟩,L',by simp [Wv,hr,hx.run hs ha,hy.run hs ha],hs.sub hL,h⟩
end results
end Go.HL
end

/-! HLOps -/
section
namespace Go.HL
open Go

/-! ### the types that a program has, as9 numbers -/
structure TyI where
 kind:Nat   -- 0 other,1 bool,2 int,3 string,4 pointer,5 slice,6 array,7 struct,8 map,9 interface,10 func
 x:Nat
 y:Nat
 size:Nat
 bytes:Nat
 deriving DecidableEq

def Zae:IntKind→Nat
 | .i8=>0 | .i16=>1 | .i32=>2 | .i64=>3 | .u8=>4 | .u16=>5 | .u32=>6 | .u64=>7
def Ql:Nat→IntKind
 | 0 => .i8|1 => .i16|2 => .i32|3 => .i64|4 => .u8|5 => .u16|6 => .u32|_ => .u64
theorem Zda (k:IntKind):Ql (Zae k)=k:=by cases k<;>rfl

def V7:TypeDesc→Nat × Nat × Nat
 | .bool=>(1,0,0)
 | .int k=>(2,Zae k,0)
 | .string=>(3,0,0)
 | .pointer e=>(4,e,0)
 | .slice e=>(5,e,0)
 | .array n e=>(6,n,e)
 | .struct fs=>(7,fs.size,0)
 | .map k e=>(8,k,e)
 | .interface ms=>(9,ms.size,0)
 | .func ps rs _=>(10,ps.size,rs.size)
 | _=>(0,0,0)
def tyI (P:Program) (t:Nat):Option TyI:=
 match P.underlying t,P.info? t with
 | some d,some i=>some ⟨(V7 d).1,(V7 d).2.1,(V7 d).2.2,i.size,i.bytes⟩
 | _,_=>none
def fldI (P:Program) (s f:Nat):Option Nat:=
 match P.underlying s with
 | some (.struct fs)=>match fs[f]? with
  | some fd=>match P.info? fd.type with
   | some i=>if i.size=0 then none else some fd.offset
   | none=>none
  | none=>none
 | _=>none
def fldT (P:Program) (s f:Nat):Option (Nat × Nat):=
 match P.underlying s with
 | some (.struct fs)=>match fs[f]? with
  | some fd=>some (fd.offset,fd.type)
  | none=>none
 | _=>none
def stI (P:Program) (t:Nat):Option (List (Nat × Nat × Nat)):=
 match P.underlying t with
 | some (.struct fs)=>fs.toList.mapM fun f=>(P.info? f.type).map fun i=>(f.offset,i.size,f.type)
 | _=>none
def zeroI (P:Program) (t:Nat):Option Value:=(P.info? t).bind (·.zero)

def Zt {α:Type}:List (Nat × α)→Nat→Option α
 | [],_=>none
 | (t,v)::r,x=>bif Nat.beq t x then some v else Zt r x
theorem Qn {α:Type} {l:List (Nat × α)} {x:Nat} {v:α} (h:Zt l x=some v):(x,v)∈l:=by
 induction l with
 | nil=>simp [Zt] at h
 | cons p r ih =>
  obtain ⟨t,u⟩:=p
  simp only [Zt] at h
  cases hb:Nat.beq t x with
  | true =>
   rw [hb] at h
   cases h
   have:=Nat.eq_of_beq_eq_true hb
   subst this
   exact .head _
  | false=>rw [hb] at h;exact .tail _ (ih h)

def Zfc (g:Nat→Option (List Nat)):List Field→Nat→Option (List Nat)
 | [],_=>some []
 | f::r,off=>match g f.type with
  | some l=>if f.name ≠ "_" ∧ f.offset=off∧0<l.length then (match Zfc g r (off+l.length) with
   | some m=>some (l++m)
   | none=>none) else none
  | none=>none
def Un (P:Program):Nat→Nat→Option (List Nat)
 | 0,_=>none
 | d+1,t=>match P.underlying t,P.info? t with
  | some .bool,some i=>if i.size=1 then some [1] else none
  | some (.int _),some i=>if i.size=1 then some [2] else none
  | some .string,some i=>if i.size=1 then some [3] else none
  | some (.struct fs),some i=>if P.stoodInHeld t=true then none else (match Zfc (Un P d) fs.toList 0 with
   | some l=>if i.size=l.length then some l else none
   | none=>none)
  | some (.array n e),some i=>(match Un P d e with
   | some l=>if i.size=n*l.length∧(P.info? e).map (·.size)=some l.length∧0<l.length then some (List.replicate n l).flatten else none
   | none=>none)
  | _,_=>none
def Zg3 (P:Program) (t:Nat):Bool:=match P.underlying t with
 | some (.struct _)=>true
 | some (.array _ _)=>true
 | _=>false
structure Tab (P:Program) where
 ty:List (Nat × TyI)
 fl:List (Nat × Nat × Nat)
 zr:List (Nat × Value)
 st:List (Nat × List (Nat × Nat × Nat))
 eq:List (Nat × List Nat)
 ty_ok:(ty.all fun p=>decide (tyI P p.1=some p.2))=true
 fl_ok:(fl.all fun p=>decide (fldI P (p.1 / 64) (p.1 % 64)=some p.2.1) && decide (fldT P (p.1 / 64) (p.1 % 64)=some p.2))=true
 zr_ok : ∀ p∈zr,zeroI P p.1=some p.2
 st_ok:(st.all fun p=>decide (stI P p.1=some p.2))=true
 eq_ok:(eq.all fun p=>decide (Un P 8 p.1=some p.2) && Zg3 P p.1 && !(P.eqGuardType P.depth p.1))=true
 mixed:P.follows .mixedOrders=true

section tab
variable {P:Program} (S:Tab P)
theorem Tab.tyI {t:Nat} {i:TyI} (h:Zt S.ty t=some i):HL.tyI P t=some i:=by
 have:=List.all_eq_true.1 S.ty_ok _ (Qn h)
 exact of_decide_eq_true this
theorem Tab.fldI {s f o ft:Nat} (h:Zt S.fl (s*64+f)=some (o,ft)) (hf:Nat.blt f 64=true):HL.fldI P s f=some o∧HL.fldT P s f=some (o,ft):=by
 have hf':f<64:=Nat.le_of_ble_eq_true hf
 have:=List.all_eq_true.1 S.fl_ok _ (Qn h)
 simp only [Bool.and_eq_true,decide_eq_true_eq] at this
 have e1:(s*64+f) / 64=s:=by omega
 have e2:(s*64+f) % 64=f:=by omega
 rw [e1,e2] at this
 exact this
theorem Tab.stI {t:Nat} {i:List (Nat × Nat × Nat)} (h:Zt S.st t=some i):HL.stI P t=some i:=by
 have:=List.all_eq_true.1 S.st_ok _ (Qn h)
 exact of_decide_eq_true this
theorem Tab.zeroI {t:Nat} {v:Value} (h:Zt S.zr t=some v):HL.zeroI P t=some v:=S.zr_ok _ (Qn h)
end tab

section tyfacts
variable {P:Program} {t:Nat} {i:TyI}
theorem Xf (h:tyI P t=some i) : ∃ d j,P.underlying t=some d∧P.info? t=some j∧V7 d=(i.kind,i.x,i.y)∧j.size=i.size∧j.bytes=i.bytes:=by
 unfold tyI at h
 split at h
 ·rename_i d j hd hj
  cases h
  exact ⟨d,j,hd,hj,rfl,rfl,rfl⟩
 ·cases h
theorem Y9 (h:tyI P t=some i) (w:World):(sizeOf t).run P w = .ok i.size w:=by
 obtain ⟨d,j,hd,hj,_,hs,_⟩:=Xf h
 simp [sizeOf,typeInfo,hj,hs]
theorem Zsi (h:tyI P t=some i) (hk:Nat.beq i.kind 6=false) (hk':Nat.beq i.kind 7=false) (w:World):(isAgg t).run P w = .ok false w:=by
 obtain ⟨d,j,hd,hj,he,hs,_⟩:=Xf h
 have k6:i.kind≠6:=fun e=>by rw [e] at hk;cases hk
 have k7:i.kind≠7:=fun e=>by rw [e] at hk';cases hk'
 cases d<;>simp [isAgg,run_underlying hd]<;>simp [V7] at he<;>omega
theorem ty_agg (h:tyI P t=some i) (hk:(Nat.beq i.kind 6 || Nat.beq i.kind 7)=true) (w:World):(isAgg t).run P w = .ok true w:=by
 obtain ⟨d,j,hd,hj,he,hs,_⟩:=Xf h
 have k:i.kind=6∨i.kind=7:=by
  simp only [Bool.or_eq_true] at hk
  exact hk.imp Nat.eq_of_beq_eq_true Nat.eq_of_beq_eq_true
 cases d<;>simp [isAgg,run_underlying hd]<;>simp [V7] at he<;>omega
theorem Zdj (h:tyI P t=some i) (hk:i.kind=2):P.underlying t=some (.int (Ql i.x)):=by
 obtain ⟨d,j,hd,hj,he,hs,_⟩:=Xf h
 rw [hd]
 cases d<;>simp [V7,hk] at he
 rw [← he.1,Zda]
theorem Zp7 (h:tyI P t=some i) (hk:i.kind=1):P.underlying t=some .bool:=by
 obtain ⟨d,j,hd,hj,he,hs,_⟩:=Xf h
 rw [hd]
 cases d<;>simp [V7,hk] at he
 rfl
theorem W0 (h:tyI P t=some i) (hk:i.kind=3):P.underlying t=some .string:=by
 obtain ⟨d,j,hd,hj,he,hs,_⟩:=Xf h
 rw [hd]
 cases d<;>simp [V7,hk] at he
 rfl
theorem Qt (h:tyI P t=some i) (hk:i.kind=4):P.underlying t=some (.pointer i.x):=by
 obtain ⟨d,j,hd,hj,he,hs,_⟩:=Xf h
 rw [hd]
 cases d<;>simp [V7,hk] at he
 rw [he.1]
theorem Z9 (h:tyI P t=some i) (hk:i.kind=5):P.underlying t=some (.slice i.x):=by
 obtain ⟨d,j,hd,hj,he,hs,_⟩:=Xf h
 rw [hd]
 cases d<;>simp [V7,hk] at he
 rw [he.1]
theorem Zgo (h:tyI P t=some i) (hk:i.kind=6):P.underlying t=some (.array i.x i.y):=by
 obtain ⟨d,j,hd,hj,he,hs,_⟩:=Xf h
 rw [hd]
 cases d<;>simp [V7,hk] at he
 rw [he.1,he.2]
theorem Zjt (h:tyI P t=some i) (hk:i.kind=8):P.underlying t=some (.map i.x i.y):=by
 obtain ⟨d,j,hd,hj,he,hs,_⟩:=Xf h
 rw [hd]
 cases d<;>simp [V7,hk] at he
 rw [he.1,he.2]
theorem Zih (h:tyI P t=some i):(P.underlying t).isSome=true:=by
 obtain ⟨d,j,hd,hj,he,hs,_⟩:=Xf h
 simp [hd]
theorem Vq {v:Value} (h:zeroI P t=some v) (w:World):(zeroValue t).run P w = .ok v w:=by
 unfold zeroI at h
 cases hj:P.info? t with
 | none=>simp [hj] at h
 | some j =>
  simp [hj] at h
  simp [zeroValue,typeInfo,hj,h]
end tyfacts

/-! ### blocks -/
def Has (L:Zb) (b:Nat) (o:Obj):Prop:=(b,o)∈L.flatten
theorem Zh {b:Nat} {o:Obj} {c:List Zm} {L:Zb}:Has (((b,o)::c)::L) b o:=by simp [Has]
theorem Xq {b:Nat} {o:Obj} {e:Zm} {c:List Zm} {L:Zb} (h:Has (c::L) b o):Has ((e::c)::L) b o:=by
 simp only [Has,List.flatten_cons,List.cons_append,List.mem_cons] at *
 exact .inr h
theorem Zc {b:Nat} {o:Obj} {c:List Zm} {L:Zb} (h:Has L b o):Has (c::L) b o:=by
 simp only [Has,List.flatten_cons,List.mem_append] at *
 exact .inr h
theorem Yi {b:Nat} {o:Obj} {c:List Zm} {L:Zb} (h:(b,o)∈c):Has (c::L) b o:=by
 simp only [Has,List.flatten_cons,List.mem_append]
 exact .inl h
theorem Sat.heap {k:Zgv} {w:World} {L:Zb} (h:Sat k w L) {b:Nat} {o:Obj} (hb:Has L b o):w.heap[b]? = some o:=h.has _ hb
theorem Sat.cell {k:Zgv} {w:World} {L:Zb} (h:Sat k w L) {b:Nat} {l:List Value} {E:Nat} {fr:Nat × Nat} (hb:Has L b (.cells ⟨l⟩ E fr)) (j:Nat):w.cell? ⟨b,j,none⟩=l[j]? := by
 rw [cell_of_row w b j ⟨l⟩ E fr (h.heap hb)]
 simp

def Gets (l:List Value) (i:Nat) (vs:List Value):Prop := ∀ j v,vs[j]? = some v→l[i+j]? = some v
theorem Zd {l:List Value} {i:Nat} {a:Value} {vs:List Value} (h:l[i]? = some a) (h2:Gets l (i+1) vs):Gets l i (a::vs):=by
 intro j v hj
 match j with
 | 0=>simp at hj;subst hj;simpa using h
 | j+1 =>
  have:=h2 j v (by simpa using hj)
  rw [show i+(j+1)=i+1+j by omega]
  exact this
theorem Zx {l:List Value} {i:Nat}:Gets l i []:=by intro j v hj;simp at hj

theorem Xy (b i n:Nat):(Addr.mk b i none).add n=⟨b,i+n,none⟩:=by
 unfold Addr.add
 split
 ·rename_i h;subst h;rfl
 ·rfl
theorem Zb1 {P:Program} {k:Zgv} {w:World} {L:Zb} (hs:Sat k w L) {b i E:Nat} {l vs:List Value} {fr:Nat × Nat} (hb:Has L b (.cells ⟨l⟩ E fr)) (hg:Gets l i vs) :
  (loadCells ⟨b,i,none⟩ vs.length).run P w = .ok ⟨vs⟩ w:=by
 have:=run_loadCells_list (P:=P) w ⟨b,i,none⟩ vs (fun j v hj=>by rw [Xy,hs.cell hb];exact hg j v hj)
 simpa using this

/-! ### an operation that yields one value and leaves the blocks as9 they are -/
def QOp (P:Program) (o:Oper) (ρ:Zr) (L:Zb) (v:Value):Prop:=
 ∀ k a,(∀ x∈o.op.operands,∀ u,ev ρ x=some u→a.eval x=u) → ∀ w,Sat k w L→o.quietAt P a (fun w'=>Sat k w' L) w v

section rules
variable {P:Program} {n:Nat} {ops:List Oper} {Q:Exit→Zr→Zb→Prop} {rest:List Oper} {o:Oper} {ρ:Zr} {L:Zb}

theorem Wd (o:Oper) (h:o.guard=none) (y:Nat→Option Bool):Region.wanted o y=true:=by simp [Region.wanted,h]
theorem ho_nil (h:Q .normal ρ L):HO P n ops Q [] ρ L:=fun k w a hs ha=>⟨ρ,L,ha,hs,h⟩
theorem Zf9 {k:Zgv} {w:World} {a:Act} {v:Value} {K:Act→World→Prop} {Q':Exit→Act→World→Prop} (hs:Sat k w L) (h:o.quietAt P a (fun w'=>Sat k w' L) w v)
  (hK : ∀ w',Sat k w' L→K (a.put o.dst v) w'):o.wp P a w K Q':=by
 unfold Oper.quietAt at h
 unfold Oper.wp
 generalize (execOp a.eval o).run P w=r at *
 cases r with
 | ok nx w' =>
  cases nx<;>simp only [Oper.quietUpon] at h<;>simp only [Oper.upon]
  case value u =>
   obtain ⟨e1,e2⟩:=h
   rw [e1,e2]
   exact hK _ hs
  case skip =>
   obtain ⟨e1,e2⟩:=h
   rw [e1,← e2]
   exact hK _ hs
  case enter f args =>
   obtain ⟨e1,hc⟩:=h
   rw [e1]
   exact hc.mono fun e w'' ⟨he,hw''⟩=>by subst he;exact hK _ hw''
 | halt x w'=>simp only [Oper.quietUpon] at h

theorem ho_q {v:Value} {d:Nat} {op:Op} {ty:TypeId} {pos:String} {af:Array Edge} (hn:Nat.blt d n=true) (h:QOp P ⟨some d,op,ty,pos,af,none⟩ ρ L v) (hr:HO P n ops Q rest ((d,v)::ρ) L) :
  HO P n ops Q (⟨some d,op,ty,pos,af,none⟩::rest) ρ L:=by
 have hg:(Oper.mk (some d) op ty pos af none).guard=none:=rfl
 intro k w a hs ha
 have hlt:d<n:=Nat.le_of_ble_eq_true hn
 unfold wpList
 rw [if_pos (Wd _ hg _)]
 refine .inl (Zf9 hs (h k a (fun x _ u hu=>ha.ev hu) w hs) fun w' hs'=>?_)
 exact hr k w' _ hs' (ha.put hlt v)

def V8 (ops:List Oper) (j:Nat):Option Nat:=(ops[j]?).bind (·.dst)
theorem Wk {a:Act} {j t:Nat} {b wt:Bool} (ha:Agr n a ρ) (hg:o.guard=some (j,wt)) (hj:V8 ops j=some t) (ht:lk ρ t=some (.bool b)):Region.wanted o (yielded ops.toArray a.tmps)=(b == wt):=by
 unfold V8 at hj
 simp [Region.wanted,hg,yielded,hj,ha.get _ _ ht]
theorem Zpg {v:Value} {d j t:Nat} {wt:Bool} {op:Op} {ty:TypeId} {pos:String} {af:Array Edge} (hn:Nat.blt d n=true) (hj:V8 ops j=some t) (ht:lk ρ t=some (.bool wt)) (h:QOp P ⟨some d,op,ty,pos,af,some (j,wt)⟩ ρ L v)
  (hr:HO P n ops Q rest ((d,v)::ρ) L):HO P n ops Q (⟨some d,op,ty,pos,af,some (j,wt)⟩::rest) ρ L:=by
 have hg:(Oper.mk (some d) op ty pos af (some (j,wt))).guard=some (j,wt):=rfl
 intro k w a hs ha
 have hlt:d<n:=Nat.le_of_ble_eq_true hn
 unfold wpList
 rw [if_pos (by rw [Wk ha hg hj ht];simp)]
 refine .inl (Zf9 hs (h k a (fun x _ u hu=>ha.ev hu) w hs) fun w' hs'=>?_)
 exact hr k w' _ hs' (ha.put hlt v)
theorem Zpf {d j t:Nat} {wt b:Bool} {op:Op} {ty:TypeId} {pos:String} {af:Array Edge} (hn:Nat.blt d n=true) (hj:V8 ops j=some t) (ht:lk ρ t=some (.bool b)) (hb:(!wt)=b)
  (hr:HO P n ops Q rest ((d,undef)::ρ) L):HO P n ops Q (⟨some d,op,ty,pos,af,some (j,wt)⟩::rest) ρ L:=by
 subst hb
 have hg:(Oper.mk (some d) op ty pos af (some (j,wt))).guard=some (j,wt):=rfl
 intro k w a hs ha
 have hlt:d<n:=Nat.le_of_ble_eq_true hn
 unfold wpList
 rw [if_neg (by rw [Wk ha hg hj ht];cases wt<;>simp)]
 exact hr k w _ hs (ha.put hlt undef)
theorem Agr.name {a:Act} (ha:Agr n a ρ) {t:Nat} {b c:Bool} (ht:lk ρ t=some (.bool b)) (hb:b=c):Agr n a ((t,.bool c)::ρ):=by
 subst hb
 refine ⟨ha.size,ha.defers,fun x u hx=>?_⟩
 by_cases e:t=x
 ·subst e
  rw [Wr] at hx
  cases hx
  exact ha.get _ _ ht
 ·rw [Ws _ _ e] at hx
  exact ha.get _ _ hx
theorem Zrc {l:List Oper} (t:Nat) {b:Bool} (ht:lk ρ t=some (.bool b)) (h1:b=true→HO P n ops Q l ((t,.bool true)::ρ) L) (h0:b=false→HO P n ops Q l ((t,.bool false)::ρ) L):HO P n ops Q l ρ L:=by
 intro k w a hs ha
 cases hb:b with
 | true=>exact h1 hb k w a hs (ha.name ht hb)
 | false=>exact h0 hb k w a hs (ha.name ht hb)
theorem ho_skipu {d j t:Nat} {wt:Bool} {v:Value} {op:Op} {ty:TypeId} {pos:String} {af:Array Edge} (hj:V8 ops j=some t) (ht:lk ρ t=some v) (hb:v=undef) (hn:Nat.blt d n=true)
  (hr:HO P n ops Q rest ((d,undef)::ρ) L):HO P n ops Q (⟨some d,op,ty,pos,af,some (j,wt)⟩::rest) ρ L:=by
 subst hb
 intro k w a hs ha
 have hlt:d<n:=Nat.le_of_ble_eq_true hn
 unfold wpList
 have hw:Region.wanted (Oper.mk (some d) op ty pos af (some (j,wt))) (yielded ops.toArray a.tmps)=false:=by
  unfold V8 at hj
  simp [Region.wanted,yielded,hj,ha.get _ _ ht,undef]
 rw [if_neg (by rw [hw];simp)]
 exact hr k w _ hs (ha.put hlt undef)
theorem Zrb {d j t:Nat} {wt:Bool} {op:Op} {ty:TypeId} {pos:String} {af:Array Edge} {b:Bool} (hj:V8 ops j=some t) (ht:lk ρ t=some (.bool b))
  (h1:b=true→HO P n ops Q (⟨some d,op,ty,pos,af,some (j,wt)⟩::rest) ((t,.bool true)::ρ) L) (h0:b=false→HO P n ops Q (⟨some d,op,ty,pos,af,some (j,wt)⟩::rest) ((t,.bool false)::ρ) L) :
  HO P n ops Q (⟨some d,op,ty,pos,af,some (j,wt)⟩::rest) ρ L:=Zrc t ht h1 h0
end rules

/-! ### the operations that read -/
section q
variable {P:Program} {ρ:Zr} {L:Zb} {d:Option Tmp} {ty:TypeId} {pos:String} {af:Array Edge} {g:Option (Nat × Bool)}

theorem Ya {o:Oper} {v:Value} (h : ∀ (ρe:Operand→Value),(∀ x∈o.op.operands,∀ u,ev ρ x=some u→ρe x=u) → ∀ k w,Sat k w L→(execOp ρe o).run P w = .ok (.value v) w):QOp P o ρ L v:=by
 intro k a he w hs
 unfold Oper.quietAt
 rw [h a.eval he k w hs]
 exact ⟨rfl,rfl⟩
theorem q_move {x:Operand} {v:Value} (hx:ev ρ x=some v):QOp P ⟨d,.move x,ty,pos,af,g⟩ ρ L v:=
 Ya fun ρe he k w hs=>by simp [execOp,he x (by simp [Op.operands]) v hx]
theorem q_assign {x:Operand} {v:Value} (hx:ev ρ x=some v):QOp P ⟨d,.assign x,ty,pos,af,g⟩ ρ L v:=
 Ya fun ρe he k w hs=>by simp [execOp,he x (by simp [Op.operands]) v hx]
theorem q_pickt {c x y:Operand} {v:Value} {b:Bool} (hc:ev ρ c=some (.bool b)) (hb:b=true) (hx:ev ρ x=some v):QOp P ⟨d,.pick c x y,ty,pos,af,g⟩ ρ L v:=by
 subst hb;exact Ya fun ρe he k w hs=>by simp [execOp,asBool,he c (by simp [Op.operands]) _ hc,he x (by simp [Op.operands]) v hx]
theorem q_pickf {c x y:Operand} {v:Value} {b:Bool} (hc:ev ρ c=some (.bool b)) (hb:b=false) (hy:ev ρ y=some v):QOp P ⟨d,.pick c x y,ty,pos,af,g⟩ ρ L v:=by
 subst hb;exact Ya fun ρe he k w hs=>by simp [execOp,asBool,he c (by simp [Op.operands]) _ hc,he y (by simp [Op.operands]) v hy]
theorem Zr1 {x:Operand} {j:Nat} {vs:List Value} {v:Value} (hx:ev ρ x=some (.tuple ⟨vs⟩)) (hv:vs[j]? = some v):QOp P ⟨d,.extract x j,ty,pos,af,g⟩ ρ L v:=
 Ya fun ρe he k w hs=>by simp [execOp,Instr.extract,he x (by simp [Op.operands]) _ hx,hv]
theorem Zod {x:Operand} {p:Addr} (hx:ev ρ x=some (.pointer (some p))):QOp P ⟨d,.nilCheck x,ty,pos,af,g⟩ ρ L (.pointer (some p)):=
 Ya fun ρe he k w hs=>by simp [execOp,he x (by simp [Op.operands]) _ hx]
theorem Zoc {f:Nat} {cap:Array Operand} {vs:List Value} (hv:Zg1 ρ cap.toList=some vs):QOp P ⟨d,.makeFunc (.func f) #[] cap,ty,pos,af,g⟩ ρ L (.func (.func f) #[] ⟨vs⟩):=by
 refine Ya fun ρe he k w hs=>?_
 have hm:cap.map ρe=⟨vs⟩:=by
  have key : ∀ (l:List Operand) (us:List Value),(∀ x∈l,∀ u,ev ρ x=some u→ρe x=u)→Zg1 ρ l=some us→l.map ρe=us:=by
   intro l
   induction l with
   | nil=>intro us _ h;simp [Zg1] at h;simp [← h]
   | cons x r ih =>
    intro us hl h
    simp only [Zg1] at h
    cases hx:ev ρ x with
    | none=>simp [hx] at h
    | some u =>
     cases hr:Zg1 ρ r with
     | none=>simp [hx,hr] at h
     | some us' =>
      simp [hx,hr] at h
      rw [List.map_cons,hl x (by simp) u hx,ih us' (fun y hy=>hl y (by simp [hy])) hr]
      exact h
  have:=key cap.toList vs (fun x hx=>he x (by simp [Op.operands];exact Array.mem_toList_iff.1 hx)) hv
  apply Array.toList_inj.1
  simpa using this
 simp [execOp,Instr.makeFunc,hm]
end q
end Go.HL
end

/-! SeatT -/
section
namespace Go.HL
open Go Go.Proofs
set_option maxRecDepth 100000
def tyL:List (Nat × TyI):=[(2,⟨2,3,0,1,8⟩),
 (3,⟨2,3,0,1,8⟩),
 (4,⟨1,0,0,1,1⟩),
 (5,⟨2,4,0,1,1⟩),
 (9,⟨3,0,0,1,16⟩),
 (12,⟨2,7,0,1,8⟩),
 (13,⟨7,2,0,2,24⟩),
 (20,⟨9,0,0,1,16⟩),
 (21,⟨2,2,0,1,4⟩),
 (22,⟨5,3,0,1,24⟩),
 (26,⟨4,110,0,1,8⟩),
 (27,⟨9,1,0,1,16⟩),
 (28,⟨9,1,0,1,16⟩),
 (34,⟨5,131,0,1,24⟩),
 (37,⟨5,43,0,1,24⟩),
 (42,⟨7,3,0,3,24⟩),
 (43,⟨7,3,0,3,24⟩),
 (45,⟨5,81,0,1,24⟩),
 (48,⟨5,54,0,1,24⟩),
 (50,⟨4,94,0,1,8⟩),
 (53,⟨7,4,0,4,40⟩),
 (54,⟨7,4,0,4,40⟩),
 (61,⟨5,4,0,1,24⟩),
 (71,⟨5,162,0,1,24⟩),
 (75,⟨7,2,0,2,16⟩),
 (76,⟨7,2,0,2,16⟩),
 (80,⟨7,3,0,3,24⟩),
 (81,⟨7,3,0,3,24⟩),
 (82,⟨5,22,0,1,24⟩),
 (83,⟨5,90,0,1,24⟩),
 (89,⟨7,2,0,2,48⟩),
 (90,⟨7,2,0,2,48⟩),
 (91,⟨5,145,0,1,24⟩),
 (92,⟨5,133,0,1,24⟩),
 (93,⟨7,5,0,5,120⟩),
 (94,⟨7,5,0,5,120⟩),
 (96,⟨5,99,0,1,24⟩),
 (97,⟨5,9,0,1,24⟩),
 (98,⟨7,2,0,2,40⟩),
 (99,⟨7,2,0,2,40⟩),
 (107,⟨8,133,4,1,8⟩),
 (108,⟨5,117,0,1,24⟩),
 (109,⟨7,5,0,5,104⟩),
 (110,⟨7,5,0,5,104⟩),
 (111,⟨4,181,0,1,8⟩),
 (114,⟨4,187,0,1,8⟩),
 (117,⟨4,122,0,1,8⟩),
 (118,⟨4,193,0,1,8⟩),
 (119,⟨6,6,118,6,48⟩),
 (120,⟨6,6,4,6,6⟩),
 (121,⟨7,4,0,14,72⟩),
 (122,⟨7,4,0,14,72⟩),
 (130,⟨7,7,0,9,72⟩),
 (131,⟨7,7,0,9,72⟩),
 (133,⟨6,2,3,2,16⟩),
 (141,⟨4,144,0,1,8⟩),
 (142,⟨5,5,0,1,24⟩),
 (143,⟨7,4,0,4,40⟩),
 (144,⟨7,4,0,4,40⟩),
 (145,⟨4,150,0,1,8⟩),
 (146,⟨4,208,0,1,8⟩),
 (148,⟨5,209,0,1,24⟩),
 (149,⟨7,4,0,4,64⟩),
 (150,⟨7,4,0,4,64⟩),
 (158,⟨4,160,0,1,8⟩),
 (159,⟨7,2,0,2,24⟩),
 (160,⟨7,2,0,2,24⟩),
 (162,⟨7,3,0,3,24⟩),
 (168,⟨5,28,0,1,24⟩),
 (174,⟨4,176,0,1,8⟩),
 (175,⟨7,1,0,1,8⟩),
 (176,⟨7,1,0,1,8⟩),
 (180,⟨7,3,0,3,40⟩),
 (181,⟨7,3,0,3,40⟩),
 (182,⟨4,261,0,1,8⟩),
 (185,⟨8,3,4,1,8⟩),
 (186,⟨7,3,0,3,24⟩),
 (187,⟨7,3,0,3,24⟩),
 (191,⟨6,7,43,21,168⟩),
 (192,⟨7,10,0,30,264⟩),
 (193,⟨7,10,0,30,264⟩),
 (203,⟨4,158,0,1,8⟩),
 (205,⟨4,214,0,1,8⟩),
 (207,⟨7,3,0,3,40⟩),
 (208,⟨7,3,0,3,40⟩),
 (209,⟨4,217,0,1,8⟩),
 (213,⟨7,4,0,4,64⟩),
 (214,⟨7,4,0,4,64⟩),
 (216,⟨7,9,0,9,112⟩),
 (217,⟨7,9,0,9,112⟩),
 (231,⟨7,0,0,0,0⟩),
 (232,⟨7,0,0,0,0⟩),
 (233,⟨7,0,0,0,0⟩),
 (234,⟨7,0,0,0,0⟩),
 (235,⟨2,7,0,1,8⟩),
 (236,⟨7,3,0,1,8⟩),
 (237,⟨7,3,0,1,8⟩),
 (238,⟨2,6,0,1,4⟩),
 (239,⟨7,3,0,2,16⟩),
 (240,⟨7,3,0,2,16⟩),
 (243,⟨7,3,0,4,72⟩),
 (244,⟨7,3,0,4,72⟩),
 (251,⟨7,2,0,2,24⟩),
 (252,⟨7,2,0,2,24⟩),
 (254,⟨8,9,252,1,8⟩),
 (257,⟨7,2,0,4,32⟩),
 (258,⟨7,2,0,4,32⟩),
 (259,⟨6,6,258,24,192⟩),
 (260,⟨7,3,0,26,208⟩),
 (261,⟨7,3,0,26,208⟩),
 (288,⟨2,7,0,1,8⟩),
 (290,⟨7,3,0,11,96⟩),
 (291,⟨7,3,0,11,96⟩),
 (292,⟨4,240,0,1,8⟩),
 (298,⟨4,238,0,1,8⟩),
 (305,⟨4,307,0,1,8⟩),
 (306,⟨7,2,0,2,32⟩),
 (307,⟨7,2,0,2,32⟩),
 (315,⟨6,3,3,3,24⟩),
 (316,⟨5,315,0,1,24⟩),
 (323,⟨9,1,0,1,16⟩),
 (326,⟨9,1,0,1,16⟩),
 (328,⟨9,1,0,1,16⟩),
 (330,⟨9,1,0,1,16⟩),
 (337,⟨2,3,0,1,8⟩),
 (343,⟨4,237,0,1,8⟩),
 (345,⟨4,235,0,1,8⟩),
 (353,⟨4,5,0,1,8⟩),
 (354,⟨6,6,9,6,96⟩),
 (368,⟨2,3,0,1,8⟩),
 (371,⟨4,387,0,1,8⟩),
 (374,⟨6,24,5,24,24⟩),
 (378,⟨6,256,5,256,256⟩),
 (379,⟨7,2,0,2,2⟩),
 (380,⟨7,2,0,2,2⟩),
 (381,⟨6,16,380,32,32⟩),
 (386,⟨7,3,0,3,48⟩),
 (387,⟨7,3,0,3,48⟩),
 (390,⟨6,20,235,20,160⟩),
 (391,⟨6,65,5,65,65⟩),
 (394,⟨4,396,0,1,8⟩),
 (395,⟨7,1,0,1,16⟩),
 (396,⟨7,1,0,1,16⟩),
 (397,⟨6,32,5,32,32⟩),
 (398,⟨6,64,5,64,64⟩),
 (420,⟨2,5,0,1,2⟩),
 (421,⟨5,420,0,1,24⟩),
 (423,⟨5,238,0,1,24⟩),
 (433,⟨4,28,0,1,8⟩)]
def flL:List (Nat × Nat × Nat):=[(832,0,9),(833,1,12),(2688,0,3),(2689,1,3),(2690,2,3),(2752,0,3),(2753,1,3),(2754,2,3),(3392,0,9),(3393,1,3),(3394,2,3),(3395,3,3),(3456,0,9),(3457,1,3),(3458,2,3),(3459,3,3),(4800,0,3),(4801,1,3),(4864,0,3),(4865,1,3),(5120,0,3),(5121,1,3),(5122,2,3),(5184,0,3),(5185,1,3),(5186,2,3),(5696,0,22),(5697,1,45),(5760,0,22),(5761,1,45),(5952,0,22),(5953,1,91),(5954,2,92),(5955,3,34),(5956,4,71),(6016,0,22),(6017,1,91),(6018,2,92),(6019,3,34),(6020,4,71),(6272,0,9),(6273,1,22),(6336,0,9),(6337,1,22),(6976,0,22),(6977,1,108),(6978,2,107),(6979,3,34),(6980,4,45),(7040,0,22),(7041,1,108),(7042,2,107),(7043,3,34),(7044,4,45),(7744,0,114),(7745,1,111),(7746,2,119),(7747,8,120),(7808,0,114),(7809,1,111),(7810,2,119),(7811,8,120),(8320,0,3),(8321,1,3),(8322,2,3),(8323,3,3),(8324,4,3),(8325,5,4),(8326,6,43),(8384,0,3),(8385,1,3),(8386,2,3),(8387,3,3),(8388,4,3),(8389,5,4),(8390,6,43),(9152,0,9),(9153,1,4),(9154,2,3),(9155,3,4),(9216,0,9),(9217,1,4),(9218,2,3),(9219,3,4),(9536,0,146),(9537,1,141),(9538,2,148),(9539,3,61),(9600,0,146),(9601,1,141),(9602,2,148),(9603,3,61),(10176,0,3),(10177,1,28),(10240,0,3),(10241,1,28),(10368,0,3),(10369,1,3),(10370,2,3),(11200,0,26),(11264,0,26),(11520,0,142),(11521,1,4),(11522,2,3),(11584,0,142),(11585,1,4),(11586,2,3),(11904,0,182),(11905,1,3),(11906,2,185),(11968,0,182),(11969,1,3),(11970,2,185),(12288,0,3),(12289,1,3),(12290,2,3),(12291,3,22),(12292,4,9),(12293,5,3),(12294,6,3),(12295,7,191),(12296,28,3),(12297,29,3),(12352,0,3),(12353,1,3),(12354,2,3),(12355,3,22),(12356,4,9),(12357,5,3),(12358,6,3),(12359,7,191),(12360,28,3),(12361,29,3),(13248,0,3),(13249,1,205),(13250,2,61),(13312,0,3),(13313,1,205),(13314,2,61),(13632,0,141),(13633,1,22),(13634,2,37),(13635,3,4),(13696,0,141),(13697,1,22),(13698,2,37),(13699,3,4),(13824,0,3),(13825,1,3),(13826,2,3),(13827,3,22),(13828,4,9),(13829,5,3),(13830,6,34),(13831,7,3),(13832,8,3),(13888,0,3),(13889,1,3),(13890,2,3),(13891,3,22),(13892,4,9),(13893,5,3),(13894,6,34),(13895,7,3),(13896,8,3),(15106,0,235),(15170,0,235),(15297,0,237),(15298,1,238),(15361,0,237),(15362,1,238),(15552,0,3),(15553,1,90),(15554,3,28),(15616,0,3),(15617,1,90),(15618,3,28),(16064,0,9),(16065,1,250),(16128,0,9),(16129,1,250),(16448,0,3),(16449,1,43),(16512,0,3),(16513,1,43),(16640,0,111),(16641,1,259),(16642,25,4),(16704,0,111),(16705,1,259),(16706,25,4),(18560,0,3),(18561,1,131),(18562,10,28),(18624,0,3),(18625,1,131),(18626,10,28),(19584,0,305),(19585,1,142),(19648,0,305),(19649,1,142),(24256,0,5),(24257,1,5),(24320,0,5),(24321,1,5),(24704,0,9),(24705,1,9),(24706,2,28),(24768,0,9),(24769,1,9),(24770,2,28),(25280,0,9),(25344,0,9)]
def zrL:List (Nat × Value):=[(2,.int .i64 0),
 (3,.int .i64 0),
 (4,.bool false),
 (5,.int .u8 0),
 (9,.string ⟨⟨[]⟩⟩),
 (12,.int .u64 0),
 (13,.agg ⟨[.string ⟨⟨[]⟩⟩,.int .u64 0]⟩),
 (20,.nilIface),
 (21,.int .i32 0),
 (22,.slice none 0 0),
 (26,.pointer none),
 (27,.nilIface),
 (28,.nilIface),
 (34,.slice none 0 0),
 (37,.slice none 0 0),
 (42,.agg ⟨[.int .i64 0,.int .i64 0,.int .i64 0]⟩),
 (43,.agg ⟨[.int .i64 0,.int .i64 0,.int .i64 0]⟩),
 (45,.slice none 0 0),
 (48,.slice none 0 0),
 (50,.pointer none),
 (53,.agg ⟨[.string ⟨⟨[]⟩⟩,.int .i64 0,.int .i64 0,.int .i64 0]⟩),
 (54,.agg ⟨[.string ⟨⟨[]⟩⟩,.int .i64 0,.int .i64 0,.int .i64 0]⟩),
 (61,.slice none 0 0),
 (71,.slice none 0 0),
 (75,.agg ⟨[.int .i64 0,.int .i64 0]⟩),
 (76,.agg ⟨[.int .i64 0,.int .i64 0]⟩),
 (80,.agg ⟨[.int .i64 0,.int .i64 0,.int .i64 0]⟩),
 (81,.agg ⟨[.int .i64 0,.int .i64 0,.int .i64 0]⟩),
 (82,.slice none 0 0),
 (83,.slice none 0 0),
 (89,.agg ⟨[.slice none 0 0,.slice none 0 0]⟩),
 (90,.agg ⟨[.slice none 0 0,.slice none 0 0]⟩),
 (91,.slice none 0 0),
 (92,.slice none 0 0),
 (93,.agg ⟨[.slice none 0 0,.slice none 0 0,.slice none 0 0,.slice none 0 0,.slice none 0 0]⟩),
 (94,.agg ⟨[.slice none 0 0,.slice none 0 0,.slice none 0 0,.slice none 0 0,.slice none 0 0]⟩),
 (96,.slice none 0 0),
 (97,.slice none 0 0),
 (98,.agg ⟨[.string ⟨⟨[]⟩⟩,.slice none 0 0]⟩),
 (99,.agg ⟨[.string ⟨⟨[]⟩⟩,.slice none 0 0]⟩),
 (107,.map none),
 (108,.slice none 0 0),
 (109,.agg ⟨[.slice none 0 0,.slice none 0 0,.map none,.slice none 0 0,.slice none 0 0]⟩),
 (110,.agg ⟨[.slice none 0 0,.slice none 0 0,.map none,.slice none 0 0,.slice none 0 0]⟩),
 (111,.pointer none),
 (114,.pointer none),
 (117,.pointer none),
 (118,.pointer none),
 (119,.agg ⟨[.pointer none,.pointer none,.pointer none,.pointer none,.pointer none,.pointer none]⟩),
 (120,.agg ⟨[.bool false,.bool false,.bool false,.bool false,.bool false,.bool false]⟩),
 (121,.agg ⟨[.pointer none,.pointer none,.pointer none,.pointer none,.pointer none,.pointer none,.pointer none,.pointer none,.bool false,.bool false,.bool false,.bool false,.bool false,.bool false]⟩),
 (122,.agg ⟨[.pointer none,.pointer none,.pointer none,.pointer none,.pointer none,.pointer none,.pointer none,.pointer none,.bool false,.bool false,.bool false,.bool false,.bool false,.bool false]⟩),
 (130,.agg ⟨[.int .i64 0,.int .i64 0,.int .i64 0,.int .i64 0,.int .i64 0,.bool false,.int .i64 0,.int .i64 0,.int .i64 0]⟩),
 (131,.agg ⟨[.int .i64 0,.int .i64 0,.int .i64 0,.int .i64 0,.int .i64 0,.bool false,.int .i64 0,.int .i64 0,.int .i64 0]⟩),
 (133,.agg ⟨[.int .i64 0,.int .i64 0]⟩),
 (141,.pointer none),
 (142,.slice none 0 0),
 (143,.agg ⟨[.string ⟨⟨[]⟩⟩,.bool false,.int .i64 0,.bool false]⟩),
 (144,.agg ⟨[.string ⟨⟨[]⟩⟩,.bool false,.int .i64 0,.bool false]⟩),
 (145,.pointer none),
 (146,.pointer none),
 (148,.slice none 0 0),
 (149,.agg ⟨[.pointer none,.pointer none,.slice none 0 0,.slice none 0 0]⟩),
 (150,.agg ⟨[.pointer none,.pointer none,.slice none 0 0,.slice none 0 0]⟩),
 (158,.pointer none),
 (159,.agg ⟨[.int .i64 0,.nilIface]⟩),
 (160,.agg ⟨[.int .i64 0,.nilIface]⟩),
 (162,.agg ⟨[.int .i64 0,.int .i64 0,.int .i64 0]⟩),
 (168,.slice none 0 0),
 (174,.pointer none),
 (175,.agg ⟨[.pointer none]⟩),
 (176,.agg ⟨[.pointer none]⟩),
 (180,.agg ⟨[.slice none 0 0,.bool false,.int .i64 0]⟩),
 (181,.agg ⟨[.slice none 0 0,.bool false,.int .i64 0]⟩),
 (182,.pointer none),
 (185,.map none),
 (186,.agg ⟨[.pointer none,.int .i64 0,.map none]⟩),
 (187,.agg ⟨[.pointer none,.int .i64 0,.map none]⟩),
 (191,.agg ⟨[.int .i64 0,.int .i64 0,.int .i64 0,.int .i64 0,.int .i64 0,.int .i64 0,.int .i64 0,.int .i64 0,.int .i64 0,.int .i64 0,.int .i64 0,.int .i64 0,.int .i64 0,.int .i64 0,.int .i64 0,.int .i64 0,.int .i64 0,.int .i64 0,.int .i64 0,.int .i64 0,.int .i64 0]⟩),
 (192,.agg ⟨[.int .i64 0,.int .i64 0,.int .i64 0,.slice none 0 0,.string ⟨⟨[]⟩⟩,.int .i64 0,.int .i64 0,.int .i64 0,.int .i64 0,.int .i64 0,.int .i64 0,.int .i64 0,.int .i64 0,.int .i64 0,.int .i64 0,.int .i64 0,.int .i64 0,.int .i64 0,.int .i64 0,.int .i64 0,.int .i64 0,.int .i64 0,.int .i64 0,.int .i64 0,.int .i64 0,.int .i64 0,.int .i64 0,.int .i64 0,.int .i64 0,.int .i64 0]⟩),
 (193,.agg ⟨[.int .i64 0,.int .i64 0,.int .i64 0,.slice none 0 0,.string ⟨⟨[]⟩⟩,.int .i64 0,.int .i64 0,.int .i64 0,.int .i64 0,.int .i64 0,.int .i64 0,.int .i64 0,.int .i64 0,.int .i64 0,.int .i64 0,.int .i64 0,.int .i64 0,.int .i64 0,.int .i64 0,.int .i64 0,.int .i64 0,.int .i64 0,.int .i64 0,.int .i64 0,.int .i64 0,.int .i64 0,.int .i64 0,.int .i64 0,.int .i64 0,.int .i64 0]⟩),
 (203,.pointer none),
 (205,.pointer none),
 (207,.agg ⟨[.int .i64 0,.pointer none,.slice none 0 0]⟩),
 (208,.agg ⟨[.int .i64 0,.pointer none,.slice none 0 0]⟩),
 (209,.pointer none),
 (213,.agg ⟨[.pointer none,.slice none 0 0,.slice none 0 0,.bool false]⟩),
 (214,.agg ⟨[.pointer none,.slice none 0 0,.slice none 0 0,.bool false]⟩),
 (216,.agg ⟨[.int .i64 0,.int .i64 0,.int .i64 0,.slice none 0 0,.string ⟨⟨[]⟩⟩,.int .i64 0,.slice none 0 0,.int .i64 0,.int .i64 0]⟩),
 (217,.agg ⟨[.int .i64 0,.int .i64 0,.int .i64 0,.slice none 0 0,.string ⟨⟨[]⟩⟩,.int .i64 0,.slice none 0 0,.int .i64 0,.int .i64 0]⟩),
 (231,.agg ⟨[]⟩),
 (232,.agg ⟨[]⟩),
 (233,.agg ⟨[]⟩),
 (234,.agg ⟨[]⟩),
 (235,.int .u64 0),
 (236,.agg ⟨[.int .u64 0]⟩),
 (237,.agg ⟨[.int .u64 0]⟩),
 (238,.int .u32 0),
 (239,.agg ⟨[.int .u64 0,.int .u32 0]⟩),
 (240,.agg ⟨[.int .u64 0,.int .u32 0]⟩),
 (243,.agg ⟨[.int .i64 0,.slice none 0 0,.slice none 0 0,.nilIface]⟩),
 (244,.agg ⟨[.int .i64 0,.slice none 0 0,.slice none 0 0,.nilIface]⟩),
 (251,.agg ⟨[.string ⟨⟨[]⟩⟩,.nilFunc]⟩),
 (252,.agg ⟨[.string ⟨⟨[]⟩⟩,.nilFunc]⟩),
 (254,.map none),
 (257,.agg ⟨[.int .i64 0,.int .i64 0,.int .i64 0,.int .i64 0]⟩),
 (258,.agg ⟨[.int .i64 0,.int .i64 0,.int .i64 0,.int .i64 0]⟩),
 (259,.agg ⟨[.int .i64 0,.int .i64 0,.int .i64 0,.int .i64 0,.int .i64 0,.int .i64 0,.int .i64 0,.int .i64 0,.int .i64 0,.int .i64 0,.int .i64 0,.int .i64 0,.int .i64 0,.int .i64 0,.int .i64 0,.int .i64 0,.int .i64 0,.int .i64 0,.int .i64 0,.int .i64 0,.int .i64 0,.int .i64 0,.int .i64 0,.int .i64 0]⟩),
 (260,.agg ⟨[.pointer none,.int .i64 0,.int .i64 0,.int .i64 0,.int .i64 0,.int .i64 0,.int .i64 0,.int .i64 0,.int .i64 0,.int .i64 0,.int .i64 0,.int .i64 0,.int .i64 0,.int .i64 0,.int .i64 0,.int .i64 0,.int .i64 0,.int .i64 0,.int .i64 0,.int .i64 0,.int .i64 0,.int .i64 0,.int .i64 0,.int .i64 0,.int .i64 0,.bool false]⟩),
 (261,.agg ⟨[.pointer none,.int .i64 0,.int .i64 0,.int .i64 0,.int .i64 0,.int .i64 0,.int .i64 0,.int .i64 0,.int .i64 0,.int .i64 0,.int .i64 0,.int .i64 0,.int .i64 0,.int .i64 0,.int .i64 0,.int .i64 0,.int .i64 0,.int .i64 0,.int .i64 0,.int .i64 0,.int .i64 0,.int .i64 0,.int .i64 0,.int .i64 0,.int .i64 0,.bool false]⟩),
 (288,.int .u64 0),
 (290,.agg ⟨[.int .i64 0,.int .i64 0,.int .i64 0,.int .i64 0,.int .i64 0,.int .i64 0,.bool false,.int .i64 0,.int .i64 0,.int .i64 0,.nilIface]⟩),
 (291,.agg ⟨[.int .i64 0,.int .i64 0,.int .i64 0,.int .i64 0,.int .i64 0,.int .i64 0,.bool false,.int .i64 0,.int .i64 0,.int .i64 0,.nilIface]⟩),
 (292,.pointer none),
 (298,.pointer none),
 (305,.pointer none),
 (306,.agg ⟨[.pointer none,.slice none 0 0]⟩),
 (307,.agg ⟨[.pointer none,.slice none 0 0]⟩),
 (315,.agg ⟨[.int .i64 0,.int .i64 0,.int .i64 0]⟩),
 (316,.slice none 0 0),
 (323,.nilIface),
 (326,.nilIface),
 (328,.nilIface),
 (330,.nilIface),
 (337,.int .i64 0),
 (343,.pointer none),
 (345,.pointer none),
 (353,.pointer none),
 (354,.agg ⟨[.string ⟨⟨[]⟩⟩,.string ⟨⟨[]⟩⟩,.string ⟨⟨[]⟩⟩,.string ⟨⟨[]⟩⟩,.string ⟨⟨[]⟩⟩,.string ⟨⟨[]⟩⟩]⟩),
 (368,.int .i64 0),
 (371,.pointer none),
 (374,.agg ⟨[.int .u8 0,.int .u8 0,.int .u8 0,.int .u8 0,.int .u8 0,.int .u8 0,.int .u8 0,.int .u8 0,.int .u8 0,.int .u8 0,.int .u8 0,.int .u8 0,.int .u8 0,.int .u8 0,.int .u8 0,.int .u8 0,.int .u8 0,.int .u8 0,.int .u8 0,.int .u8 0,.int .u8 0,.int .u8 0,.int .u8 0,.int .u8 0]⟩),
 (379,.agg ⟨[.int .u8 0,.int .u8 0]⟩),
 (380,.agg ⟨[.int .u8 0,.int .u8 0]⟩),
 (381,.agg ⟨[.int .u8 0,.int .u8 0,.int .u8 0,.int .u8 0,.int .u8 0,.int .u8 0,.int .u8 0,.int .u8 0,.int .u8 0,.int .u8 0,.int .u8 0,.int .u8 0,.int .u8 0,.int .u8 0,.int .u8 0,.int .u8 0,.int .u8 0,.int .u8 0,.int .u8 0,.int .u8 0,.int .u8 0,.int .u8 0,.int .u8 0,.int .u8 0,.int .u8 0,.int .u8 0,.int .u8 0,.int .u8 0,.int .u8 0,.int .u8 0,.int .u8 0,.int .u8 0]⟩),
 (386,.agg ⟨[.string ⟨⟨[]⟩⟩,.string ⟨⟨[]⟩⟩,.nilIface]⟩),
 (387,.agg ⟨[.string ⟨⟨[]⟩⟩,.string ⟨⟨[]⟩⟩,.nilIface]⟩),
 (390,.agg ⟨[.int .u64 0,.int .u64 0,.int .u64 0,.int .u64 0,.int .u64 0,.int .u64 0,.int .u64 0,.int .u64 0,.int .u64 0,.int .u64 0,.int .u64 0,.int .u64 0,.int .u64 0,.int .u64 0,.int .u64 0,.int .u64 0,.int .u64 0,.int .u64 0,.int .u64 0,.int .u64 0]⟩),
 (394,.pointer none),
 (395,.agg ⟨[.string ⟨⟨[]⟩⟩]⟩),
 (396,.agg ⟨[.string ⟨⟨[]⟩⟩]⟩),
 (397,.agg ⟨[.int .u8 0,.int .u8 0,.int .u8 0,.int .u8 0,.int .u8 0,.int .u8 0,.int .u8 0,.int .u8 0,.int .u8 0,.int .u8 0,.int .u8 0,.int .u8 0,.int .u8 0,.int .u8 0,.int .u8 0,.int .u8 0,.int .u8 0,.int .u8 0,.int .u8 0,.int .u8 0,.int .u8 0,.int .u8 0,.int .u8 0,.int .u8 0,.int .u8 0,.int .u8 0,.int .u8 0,.int .u8 0,.int .u8 0,.int .u8 0,.int .u8 0,.int .u8 0]⟩),
 (398,.agg ⟨[.int .u8 0,.int .u8 0,.int .u8 0,.int .u8 0,.int .u8 0,.int .u8 0,.int .u8 0,.int .u8 0,.int .u8 0,.int .u8 0,.int .u8 0,.int .u8 0,.int .u8 0,.int .u8 0,.int .u8 0,.int .u8 0,.int .u8 0,.int .u8 0,.int .u8 0,.int .u8 0,.int .u8 0,.int .u8 0,.int .u8 0,.int .u8 0,.int .u8 0,.int .u8 0,.int .u8 0,.int .u8 0,.int .u8 0,.int .u8 0,.int .u8 0,.int .u8 0,.int .u8 0,.int .u8 0,.int .u8 0,.int .u8 0,.int .u8 0,.int .u8 0,.int .u8 0,.int .u8 0,.int .u8 0,.int .u8 0,.int .u8 0,.int .u8 0,.int .u8 0,.int .u8 0,.int .u8 0,.int .u8 0,.int .u8 0,.int .u8 0,.int .u8 0,.int .u8 0,.int .u8 0,.int .u8 0,.int .u8 0,.int .u8 0,.int .u8 0,.int .u8 0,.int .u8 0,.int .u8 0,.int .u8 0,.int .u8 0,.int .u8 0,.int .u8 0]⟩),
 (420,.int .u16 0),
 (421,.slice none 0 0),
 (423,.slice none 0 0),
 (433,.pointer none)]
def stL:List (Nat × List (Nat × Nat × Nat)):=[(13,[(0,1,9),(1,1,12)]),(42,[(0,1,3),(1,1,3),(2,1,3)]),(43,[(0,1,3),(1,1,3),(2,1,3)]),(53,[(0,1,9),(1,1,3),(2,1,3),(3,1,3)]),(54,[(0,1,9),(1,1,3),(2,1,3),(3,1,3)]),(75,[(0,1,3),(1,1,3)]),(76,[(0,1,3),(1,1,3)]),(80,[(0,1,3),(1,1,3),(2,1,3)]),(81,[(0,1,3),(1,1,3),(2,1,3)]),(89,[(0,1,22),(1,1,45)]),(90,[(0,1,22),(1,1,45)]),(93,[(0,1,22),(1,1,91),(2,1,92),(3,1,34),(4,1,71)]),(94,[(0,1,22),(1,1,91),(2,1,92),(3,1,34),(4,1,71)]),(98,[(0,1,9),(1,1,22)]),(99,[(0,1,9),(1,1,22)]),(109,[(0,1,22),(1,1,108),(2,1,107),(3,1,34),(4,1,45)]),(110,[(0,1,22),(1,1,108),(2,1,107),(3,1,34),(4,1,45)]),(121,[(0,1,114),(1,1,111),(2,6,119),(8,6,120)]),(122,[(0,1,114),(1,1,111),(2,6,119),(8,6,120)]),(130,[(0,1,3),(1,1,3),(2,1,3),(3,1,3),(4,1,3),(5,1,4),(6,3,43)]),(131,[(0,1,3),(1,1,3),(2,1,3),(3,1,3),(4,1,3),(5,1,4),(6,3,43)]),(143,[(0,1,9),(1,1,4),(2,1,3),(3,1,4)]),(144,[(0,1,9),(1,1,4),(2,1,3),(3,1,4)]),(149,[(0,1,146),(1,1,141),(2,1,148),(3,1,61)]),(150,[(0,1,146),(1,1,141),(2,1,148),(3,1,61)]),(159,[(0,1,3),(1,1,28)]),(160,[(0,1,3),(1,1,28)]),(162,[(0,1,3),(1,1,3),(2,1,3)]),(175,[(0,1,26)]),(176,[(0,1,26)]),(180,[(0,1,142),(1,1,4),(2,1,3)]),(181,[(0,1,142),(1,1,4),(2,1,3)]),(186,[(0,1,182),(1,1,3),(2,1,185)]),(187,[(0,1,182),(1,1,3),(2,1,185)]),(192,[(0,1,3),(1,1,3),(2,1,3),(3,1,22),(4,1,9),(5,1,3),(6,1,3),(7,21,191),(28,1,3),(29,1,3)]),(193,[(0,1,3),(1,1,3),(2,1,3),(3,1,22),(4,1,9),(5,1,3),(6,1,3),(7,21,191),(28,1,3),(29,1,3)]),(207,[(0,1,3),(1,1,205),(2,1,61)]),(208,[(0,1,3),(1,1,205),(2,1,61)]),(213,[(0,1,141),(1,1,22),(2,1,37),(3,1,4)]),(214,[(0,1,141),(1,1,22),(2,1,37),(3,1,4)]),(216,[(0,1,3),(1,1,3),(2,1,3),(3,1,22),(4,1,9),(5,1,3),(6,1,34),(7,1,3),(8,1,3)]),(217,[(0,1,3),(1,1,3),(2,1,3),(3,1,22),(4,1,9),(5,1,3),(6,1,34),(7,1,3),(8,1,3)]),(231,[]),(232,[]),(233,[]),(234,[]),(236,[(0,0,233),(0,0,234),(0,1,235)]),(237,[(0,0,233),(0,0,234),(0,1,235)]),(239,[(0,0,232),(0,1,237),(1,1,238)]),(240,[(0,0,232),(0,1,237),(1,1,238)]),(243,[(0,1,3),(1,2,90),(3,1,28)]),(244,[(0,1,3),(1,2,90),(3,1,28)]),(251,[(0,1,9),(1,1,250)]),(252,[(0,1,9),(1,1,250)]),(257,[(0,1,3),(1,3,43)]),(258,[(0,1,3),(1,3,43)]),(260,[(0,1,111),(1,24,259),(25,1,4)]),(261,[(0,1,111),(1,24,259),(25,1,4)]),(290,[(0,1,3),(1,9,131),(10,1,28)]),(291,[(0,1,3),(1,9,131),(10,1,28)]),(306,[(0,1,305),(1,1,142)]),(307,[(0,1,305),(1,1,142)]),(379,[(0,1,5),(1,1,5)]),(380,[(0,1,5),(1,1,5)]),(386,[(0,1,9),(1,1,9),(2,1,28)]),(387,[(0,1,9),(1,1,9),(2,1,28)]),(395,[(0,1,9)]),(396,[(0,1,9)])]
def eqL:List (Nat × List Nat):=[(43,[2,2,2]),(76,[2,2]),(81,[2,2,2]),(131,[2,2,2,2,2,1,2,2,2]),(133,[2,2]),(162,[2,2,2]),(258,[2,2,2,2]),(315,[2,2,2])]
theorem stL_ok:(stL.all fun p=>decide (stI Tryz.prog p.1=some p.2))=true:=by kernel_rfl
theorem tyL_ok:(tyL.all fun p=>decide (tyI Tryz.prog p.1=some p.2))=true:=by kernel_rfl
theorem flL_ok:(flL.all fun p=>decide (fldI Tryz.prog (p.1 / 64) (p.1 % 64)=some p.2.1) && decide (fldT Tryz.prog (p.1 / 64) (p.1 % 64)=some p.2))=true:=by kernel_rfl
theorem zr2:zeroI Tryz.prog 2=some (.int .i64 0):=by kernel_rfl
theorem zr3:zeroI Tryz.prog 3=some (.int .i64 0):=by kernel_rfl
theorem zr4:zeroI Tryz.prog 4=some (.bool false):=by kernel_rfl
theorem zr5:zeroI Tryz.prog 5=some (.int .u8 0):=by kernel_rfl
theorem zr9:zeroI Tryz.prog 9=some (.string ⟨⟨[]⟩⟩):=by kernel_rfl
theorem zr12:zeroI Tryz.prog 12=some (.int .u64 0):=by kernel_rfl
theorem zr13:zeroI Tryz.prog 13=some (.agg ⟨[.string ⟨⟨[]⟩⟩,.int .u64 0]⟩):=by kernel_rfl
theorem zr20:zeroI Tryz.prog 20=some (.nilIface):=by kernel_rfl
theorem zr21:zeroI Tryz.prog 21=some (.int .i32 0):=by kernel_rfl
theorem zr22:zeroI Tryz.prog 22=some (.slice none 0 0):=by kernel_rfl
theorem zr26:zeroI Tryz.prog 26=some (.pointer none):=by kernel_rfl
theorem zr27:zeroI Tryz.prog 27=some (.nilIface):=by kernel_rfl
theorem zr28:zeroI Tryz.prog 28=some (.nilIface):=by kernel_rfl
theorem zr34:zeroI Tryz.prog 34=some (.slice none 0 0):=by kernel_rfl
theorem zr37:zeroI Tryz.prog 37=some (.slice none 0 0):=by kernel_rfl
theorem zr42:zeroI Tryz.prog 42=some (.agg ⟨[.int .i64 0,.int .i64 0,.int .i64 0]⟩):=by kernel_rfl
theorem zr43:zeroI Tryz.prog 43=some (.agg ⟨[.int .i64 0,.int .i64 0,.int .i64 0]⟩):=by kernel_rfl
theorem zr45:zeroI Tryz.prog 45=some (.slice none 0 0):=by kernel_rfl
theorem zr48:zeroI Tryz.prog 48=some (.slice none 0 0):=by kernel_rfl
theorem zr50:zeroI Tryz.prog 50=some (.pointer none):=by kernel_rfl
theorem zr53:zeroI Tryz.prog 53=some (.agg ⟨[.string ⟨⟨[]⟩⟩,.int .i64 0,.int .i64 0,.int .i64 0]⟩):=by kernel_rfl
theorem zr54:zeroI Tryz.prog 54=some (.agg ⟨[.string ⟨⟨[]⟩⟩,.int .i64 0,.int .i64 0,.int .i64 0]⟩):=by kernel_rfl
theorem zr61:zeroI Tryz.prog 61=some (.slice none 0 0):=by kernel_rfl
theorem zr71:zeroI Tryz.prog 71=some (.slice none 0 0):=by kernel_rfl
theorem zr75:zeroI Tryz.prog 75=some (.agg ⟨[.int .i64 0,.int .i64 0]⟩):=by kernel_rfl
theorem zr76:zeroI Tryz.prog 76=some (.agg ⟨[.int .i64 0,.int .i64 0]⟩):=by kernel_rfl
theorem zr80:zeroI Tryz.prog 80=some (.agg ⟨[.int .i64 0,.int .i64 0,.int .i64 0]⟩):=by kernel_rfl
theorem zr81:zeroI Tryz.prog 81=some (.agg ⟨[.int .i64 0,.int .i64 0,.int .i64 0]⟩):=by kernel_rfl
theorem zr82:zeroI Tryz.prog 82=some (.slice none 0 0):=by kernel_rfl
theorem zr83:zeroI Tryz.prog 83=some (.slice none 0 0):=by kernel_rfl
theorem zr89:zeroI Tryz.prog 89=some (.agg ⟨[.slice none 0 0,.slice none 0 0]⟩):=by kernel_rfl
theorem zr90:zeroI Tryz.prog 90=some (.agg ⟨[.slice none 0 0,.slice none 0 0]⟩):=by kernel_rfl
theorem zr91:zeroI Tryz.prog 91=some (.slice none 0 0):=by kernel_rfl
theorem zr92:zeroI Tryz.prog 92=some (.slice none 0 0):=by kernel_rfl
theorem zr93:zeroI Tryz.prog 93=some (.agg ⟨[.slice none 0 0,.slice none 0 0,.slice none 0 0,.slice none 0 0,.slice none 0 0]⟩):=by kernel_rfl
theorem zr94:zeroI Tryz.prog 94=some (.agg ⟨[.slice none 0 0,.slice none 0 0,.slice none 0 0,.slice none 0 0,.slice none 0 0]⟩):=by kernel_rfl
theorem zr96:zeroI Tryz.prog 96=some (.slice none 0 0):=by kernel_rfl
theorem zr97:zeroI Tryz.prog 97=some (.slice none 0 0):=by kernel_rfl
theorem zr98:zeroI Tryz.prog 98=some (.agg ⟨[.string ⟨⟨[]⟩⟩,.slice none 0 0]⟩):=by kernel_rfl
theorem zr99:zeroI Tryz.prog 99=some (.agg ⟨[.string ⟨⟨[]⟩⟩,.slice none 0 0]⟩):=by kernel_rfl
theorem zr107:zeroI Tryz.prog 107=some (.map none):=by kernel_rfl
theorem zr108:zeroI Tryz.prog 108=some (.slice none 0 0):=by kernel_rfl
theorem zr109:zeroI Tryz.prog 109=some (.agg ⟨[.slice none 0 0,.slice none 0 0,.map none,.slice none 0 0,.slice none 0 0]⟩):=by kernel_rfl
theorem zr110:zeroI Tryz.prog 110=some (.agg ⟨[.slice none 0 0,.slice none 0 0,.map none,.slice none 0 0,.slice none 0 0]⟩):=by kernel_rfl
theorem zr111:zeroI Tryz.prog 111=some (.pointer none):=by kernel_rfl
theorem zr114:zeroI Tryz.prog 114=some (.pointer none):=by kernel_rfl
theorem zr117:zeroI Tryz.prog 117=some (.pointer none):=by kernel_rfl
theorem zr118:zeroI Tryz.prog 118=some (.pointer none):=by kernel_rfl
theorem zr119:zeroI Tryz.prog 119=some (.agg ⟨[.pointer none,.pointer none,.pointer none,.pointer none,.pointer none,.pointer none]⟩):=by kernel_rfl
theorem zr120:zeroI Tryz.prog 120=some (.agg ⟨[.bool false,.bool false,.bool false,.bool false,.bool false,.bool false]⟩):=by kernel_rfl
theorem zr121:zeroI Tryz.prog 121=some (.agg ⟨[.pointer none,.pointer none,.pointer none,.pointer none,.pointer none,.pointer none,.pointer none,.pointer none,.bool false,.bool false,.bool false,.bool false,.bool false,.bool false]⟩):=by kernel_rfl
theorem zr122:zeroI Tryz.prog 122=some (.agg ⟨[.pointer none,.pointer none,.pointer none,.pointer none,.pointer none,.pointer none,.pointer none,.pointer none,.bool false,.bool false,.bool false,.bool false,.bool false,.bool false]⟩):=by kernel_rfl
theorem zr130:zeroI Tryz.prog 130=some (.agg ⟨[.int .i64 0,.int .i64 0,.int .i64 0,.int .i64 0,.int .i64 0,.bool false,.int .i64 0,.int .i64 0,.int .i64 0]⟩):=by kernel_rfl
theorem zr131:zeroI Tryz.prog 131=some (.agg ⟨[.int .i64 0,.int .i64 0,.int .i64 0,.int .i64 0,.int .i64 0,.bool false,.int .i64 0,.int .i64 0,.int .i64 0]⟩):=by kernel_rfl
theorem zr133:zeroI Tryz.prog 133=some (.agg ⟨[.int .i64 0,.int .i64 0]⟩):=by kernel_rfl
theorem zr141:zeroI Tryz.prog 141=some (.pointer none):=by kernel_rfl
theorem zr142:zeroI Tryz.prog 142=some (.slice none 0 0):=by kernel_rfl
theorem zr143:zeroI Tryz.prog 143=some (.agg ⟨[.string ⟨⟨[]⟩⟩,.bool false,.int .i64 0,.bool false]⟩):=by kernel_rfl
theorem zr144:zeroI Tryz.prog 144=some (.agg ⟨[.string ⟨⟨[]⟩⟩,.bool false,.int .i64 0,.bool false]⟩):=by kernel_rfl
theorem zr145:zeroI Tryz.prog 145=some (.pointer none):=by kernel_rfl
theorem zr146:zeroI Tryz.prog 146=some (.pointer none):=by kernel_rfl
theorem zr148:zeroI Tryz.prog 148=some (.slice none 0 0):=by kernel_rfl
theorem zr149:zeroI Tryz.prog 149=some (.agg ⟨[.pointer none,.pointer none,.slice none 0 0,.slice none 0 0]⟩):=by kernel_rfl
theorem zr150:zeroI Tryz.prog 150=some (.agg ⟨[.pointer none,.pointer none,.slice none 0 0,.slice none 0 0]⟩):=by kernel_rfl
theorem zr158:zeroI Tryz.prog 158=some (.pointer none):=by kernel_rfl
theorem zr159:zeroI Tryz.prog 159=some (.agg ⟨[.int .i64 0,.nilIface]⟩):=by kernel_rfl
theorem zr160:zeroI Tryz.prog 160=some (.agg ⟨[.int .i64 0,.nilIface]⟩):=by kernel_rfl
theorem zr162:zeroI Tryz.prog 162=some (.agg ⟨[.int .i64 0,.int .i64 0,.int .i64 0]⟩):=by kernel_rfl
theorem zr168:zeroI Tryz.prog 168=some (.slice none 0 0):=by kernel_rfl
theorem zr174:zeroI Tryz.prog 174=some (.pointer none):=by kernel_rfl
theorem zr175:zeroI Tryz.prog 175=some (.agg ⟨[.pointer none]⟩):=by kernel_rfl
theorem zr176:zeroI Tryz.prog 176=some (.agg ⟨[.pointer none]⟩):=by kernel_rfl
theorem zr180:zeroI Tryz.prog 180=some (.agg ⟨[.slice none 0 0,.bool false,.int .i64 0]⟩):=by kernel_rfl
theorem zr181:zeroI Tryz.prog 181=some (.agg ⟨[.slice none 0 0,.bool false,.int .i64 0]⟩):=by kernel_rfl
theorem zr182:zeroI Tryz.prog 182=some (.pointer none):=by kernel_rfl
theorem zr185:zeroI Tryz.prog 185=some (.map none):=by kernel_rfl
theorem zr186:zeroI Tryz.prog 186=some (.agg ⟨[.pointer none,.int .i64 0,.map none]⟩):=by kernel_rfl
theorem zr187:zeroI Tryz.prog 187=some (.agg ⟨[.pointer none,.int .i64 0,.map none]⟩):=by kernel_rfl
theorem zr191:zeroI Tryz.prog 191=some (.agg ⟨[.int .i64 0,.int .i64 0,.int .i64 0,.int .i64 0,.int .i64 0,.int .i64 0,.int .i64 0,.int .i64 0,.int .i64 0,.int .i64 0,.int .i64 0,.int .i64 0,.int .i64 0,.int .i64 0,.int .i64 0,.int .i64 0,.int .i64 0,.int .i64 0,.int .i64 0,.int .i64 0,.int .i64 0]⟩):=by kernel_rfl
theorem zr192:zeroI Tryz.prog 192=some (.agg ⟨[.int .i64 0,.int .i64 0,.int .i64 0,.slice none 0 0,.string ⟨⟨[]⟩⟩,.int .i64 0,.int .i64 0,.int .i64 0,.int .i64 0,.int .i64 0,.int .i64 0,.int .i64 0,.int .i64 0,.int .i64 0,.int .i64 0,.int .i64 0,.int .i64 0,.int .i64 0,.int .i64 0,.int .i64 0,.int .i64 0,.int .i64 0,.int .i64 0,.int .i64 0,.int .i64 0,.int .i64 0,.int .i64 0,.int .i64 0,.int .i64 0,.int .i64 0]⟩):=by kernel_rfl
theorem zr193:zeroI Tryz.prog 193=some (.agg ⟨[.int .i64 0,.int .i64 0,.int .i64 0,.slice none 0 0,.string ⟨⟨[]⟩⟩,.int .i64 0,.int .i64 0,.int .i64 0,.int .i64 0,.int .i64 0,.int .i64 0,.int .i64 0,.int .i64 0,.int .i64 0,.int .i64 0,.int .i64 0,.int .i64 0,.int .i64 0,.int .i64 0,.int .i64 0,.int .i64 0,.int .i64 0,.int .i64 0,.int .i64 0,.int .i64 0,.int .i64 0,.int .i64 0,.int .i64 0,.int .i64 0,.int .i64 0]⟩):=by kernel_rfl
theorem zr203:zeroI Tryz.prog 203=some (.pointer none):=by kernel_rfl
theorem zr205:zeroI Tryz.prog 205=some (.pointer none):=by kernel_rfl
theorem zr207:zeroI Tryz.prog 207=some (.agg ⟨[.int .i64 0,.pointer none,.slice none 0 0]⟩):=by kernel_rfl
theorem zr208:zeroI Tryz.prog 208=some (.agg ⟨[.int .i64 0,.pointer none,.slice none 0 0]⟩):=by kernel_rfl
theorem zr209:zeroI Tryz.prog 209=some (.pointer none):=by kernel_rfl
theorem zr213:zeroI Tryz.prog 213=some (.agg ⟨[.pointer none,.slice none 0 0,.slice none 0 0,.bool false]⟩):=by kernel_rfl
theorem zr214:zeroI Tryz.prog 214=some (.agg ⟨[.pointer none,.slice none 0 0,.slice none 0 0,.bool false]⟩):=by kernel_rfl
theorem zr216:zeroI Tryz.prog 216=some (.agg ⟨[.int .i64 0,.int .i64 0,.int .i64 0,.slice none 0 0,.string ⟨⟨[]⟩⟩,.int .i64 0,.slice none 0 0,.int .i64 0,.int .i64 0]⟩):=by kernel_rfl
theorem zr217:zeroI Tryz.prog 217=some (.agg ⟨[.int .i64 0,.int .i64 0,.int .i64 0,.slice none 0 0,.string ⟨⟨[]⟩⟩,.int .i64 0,.slice none 0 0,.int .i64 0,.int .i64 0]⟩):=by kernel_rfl
theorem zr231:zeroI Tryz.prog 231=some (.agg ⟨[]⟩):=by kernel_rfl
theorem zr232:zeroI Tryz.prog 232=some (.agg ⟨[]⟩):=by kernel_rfl
theorem zr233:zeroI Tryz.prog 233=some (.agg ⟨[]⟩):=by kernel_rfl
theorem zr234:zeroI Tryz.prog 234=some (.agg ⟨[]⟩):=by kernel_rfl
theorem zr235:zeroI Tryz.prog 235=some (.int .u64 0):=by kernel_rfl
theorem zr236:zeroI Tryz.prog 236=some (.agg ⟨[.int .u64 0]⟩):=by kernel_rfl
theorem zr237:zeroI Tryz.prog 237=some (.agg ⟨[.int .u64 0]⟩):=by kernel_rfl
theorem zr238:zeroI Tryz.prog 238=some (.int .u32 0):=by kernel_rfl
theorem zr239:zeroI Tryz.prog 239=some (.agg ⟨[.int .u64 0,.int .u32 0]⟩):=by kernel_rfl
theorem zr240:zeroI Tryz.prog 240=some (.agg ⟨[.int .u64 0,.int .u32 0]⟩):=by kernel_rfl
theorem zr243:zeroI Tryz.prog 243=some (.agg ⟨[.int .i64 0,.slice none 0 0,.slice none 0 0,.nilIface]⟩):=by kernel_rfl
theorem zr244:zeroI Tryz.prog 244=some (.agg ⟨[.int .i64 0,.slice none 0 0,.slice none 0 0,.nilIface]⟩):=by kernel_rfl
theorem zr251:zeroI Tryz.prog 251=some (.agg ⟨[.string ⟨⟨[]⟩⟩,.nilFunc]⟩):=by kernel_rfl
theorem zr252:zeroI Tryz.prog 252=some (.agg ⟨[.string ⟨⟨[]⟩⟩,.nilFunc]⟩):=by kernel_rfl
theorem zr254:zeroI Tryz.prog 254=some (.map none):=by kernel_rfl
theorem zr257:zeroI Tryz.prog 257=some (.agg ⟨[.int .i64 0,.int .i64 0,.int .i64 0,.int .i64 0]⟩):=by kernel_rfl
theorem zr258:zeroI Tryz.prog 258=some (.agg ⟨[.int .i64 0,.int .i64 0,.int .i64 0,.int .i64 0]⟩):=by kernel_rfl
theorem zr259:zeroI Tryz.prog 259=some (.agg ⟨[.int .i64 0,.int .i64 0,.int .i64 0,.int .i64 0,.int .i64 0,.int .i64 0,.int .i64 0,.int .i64 0,.int .i64 0,.int .i64 0,.int .i64 0,.int .i64 0,.int .i64 0,.int .i64 0,.int .i64 0,.int .i64 0,.int .i64 0,.int .i64 0,.int .i64 0,.int .i64 0,.int .i64 0,.int .i64 0,.int .i64 0,.int .i64 0]⟩):=by kernel_rfl
theorem zr260:zeroI Tryz.prog 260=some (.agg ⟨[.pointer none,.int .i64 0,.int .i64 0,.int .i64 0,.int .i64 0,.int .i64 0,.int .i64 0,.int .i64 0,.int .i64 0,.int .i64 0,.int .i64 0,.int .i64 0,.int .i64 0,.int .i64 0,.int .i64 0,.int .i64 0,.int .i64 0,.int .i64 0,.int .i64 0,.int .i64 0,.int .i64 0,.int .i64 0,.int .i64 0,.int .i64 0,.int .i64 0,.bool false]⟩):=by kernel_rfl
theorem zr261:zeroI Tryz.prog 261=some (.agg ⟨[.pointer none,.int .i64 0,.int .i64 0,.int .i64 0,.int .i64 0,.int .i64 0,.int .i64 0,.int .i64 0,.int .i64 0,.int .i64 0,.int .i64 0,.int .i64 0,.int .i64 0,.int .i64 0,.int .i64 0,.int .i64 0,.int .i64 0,.int .i64 0,.int .i64 0,.int .i64 0,.int .i64 0,.int .i64 0,.int .i64 0,.int .i64 0,.int .i64 0,.bool false]⟩):=by kernel_rfl
theorem zr288:zeroI Tryz.prog 288=some (.int .u64 0):=by kernel_rfl
theorem zr290:zeroI Tryz.prog 290=some (.agg ⟨[.int .i64 0,.int .i64 0,.int .i64 0,.int .i64 0,.int .i64 0,.int .i64 0,.bool false,.int .i64 0,.int .i64 0,.int .i64 0,.nilIface]⟩):=by kernel_rfl
theorem zr291:zeroI Tryz.prog 291=some (.agg ⟨[.int .i64 0,.int .i64 0,.int .i64 0,.int .i64 0,.int .i64 0,.int .i64 0,.bool false,.int .i64 0,.int .i64 0,.int .i64 0,.nilIface]⟩):=by kernel_rfl
theorem zr292:zeroI Tryz.prog 292=some (.pointer none):=by kernel_rfl
theorem zr298:zeroI Tryz.prog 298=some (.pointer none):=by kernel_rfl
theorem zr305:zeroI Tryz.prog 305=some (.pointer none):=by kernel_rfl
theorem zr306:zeroI Tryz.prog 306=some (.agg ⟨[.pointer none,.slice none 0 0]⟩):=by kernel_rfl
theorem zr307:zeroI Tryz.prog 307=some (.agg ⟨[.pointer none,.slice none 0 0]⟩):=by kernel_rfl
theorem zr315:zeroI Tryz.prog 315=some (.agg ⟨[.int .i64 0,.int .i64 0,.int .i64 0]⟩):=by kernel_rfl
theorem zr316:zeroI Tryz.prog 316=some (.slice none 0 0):=by kernel_rfl
theorem zr323:zeroI Tryz.prog 323=some (.nilIface):=by kernel_rfl
theorem zr326:zeroI Tryz.prog 326=some (.nilIface):=by kernel_rfl
theorem zr328:zeroI Tryz.prog 328=some (.nilIface):=by kernel_rfl
theorem zr330:zeroI Tryz.prog 330=some (.nilIface):=by kernel_rfl
theorem zr337:zeroI Tryz.prog 337=some (.int .i64 0):=by kernel_rfl
theorem zr343:zeroI Tryz.prog 343=some (.pointer none):=by kernel_rfl
theorem zr345:zeroI Tryz.prog 345=some (.pointer none):=by kernel_rfl
theorem zr353:zeroI Tryz.prog 353=some (.pointer none):=by kernel_rfl
theorem zr354:zeroI Tryz.prog 354=some (.agg ⟨[.string ⟨⟨[]⟩⟩,.string ⟨⟨[]⟩⟩,.string ⟨⟨[]⟩⟩,.string ⟨⟨[]⟩⟩,.string ⟨⟨[]⟩⟩,.string ⟨⟨[]⟩⟩]⟩):=by kernel_rfl
theorem zr368:zeroI Tryz.prog 368=some (.int .i64 0):=by kernel_rfl
theorem zr371:zeroI Tryz.prog 371=some (.pointer none):=by kernel_rfl
theorem zr374:zeroI Tryz.prog 374=some (.agg ⟨[.int .u8 0,.int .u8 0,.int .u8 0,.int .u8 0,.int .u8 0,.int .u8 0,.int .u8 0,.int .u8 0,.int .u8 0,.int .u8 0,.int .u8 0,.int .u8 0,.int .u8 0,.int .u8 0,.int .u8 0,.int .u8 0,.int .u8 0,.int .u8 0,.int .u8 0,.int .u8 0,.int .u8 0,.int .u8 0,.int .u8 0,.int .u8 0]⟩):=by kernel_rfl
theorem zr379:zeroI Tryz.prog 379=some (.agg ⟨[.int .u8 0,.int .u8 0]⟩):=by kernel_rfl
theorem zr380:zeroI Tryz.prog 380=some (.agg ⟨[.int .u8 0,.int .u8 0]⟩):=by kernel_rfl
theorem zr381:zeroI Tryz.prog 381=some (.agg ⟨[.int .u8 0,.int .u8 0,.int .u8 0,.int .u8 0,.int .u8 0,.int .u8 0,.int .u8 0,.int .u8 0,.int .u8 0,.int .u8 0,.int .u8 0,.int .u8 0,.int .u8 0,.int .u8 0,.int .u8 0,.int .u8 0,.int .u8 0,.int .u8 0,.int .u8 0,.int .u8 0,.int .u8 0,.int .u8 0,.int .u8 0,.int .u8 0,.int .u8 0,.int .u8 0,.int .u8 0,.int .u8 0,.int .u8 0,.int .u8 0,.int .u8 0,.int .u8 0]⟩):=by kernel_rfl
theorem zr386:zeroI Tryz.prog 386=some (.agg ⟨[.string ⟨⟨[]⟩⟩,.string ⟨⟨[]⟩⟩,.nilIface]⟩):=by kernel_rfl
theorem zr387:zeroI Tryz.prog 387=some (.agg ⟨[.string ⟨⟨[]⟩⟩,.string ⟨⟨[]⟩⟩,.nilIface]⟩):=by kernel_rfl
theorem zr390:zeroI Tryz.prog 390=some (.agg ⟨[.int .u64 0,.int .u64 0,.int .u64 0,.int .u64 0,.int .u64 0,.int .u64 0,.int .u64 0,.int .u64 0,.int .u64 0,.int .u64 0,.int .u64 0,.int .u64 0,.int .u64 0,.int .u64 0,.int .u64 0,.int .u64 0,.int .u64 0,.int .u64 0,.int .u64 0,.int .u64 0]⟩):=by kernel_rfl
theorem zr394:zeroI Tryz.prog 394=some (.pointer none):=by kernel_rfl
theorem zr395:zeroI Tryz.prog 395=some (.agg ⟨[.string ⟨⟨[]⟩⟩]⟩):=by kernel_rfl
theorem zr396:zeroI Tryz.prog 396=some (.agg ⟨[.string ⟨⟨[]⟩⟩]⟩):=by kernel_rfl
theorem zr397:zeroI Tryz.prog 397=some (.agg ⟨[.int .u8 0,.int .u8 0,.int .u8 0,.int .u8 0,.int .u8 0,.int .u8 0,.int .u8 0,.int .u8 0,.int .u8 0,.int .u8 0,.int .u8 0,.int .u8 0,.int .u8 0,.int .u8 0,.int .u8 0,.int .u8 0,.int .u8 0,.int .u8 0,.int .u8 0,.int .u8 0,.int .u8 0,.int .u8 0,.int .u8 0,.int .u8 0,.int .u8 0,.int .u8 0,.int .u8 0,.int .u8 0,.int .u8 0,.int .u8 0,.int .u8 0,.int .u8 0]⟩):=by kernel_rfl
theorem zr398:zeroI Tryz.prog 398=some (.agg ⟨[.int .u8 0,.int .u8 0,.int .u8 0,.int .u8 0,.int .u8 0,.int .u8 0,.int .u8 0,.int .u8 0,.int .u8 0,.int .u8 0,.int .u8 0,.int .u8 0,.int .u8 0,.int .u8 0,.int .u8 0,.int .u8 0,.int .u8 0,.int .u8 0,.int .u8 0,.int .u8 0,.int .u8 0,.int .u8 0,.int .u8 0,.int .u8 0,.int .u8 0,.int .u8 0,.int .u8 0,.int .u8 0,.int .u8 0,.int .u8 0,.int .u8 0,.int .u8 0,.int .u8 0,.int .u8 0,.int .u8 0,.int .u8 0,.int .u8 0,.int .u8 0,.int .u8 0,.int .u8 0,.int .u8 0,.int .u8 0,.int .u8 0,.int .u8 0,.int .u8 0,.int .u8 0,.int .u8 0,.int .u8 0,.int .u8 0,.int .u8 0,.int .u8 0,.int .u8 0,.int .u8 0,.int .u8 0,.int .u8 0,.int .u8 0,.int .u8 0,.int .u8 0,.int .u8 0,.int .u8 0,.int .u8 0,.int .u8 0,.int .u8 0,.int .u8 0]⟩):=by kernel_rfl
theorem zr420:zeroI Tryz.prog 420=some (.int .u16 0):=by kernel_rfl
theorem zr421:zeroI Tryz.prog 421=some (.slice none 0 0):=by kernel_rfl
theorem zr423:zeroI Tryz.prog 423=some (.slice none 0 0):=by kernel_rfl
theorem zr433:zeroI Tryz.prog 433=some (.pointer none):=by kernel_rfl
theorem zrL_ok : ∀ p∈zrL,zeroI Tryz.prog p.1=some p.2:=by
 intro p hp
 simp only [zrL,List.mem_cons,List.not_mem_nil,or_false] at hp
 rcases hp with rfl|rfl|rfl|rfl|rfl|rfl|rfl|rfl|rfl|rfl|rfl|rfl|rfl|rfl|rfl|rfl|rfl|rfl|rfl|rfl|rfl|rfl|rfl|rfl|rfl|rfl|rfl|rfl|rfl|rfl|rfl|rfl|rfl|rfl|rfl|rfl|rfl|rfl|rfl|rfl|rfl|rfl|rfl|rfl|rfl|rfl|rfl|rfl|rfl|rfl|rfl|rfl|rfl|rfl|rfl|rfl|rfl|rfl|rfl|rfl|rfl|rfl|rfl|rfl|rfl|rfl|rfl|rfl|rfl|rfl|rfl|rfl|rfl|rfl|rfl|rfl|rfl|rfl|rfl|rfl|rfl|rfl|rfl|rfl|rfl|rfl|rfl|rfl|rfl|rfl|rfl|rfl|rfl|rfl|rfl|rfl|rfl|rfl|rfl|rfl|rfl|rfl|rfl|rfl|rfl|rfl|rfl|rfl|rfl|rfl|rfl|rfl|rfl|rfl|rfl|rfl|rfl|rfl|rfl|rfl|rfl|rfl|rfl|rfl|rfl|rfl|rfl|rfl|rfl|rfl|rfl|rfl|rfl|rfl|rfl|rfl|rfl|rfl|rfl|rfl|rfl|rfl|rfl|rfl|rfl|rfl|rfl
 ·exact zr2
 ·exact zr3
 ·exact zr4
 ·exact zr5
 ·exact zr9
 ·exact zr12
 ·exact zr13
 ·exact zr20
 ·exact zr21
 ·exact zr22
 ·exact zr26
 ·exact zr27
 ·exact zr28
 ·exact zr34
 ·exact zr37
 ·exact zr42
 ·exact zr43
 ·exact zr45
 ·exact zr48
 ·exact zr50
 ·exact zr53
 ·exact zr54
 ·exact zr61
 ·exact zr71
 ·exact zr75
 ·exact zr76
 ·exact zr80
 ·exact zr81
 ·exact zr82
 ·exact zr83
 ·exact zr89
 ·exact zr90
 ·exact zr91
 ·exact zr92
 ·exact zr93
 ·exact zr94
 ·exact zr96
 ·exact zr97
 ·exact zr98
 ·exact zr99
 ·exact zr107
 ·exact zr108
 ·exact zr109
 ·exact zr110
 ·exact zr111
 ·exact zr114
 ·exact zr117
 ·exact zr118
 ·exact zr119
 ·exact zr120
 ·exact zr121
 ·exact zr122
 ·exact zr130
 ·exact zr131
 ·exact zr133
 ·exact zr141
 ·exact zr142
 ·exact zr143
 ·exact zr144
 ·exact zr145
 ·exact zr146
 ·exact zr148
 ·exact zr149
 ·exact zr150
 ·exact zr158
 ·exact zr159
 ·exact zr160
 ·exact zr162
 ·exact zr168
 ·exact zr174
 ·exact zr175
 ·exact zr176
 ·exact zr180
 ·exact zr181
 ·exact zr182
 ·exact zr185
 ·exact zr186
 ·exact zr187
 ·exact zr191
 ·exact zr192
 ·exact zr193
 ·exact zr203
 ·exact zr205
 ·exact zr207
 ·exact zr208
 ·exact zr209
 ·exact zr213
 ·exact zr214
 ·exact zr216
 ·exact zr217
 ·exact zr231
 ·exact zr232
 ·exact zr233
 ·exact zr234
 ·exact zr235
 ·exact zr236
 ·exact zr237
 ·exact zr238
 ·exact zr239
 ·exact zr240
 ·exact zr243
 ·exact zr244
 ·exact zr251
 ·exact zr252
 ·exact zr254
 ·exact zr257
 ·exact zr258
 ·exact zr259
 ·exact zr260
 ·exact zr261
 ·exact zr288
 ·exact zr290
 ·exact zr291
 ·exact zr292
 ·exact zr298
 ·exact zr305
 ·exact zr306
 ·exact zr307
 ·exact zr315
 ·exact zr316
 ·exact zr323
 ·exact zr326
 ·exact zr328
 ·exact zr330
 ·exact zr337
 ·exact zr343
 ·exact zr345
 ·exact zr353
 ·exact zr354
 ·exact zr368
 ·exact zr371
 ·exact zr374
 ·exact zr379
 ·exact zr380
 ·exact zr381
 ·exact zr386
 ·exact zr387
 ·exact zr390
 ·exact zr394
 ·exact zr395
 ·exact zr396
 ·exact zr397
 ·exact zr398
 ·exact zr420
 ·exact zr421
 ·exact zr423
 ·exact zr433
theorem eqL_ok:(eqL.all fun p=>decide (Un Tryz.prog 8 p.1=some p.2) && Zg3 Tryz.prog p.1 && !(Tryz.prog.eqGuardType Tryz.prog.depth p.1))=true:=by kernel_rfl
def errTab:List (Nat × Nat):=[(6,1),(0,2),(3,3),(4,4),(7,5),(5,6),(8,7),(1,8),(2,9)]
def S:Tab Tryz.prog:=⟨tyL,flL,zrL,stL,eqL,tyL_ok,flL_ok,zrL_ok,stL_ok,eqL_ok,by kernel_rfl⟩
end Go.HL
end

/-! HLRead -/
section
namespace Go.HL
open Go

abbrev iv (n:Int):Value := .int .i64 n
abbrev bs (l:List UInt8):Value := .string ⟨⟨l⟩⟩
abbrev pt (b i:Nat):Value := .pointer (some ⟨b,i,none⟩)
abbrev sl (b i len cap:Nat):Value := .slice (some ⟨b,i,none⟩) len cap
abbrev Wn:Value := .slice none 0 0

theorem Gets.at0 {l vs:List Value} {i:Nat} {v:Value} (h:Gets l i vs) (hv:vs[0]? = some v):l[i]? = some v:=h 0 v hv
theorem Gets.at {l vs:List Value} {i j:Nat} {v:Value} (h:Gets l i vs) (hv:vs[j]? = some v):l[i+j]? = some v:=h j v hv
def Rd {α:Type} (enc:α→List Value) (sz:Nat) (L:Zb) (a:Option Addr) (xs:List α):Prop:=
 xs=[] ∨ ∃ b i l E fr,a=some ⟨b,i,none⟩∧Has L b (.cells ⟨l⟩ E fr) ∧ ∀ (k:Nat) (x:α),xs[k]? = some x→Gets l (i+k*sz) (enc x)
theorem Rd.cons {α:Type} {enc:α→List Value} {sz:Nat} {L:Zb} {a:Option Addr} {xs:List α} (h:Rd enc sz L a xs) (c:List Zm):Rd enc sz (c::L) a xs:=by
 rcases h with h|⟨b,i,l,E,fr,h1,h2,h3⟩
 ·exact .inl h
 ·exact .inr ⟨b,i,l,E,fr,h1,Zc h2,h3⟩
theorem Rd.at {α:Type} {enc:α→List Value} {sz:Nat} {L:Zb} {a:Option Addr} {xs:List α} (h:Rd enc sz L a xs) {j:Int} (h0:0≤j) (h1:j<xs.length) :
  ∃ b i l E fr,a=some ⟨b,i,none⟩∧Has L b (.cells ⟨l⟩ E fr)∧Gets l (i+j.toNat*sz) (enc (xs[j.toNat]'(by omega))):=by
 rcases h with h|⟨b,i,l,E,fr,h2,h3,h4⟩
 ·subst h;simp at h1;omega
 ·exact ⟨b,i,l,E,fr,h2,h3,h4 j.toNat _ (List.getElem?_eq_getElem (by omega))⟩
theorem Rd.at1 {α:Type} {enc:α→List Value} {L:Zb} {a:Option Addr} {xs:List α} (h:Rd enc 1 L a xs) {j:Int} (h0:0≤j) (h1:j<xs.length) :
  ∃ b i l E fr,a=some ⟨b,i,none⟩∧Has L b (.cells ⟨l⟩ E fr)∧Gets l (i+j.toNat) (enc (xs[j.toNat]'(by omega))):=by
 obtain ⟨b,i,l,E,fr,h2,h3,h4⟩:=h.at h0 h1
 rw [Nat.mul_one] at h4
 exact ⟨b,i,l,E,fr,h2,h3,h4⟩
theorem Zky {l:List Value} {i:Nat} {vs us:List Value} (h:Gets l i vs) (h2:Gets l (i+vs.length) us):Gets l i (vs++us):=by
 intro j v hj
 by_cases hlt:j<vs.length
 ·rw [List.getElem?_append_left hlt] at hj
  exact h j v hj
 ·rw [List.getElem?_append_right (by omega)] at hj
  have:=h2 _ v hj
  rw [show i+j=i+vs.length+(j-vs.length) by omega]
  exact this
theorem Zc7 {α:Type} {enc:α→List Value} {sz:Nat} {l:List Value} (hsz : ∀ x,(enc x).length=sz) : ∀ (xs:List α) (i:Nat),(∀ (k:Nat) (x:α),xs[k]? = some x→Gets l (i+k*sz) (enc x))→Gets l i (xs.map enc).flatten
 | [],i,_=>by simpa using Zx
 | x::r,i,h=>by
  simp only [List.map_cons,List.flatten_cons]
  refine Zky (by simpa using h 0 x rfl) ?_
  rw [hsz]
  refine Zc7 hsz r (i+sz) fun k y hy=>?_
  have:=h (k+1) y (by simpa using hy)
  rw [Nat.add_mul,Nat.one_mul] at this
  rw [show i+sz+k*sz=i+(k*sz+sz) by omega]
  exact this
theorem U7 {α:Type} {xs:List α} {j:Int} (h0:0≤j) (h:j<xs.length):xs.take (j+1).toNat=xs.take j.toNat++[xs[j.toNat]'(by omega)]:=by
 rw [show (j+1).toNat=j.toNat+1 by omega,List.take_succ_eq_append_getElem (by omega)]
theorem Zal {α:Type} {xs:List α} {j:Int} (h : ¬ j<xs.length):xs.take j.toNat=xs:=List.take_of_length_le (by omega)
theorem Rd.nil {α:Type} {enc:α→List Value} {sz:Nat} {L:Zb} {a:Option Addr}:Rd enc sz L a [] := .inl rfl

section q
variable {P:Program} (S:Tab P) {ρ:Zr} {L:Zb} {d:Option Tmp} {ty:TypeId} {pos:String} {af:Array Edge} {g:Option (Nat × Bool)}

theorem Zjj {t b i E:Nat} {ti:TyI} {x:Operand} {l:List Value} {fr:Nat × Nat} {v:Value} (hx:ev ρ x=some (pt b i)) (ht:Zt S.ty t=some ti)
  (h6:Nat.beq ti.kind 6=false) (h7:Nat.beq ti.kind 7=false) (hb:Has L b (.cells ⟨l⟩ E fr)) (hv:l[i]? = some v):QOp P ⟨d,.load t x,ty,pos,af,g⟩ ρ L v:=
 Ya fun ρe he k w hs=>by
  have h1:=Zsi (S.tyI ht) h6 h7 w
  have h2:w.cell? ⟨b,i,none⟩=some v:=by rw [hs.cell hb,hv]
  simp [execOp,he x (by simp [Op.operands]) _ hx,Instr.loadAt,Instr.sureAddr,loadVar,h1,h2]
theorem Zp1 {t b i E:Nat} {ti:TyI} {x:Operand} {l vs:List Value} {fr:Nat × Nat} (hx:ev ρ x=some (pt b i)) (ht:Zt S.ty t=some ti)
  (h7:(Nat.beq ti.kind 6 || Nat.beq ti.kind 7)=true) (hb:Has L b (.cells ⟨l⟩ E fr)) (hv:Gets l i vs∧ti.size=vs.length):QOp P ⟨d,.load t x,ty,pos,af,g⟩ ρ L (.agg ⟨vs⟩):=
 Ya fun ρe he k w hs=>by
  obtain ⟨hv,hn⟩:=hv
  have h1:=ty_agg (S.tyI ht) h7 w
  have h2:=Zb1 (P:=P) hs hb hv
  have h3:=Y9 (S.tyI ht) w
  simp [execOp,he x (by simp [Op.operands]) _ hx,Instr.loadAt,Instr.sureAddr,loadVar,h1,h2,h3,hn]
theorem Zl3 {s f b i o ft:Nat} {x:Operand} (hx:ev ρ x=some (pt b i)) (hf:Zt S.fl (s*64+f)=some (o,ft)) (hlt:Nat.blt f 64=true):QOp P ⟨d,.fieldAddr s x f,ty,pos,af,g⟩ ρ L (pt b (i+o)):=
 Ya fun ρe he k w hs=>by
  obtain ⟨h,-⟩:=S.fldI hf hlt
  unfold fldI at h
  split at h
  ·rename_i fs hfs
   split at h
   ·rename_i fd hfd
    split at h
    ·rename_i inf hinf
     split at h
     ·cases h
     ·rename_i hsz
      cases h
      simp [execOp,he x (by simp [Op.operands]) _ hx,Instr.fieldAt,run_underlying hfs,hfd,Instr.sureAddr,fieldPlace,sizeOf,typeInfo,hinf,hsz,Xy]
    ·cases h
   ·cases h
  ·cases h
theorem Zd5 {t b i len cap e y0 s0 b0 k1 x1 y1 sz b1:Nat} {x y:Operand} {k:IntKind} {j:Int} (hx:ev ρ x=some (sl b i len cap)) (hy:ev ρ y=some (.int k j)) (ht:Zt S.ty t=some ⟨5,e,y0,s0,b0⟩)
  (he':Zt S.ty e=some ⟨k1,x1,y1,sz,b1⟩) (hj:0≤j∧j<len):QOp P ⟨d,.indexAddr t x y,ty,pos,af,g⟩ ρ L (pt b (i+j.toNat*sz)):=
 Ya fun ρe he k w hs=>by
  have h1:=Z9 (S.tyI ht) rfl
  have h2:=Y9 (S.tyI he') w
  simp [execOp,he x (by simp [Op.operands]) _ hx,he y (by simp [Op.operands]) _ hy,Instr.indexAt,asIntOf,run_underlying h1,hj,h2,Xy]
theorem Zjh {t b i len cap e y0 s0 b0 k1 x1 y1 b1:Nat} {x y:Operand} {k:IntKind} {j:Int} (hx:ev ρ x=some (sl b i len cap)) (hy:ev ρ y=some (.int k j)) (ht:Zt S.ty t=some ⟨5,e,y0,s0,b0⟩)
  (he':Zt S.ty e=some ⟨k1,x1,y1,1,b1⟩) (hj:0≤j∧j<len):QOp P ⟨d,.indexAddr t x y,ty,pos,af,g⟩ ρ L (pt b (i+j.toNat)):=by
 have:=Zd5 (d:=d) (ty:=ty) (pos:=pos) (af:=af) (g:=g) (L:=L) S hx hy ht he' hj
 rw [Nat.mul_one] at this
 exact this
theorem Zji {t b i len e s0 b0 k1 x1 y1 sz b1:Nat} {x y:Operand} {k:IntKind} {j:Int} (hx:ev ρ x=some (pt b i)) (hy:ev ρ y=some (.int k j)) (ht:Zt S.ty t=some ⟨6,len,e,s0,b0⟩)
  (he':Zt S.ty e=some ⟨k1,x1,y1,sz,b1⟩) (hj:0≤j∧j<len):QOp P ⟨d,.indexAddr t x y,ty,pos,af,g⟩ ρ L (pt b (i+j.toNat*sz)):=
 Ya fun ρe he k w hs=>by
  have h1:=Zgo (S.tyI ht) rfl
  have h2:=Y9 (S.tyI he') w
  simp [execOp,he x (by simp [Op.operands]) _ hx,he y (by simp [Op.operands]) _ hy,Instr.indexAt,asIntOf,Instr.sureAddr,run_underlying h1,hj,h2,Xy]

/-! arithmetic -/
theorem V4 {a:Int} (h : -9223372036854775808≤a∧a≤9223372036854775807):IntKind.i64.wrap a=a:=IntWalk.i64_in a h
theorem Zdt {op:BinOp} {t:Nat} {x y:Operand} {k k':IntKind} {a b:Int} (w:World):(eqGuard op t x y (.int k a) (.int k' b)).run P w = .ok () w:=by
 cases op<;>simp [eqGuard]
theorem Yx {op:BinOp} {t t':Nat} {x y:Operand} {k:IntKind} {a b:Int} {v:Value} (hx:ev ρ x=some (.int k a)) (hy:ev ρ y=some (.int k b)) (hv : ∀ w,(binOp op t (.int k a) (.int k b)).run P w = .ok v w) :
  QOp P ⟨d,.binOp op t x y t',ty,pos,af,g⟩ ρ L v:=
 Ya fun ρe he k w hs=>by simp [execOp,he x (by simp [Op.operands]) _ hx,he y (by simp [Op.operands]) _ hy,Zdt,hv w]
theorem q_add {t t':Nat} {x y:Operand} {a b:Int} (hx:ev ρ x=some (iv a)) (hy:ev ρ y=some (iv b)) (h : -9223372036854775808≤a+b∧a+b≤9223372036854775807):QOp P ⟨d,.binOp .add t x y t',ty,pos,af,g⟩ ρ L (iv (a+b)):=
 Yx hx hy fun w=>by simp [binOp,Op.intArith,V4 h]
theorem q_sub {t t':Nat} {x y:Operand} {a b:Int} (hx:ev ρ x=some (iv a)) (hy:ev ρ y=some (iv b)) (h : -9223372036854775808≤a-b∧a-b≤9223372036854775807):QOp P ⟨d,.binOp .sub t x y t',ty,pos,af,g⟩ ρ L (iv (a-b)):=
 Yx hx hy fun w=>by simp [binOp,Op.intArith,V4 h]
theorem q_mul {t t':Nat} {x y:Operand} {a b:Int} (hx:ev ρ x=some (iv a)) (hy:ev ρ y=some (iv b)) (h : -9223372036854775808≤a*b∧a*b≤9223372036854775807):QOp P ⟨d,.binOp .mul t x y t',ty,pos,af,g⟩ ρ L (iv (a*b)):=
 Yx hx hy fun w=>by simp [binOp,Op.intArith,V4 h]
theorem q_quo {t t':Nat} {x y:Operand} {a b:Int} (hx:ev ρ x=some (iv a)) (hy:ev ρ y=some (iv b)) (h:0≤a∧a≤9223372036854775807∧1≤b):QOp P ⟨d,.binOp .quo t x y t',ty,pos,af,g⟩ ρ L (iv (a / b)):=
 Yx hx hy fun w=>by
  have h2:b≠0:=by omega
  simp [binOp,Op.intDiv,IntWalk.i64_quo a b h,h2]
theorem q_rem {t t':Nat} {x y:Operand} {a b:Int} (hx:ev ρ x=some (iv a)) (hy:ev ρ y=some (iv b)) (h:0≤a∧a≤9223372036854775807∧1≤b):QOp P ⟨d,.binOp .rem t x y t',ty,pos,af,g⟩ ρ L (iv (a % b)):=
 Yx hx hy fun w=>by
  have h2:b≠0:=by omega
  simp [binOp,Op.intDiv,IntWalk.rem_in a b h.1,h2]
theorem q_lss {t t':Nat} {x y:Operand} {k:IntKind} {a b:Int} (hx:ev ρ x=some (.int k a)) (hy:ev ρ y=some (.int k b)):QOp P ⟨d,.binOp .lss t x y t',ty,pos,af,g⟩ ρ L (.bool (decide (a<b))):=
 Yx hx hy fun w=>by simp [binOp,Op.intCmp]
theorem q_leq {t t':Nat} {x y:Operand} {k:IntKind} {a b:Int} (hx:ev ρ x=some (.int k a)) (hy:ev ρ y=some (.int k b)):QOp P ⟨d,.binOp .leq t x y t',ty,pos,af,g⟩ ρ L (.bool (decide (a≤b))):=
 Yx hx hy fun w=>by simp [binOp,Op.intCmp]
theorem q_gtr {t t':Nat} {x y:Operand} {k:IntKind} {a b:Int} (hx:ev ρ x=some (.int k a)) (hy:ev ρ y=some (.int k b)):QOp P ⟨d,.binOp .gtr t x y t',ty,pos,af,g⟩ ρ L (.bool (decide (b<a))):=
 Yx hx hy fun w=>by simp [binOp,Op.intCmp]
theorem q_geq {t t':Nat} {x y:Operand} {k:IntKind} {a b:Int} (hx:ev ρ x=some (.int k a)) (hy:ev ρ y=some (.int k b)):QOp P ⟨d,.binOp .geq t x y t',ty,pos,af,g⟩ ρ L (.bool (decide (b≤a))):=
 Yx hx hy fun w=>by simp [binOp,Op.intCmp]
theorem q_eql {t t':Nat} {x y:Operand} {k:IntKind} {a b:Int} (hx:ev ρ x=some (.int k a)) (hy:ev ρ y=some (.int k b)):QOp P ⟨d,.binOp .eql t x y t',ty,pos,af,g⟩ ρ L (.bool (decide (a=b))):=
 Yx hx hy fun w=>by simp [binOp,Op.intCmp];rfl
theorem q_neq {t t':Nat} {x y:Operand} {k:IntKind} {a b:Int} (hx:ev ρ x=some (.int k a)) (hy:ev ρ y=some (.int k b)):QOp P ⟨d,.binOp .neq t x y t',ty,pos,af,g⟩ ρ L (.bool (decide (a≠b))):=
 Yx hx hy fun w=>by
  simp only [binOp,Op.intCmp,ne_eq,not_true_eq_false,if_false]
  by_cases e:a=b
  ·simp [e]
  ·simp [e,bne_iff_ne.2 e]
theorem q_not {t:Nat} {x:Operand} {b:Bool} (hx:ev ρ x=some (.bool b)):QOp P ⟨d,.unOp .not t x,ty,pos,af,g⟩ ρ L (.bool (!b)):=
 Ya fun ρe he k w hs=>by simp [execOp,he x (by simp [Op.operands]) _ hx,Op.unary]
theorem q_not_t {t:Nat} {x:Operand} {b:Bool} (hx:ev ρ x=some (.bool b)) (hb:b=true):QOp P ⟨d,.unOp .not t x,ty,pos,af,g⟩ ρ L (.bool false):=by subst hb;exact q_not hx
theorem q_not_f {t:Nat} {x:Operand} {b:Bool} (hx:ev ρ x=some (.bool b)) (hb:b=false):QOp P ⟨d,.unOp .not t x,ty,pos,af,g⟩ ρ L (.bool true):=by subst hb;exact q_not hx
theorem q_eqlB {t t':Nat} {ti:TyI} {x y:Operand} {a b:Bool} (hx:ev ρ x=some (.bool a)) (hy:ev ρ y=some (.bool b)) (ht:Zt S.ty t=some ti) (h1:ti.kind=1):QOp P ⟨d,.binOp .eql t x y t',ty,pos,af,g⟩ ρ L (.bool (decide (a=b))):=
 Ya fun ρe he k w hs=>by
  have e:(a == b)=decide (a=b):=by cases a<;>cases b<;>rfl
  simp [execOp,he x (by simp [Op.operands]) _ hx,he y (by simp [Op.operands]) _ hy,eqGuard,run_eql_bool w t a b (Zp7 (S.tyI ht) h1),e]
theorem q_neqB {t t':Nat} {ti:TyI} {x y:Operand} {a b:Bool} (hx:ev ρ x=some (.bool a)) (hy:ev ρ y=some (.bool b)) (ht:Zt S.ty t=some ti) (h1:ti.kind=1):QOp P ⟨d,.binOp .neq t x y t',ty,pos,af,g⟩ ρ L (.bool (decide (a≠b))):=
 Ya fun ρe he k w hs=>by
  have e:(!(a == b))=decide (a≠b):=by cases a<;>cases b<;>rfl
  simp only [execOp,he x (by simp [Op.operands]) _ hx,he y (by simp [Op.operands]) _ hy]
  simp [eqGuard,run_neq_bool w t a b (Zp7 (S.tyI ht) h1)]
  cases a<;>cases b<;>rfl
theorem Zem (a:List UInt8):(ByteArray.mk ⟨a⟩).toList=a:=by
 exact Go.ByteArray.toList_mk a
theorem Qe (a:List UInt8):(ByteArray.mk ⟨a⟩).size=a.length:=by simp [ByteArray.size]
theorem Zqm (a b:List UInt8):(ByteArray.mk ⟨a⟩)++(ByteArray.mk ⟨b⟩)=ByteArray.mk ⟨a++b⟩:=by
 apply ByteArray.ext
 simp [ByteArray.data_append]
theorem q_eqlS {t t':Nat} {x y:Operand} {a b:List UInt8} (hx:ev ρ x=some (bs a)) (hy:ev ρ y=some (bs b)):QOp P ⟨d,.binOp .eql t x y t',ty,pos,af,g⟩ ρ L (.bool (decide (a=b))):=
 Ya fun ρe he k w hs=>by
  simp only [execOp,he x (by simp [Op.operands]) _ hx,he y (by simp [Op.operands]) _ hy]
  simp [eqGuard,binOp,Op.stringOp,Zem]
  by_cases e:a=b<;>simp [e]
theorem q_neqS {t t':Nat} {x y:Operand} {a b:List UInt8} (hx:ev ρ x=some (bs a)) (hy:ev ρ y=some (bs b)):QOp P ⟨d,.binOp .neq t x y t',ty,pos,af,g⟩ ρ L (.bool (decide (a≠b))):=
 Ya fun ρe he k w hs=>by
  simp only [execOp,he x (by simp [Op.operands]) _ hx,he y (by simp [Op.operands]) _ hy]
  simp [eqGuard,binOp,Op.stringOp,Zem]
  by_cases e:a=b<;>simp [e]
theorem q_addS {t t':Nat} {x y:Operand} {a b:List UInt8} (hx:ev ρ x=some (bs a)) (hy:ev ρ y=some (bs b)) (h:a.length+b.length≤9223372036854775807):QOp P ⟨d,.binOp .add t x y t',ty,pos,af,g⟩ ρ L (bs (a++b)):=
 Ya fun ρe he k w hs=>by
  simp only [execOp,he x (by simp [Op.operands]) _ hx,he y (by simp [Op.operands]) _ hy]
  have h2:=run_string_add_sum (P:=P) w ⟨⟨a⟩⟩ ⟨⟨b⟩⟩ (by simp only [Qe];exact h)
  simp [eqGuard,binOp,h2,Zqm]
/-! nil -/
theorem Xz {t:Nat} {x y:Value} {b:Bool} {w:World} (h : ∀ dd,(Op.equalIn (dd+1) t x y).run P w = .ok b w):(Op.equal t x y).run P w = .ok b w:=h 9999
theorem Zen {t e:Nat} {p:Option Addr} (h:P.underlying t=some (.pointer e)) (dd:Nat) (w:World):(Op.equalIn (dd+1) t (.pointer p) (.pointer none)).run P w = .ok p.isNone w:=by
 cases p<;>simp [Op.equalIn,run_underlying h]
theorem Zo9 {t:Nat} {ms:Array (String × TypeId)} {u:Nat} {v:Value} (h:P.underlying t=some (.interface ms)) (dd:Nat) (w:World):(Op.equalIn (dd+1) t (.iface u v) .nilIface).run P w = .ok false w:=by
 simp [Op.equalIn,run_underlying h]
theorem Zkq {t:Nat} {ms:Array (String × TypeId)} (h:P.underlying t=some (.interface ms)) (dd:Nat) (w:World):(Op.equalIn (dd+1) t .nilIface .nilIface).run P w = .ok true w:=by
 simp [Op.equalIn,run_underlying h]
theorem Zeo {t e:Nat} {p:Option Addr} {len cap:Nat} (h:P.underlying t=some (.slice e)) (dd:Nat) (w:World):(Op.equalIn (dd+1) t (.slice p len cap) Wn).run P w = .ok p.isNone w:=by
 cases p<;>simp [Op.equalIn,run_underlying h]
theorem Qo {t t':Nat} {x y:Operand} {u v:Value} {b:Bool} (hx:ev ρ x=some u) (hy:ev ρ y=some v) (hg : ∀ w:World,(eqGuard .eql t x y u v).run P w = .ok () w) (hb : ∀ w,(Op.equal t u v).run P w = .ok b w)
  (hop:binOp .eql t u v=(do pure (.bool (← Op.equal t u v)))):QOp P ⟨d,.binOp .eql t x y t',ty,pos,af,g⟩ ρ L (.bool b):=
 Ya fun ρe he k w hs=>by
  simp only [execOp,he x (by simp [Op.operands]) _ hx,he y (by simp [Op.operands]) _ hy]
  simp [hg w,hop,hb w]
theorem Uf {t t':Nat} {x y:Operand} {u v:Value} {b:Bool} (hx:ev ρ x=some u) (hy:ev ρ y=some v) (hg : ∀ w:World,(eqGuard .neq t x y u v).run P w = .ok () w) (hb : ∀ w,(Op.equal t u v).run P w = .ok b w)
  (hop:binOp .neq t u v=(do pure (.bool (!(← Op.equal t u v))))):QOp P ⟨d,.binOp .neq t x y t',ty,pos,af,g⟩ ρ L (.bool (!b)):=
 Ya fun ρe he k w hs=>by
  simp only [execOp,he x (by simp [Op.operands]) _ hx,he y (by simp [Op.operands]) _ hy]
  simp [hg w,hop,hb w]
theorem q_eqlPn {t t':Nat} {ti:TyI} {x y:Operand} {p:Addr} (hx:ev ρ x=some (.pointer (some p))) (hy:ev ρ y=some (.pointer none)) (ht:Zt S.ty t=some ti) (h4:ti.kind=4):QOp P ⟨d,.binOp .eql t x y t',ty,pos,af,g⟩ ρ L (.bool false):=
 Qo (b:=false) hx hy (fun w=>by simp [eqGuard]) (fun w=>Xz fun dd=>Zen (Qt (S.tyI ht) h4) dd w) rfl
theorem q_eqlPnn {t t':Nat} {ti:TyI} {x y:Operand} (hx:ev ρ x=some (.pointer none)) (hy:ev ρ y=some (.pointer none)) (ht:Zt S.ty t=some ti) (h4:ti.kind=4):QOp P ⟨d,.binOp .eql t x y t',ty,pos,af,g⟩ ρ L (.bool true):=
 Qo (b:=true) hx hy (fun w=>by simp [eqGuard]) (fun w=>Xz fun dd=>Zen (Qt (S.tyI ht) h4) dd w) rfl
theorem q_neqPn {t t':Nat} {ti:TyI} {x y:Operand} {p:Addr} (hx:ev ρ x=some (.pointer (some p))) (hy:ev ρ y=some (.pointer none)) (ht:Zt S.ty t=some ti) (h4:ti.kind=4):QOp P ⟨d,.binOp .neq t x y t',ty,pos,af,g⟩ ρ L (.bool true):=
 Uf (b:=false) hx hy (fun w=>by simp [eqGuard]) (fun w=>Xz fun dd=>Zen (Qt (S.tyI ht) h4) dd w) rfl
theorem q_neqPnn {t t':Nat} {ti:TyI} {x y:Operand} (hx:ev ρ x=some (.pointer none)) (hy:ev ρ y=some (.pointer none)) (ht:Zt S.ty t=some ti) (h4:ti.kind=4):QOp P ⟨d,.binOp .neq t x y t',ty,pos,af,g⟩ ρ L (.bool false):=
 Uf (b:=true) hx hy (fun w=>by simp [eqGuard]) (fun w=>Xz fun dd=>Zen (Qt (S.tyI ht) h4) dd w) rfl
theorem Zcz {t:Nat} {i:TyI} (h:tyI P t=some i) (hk:i.kind=9) : ∃ ms,P.underlying t=some (.interface ms):=by
 obtain ⟨d,j,hd,hj,he,hs,_⟩:=Xf h
 rw [hd]
 cases d<;>simp [V7,hk] at he
 exact ⟨_,rfl⟩
theorem q_eqlIn {t t' u:Nat} {ti:TyI} {x y:Operand} {v:Value} (hx:ev ρ x=some (.iface u v)) (hy:ev ρ y=some .nilIface) (ht:Zt S.ty t=some ti) (h9:ti.kind=9):QOp P ⟨d,.binOp .eql t x y t',ty,pos,af,g⟩ ρ L (.bool false):=by
 obtain ⟨ms,hms⟩:=Zcz (S.tyI ht) h9
 exact Qo (b:=false) hx hy (fun w=>by simp [eqGuard]) (fun w=>Xz fun dd=>Zo9 hms dd w) rfl
theorem q_neqIn {t t' u:Nat} {ti:TyI} {x y:Operand} {v:Value} (hx:ev ρ x=some (.iface u v)) (hy:ev ρ y=some .nilIface) (ht:Zt S.ty t=some ti) (h9:ti.kind=9):QOp P ⟨d,.binOp .neq t x y t',ty,pos,af,g⟩ ρ L (.bool true):=by
 obtain ⟨ms,hms⟩:=Zcz (S.tyI ht) h9
 exact Uf (b:=false) hx hy (fun w=>by simp [eqGuard]) (fun w=>Xz fun dd=>Zo9 hms dd w) rfl
theorem q_eqlInn {t t':Nat} {ti:TyI} {x:Operand} (hx:ev ρ x=some .nilIface) (ht:Zt S.ty t=some ti) (h9:ti.kind=9):QOp P ⟨d,.binOp .eql t x (.const .nilIface) t',ty,pos,af,g⟩ ρ L (.bool true):=by
 obtain ⟨ms,hms⟩:=Zcz (S.tyI ht) h9
 exact Qo (b:=true) hx rfl (fun w=>by cases x<;>simp [eqGuard]) (fun w=>Xz fun dd=>Zkq hms dd w) rfl
theorem q_neqInn {t t':Nat} {ti:TyI} {x:Operand} (hx:ev ρ x=some .nilIface) (ht:Zt S.ty t=some ti) (h9:ti.kind=9):QOp P ⟨d,.binOp .neq t x (.const .nilIface) t',ty,pos,af,g⟩ ρ L (.bool false):=by
 obtain ⟨ms,hms⟩:=Zcz (S.tyI ht) h9
 exact Uf (b:=true) hx rfl (fun w=>by cases x<;>simp [eqGuard]) (fun w=>Xz fun dd=>Zkq hms dd w) rfl

/-! lengths, parts -/
theorem q_lenS {t:Nat} {ti:TyI} {x:Operand} {a:Option Addr} {len cap:Nat} (hx:ev ρ x=some (.slice a len cap)) (ht:Zt S.ty t=some ti) (h5:ti.kind=5) :
  QOp P ⟨d,.call { callee := .builtin .len,args := #[x],argTypes := #[t] },ty,pos,af,g⟩ ρ L (iv len):=
 Ya fun ρe he k w hs=>by
  have h1:=Z9 (S.tyI ht) h5
  simp [execOp,resolve,invoke,builtin,he x (by simp [Op.operands,Call.operands]) _ hx,Builtin.len_,run_underlying h1,goInt]
theorem q_lenT {t:Nat} {ti:TyI} {x:Operand} {l:List UInt8} (hx:ev ρ x=some (bs l)) (ht:Zt S.ty t=some ti) (h3:ti.kind=3) :
  QOp P ⟨d,.call { callee := .builtin .len,args := #[x],argTypes := #[t] },ty,pos,af,g⟩ ρ L (iv l.length):=
 Ya fun ρe he k w hs=>by
  have h1:=W0 (S.tyI ht) h3
  have h2:(Builtin.len_ #[t] ty #[bs l]).run P w = .ok (iv l.length) w:=by rw [run_len_string w t ty _ h1,Qe];rfl
  simp [execOp,resolve,invoke,builtin,he x (by simp [Op.operands,Call.operands]) _ hx,h2]
theorem q_lenA {t len e s0 b0:Nat} {x:Operand} {v:Value} (hx:ev ρ x=some v) (ht:Zt S.ty t=some ⟨6,len,e,s0,b0⟩) :
  QOp P ⟨d,.call { callee := .builtin .len,args := #[x],argTypes := #[t] },ty,pos,af,g⟩ ρ L (iv len):=
 Ya fun ρe he k w hs=>by
  have h1:=Zgo (S.tyI ht) rfl
  have h3:(Builtin.len_ #[t] ty #[ρe x]).run P w = .ok (iv len) w:=by
   simp [Builtin.len_,run_underlying h1,goInt]
  simp [execOp,resolve,invoke,builtin,h3]
theorem q_max {ts:Array TypeId} {x y:Operand} {k:IntKind} {a b:Int} (hx:ev ρ x=some (.int k a)) (hy:ev ρ y=some (.int k b)) :
  QOp P ⟨d,.call { callee := .builtin .max,args := #[x,y],argTypes:=ts },ty,pos,af,g⟩ ρ L (.int k (max a b)):=
 Ya fun ρe he k w hs=>by
  have e:(if a<b then b else a)=max a b:=by simp only [Int.max_def];split<;>split<;>omega
  simp [execOp,resolve,invoke,builtin,he x (by simp [Op.operands,Call.operands]) _ hx,he y (by simp [Op.operands,Call.operands]) _ hy,run_max_int2,e]
theorem q_min {ts:Array TypeId} {x y:Operand} {k:IntKind} {a b:Int} (hx:ev ρ x=some (.int k a)) (hy:ev ρ y=some (.int k b)) :
  QOp P ⟨d,.call { callee := .builtin .min,args := #[x,y],argTypes:=ts },ty,pos,af,g⟩ ρ L (.int k (min a b)):=
 Ya fun ρe he k w hs=>by
  have e:(if b<a then b else a)=min a b:=by simp only [Int.min_def];split<;>split<;>omega
  simp [execOp,resolve,invoke,builtin,he x (by simp [Op.operands,Call.operands]) _ hx,he y (by simp [Op.operands,Call.operands]) _ hy,run_min_int2,e]
end q
end Go.HL
end

/-! HLWrite -/
section
namespace Go.HL
open Go

def Upd (L:Zb) (b:Nat) (o o':Obj) (L':Zb):Prop := ∃ l r,L.flatten=l++(b,o)::r∧L'.flatten=l++(b,o')::r
theorem Xr {b:Nat} {o o':Obj} {c:List Zm} {L:Zb}:Upd (((b,o)::c)::L) b o o' (((b,o')::c)::L):=⟨[],c++L.flatten,by simp,by simp⟩
theorem Zoo {b:Nat} {o o':Obj} {e:Zm} {c c':List Zm} {L L':Zb} (h:Upd (c::L) b o o' (c'::L')):Upd ((e::c)::L) b o o' ((e::c')::L'):=by
 obtain ⟨l,r,h1,h2⟩:=h
 simp only [List.flatten_cons] at h1 h2
 exact ⟨e::l,r,by simp [h1],by simp [h2]⟩
theorem Zgq {b:Nat} {o o':Obj} {c:List Zm} {L L':Zb} (h:Upd L b o o' L'):Upd (c::L) b o o' (c::L'):=by
 obtain ⟨l,r,h1,h2⟩:=h
 exact ⟨c++l,r,by simp [h1],by simp [h2]⟩
theorem Upd.has {L L':Zb} {b:Nat} {o o':Obj} (h:Upd L b o o' L'):Has L b o:=by
 obtain ⟨l,r,h1,h2⟩:=h
 simp [Has,h1]
theorem Sat.upd {k:Zgv} {w w':World} {L L':Zb} {b:Nat} {o o':Obj} (h:Sat k w L) (hu:Upd L b o o' L') (h1:w'.os=w.os) (h2:w'.output=w.output) (ht:w'.tape=w.tape)
  (h3:w'.heap[b]? = some o') (h4 : ∀ j,j≠b→w'.heap[j]? = w.heap[j]?):Sat k w' L':=by
 obtain ⟨l,r,e1,e2⟩:=hu
 have hnd:=h.nodup
 have hh:=h.has
 rw [e1] at hnd hh
 simp only [List.map_append,List.map_cons] at hnd
 have hd:=List.nodup_append.1 hnd
 have hd2:=List.nodup_cons.1 hd.2.1
 refine ⟨h1.trans h.os,h2.trans h.out,ht.trans h.tape,?_,?_⟩
 ·rw [e2]
  intro p hp
  rcases List.mem_append.1 hp with hp|hp
  ·rw [h4 p.1 (fun e=>hd.2.2 p.1 (List.mem_map_of_mem hp) b (by simp) e)]
   exact hh p (List.mem_append.2 (.inl hp))
  ·rcases List.mem_cons.1 hp with hp|hp
   ·subst hp;exact h3
   ·rw [h4 p.1 (fun e=>hd2.1 (e▸List.mem_map_of_mem hp))]
    exact hh p (List.mem_append.2 (.inr (List.mem_cons.2 (.inr hp))))
 ·rw [e2]
  simpa using hnd
theorem Sat.new {k:Zgv} {w:World} {L:Zb} (h:Sat k w L) (o:Obj):Sat k (w.alloc o) ([(w.heap.size,o)]::L):=by
 have hlt : ∀ p∈L.flatten,p.1<w.heap.size:=fun p hp=>(Array.getElem?_eq_some_iff.1 (h.has p hp)).1
 refine ⟨h.os,h.out,h.tape,fun p hp=>?_,?_⟩
 ·simp only [List.flatten_cons,List.cons_append,List.nil_append,List.mem_cons] at hp
  rcases hp with hp|hp
  ·subst hp;exact heap_alloc_new w o
  ·rw [Go.heap_alloc_old w o (hlt p hp)]
   exact h.has p hp
 ·simp only [List.flatten_cons,List.cons_append,List.nil_append,List.map_cons,List.nodup_cons]
  refine ⟨fun hm=>?_,h.nodup⟩
  obtain ⟨p,hp,e⟩:=List.mem_map.1 hm
  have:=hlt p hp
  omega
theorem Sat.drew {k:Zgv} {w:World} {L:Zb} (h:Sat k w L):Sat k w.drew L:=⟨h.os,h.out,h.tape,h.has,h.nodup⟩

def Ug:List Value→Nat→List Value→List Value
 | l,_,[]=>l
 | l,i,v::r=>Ug (l.set i v) (i+1) r
def Zo (l:List Value) (i:Nat) (vs l':List Value):Prop:=l'=Ug l i vs∧i+vs.length≤l.length
theorem W5 {l:List Value} {i:Nat} {v:Value} (h:i<l.length):Zo l i [v] (l.set i v):=⟨rfl,by simp;omega⟩
theorem Wy {x v:Value} {l:List Value}:Zo (x::l) 0 [v] (v::l):=⟨by simp [Ug],by simp⟩
theorem Qs (vs:List Value) : ∀ (x:Value) (l:List Value) (i:Nat),Ug (x::l) (i+1) vs=x::Ug l i vs:=by
 induction vs with
 | nil=>intro x l i;rfl
 | cons v r ih=>intro x l i;simp [Ug,ih]
theorem Wj {x:Value} {l vs l':List Value} {i:Nat} (h:Zo l i vs l'):Zo (x::l) (i+1) vs (x::l'):=by
 obtain ⟨h1,h2⟩:=h
 exact ⟨by rw [Qs,h1],by simp;omega⟩
theorem Zsb (vs:List Value) : ∀ (l:List Value),l.length=vs.length→Ug l 0 vs=vs:=by
 induction vs with
 | nil=>intro l h;simpa [Ug] using h
 | cons v r ih =>
  intro l h
  match l,h with
  | x::l,h =>
   simp only [Ug,List.set_cons_zero]
   rw [Qs,ih l (by simpa using h)]
theorem Zf4 {l vs:List Value} (h:l.length=vs.length):Zo l 0 vs vs:=⟨(Zsb vs l h).symm,by omega⟩
theorem Zct (vs:List Value) : ∀ (l r:List Value),l.length=vs.length→Ug (l++r) 0 vs=vs++r:=by
  induction vs with
  | nil => intro l r h;have:l=[]:=by simpa using h
           subst this;simp [Ug]
  | cons v vs ih =>
    intro l r h
    match l,h with
    | x::l,h =>
      simp only [Ug,List.cons_append,List.set_cons_zero]
      rw [Qs,ih l r (by simpa using h)]
theorem Zoa {l r vs:List Value} (h:l.length=vs.length):Zo (l++r) 0 vs (vs++r):=⟨(Zct vs l r h).symm,by simp;omega⟩

theorem Zcu {w:World} {b:Nat} {l:List Value} {E:Nat} {fr:Nat × Nat} (h:w.heap[b]? = some (.cells ⟨l⟩ E fr)) (j:Nat) (v:Value) :
  (w.setCell ⟨b,j,none⟩ v).heap[b]? = some (.cells ⟨l.set j v⟩ E fr):=by
 have hb:=(Array.getElem?_eq_some_iff.1 h).1
 have h':=(Array.getElem?_eq_some_iff.1 h).2
 simp only [World.setCell,Array.getElem?_modify,h,Option.map_some,if_true]
 simp
theorem Qr {P:Program} {k:Zgv} {b E:Nat} {fr:Nat × Nat} (vs:List Value) : ∀ (i0 i:Nat) (l:List Value) (w:World),
  w.heap[b]? = some (.cells ⟨l⟩ E fr)→(fr=(0,0))→i0+i+vs.length≤l.length→(∀ v∈vs,v.oneCell'=true) →
  ∃ w',(storeCells ⟨b,i0,none⟩ vs i).run P w = .ok () w'∧w'.os=w.os∧w'.output=w.output∧w'.tape=w.tape∧w'.heap[b]? = some (.cells ⟨Ug l (i0+i) vs⟩ E fr) ∧ ∀ j,j≠b→w'.heap[j]? = w.heap[j]? := by
 induction vs with
 | nil=>intro i0 i l w hb hf hl hc;exact ⟨w,by simp [storeCells],rfl,rfl,rfl,hb,fun _ _=>rfl⟩
 | cons v r ih =>
  intro i0 i l w hb hf hl hc
  simp only [List.length_cons] at hl
  have hcell:w.cell? ⟨b,i0+i,none⟩=some (l[i0+i]'(by omega)):=by
   rw [cell_of_row w b _ ⟨l⟩ E fr hb]
   simp
  have hfz:w.frozen? ⟨b,i0+i,none⟩=false:=by
   subst hf
   exact frozen_of_row w b _ ⟨l⟩ E hb
  have hst:(store (Addr.mk b (i0+i) none) v).run P w = .ok () (w.setCell ⟨b,i0+i,none⟩ v):=by
   rw [run_store P w _ v _ (hc v (by simp))]
   simp [hcell,hfz]
  have hb':=Zcu hb (i0+i) v
  obtain ⟨w',h1,h2,h3,ht,h4,h5⟩:=ih i0 (i+1) (l.set (i0+i) v) (w.setCell ⟨b,i0+i,none⟩ v) hb' hf (by simp;omega) (fun u hu=>hc u (by simp [hu]))
  refine ⟨w',?_,h2,h3,ht,?_,fun j hj=>?_⟩
  ·simp only [storeCells,Xy]
   simp [hst,h1]
  ·rw [h4]
   simp only [Ug]
   rw [show i0+(i+1)=i0+i+1 by omega]
  ·rw [h5 j hj]
   exact heap_setCell_other w _ j v hj

section o
variable {P:Program} (S:Tab P) {n:Nat} {ops:List Oper} {Q:Exit→Zr→Zb→Prop} {rest:List Oper} {ρ:Zr} {L:Zb} {ty:TypeId} {pos:String} {af:Array Edge}

theorem Vh {o:Oper} {d:Nat} (hg:o.guard=none) (hd:o.dst=some d) (hn:Nat.blt d n=true)
  (h : ∀ (ρe:Operand→Value),(∀ x∈o.op.operands,∀ u,ev ρ x=some u→ρe x=u) → ∀ k w,Sat k w L → ∃ v w' L',(execOp ρe o).run P w = .ok (.value v) w'∧Sat k w' L'∧HO P n ops Q rest ((d,v)::ρ) L'):HO P n ops Q (o::rest) ρ L:=by
 intro k w a hs ha
 have hlt:d<n:=Nat.le_of_ble_eq_true hn
 unfold wpList
 rw [if_pos (Wd o hg _)]
 obtain ⟨v,w',L',hr,hs',hK⟩:=h a.eval (fun x _ u hu=>ha.ev hu) k w hs
 refine .inl ?_
 unfold Oper.wp
 rw [hr]
 simp only [Oper.upon]
 rw [hd]
 exact hK k w' _ hs' (ha.put hlt v)
theorem Zpd {o:Oper} (hg:o.guard=none) (hd:o.dst=none)
  (h : ∀ (ρe:Operand→Value),(∀ x∈o.op.operands,∀ u,ev ρ x=some u→ρe x=u) → ∀ k w,Sat k w L → ∃ w' L',((execOp ρe o).run P w = .ok .skip w' ∨ ∃ v,(execOp ρe o).run P w = .ok (.value v) w')∧Sat k w' L'∧HO P n ops Q rest ρ L'):HO P n ops Q (o::rest) ρ L:=by
 intro k w a hs ha
 unfold wpList
 rw [if_pos (Wd o hg _)]
 obtain ⟨w',L',hr,hs',hK⟩:=h a.eval (fun x _ u hu=>ha.ev hu) k w hs
 refine .inl ?_
 unfold Oper.wp
 rcases hr with hr|⟨v,hr⟩
 all_goals
  rw [hr]
  simp only [Oper.upon]
  rw [hd]
  exact hK k w' a hs' ha

theorem o_alloc {d E:Nat} {z:Value} {zs:List Value} (hz:Zt S.zr E=some z) (hc:z.cells=⟨zs⟩) (hn:Nat.blt d n=true)
  (h : ∀ b,HO P n ops Q rest ((d,pt b 0)::ρ) ([(b,.cells ⟨zs⟩ E)]::L)):HO P n ops Q (⟨some d,.alloc E,ty,pos,af,none⟩::rest) ρ L:=
 Vh rfl rfl hn fun ρe he k w hs=>⟨pt w.heap.size 0,w.alloc (.cells ⟨zs⟩ E),_,by
  have h1:=Vq (S.zeroI hz) w
  simp [execOp,Instr.alloc,h1,newVar,newRow,hc],hs.new _,h _⟩
theorem o_box {d E:Nat} {x:Operand} {v:Value} {vs:List Value} (hx:ev ρ x=some v) (hc:v.cells=⟨vs⟩) (hn:Nat.blt d n=true)
  (h : ∀ b,HO P n ops Q rest ((d,pt b 0)::ρ) ([(b,.cells ⟨vs⟩ E)]::L)):HO P n ops Q (⟨some d,.box E x,ty,pos,af,none⟩::rest) ρ L:=
 Vh rfl rfl hn fun ρe he k w hs=>⟨pt w.heap.size 0,w.alloc (.cells ⟨vs⟩ E),_,by
  simp [execOp,Instr.box,he x (by simp [Op.operands]) _ hx,newVar,newRow,hc],hs.new _,h _⟩
theorem o_store {t b i E:Nat} {ti:TyI} {x y:Operand} {v:Value} {vs l l':List Value} {L':Zb} (hx:ev ρ x=some (pt b i)) (hy:ev ρ y=some v) (ht:Zt S.ty t=some ti)
  (hc:v.cells=⟨vs⟩) (hsz:ti.size=vs.length) (h1:(vs.all Value.oneCell')=true) (hp:Zo l i vs l') (hu:Upd L b (.cells ⟨l⟩ E (0,0)) (.cells ⟨l'⟩ E (0,0)) L')
  (h:HO P n ops Q rest ρ L'):HO P n ops Q (⟨none,.store t x y,ty,pos,af,none⟩::rest) ρ L:=
 Zpd rfl rfl fun ρe he k w hs=>by
  obtain ⟨hp1,hp2⟩:=hp
  obtain ⟨w',e1,e2,e3,et,e4,e5⟩:=Qr (P:=P) (k:=k) vs i 0 l w (hs.heap hu.has) rfl (by simpa using hp2) (fun v hv=>List.all_eq_true.1 h1 v hv)
  refine ⟨w',L',.inl ?_,hs.upd hu e2 e3 et (by rw [e4,hp1,Nat.add_zero]) e5,h⟩
  have h2:=Y9 (S.tyI ht) w
  have h3:v.cells.size=vs.length:=by rw [hc];rfl
  have h4:v.cells.toList=vs:=by rw [hc]
  simp [execOp,Instr.storeAt,he x (by simp [Op.operands]) _ hx,he y (by simp [Op.operands]) _ hy,Instr.sureAddr,storeVar,h2,h3,hsz,h4,e1]

/-! ### calls -/
theorem evs_map {l:List Operand} {ρe:Operand→Value} : ∀ {us:List Value},(∀ x∈l,∀ u,ev ρ x=some u→ρe x=u)→Zg1 ρ l=some us→l.map ρe=us:=by
 induction l with
 | nil=>intro us _ h;simp [Zg1] at h;simp [← h]
 | cons x r ih =>
  intro us hl h
  simp only [Zg1] at h
  cases hx:ev ρ x with
  | none=>simp [hx] at h
  | some u =>
   cases hr:Zg1 ρ r with
   | none=>simp [hx,hr] at h
   | some us' =>
    simp [hx,hr] at h
    rw [List.map_cons,hl x (by simp) u hx,ih (fun y hy=>hl y (by simp [hy])) hr]
    exact h
theorem Zkk {f:Operand} {as9:Array Operand} {ts:Array TypeId} {o:Oper} {ρe:Operand→Value} {F:Nat} {cap args:List Value} (hf:ev ρ f=some (.func (.func F) #[] ⟨cap⟩)) (ha:Zg1 ρ as9.toList=some args)
  (he : ∀ x∈(Op.call { callee := .value f,args:=as9,argTypes:=ts }).operands,∀ u,ev ρ x=some u→ρe x=u) (hop:o.op = .call { callee := .value f,args:=as9,argTypes:=ts }) (hen:Zex P F) (w:World) :
  (execOp ρe o).run P w = .ok (.enter F ⟨args++cap⟩) w:=by
 have e1:ρe f = .func (.func F) #[] ⟨cap⟩:=he f (by simp [Op.operands,Call.operands]) _ hf
 have e2:as9.map ρe=⟨args⟩:=by
  have:=evs_map (l:=as9.toList) (ρe:=ρe) (fun x hx u hu=>he x (by simp [Op.operands,Call.operands];exact .inr (Array.mem_toList_iff.1 hx)) u hu) ha
  apply Array.toList_inj.1
  simpa using this
 have e3:=hen ⟨args++cap⟩ w
 simp only [execOp,hop,resolve,e1,e2]
 simp [Deferred.ofValue,invoke,e3]
theorem q_call {d:Option Tmp} {g:Option (Nat × Bool)} {f:Operand} {as9:Array Operand} {ts:Array TypeId} {F:Nat} {cap args:List Value} {v:Value} (hf:ev ρ f=some (.func (.func F) #[] ⟨cap⟩)) (ha:Zg1 ρ as9.toList=some args)
  (hc:HC P F (args++cap) L (fun u L'=>u=v∧L'=L)):QOp P ⟨d,.call { callee := .value f,args:=as9,argTypes:=ts },ty,pos,af,g⟩ ρ L v:=by
 intro k a he w hs
 unfold Oper.quietAt
 rw [Zkk hf ha he rfl hc.1 w]
 exact ⟨rfl,(hc.2 k w hs).mono fun e w' ⟨u,L',h1,h2,h3,h4⟩=>by subst h3;subst h4;exact ⟨h1,h2⟩⟩
theorem o_call {d:Nat} {f:Operand} {as9:Array Operand} {ts:Array TypeId} {F:Nat} {cap args:List Value} {R:Value→Zb→Prop} (hf:ev ρ f=some (.func (.func F) #[] ⟨cap⟩)) (ha:Zg1 ρ as9.toList=some args)
  (hc:HC P F (args++cap) L R) (hn:Nat.blt d n=true) (h : ∀ v L',R v L'→HO P n ops Q rest ((d,v)::ρ) L'):HO P n ops Q (⟨some d,.call { callee := .value f,args:=as9,argTypes:=ts },ty,pos,af,none⟩::rest) ρ L:=by
 intro k w a hs haa
 have hlt:d<n:=Nat.le_of_ble_eq_true hn
 unfold wpList
 rw [if_pos (Wd _ rfl _)]
 refine .inl ?_
 unfold Oper.wp
 rw [Zkk hf ha (fun x _ u hu=>haa.ev hu) rfl hc.1 w]
 refine (hc.2 k w hs).mono fun e w' ⟨u,L',h1,h2,h3⟩=>?_
 subst h1
 exact h u L' h3 k w' _ h2 (haa.put hlt u)
theorem ho_perm {l:List Oper} {L':Zb} (h:HO P n ops Q l ρ L') (hs:List.Perm L L'):HO P n ops Q l ρ L:=fun k w a hs' ha=>h k w a (hs'.perm hs) ha
end o
end Go.HL
end

/-! HLDraw -/
section
namespace Go.HL
open Go

section draw
variable {P:Program} {n:Nat} {ops:List Oper} {K:Zr→Prop} {rest:List Oper} {o:Oper} {ρ:Zr} {L:Zb}

def HQ (P:Program) (n:Nat) (ops:List Oper) (K:Zr→Prop) (l:List Oper) (ρ:Zr) (L:Zb):Prop:=
 ∀ k a,Agr n a ρ→wpQuiet P ops.toArray (fun w=>Sat k w L) (fun a' => ∃ ρ',Agr n a' ρ'∧K ρ') l a
theorem hq_nil (h:K ρ):HQ P n ops K [] ρ L:=fun k a ha=>⟨ρ,ha,h⟩
theorem hq_q {v:Value} {d:Nat} {op:Op} {ty:TypeId} {pos:String} {af:Array Edge} (hn:Nat.blt d n=true) (h:QOp P ⟨some d,op,ty,pos,af,none⟩ ρ L v) (hr:HQ P n ops K rest ((d,v)::ρ) L) :
  HQ P n ops K (⟨some d,op,ty,pos,af,none⟩::rest) ρ L:=by
 have hg:(Oper.mk (some d) op ty pos af none).guard=none:=rfl
 intro k a ha
 have hlt:d<n:=Nat.le_of_ble_eq_true hn
 unfold wpQuiet
 rw [if_pos (Wd _ hg _)]
 refine ⟨v,fun w hs=>h k a (fun x _ u hu=>ha.ev hu) w hs,?_⟩
 exact hr k _ (ha.put hlt v)
theorem Zpi {v:Value} {d j t:Nat} {wt:Bool} {op:Op} {ty:TypeId} {pos:String} {af:Array Edge} (hn:Nat.blt d n=true) (hj:V8 ops j=some t) (ht:lk ρ t=some (.bool wt)) (h:QOp P ⟨some d,op,ty,pos,af,some (j,wt)⟩ ρ L v)
  (hr:HQ P n ops K rest ((d,v)::ρ) L):HQ P n ops K (⟨some d,op,ty,pos,af,some (j,wt)⟩::rest) ρ L:=by
 have hg:(Oper.mk (some d) op ty pos af (some (j,wt))).guard=some (j,wt):=rfl
 intro k a ha
 have hlt:d<n:=Nat.le_of_ble_eq_true hn
 unfold wpQuiet
 rw [if_pos (by rw [Wk ha hg hj ht];simp)]
 refine ⟨v,fun w hs=>h k a (fun x _ u hu=>ha.ev hu) w hs,?_⟩
 exact hr k _ (ha.put hlt v)
theorem Zph {d j t:Nat} {wt b:Bool} {op:Op} {ty:TypeId} {pos:String} {af:Array Edge} (hn:Nat.blt d n=true) (hj:V8 ops j=some t) (ht:lk ρ t=some (.bool b)) (hb:(!wt)=b)
  (hr:HQ P n ops K rest ((d,undef)::ρ) L):HQ P n ops K (⟨some d,op,ty,pos,af,some (j,wt)⟩::rest) ρ L:=by
 subst hb
 have hg:(Oper.mk (some d) op ty pos af (some (j,wt))).guard=some (j,wt):=rfl
 intro k a ha
 have hlt:d<n:=Nat.le_of_ble_eq_true hn
 unfold wpQuiet
 rw [if_neg (by rw [Wk ha hg hj ht];cases wt<;>simp)]
 exact hr k _ (ha.put hlt undef)
theorem Zre {l:List Oper} (t:Nat) {b:Bool} (ht:lk ρ t=some (.bool b)) (h1:b=true→HQ P n ops K l ((t,.bool true)::ρ) L) (h0:b=false→HQ P n ops K l ((t,.bool false)::ρ) L):HQ P n ops K l ρ L:=by
 intro k a ha
 cases hb:b with
 | true=>exact h1 hb k a (ha.name ht hb)
 | false=>exact h0 hb k a (ha.name ht hb)
theorem hq_skipu {d j t:Nat} {wt:Bool} {v:Value} {op:Op} {ty:TypeId} {pos:String} {af:Array Edge} (hj:V8 ops j=some t) (ht:lk ρ t=some v) (hb:v=undef) (hn:Nat.blt d n=true)
  (hr:HQ P n ops K rest ((d,undef)::ρ) L):HQ P n ops K (⟨some d,op,ty,pos,af,some (j,wt)⟩::rest) ρ L:=by
 subst hb
 intro k a ha
 have hlt:d<n:=Nat.le_of_ble_eq_true hn
 unfold wpQuiet
 have hw:Region.wanted (Oper.mk (some d) op ty pos af (some (j,wt))) (yielded ops.toArray a.tmps)=false:=by
  unfold V8 at hj
  simp [Region.wanted,yielded,hj,ha.get _ _ ht,undef]
 rw [if_neg (by rw [hw];simp)]
 exact hr k _ (ha.put hlt undef)
theorem Zrd {d j t:Nat} {wt:Bool} {op:Op} {ty:TypeId} {pos:String} {af:Array Edge} {b:Bool} (hj:V8 ops j=some t) (ht:lk ρ t=some (.bool b))
  (h1:b=true→HQ P n ops K (⟨some d,op,ty,pos,af,some (j,wt)⟩::rest) ((t,.bool true)::ρ) L) (h0:b=false→HQ P n ops K (⟨some d,op,ty,pos,af,some (j,wt)⟩::rest) ((t,.bool false)::ρ) L) :
  HQ P n ops K (⟨some d,op,ty,pos,af,some (j,wt)⟩::rest) ρ L:=Zre t ht h1 h0
theorem wpQuiet_mono' {P:Program} {ops:Array Oper} {C:World→Prop} {Q Q':Act→Prop} (hq : ∀ a,Q a→Q' a) : ∀ (l:List Oper) (a:Act),wpQuiet P ops C Q l a→wpQuiet P ops C Q' l a
 | [],a,h=>hq a h
 | o::l,a,h=>by
  unfold wpQuiet at *
  split
  ·rename_i hw
   rw [if_pos hw] at h
   exact Oper.quiet_mono (fun a' h'=>wpQuiet_mono' hq l a' h') h
  ·rename_i hw
   rw [if_neg hw] at h
   exact wpQuiet_mono' hq l _ h
theorem hw_quiet {id:Nat} {Q:Exit→Zr→Zb→Prop} (S:Tab P) (hB:Region.lexB .any ops.toArray=true) (h:HQ P n ops (fun ρ'=>Q .normal ρ' L) ops ρ L):HW P n (.region id ops.toArray true) Q ρ L:=by
 intro k w a hs ha
 refine wp_region_quiet (C:=fun w=>Sat k w L) S.mixed hB hs.drew ?_
 exact wpQuiet_mono' (fun a' ⟨ρ',h1,h2⟩ w' hs'=>⟨ρ',L,h1,hs',h2⟩) _ _ (h k a ha)
end draw
end Go.HL
end

/-! HLApp -/
section
namespace Go.HL
open Go

def Own (E sz:Nat) (v:Value) (n:Nat) (cs:List Value) (c:List Zm):Prop:=
 (v=Wn∧n=0∧cs=[]∧c=[]) ∨
 ∃ b cap sp,v=sl b 0 n cap∧c=[(b,.cells ⟨cs++sp⟩ E)]∧cs.length=n*sz∧n≤cap∧(cs++sp).length=cap*sz
theorem own_nil {E sz:Nat}:Own E sz Wn 0 [] [] := .inl ⟨rfl,rfl,rfl,rfl⟩
def Src (sz:Nat) (L:Zb) (u:Value) (n:Nat) (new:List Value):Prop:=
 (∃ a cap,u = .slice a 0 cap∧n=0∧new=[]) ∨ ∃ b i cap l F fr,0<n∧u=sl b i n cap∧Has L b (.cells ⟨l⟩ F fr)∧Gets l i new∧new.length=n*sz
theorem Z7 {α:Type} {enc:α→List Value} {sz:Nat} (hsz : ∀ x,(enc x).length=sz) : ∀ ys:List α,((ys.map enc).flatten).length=ys.length*sz
 | []=>by simp
 | y::ys=>by simp [Z7 hsz ys,hsz,Nat.add_mul,Nat.add_comm]
theorem Zia {α:Type} {enc:α→List Value} {sz:Nat} {L:Zb} {a:Option Addr} {cap:Nat} {xs:List α} (hsz : ∀ x,(enc x).length=sz) (h:Rd enc sz L a xs):Src sz L (.slice a xs.length cap) xs.length (xs.map enc).flatten:=by
 cases xs with
 | nil=>exact .inl ⟨a,cap,rfl,rfl,rfl⟩
 | cons x r =>
  rcases h with h|⟨b,i,l,E,fr,rfl,hb,hg⟩
  ·cases h
  ·exact .inr ⟨b,i,cap,l,E,fr,by simp,rfl,hb,Zc7 hsz _ _ hg,Z7 hsz _⟩
theorem src_one {sz b i cap F:Nat} {L:Zb} {l new:List Value} {fr:Nat × Nat} (hb:Has L b (.cells ⟨l⟩ F fr)) (hg:Gets l i new) (hl:new.length=sz):Src sz L (sl b i 1 cap) 1 new:=
 .inr ⟨b,i,cap,l,F,fr,by omega,rfl,hb,hg,by omega⟩

theorem Zat (zs:List Value) (n:Nat) : ∃ sp:List Value,Builtin.zeroCells ⟨zs⟩ n=⟨sp⟩∧sp.length=n*zs.length:=by
 refine ⟨(Builtin.zeroCells ⟨zs⟩ n).toList,rfl,?_⟩
 rw [Array.length_toList,size_zeroCells]
 rfl
theorem take_left {a b:List Value} {n:Nat} (h:a.length=n):(a++b).take n=a:=by subst h;simp

section app
variable {P:Program} (S:Tab P) {n:Nat} {ops:List Oper} {Q:Exit→Zr→Zb→Prop} {rest:List Oper} {ρ:Zr} {L:Zb} {ty:TypeId} {pos:String} {af:Array Edge}

theorem Zac (w:World) (need old e:Nat):need≤grownCap w need old e:=Nat.le_add_right _ _

theorem Zlx {d t E y0 s0 b0 k1 x1 y1 sz by1 m nn:Nat} {z v u:Value} {zs cs new:List Value} {c:List Zm} {x y:Operand}
  (hx:ev ρ x=some v) (hy:ev ρ y=some u) (ht:Zt S.ty t=some ⟨5,E,y0,s0,b0⟩) (he:Zt S.ty E=some ⟨k1,x1,y1,sz,by1⟩) (hz:Zt S.zr E=some z) (hzs:z.cells=⟨zs⟩) (hzl:zs.length=sz)
  (hn:Nat.blt d n=true) (ho:Own E sz v nn cs c) (hs:Src sz (c::L) u m new) (h1:(new.all Value.oneCell')=true) (hby:(nn+m)*by1≤140737488355328) (hmax:nn+m≤9223372036854775807)
  (h : ∀ v' c',Own E sz v' (nn+m) (cs++new) c'→HO P n ops Q rest ((d,v')::ρ) (c'::L)) :
  HO P n ops Q (⟨some d,.call { callee := .builtin .append,args := #[x,y],argTypes := #[t,t] },ty,pos,af,none⟩::rest) ρ (c::L):=by
 refine Vh rfl rfl hn fun ρe he' k w hsat=>?_
 have hdesc:=Z9 (S.tyI ht) rfl
 obtain ⟨de,i,hde,hi,-,hisz,hiby⟩:=Xf (S.tyI he)
 simp only at hisz hiby
 have hiz:i.zero=some z:=by
  have:=S.zeroI hz
  unfold zeroI at this
  simpa [hi] using this
 have hsize:(sizeOf E).run P w = .ok sz w:=Y9 (S.tyI he) w
 have hone : ∀ u∈new,u.oneCell'=true:=fun u hu=>List.all_eq_true.1 h1 u hu
 have e1:=he' x (by simp [Op.operands,Call.operands]) _ hx
 have e2:=he' y (by simp [Op.operands,Call.operands]) _ hy
 suffices ∃ v' w' c',(Builtin.append_ #[t,t] ty #[v,u]).run P w = .ok v' w'∧Sat k w' (c'::L)∧Own E sz v' (nn+m) (cs++new) c' by
  obtain ⟨v',w',c',hr,hs',ho'⟩:=this
  refine ⟨v',w',c'::L,?_,hs',h v' c' ho'⟩
  simp [execOp,resolve,invoke,builtin,e1,e2,hr]
 have hdrop:Sat k w L:=hsat.sub (.cons _ (.refl _))
 rcases hs with ⟨a,cap,rfl,rfl,rfl⟩|⟨b,j,cap,l,F,fr,hm,rfl,hb,hg,hlen⟩
 · -- nothing comes
  rcases ho with ⟨rfl,rfl,rfl,rfl⟩|⟨b',cap',sp,rfl,rfl,hcs,hle,hall⟩
  ·refine ⟨Wn,w,[],?_,hsat,.inl ⟨rfl,rfl,rfl,rfl⟩⟩
   cases a<;>simp [Builtin.append_,run_underlying hdesc,hsize,Builtin.lenOf,Builtin.firstCells,loadCells,loadCellsFrom]
  ·refine ⟨sl b' 0 nn cap',w,[(b',.cells ⟨cs++sp⟩ E)],?_,hsat,.inr ⟨b',cap',sp,by simp,by simp,by simp [hcs],by omega,by simpa using hall⟩⟩
   cases a<;>simp [Builtin.append_,run_underlying hdesc,hsize,Builtin.lenOf,Builtin.firstCells,loadCells,loadCellsFrom,hle,storeCells]
 ·have hnews : ∀ (q:Nat) (v:Value),new[q]? = some v→w.cell? ((Addr.mk b j none).add q)=some v:=fun q v hq=>by
   rw [Xy,hsat.cell hb];exact hg q v hq
  rcases ho with ⟨rfl,rfl,rfl,rfl⟩|⟨b',cap',sp,rfl,rfl,hcs,hle,hall⟩
  ·have hr:=run_append_nil (P:=P) w t ty E i z hdesc hi hiz ⟨b,j,none⟩ m cap new (by rw [hisz];exact hlen) hnews hm (by omega) (by rw [hiby];simp at hby;omega)
   obtain ⟨sp,hsp,hspl⟩:=Zat zs (grownCap w m 0 E-m)
   rw [hzs,hsp] at hr
   have hcap:=Zac w m 0 E
   refine ⟨_,_,[(w.heap.size,.cells ⟨new++sp⟩ E)],by simpa using hr,?_,.inr ⟨w.heap.size,grownCap w m 0 E,sp,by simp,by simp,by simpa using hlen,by omega,?_⟩⟩
   ·have:=(hdrop.drew).new (.cells ⟨new++sp⟩ E)
    simpa using this
   ·simp only [List.nil_append,List.length_append,hspl,hlen,hzl]
    rw [Nat.sub_mul]
    have:m*sz≤grownCap w m 0 E*sz:=Nat.mul_le_mul_right _ hcap
    omega
  ·have hb':w.heap[b']? = some (.cells ⟨cs++sp⟩ E):=hsat.heap Zh
   by_cases hroom:nn+m≤cap'
   ·have hsplit:nn*sz+new.length≤(cs++sp).length:=by
     rw [hlen,hall,← Nat.add_mul]
     exact Nat.mul_le_mul_right _ hroom
    have hr:=run_append_room (P:=P) w t ty E i hdesc hi b' nn cap' ⟨cs++sp⟩ hb' ⟨b,j,none⟩ m cap new (by rw [hisz];exact hlen) hnews hone hroom (by rw [hisz];simpa using hsplit)
    rw [hisz] at hr
    have e3:(cs++sp).take (nn*sz)++new++(cs++sp).drop (nn*sz+new.length)=(cs++new)++sp.drop new.length:=by
     rw [take_left hcs,← hcs,List.drop_append,List.drop_of_length_le (by omega)]
     simp
    simp only [] at hr
    rw [e3] at hr
    refine ⟨_,_,[(b',.cells ⟨(cs++new)++sp.drop new.length⟩ E)],hr,?_,.inr ⟨b',cap',sp.drop new.length,rfl,rfl,by simp [hcs,hlen,Nat.add_mul],hroom,?_⟩⟩
    ·refine hsat.upd (o := .cells ⟨cs++sp⟩ E) (o' := .cells ⟨(cs++new)++sp.drop new.length⟩ E) Xr rfl rfl rfl (setRow_heap w b' _ _ E _ hb') (fun q hq=>?_)
     simp only [World.setRow,Array.getElem?_modify]
     rw [if_neg (fun e=>hq e.symm)]
    ·simp only [List.length_append,List.length_drop] at hall hsplit ⊢
     omega
   ·have hfit:Builtin.nextslicecap (nn+m) cap'*i.bytes≤281474976710656:=by
     rw [hiby];exact growslice_fits (by omega) hby
    have holds : ∀ (q:Nat) (v:Value),cs[q]? = some v→w.cell? ((Addr.mk b' 0 none).add q)=some v:=fun q v hq=>by
     rw [Xy,hsat.cell Zh,Nat.zero_add]
     rw [List.getElem?_append_left (List.getElem?_eq_some_iff.1 hq).1];exact hq
    have hr:=run_append_grow (P:=P) w t ty E i z hdesc hi hiz ⟨b',0,none⟩ nn cap' cs (by rw [hisz];exact hcs) holds ⟨b,j,none⟩ m cap new (by rw [hisz];exact hlen) hnews (by omega) (by omega) hfit
    obtain ⟨sp',hsp,hspl⟩:=Zat zs (grownCap w (nn+m) cap' E-(nn+m))
    rw [hzs,hsp] at hr
    have hcap:=Zac w (nn+m) cap' E
    refine ⟨sl w.heap.size 0 (nn+m) (grownCap w (nn+m) cap' E),w.drew.alloc (.cells ⟨(cs++new)++sp'⟩ E),[(w.heap.size,.cells ⟨(cs++new)++sp'⟩ E)],?_,?_,.inr ⟨w.heap.size,grownCap w (nn+m) cap' E,sp',rfl,rfl,by simp [hcs,hlen,Nat.add_mul],hcap,?_⟩⟩
    ·rw [hr];simp
    ·exact (hdrop.drew).new (.cells ⟨(cs++new)++sp'⟩ E)
    ·simp only [List.length_append,hspl,hlen,hcs,hzl]
     rw [← Nat.add_mul,Nat.sub_mul]
     have:(nn+m)*sz≤grownCap w (nn+m) cap' E*sz:=Nat.mul_le_mul_right _ hcap
     omega
def Zks (ρ:Zr):Nat→List (Nat × Operand)→Option (List Value)
 | _,[]=>some []
 | k,(i,x)::r=>bif Nat.beq i k then (match ev ρ x,Zks ρ (k+1) r with
  | some v,some vs=>some (v::vs)
  | _,_=>none) else none
theorem Zkv {ρe:Operand→Value} : ∀ (parts:List (Nat × Operand)) (k:Nat) (vals pre zs:List Value),(∀ p∈parts,∀ u,ev ρ p.2=some u→ρe p.2=u)→Zks ρ k parts=some vals→pre.length=k→zs.length=vals.length →
  (vals.all Value.oneCell')=true→Instr.fill (fun i=>some (i,1)) ⟨pre++zs⟩ (parts.map fun p=>(p.1,ρe p.2))=some ⟨pre++vals⟩
 | [],k,vals,pre,zs,_,h,_,hz,_=>by
  simp [Zks] at h;subst h
  have:zs=[]:=by simpa using hz
  subst this
  simp [Instr.fill]
 | (i, x)::r,k,vals,pre,zs,he,h,hp,hz,h1=>by
  simp only [Zks] at h
  cases hb:Nat.beq i k with
  | false=>rw [hb] at h;cases h
  | true =>
   rw [hb] at h
   have hik:=Nat.eq_of_beq_eq_true hb
   subst hik
   cases hx:ev ρ x with
   | none=>simp [hx] at h
   | some v =>
    cases hr:Zks ρ (i+1) r with
    | none=>simp [hx,hr] at h
    | some vs =>
     simp [hx,hr] at h
     subst h
     match zs,hz with
     | z::zs,hz =>
      simp only [List.all_cons,Bool.and_eq_true] at h1
      have hev:=he (i,x) (by simp) v hx
      have hc:v.cells = #[v]:=by cases v<;>first|rfl|(simp [Value.oneCell'] at h1)
      have ih:=Zkv r (i+1) vs (pre++[v]) zs (fun p hp=>he p (by simp [hp])) hr (by simp [hp]) (by simpa using hz) h1.2
      simp only [List.map_cons,Instr.fill,hev,hc]
      simp only [List.append_assoc,List.cons_append,List.nil_append] at ih
      have e:(Array.mk (pre++z::zs)).setIfInBounds i v=⟨pre++v::zs⟩:=by
       apply Array.toList_inj.1
       simp [List.set_append,hp]
      simp [hp,e,ih]
theorem Zg6 {d t E y0 s0 b0 k1 x1 y1 by1 len:Nat} {z:Value} {zv:Value} {vals:List Value} {parts:Array (Nat × Operand)} (ht:Zt S.ty t=some ⟨5,E,y0,s0,b0⟩) (he:Zt S.ty E=some ⟨k1,x1,y1,1,by1⟩) (hz:Zt S.zr E=some z) (hzs:z.cells=⟨[zv]⟩)
  (hp:Zks ρ 0 parts.toList=some vals) (hlen:vals.length=len) (hsm:Nat.ble len 16777216=true) (h1:(vals.all Value.oneCell')=true) (hn:Nat.blt d n=true)
  (h : ∀ b,HO P n ops Q rest ((d,sl b 0 len len)::ρ) ([(b,.cells ⟨vals⟩ E)]::L)):HO P n ops Q (⟨some d,.buildSlice t len parts,ty,pos,af,none⟩::rest) ρ L:=by
 refine Vh rfl rfl hn fun ρe he' k w hs=>⟨sl w.heap.size 0 len len,w.alloc (.cells ⟨vals⟩ E),_,?_,hs.new _,h _⟩
 have hdesc:=Z9 (S.tyI ht) rfl
 have hsize:(sizeOf E).run P w = .ok 1 w:=Y9 (S.tyI he) w
 have hzero:=Vq (S.zeroI hz) w
 have hle:len≤16777216:=Nat.le_of_ble_eq_true hsm
 have hparts : ∀ p∈parts.toList,∀ u,ev ρ p.2=some u→ρe p.2=u:=fun p hp u hu=>he' p.2 (by simp [Op.operands];exact ⟨p.1,by simpa using Array.mem_toList_iff.1 hp⟩) u hu
 have hfill:=Zkv (ρ:=ρ) parts.toList 0 vals [] (List.replicate len zv) hparts hp rfl (by simp [hlen]) h1
 have hm:(parts.map fun p=>(p.1,ρe p.2)).toList=parts.toList.map fun p=>(p.1,ρe p.2):=by simp
 have hbs : ∀ pp:Array (Nat × Value),pp.toList=parts.toList.map (fun p=>(p.1,ρe p.2))→(Instr.buildSlice t len pp).run P w = .ok (sl w.heap.size 0 len len) (w.alloc (.cells ⟨vals⟩ E)):=by
  intro pp hpp
  have hl2 : ¬ (16777216<len):=by omega
  simp only [List.nil_append] at hfill
  by_cases h0:len=0
  ·subst h0
   have hv:vals=[]:=by simpa using hlen
   subst hv
   simp only [List.replicate_zero] at hfill
   have hf2:Instr.fill (fun i=>some (i,1)) #[] (List.map (fun p=>(p.fst,ρe p.snd)) parts.toList)=some ⟨[]⟩:=hfill
   have e0:Array.range 0 = #[]:=rfl
   simp only [Instr.buildSlice]
   simp [run_underlying hdesc,hsize,hpp,e0,hf2,newRow]
  ·have harr:Array.map (fun j=>(z.cells)[j % z.cells.size]!) (Array.range len)=⟨List.replicate len zv⟩:=by
    rw [hzs]
    apply Array.toList_inj.1
    simp [List.map_const',Nat.mod_one]
   have hf2:Instr.fill (fun i=>some (i,1)) (Array.replicate len zv) (List.map (fun p=>(p.fst,ρe p.snd)) parts.toList)=some ⟨vals⟩:=by
    have e1:Array.replicate len zv=⟨List.replicate len zv⟩:=by simp
    rw [e1];exact hfill
   simp only [Instr.buildSlice]
   simp [run_underlying hdesc,hsize,hzero,h0,hl2,harr,hpp,hf2,newRow]
 have:=hbs (parts.map fun p=>(p.1,ρe p.2)) (by simp)
 simp [execOp,this]
theorem Sat.nilc {k:Zgv} {w:World} (h:Sat k w L):Sat k w ([]::L):=⟨h.os,h.out,h.tape,by simpa using h.has,by simpa using h.nodup⟩
theorem Zpe {l:List Oper} (h:HO P n ops Q l ρ ([]::L)):HO P n ops Q l ρ L:=fun k w a hs ha=>h k w a hs.nilc ha
theorem Zpk {c:Code} (h:HW P n c Q ρ ([]::L)):HW P n c Q ρ L:=fun k w a hs ha=>h k w a hs.nilc ha
theorem Zbu {α:Type} {enc:α→List Value} (he : ∀ x,(enc x).all Value.oneCell'=true) (xs:List α):((xs.map enc).flatten.all Value.oneCell')=true:=by
 simp only [List.all_eq_true,List.mem_flatten,List.mem_map]
 rintro v ⟨l,⟨x,_,rfl⟩,hv⟩
 exact List.all_eq_true.1 (he x) v hv
theorem Wa {α:Type} {enc:α→List Value} {sz:Nat} (hsz : ∀ x,(enc x).length=sz) : ∀ (xs:List α) (sp:List Value) (pre:List Value) (k:Nat) (x:α),xs[k]? = some x→Gets (pre++(xs.map enc).flatten++sp) (pre.length+k*sz) (enc x)
 | [],sp,pre,k,x,h=>by simp at h
 | y::r,sp,pre,0,x,h=>by
  simp at h;subst h
  intro j v hj
  have hlt:j<(enc y).length:=(List.getElem?_eq_some_iff.1 hj).1
  simp only [List.map_cons,List.flatten_cons,Nat.zero_mul,Nat.add_zero,List.append_assoc]
  rw [List.getElem?_append_right (by omega),List.getElem?_append_left (by simpa using hlt)]
  simpa using hj
 | y::r,sp,pre,k+1,x,h=>by
  have:=Wa hsz r sp (pre++enc y) k x (by simpa using h)
  simp only [List.map_cons,List.flatten_cons,List.append_assoc,List.length_append,hsz] at this ⊢
  rw [show pre.length+(k+1)*sz=pre.length+sz+k*sz by rw [Nat.add_mul,Nat.one_mul];omega]
  exact this
theorem Own.rd {α:Type} {enc:α→List Value} {E sz:Nat} (hsz : ∀ x,(enc x).length=sz) {v:Value} {nn:Nat} {xs:List α} {c:List Zm} (h:Own E sz v nn (xs.map enc).flatten c) (hl:xs.length=nn) :
  ∃ a cap,v = .slice a xs.length cap∧Rd enc sz (c::L) a xs:=by
 rcases h with ⟨rfl,h0,hcs,rfl⟩|⟨b,cap,sp,rfl,rfl,hcs,hle,hall⟩
 ·refine ⟨none,0,by rw [hl,h0],.inl ?_⟩
  exact List.eq_nil_of_length_eq_zero (by omega)
 ·refine ⟨some ⟨b,0,none⟩,cap,by rw [hl],.inr ⟨b,0,_,E,(0,0),rfl,Zh,fun k x hx=>?_⟩⟩
  have:=Wa hsz xs sp [] k x hx
  simpa using this
end app
end Go.HL
end

/-! HLMore -/
section
namespace Go.HL
open Go

def cut (a:Option Addr) (cap l sz:Nat):Option Addr:=if cap=l then a else a.map (·.add (l*sz))
theorem Rd.drop {α:Type} {enc:α→List Value} {sz:Nat} {L:Zb} {a:Option Addr} {xs:List α} {cap l:Nat} (h:Rd enc sz L a xs) (hc:xs.length≤cap):Rd enc sz L (cut a cap l sz) (xs.drop l):=by
 by_cases hl:xs.length≤l
 ·exact .inl (List.drop_of_length_le hl)
 ·rcases h with h|⟨b,i,c,E,fr,rfl,hb,hg⟩
  ·exact .inl (by simp [h])
  ·refine .inr ⟨b,i+l*sz,c,E,fr,?_,hb,fun k x hx=>?_⟩
   ·unfold cut
    rw [if_neg (by omega)]
    simp only [Option.map_some,Xy]
   ·rw [List.getElem?_drop] at hx
    have:=hg _ _ hx
    rw [Nat.add_mul,← Nat.add_assoc] at this
    exact this
theorem Rd.take {α:Type} {enc:α→List Value} {sz:Nat} {L:Zb} {a:Option Addr} {xs:List α} {n:Nat} (h:Rd enc sz L a xs):Rd enc sz L a (xs.take n):=by
 rcases h with h|⟨b,i,c,E,fr,rfl,hb,hg⟩
 ·exact .inl (by simp [h])
 ·refine .inr ⟨b,i,c,E,fr,rfl,hb,fun k x hx=>?_⟩
  rw [List.getElem?_take] at hx
  split at hx
  ·exact hg _ _ hx
  ·cases hx
theorem Ziu {P:Program} {t e:Nat} (h:P.underlying t=some (.slice e)):P.elem t=e∧P.underlying t=some (.slice (P.elem t)):=by
 have:P.elem t=e:=by simp [Program.elem,h]
 exact ⟨this,by rw [this];exact h⟩
section q
variable {P:Program} (S:Tab P) {ρ:Zr} {L:Zb} {d:Option Tmp} {ty:TypeId} {pos:String} {af:Array Edge} {g:Option (Nat × Bool)}
theorem Zr4 {t E y0 s0 b0 k1 x1 y1 sz b1 len cap:Nat} {a:Option Addr} {x y:Operand} {k:IntKind} {l:Int} (hx:ev ρ x=some (.slice a len cap)) (hy:ev ρ y=some (.int k l)) (ht:Zt S.ty t=some ⟨5,E,y0,s0,b0⟩)
  (he':Zt S.ty E=some ⟨k1,x1,y1,sz,b1⟩) (h:0≤l∧l≤len):QOp P ⟨d,.slice t x (some y) none none,ty,pos,af,g⟩ ρ L (.slice (cut a cap l.toNat sz) (len-l.toNat) (cap-l.toNat)):=
 Ya fun ρe he k w hs=>by
  obtain ⟨e1,e2⟩:=Ziu (Z9 (S.tyI ht) rfl)
  have h2:=Y9 (S.tyI he') w
  simp [execOp,he x (by simp [Op.operands]) _ hx,he y (by simp [Op.operands]) _ hy,run_sliceAt_slice _ _ _ _ _ _ e2,run_slice_l _ _ _ _ _ e2 _ _ h.1 h.2,e1,h2,Result.andThen,sliced,cut]
theorem Zr2 {t E y0 s0 b0 k1 x1 y1 sz b1 len cap:Nat} {a:Option Addr} {x y:Operand} {k:IntKind} {l:Int} (hx:ev ρ x=some (.slice a len cap)) (hy:ev ρ y=some (.int k l)) (ht:Zt S.ty t=some ⟨5,E,y0,s0,b0⟩)
  (he':Zt S.ty E=some ⟨k1,x1,y1,sz,b1⟩) (h:0≤l∧l≤cap):QOp P ⟨d,.slice t x none (some y) none,ty,pos,af,g⟩ ρ L (.slice a l.toNat cap):=
 Ya fun ρe he k w hs=>by
  obtain ⟨e1,e2⟩:=Ziu (Z9 (S.tyI ht) rfl)
  have h2:=Y9 (S.tyI he') w
  have:(if cap=0 then a else a.map (·.add (0*sz)))=a:=by
   split
   ·rfl
   ·cases a<;>simp [Addr.add]
  simp [execOp,he x (by simp [Op.operands]) _ hx,he y (by simp [Op.operands]) _ hy,run_sliceAt_slice _ _ _ _ _ _ e2,run_slice_h _ _ _ _ _ e2 _ _ h.1 h.2,e1,h2,Result.andThen,sliced]
  simpa using this
theorem Zr3 {t E y0 s0 b0 k1 x1 y1 sz b1 len cap:Nat} {a:Option Addr} {x y z:Operand} {k k2:IntKind} {l hh:Int} (hx:ev ρ x=some (.slice a len cap)) (hy:ev ρ y=some (.int k l)) (hz:ev ρ z=some (.int k2 hh)) (ht:Zt S.ty t=some ⟨5,E,y0,s0,b0⟩)
  (he':Zt S.ty E=some ⟨k1,x1,y1,sz,b1⟩) (h:0≤l∧l≤hh∧hh≤cap):QOp P ⟨d,.slice t x (some y) (some z) none,ty,pos,af,g⟩ ρ L (.slice (cut a cap l.toNat sz) (hh.toNat-l.toNat) (cap-l.toNat)):=
 Ya fun ρe he k w hs=>by
  obtain ⟨e1,e2⟩:=Ziu (Z9 (S.tyI ht) rfl)
  have h2:=Y9 (S.tyI he') w
  simp [execOp,he x (by simp [Op.operands]) _ hx,he y (by simp [Op.operands]) _ hy,he z (by simp [Op.operands]) _ hz,run_sliceAt_slice _ _ _ _ _ _ e2,run_slice_lh _ _ _ _ _ e2 _ _ _ _ h.1 h.2.1 h.2.2,e1,h2,Result.andThen,sliced,cut]
end q
end Go.HL
end
