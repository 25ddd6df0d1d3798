/- Texts laid into one, without what the claim does not use. Conditions: none. -/
import Derived.WalkKit
import Derived.WalkSpells
import Derived.WalkLawsBesides
import Derived.Deep.Quiet
import Derived.KernelRfl
import Derived.Test.YtkookaogdkdegacGreatDoorProg
import Derived.Orders
import Derived.Laws.StructEq
import Derived.ChangeKeysEq
import Derived.Laws.MakeOwn
import Derived.Laws.BytesString
/-! HL -/
section
namespace Go.HL
open Go
set_option linter.unusedVariables false
set_option linter.unusedSimpArgs false

abbrev Z3 := List (Nat × Value)
abbrev Zq := Nat × Obj
abbrev Zb := List (List Zq)
abbrev Zk4 := Os × Array (Nat × ByteArray) × (Nat → Question → Nat)

def lk : Z3 → Nat → Option Value
 | [], _ => none
 | (t, v) :: r, x => bif Nat.beq t x then some v else lk r x

def ev (ρ : Z3) : Operand → Option Value
 | .tmp t => lk ρ t
 | .const v => some v
 | .global g => some (.pointer (some ⟨g, 0, none⟩))
 | .func f => some (.func (.func f) #[] #[])

def Zk3 (ρ : Z3) : List Operand → Option (List Value)
 | [] => some []
 | x :: r => match ev ρ x, Zk3 ρ r with
  | some v, some vs => some (v :: vs)
  | _, _ => none

structure Sat (k : Zk4) (w : World) (L : Zb) : Prop where
 os : w.os = k.1
 out : w.output = k.2.1
 tape : w.tape = k.2.2
 has : ∀ p ∈ L.flatten, w.heap[p.1]? = some p.2
 nodup : (L.flatten.map (·.1)).Nodup

structure Agr (n : Nat) (a : Act) (ρ : Z3) : Prop where
 size : a.tmps.size = n
 defers : a.defers = []
 get : ∀ t v, lk ρ t = some v → a.tmps[t]? = some v

def post (k : Zk4) (n : Nat) (Q : Exit → Z3 → Zb → Prop) : Exit → Act → World → Prop :=
 fun e a w => ∃ ρ L, Agr n a ρ ∧ Sat k w L ∧ Q e ρ L

def HW (P : Program) (n : Nat) (c : Code) (Q : Exit → Z3 → Zb → Prop) (ρ : Z3) (L : Zb) : Prop :=
 ∀ k w a, Sat k w L → Agr n a ρ → c.wp P (post k n Q) a w

def HO (P : Program) (n : Nat) (ops : List Oper) (Q : Exit → Z3 → Zb → Prop) (l : List Oper) (ρ : Z3) (L : Zb) : Prop :=
 ∀ k w a, Sat k w L → Agr n a ρ → wpList P ops.toArray (post k n Q) l a w

def Zr5 (P : Program) (f : Nat) : Prop := ∀ args w, (callFunc f args).run P w = .ok (.enter f args) w

def HC (P : Program) (f : Nat) (args : List Value) (L : Zb) (Q : Value → Zb → Prop) : Prop :=
 Zr5 P f ∧ ∀ k w, Sat k w L → Calls P f ⟨args⟩ w fun e w' => ∃ v L', e = .returned v ∧ Sat k w' L' ∧ Q v L'

theorem HC.mono {P : Program} {f : Nat} {args : List Value} {L : Zb} {Q Q' : Value → Zb → Prop} (h : HC P f args L Q) (hq : ∀ v L', Q v L' → Q' v L') : HC P f args L Q' :=
 ⟨h.1, fun k w hs => (h.2 k w hs).mono fun e w' ⟨v, L', he, hs', hq'⟩ => ⟨v, L', he, hs', hq v L' hq'⟩⟩

/-! ### the environment -/
theorem V4 (t : Nat) (v : Value) (ρ : Z3) : lk ((t, v) :: ρ) t = some v := by simp [lk]
theorem V3 {t x : Nat} (v : Value) (ρ : Z3) (h : t ≠ x) : lk ((t, v) :: ρ) x = lk ρ x := by
 simp only [lk]
 have : Nat.beq t x = false := by
  cases hb : Nat.beq t x with
  | false => rfl
  | true => exact absurd (Nat.eq_of_beq_eq_true hb) h
 rw [this]; rfl

theorem Agr.put {n : Nat} {a : Act} {ρ : Z3} (h : Agr n a ρ) {d : Nat} (hd : d < n) (v : Value) : Agr n (a.put (some d) v) ((d, v) :: ρ) := by
 refine ⟨by simp [Act.put, h.size], h.defers, fun t x hx => ?_⟩
 by_cases e : d = t
 ·subst e
  rw [V4] at hx
  cases hx
  simp [Act.put, Array.getElem?_setIfInBounds, h.size, hd]
 ·rw [V3 _ _ e] at hx
  simp [Act.put, Array.getElem?_setIfInBounds, e, h.get t x hx]

theorem Agr.none {n : Nat} {a : Act} {ρ : Z3} (h : Agr n a ρ) (v : Value) : Agr n (a.put none v) ρ := h

theorem Agr.ev {n : Nat} {a : Act} {ρ : Z3} (h : Agr n a ρ) {x : Operand} {v : Value} (hv : ev ρ x = some v) : a.eval x = v := by
 cases x with
 | tmp t => simp [Act.eval, h.get t v hv]
 | const c => simpa [HL.ev, Act.eval] using hv
 | global g => simpa [HL.ev, Act.eval] using hv
 | func f => simpa [HL.ev, Act.eval] using hv

def Sub : Z3 → Z3 → Prop
 | [], _ => True
 | (t, v) :: r, ρ => lk ρ t = some v ∧ Sub r ρ

theorem Agr.sub {n : Nat} {a : Act} {ρ : Z3} (h : Agr n a ρ) : ∀ {ρ' : Z3}, Sub ρ' ρ → Agr n a ρ'
 | [], _ => ⟨h.size, h.defers, fun t v hv => by simp [lk] at hv⟩
 | (t, v) :: r, hs => by
  have ih := Agr.sub h hs.2
  refine ⟨h.size, h.defers, fun x u hx => ?_⟩
  by_cases e : t = x
  ·subst e
   rw [V4] at hx
   cases hx
   exact h.get _ _ hs.1
  ·rw [V3 _ _ e] at hx
   exact ih.get x u hx

/-! ### control -/
section control
variable {P : Program} {n : Nat} {Q : Exit → Z3 → Zb → Prop} {ρ : Z3} {L : Zb}

def Yb (P : Program) (n : Nat) (y : Code) (Q : Exit → Z3 → Zb → Prop) : Exit → Z3 → Zb → Prop
 | .normal, ρ, L => HW P n y Q ρ L
 | e, ρ, L => Q e ρ L
def Z6 (id : Nat) (Q : Exit → Z3 → Zb → Prop) : Exit → Z3 → Zb → Prop
 | .exit i, ρ, L => if i = id then Q .normal ρ L else Q (.exit i) ρ L
 | e, ρ, L => Q e ρ L

theorem HW.mono {c : Code} {Q' : Exit → Z3 → Zb → Prop} (h : HW P n c Q ρ L) (hq : ∀ e ρ L, Q e ρ L → Q' e ρ L) : HW P n c Q' ρ L :=
 fun k w a hs ha => wp_mono (h k w a hs ha) fun e a' w' ⟨ρ', L', h1, h2, h3⟩ => ⟨ρ', L', h1, h2, hq _ _ _ h3⟩

theorem Ziq {x y : Code} (h : HW P n x (Yb P n y Q) ρ L) : HW P n (.seq x y) Q ρ L := by
 intro k w a hs ha
 refine wp_seq (wp_mono (h k w a hs ha) fun e a' w' ⟨ρ', L', h1, h2, h3⟩ => ?_)
 cases e with
 | normal => exact h3 k w' a' h2 h1
 | exit id => exact ⟨ρ', L', h1, h2, h3⟩
 | goto l => exact ⟨ρ', L', h1, h2, h3⟩
 | ret => exact ⟨ρ', L', h1, h2, h3⟩
 | panic c => exact ⟨ρ', L', h1, h2, h3⟩
 | outgrown => exact ⟨ρ', L', h1, h2, h3⟩
theorem hw_block {id : Nat} {c : Code} (h : HW P n c (Z6 id Q) ρ L) : HW P n (.block id c) Q ρ L := by
 intro k w a hs ha
 refine wp_block (wp_mono (h k w a hs ha) fun e a' w' ⟨ρ', L', h1, h2, h3⟩ => ?_)
 cases e with
 | exit i =>
  simp only [Z6] at h3
  simp only [Exit.inBlock]
  split
  ·rename_i hi; rw [if_pos hi] at h3; exact ⟨ρ', L', h1, h2, h3⟩
  ·rename_i hi; rw [if_neg hi] at h3; exact ⟨ρ', L', h1, h2, h3⟩
 | normal => exact ⟨ρ', L', h1, h2, h3⟩
 | goto l => exact ⟨ρ', L', h1, h2, h3⟩
 | ret => exact ⟨ρ', L', h1, h2, h3⟩
 | panic c => exact ⟨ρ', L', h1, h2, h3⟩
 | outgrown => exact ⟨ρ', L', h1, h2, h3⟩
theorem hw_skip (h : Q .normal ρ L) : HW P n .skip Q ρ L := fun k w a hs ha => wp_skip ⟨ρ, L, ha, hs, h⟩
theorem hw_exit {id : Nat} (h : Q (.exit id) ρ L) : HW P n (.exit id) Q ρ L := fun k w a hs ha => wp_exit ⟨ρ, L, ha, hs, h⟩
theorem hw_ret (h : Q .ret ρ L) : HW P n .ret Q ρ L := fun k w a hs ha => wp_ret ⟨ρ, L, ha, hs, h⟩
theorem hw_true {c : Operand} {x y : Code} {b : Bool} (hc : ev ρ c = some (.bool b)) (hb : b = true) (h : HW P n x Q ρ L) : HW P n (.cond c x y) Q ρ L :=
 fun k w a hs ha => wp_cond_true (ha.ev (hb ▸ hc)) (h k w a hs ha)
theorem hw_false {c : Operand} {x y : Code} {b : Bool} (hc : ev ρ c = some (.bool b)) (hb : b = false) (h : HW P n y Q ρ L) : HW P n (.cond c x y) Q ρ L :=
 fun k w a hs ha => wp_cond_false (ha.ev (hb ▸ hc)) (h k w a hs ha)
theorem hw_bool {c : Operand} {x y : Code} {b : Bool} (hc : ev ρ c = some (.bool b)) (ht : b = true → HW P n x Q ρ L) (hf : b = false → HW P n y Q ρ L) : HW P n (.cond c x y) Q ρ L := by
 intro k w a hs ha
 exact wp_cond_split (ha.ev hc) (fun h => ht h k w a hs ha) (fun h => hf h k w a hs ha)
theorem Zba {id : Nat} {l : List Oper} (h : HO P n l Q l ρ L) : HW P n (.region id l.toArray false) Q ρ L :=
 fun k w a hs ha => wp_region_lit (h k w a hs ha)

theorem Zpv {y : Code} (h : HW P n y Q ρ L) : Yb P n y Q .normal ρ L := h
theorem seqQ_ret {y : Code} (h : Q .ret ρ L) : Yb P n y Q .ret ρ L := h
theorem Zwg {y : Code} {i : Nat} (h : Q (.exit i) ρ L) : Yb P n y Q (.exit i) ρ L := h
theorem Zo3 {id : Nat} (h : Q .normal ρ L) : Z6 id Q .normal ρ L := h
theorem blkQ_ret {id : Nat} (h : Q .ret ρ L) : Z6 id Q .ret ρ L := h
theorem Zvg {id : Nat} (h : Q .normal ρ L) : Z6 id Q (.exit id) ρ L := by simpa [Z6] using h
theorem Zu5 {id i : Nat} (hn : Nat.beq i id = false) (h : Q (.exit i) ρ L) : Z6 id Q (.exit i) ρ L := by
 have : i ≠ id := fun e => by subst e; simp at hn
 simpa [Z6, this] using h

theorem Zgh {c : Code} {ρ' : Z3} (h : HW P n c Q ρ' L) (hs : Sub ρ' ρ) : HW P n c Q ρ L := fun k w a hs' ha => h k w a hs' (ha.sub hs)

theorem W0 : ∀ {l₁ l₂ : Zb}, List.Sublist l₁ l₂ → List.Sublist l₁.flatten l₂.flatten
 | _, _, .slnil => List.Sublist.refl _
 | _, _, .cons a h => by
  simp only [List.flatten_cons]
  exact (W0 h).trans (List.sublist_append_right _ _)
 | _, _, .cons_cons a h => by
  simp only [List.flatten_cons]
  exact (List.append_sublist_append_left a).2 (W0 h)
theorem Sat.sub {k : Zk4} {w : World} {L' : Zb} (h : Sat k w L) (hs : List.Sublist L' L) : Sat k w L' :=
 ⟨h.os, h.out, h.tape, fun p hp => h.has p ((W0 hs).subset hp), h.nodup.sublist ((W0 hs).map _)⟩
theorem Sat.perm {k : Zk4} {w : World} {L' : Zb} (h : Sat k w L) (hs : List.Perm L L') : Sat k w L' :=
 ⟨h.os, h.out, h.tape, fun p hp => h.has p (hs.flatten.mem_iff.2 hp), (hs.flatten.map _).nodup_iff.1 h.nodup⟩
theorem hw_perm {c : Code} {L' : Zb} (h : HW P n c Q ρ L') (hs : List.Perm L L') : HW P n c Q ρ L := fun k w a hs' ha => h k w a (hs'.perm hs) ha

/-! ### other cuts of the same blocks -/
def LS (a b : List Zq) : Prop := ∃ l, List.Perm l a ∧ List.Sublist l b
theorem LS.refl (a : List Zq) : LS a a := ⟨a, .refl _, .refl _⟩
theorem LS.of_eq {a b : List Zq} (h : a = b) : LS a b := h ▸ LS.refl a
theorem LS.of_perm {a b : List Zq} (h : List.Perm a b) : LS a b := ⟨b, h.symm, .refl _⟩
theorem LS.of_sub {a b : List Zq} (h : List.Sublist a b) : LS a b := ⟨a, .refl _, h⟩
theorem LS.skip {a b : List Zq} (x : Zq) (h : LS a b) : LS a (x :: b) := let ⟨l, h1, h2⟩ := h; ⟨l, h1, .cons _ h2⟩
theorem LS.both {a b : List Zq} (x : Zq) (h : LS a b) : LS (x :: a) (x :: b) := let ⟨l, h1, h2⟩ := h; ⟨x :: l, h1.cons x, h2.cons_cons x⟩
theorem LS.skips {a b : List Zq} (c : List Zq) (h : LS a b) : LS a (c ++ b) := let ⟨l, h1, h2⟩ := h; ⟨l, h1, h2.trans (List.sublist_append_right _ _)⟩
theorem LS.boths {a b : List Zq} (c : List Zq) (h : LS a b) : LS (c ++ a) (c ++ b) := let ⟨l, h1, h2⟩ := h; ⟨c ++ l, h1.append_left c, (List.append_sublist_append_left c).2 h2⟩
theorem LS.c {a x : List Zq} {L : Zb} (h : LS a L.flatten) : LS a (x :: L).flatten := by rw [List.flatten_cons]; exact h.skips x
theorem LS.k {x : List Zq} {A L : Zb} (h : LS A.flatten L.flatten) : LS (x :: A).flatten (x :: L).flatten := by rw [List.flatten_cons, List.flatten_cons]; exact h.boths x
theorem LS.trans {a b c : List Zq} (h : LS a b) (h' : LS b c) : LS a c := by
 obtain ⟨l, h1, h2⟩ := h
 obtain ⟨m, h3, h4⟩ := h'
 obtain ⟨l', h5, h6⟩ := List.exists_perm_sublist h2 h3.symm
 exact ⟨l', h5.trans h1, h6.trans h4⟩
theorem Sat.sp {k : Zk4} {w : World} {L L' : Zb} (h : Sat k w L) (hf : LS L'.flatten L.flatten) : Sat k w L' := by
 obtain ⟨l, hp, hs⟩ := hf
 refine ⟨h.os, h.out, h.tape, fun p hp' => h.has p (hs.subset (hp.mem_iff.2 hp')), ?_⟩
 exact (hp.map _).nodup_iff.1 (h.nodup.sublist (hs.map _))
def Zr {σ : Type} (env : σ → Z3) (heap : σ → Zb) (inv : σ → Prop) (μ : σ → Nat) (m : Nat) (Q : Exit → Z3 → Zb → Prop) : Exit → Z3 → Zb → Prop
 | .normal, ρ, L => ∃ s', Sub (env s') ρ ∧ LS (heap s').flatten L.flatten ∧ inv s' ∧ μ s' < m
 | e, ρ, L => Q e ρ L
theorem Zn {σ : Type} {c : Code} (env : σ → Z3) (heap : σ → Zb) (inv : σ → Prop) (μ : σ → Nat) (s : σ)
  (hρ : Sub (env s) ρ) (hL : List.Sublist (heap s) L) (hi : inv s)
  (round : ∀ s, inv s → HW P n c (Zr env heap inv μ (μ s) Q) (env s) (heap s)) : HW P n (.loop c) Q ρ L := by
 intro k w a hs ha b kk cs
 have key : ∀ m s, μ s = m → inv s → ∀ a w, Sat k w (heap s) → Agr n a (env s) →
   ∃ e a' w', post k n Q e a' w' ∧ Arrives P (lone (b.at a (.code c :: .inLoop c :: kk)) cs w) b kk cs e a' w' := by
  intro m
  induction m using Nat.strongRecOn with
  | _ m ih =>
   intro s hm hi a w hs ha
   obtain ⟨e, a₁, w₁, ⟨ρ₁, L₁, ha₁, hs₁, hq⟩, harr⟩ := round s hi k w a hs ha b (.inLoop c :: kk) cs
   cases e with
   | normal =>
    obtain ⟨s', hsub, hL', hi', hlt⟩ := hq
    obtain ⟨e₂, a₂, w₂, hq₂, harr₂⟩ := ih (μ s') (hm ▸ hlt) s' rfl hi' a₁ w₁ (hs₁.sp hL') (ha₁.sub hsub)
    exact ⟨e₂, a₂, w₂, hq₂, .of_steps (Steps.trans harr (.one step_inLoop)) harr₂⟩
   | exit id => exact ⟨_, a₁, w₁, ⟨ρ₁, L₁, ha₁, hs₁, hq⟩, .pass (x := .inLoop c) rfl (fun _ _ => .inl (by simp)) harr⟩
   | goto l => exact ⟨_, a₁, w₁, ⟨ρ₁, L₁, ha₁, hs₁, hq⟩, .pass (x := .inLoop c) rfl (fun _ _ => .inl (by simp)) harr⟩
   | ret => exact ⟨_, a₁, w₁, ⟨ρ₁, L₁, ha₁, hs₁, hq⟩, .pass (x := .inLoop c) rfl (fun _ _ => .inl (by simp)) harr⟩
   | panic ch => exact ⟨_, a₁, w₁, ⟨ρ₁, L₁, ha₁, hs₁, hq⟩, .pass (x := .inLoop c) rfl (fun _ _ => .inl (by simp)) harr⟩
   | outgrown => exact ⟨_, a₁, w₁, ⟨ρ₁, L₁, ha₁, hs₁, hq⟩, .pass (x := .inLoop c) rfl (fun _ _ => .inl (by simp)) harr⟩
 obtain ⟨e, a', w', hq, harr⟩ := key _ s rfl hi a w (hs.sub hL) (ha.sub hρ)
 exact ⟨e, a', w', hq, .of_steps (.one step_loop) harr⟩
theorem Zvb {σ : Type} {env : σ → Z3} {heap : σ → Zb} {inv : σ → Prop} {μ : σ → Nat} {m : Nat} (h : Q .ret ρ L) : Zr env heap inv μ m Q .ret ρ L := h
theorem Zsg {σ : Type} {env : σ → Z3} {heap : σ → Zb} {inv : σ → Prop} {μ : σ → Nat} {m i : Nat} (h : Q (.exit i) ρ L) : Zr env heap inv μ m Q (.exit i) ρ L := h
theorem Zk {σ : Type} {env : σ → Z3} {heap : σ → Zb} {inv : σ → Prop} {μ : σ → Nat} {m : Nat} (s' : σ) (h : Sub (env s') ρ) (hL : List.Sublist (heap s') L) (hi : inv s') (hm : μ s' < m) : Zr env heap inv μ m Q .normal ρ L := ⟨s', h, LS.of_sub (W0 hL), hi, hm⟩
theorem Zg {σ : Type} {env : σ → Z3} {heap : σ → Zb} {inv : σ → Prop} {μ : σ → Nat} {m : Nat} (s' : σ) (h : Sub (env s') ρ) (hL : LS (heap s').flatten L.flatten) (hi : inv s') (hm : μ s' < m) : Zr env heap inv μ m Q .normal ρ L := ⟨s', h, hL, hi, hm⟩
end control

/-! ### a function -/
def Xr (P : Program) (fn : Func) (Q : Value → Zb → Prop) : Exit → Z3 → Zb → Prop
 | .normal, ρ, L | .ret, ρ, L => ∀ (k : Zk4) (w : World) (a : Act), Sat k w L → Agr fn.ntmps a ρ → ∃ v L', (results fn a.tmps).run P w = .ok v w ∧ Sat k w L' ∧ Q v L'
 | _, _, _ => False

def Zc : Nat → List Value → Z3
 | _, [] => []
 | i, v :: r => (i, v) :: Zc (i + 1) r

theorem lk_args0 (vs : List Value) : ∀ (i t : Nat) (v : Value), lk (Zc i vs) t = some v → i ≤ t ∧ vs[t - i]? = some v := by
 induction vs with
 | nil => intro i t v h; simp [Zc, lk] at h
 | cons x r ih =>
  intro i t v h
  simp only [Zc] at h
  by_cases e : i = t
  ·subst e
   rw [V4] at h
   cases h
   simp
  ·rw [V3 _ _ e] at h
   obtain ⟨h1, h2⟩ := ih (i + 1) t v h
   refine ⟨by omega, ?_⟩
   rw [show t - i = (t - (i + 1)) + 1 by omega]
   simpa using h2

theorem Za {P : Program} {f : Nat} {fn : Func} {c : Code} {args : List Value} {L : Zb} {Q : Value → Zb → Prop}
  (he : Zr5 P f) (hf : P.funcs[f]? = some fn) (hb : fn.body = some c) {n : Nat} (hn : fn.ntmps = n) (hlen : args.length ≤ n)
  (h : HW P n c (Xr P fn Q) (Zc 0 args) L) : HC P f args L Q := by
 subst hn
 refine ⟨he, fun k w hs => calls_of_wp hf hb (wp_mono (h k w _ hs ⟨?_, rfl, ?_⟩) ?_)⟩
 ·have hlen' : args.length ≤ fn.ntmps := hlen
  simp; omega
 ·intro t v hv
  obtain ⟨_, h2⟩ := lk_args0 args 0 t v hv
  have hlt : t < args.length := (List.getElem?_eq_some_iff.1 h2).1
  rw [Array.getElem?_append_left (by simpa using hlt)]
  simpa using h2
 ·intro e a' w' ⟨ρ', L', ha', hs', hq⟩
  cases e with
  | normal =>
   obtain ⟨v, L2, hr, hs2, hq2⟩ := hq k w' a' hs' ha'
   exact ⟨ha'.defers, v, hr, v, L2, rfl, hs2, hq2⟩
  | ret =>
   obtain ⟨v, L2, hr, hs2, hq2⟩ := hq k w' a' hs' ha'
   exact ⟨ha'.defers, v, hr, v, L2, rfl, hs2, hq2⟩
  | exit i => exact hq.elim
  | goto i => exact hq.elim
  | panic ch => exact hq.elim
  | outgrown => exact hq.elim

section results
variable {P : Program} {fn : Func} {Q : Value → Zb → Prop} {ρ : Z3} {L : Zb}
def ResV (P : Program) (ρ : Z3) (L : Zb) : ResultVar → Value → Prop
 | .tmp t, v => lk ρ t = some v
 | .cell t T, v => ∃ p, lk ρ t = some (.pointer (some p)) ∧ ∀ k w, Sat k w L → (loadVar T p).run P w = .ok v w
def rv (tmps : Array Value) : ResultVar → Sem Value
 | .tmp t => pure (tmps.getD t undef)
 | .cell a t => do loadVar t (← asAddr (tmps.getD a undef))
theorem V6 (fn : Func) (tmps : Array Value) : results fn tmps = (do
 let vs ← fn.results.mapM (rv tmps)
 pure (if h : vs.size = 1 then vs[0] else .tuple vs)) := rfl
theorem ResV.run {n : Nat} {r : ResultVar} {v : Value} (h : ResV P ρ L r v) {k : Zk4} {w : World} {a : Act} (hs : Sat k w L) (ha : Agr n a ρ) : (rv a.tmps r).run P w = .ok v w := by
 cases r with
 | tmp t => simp [rv, ha.get _ _ h]
 | cell t T =>
  obtain ⟨p, hp, hr⟩ := h
  simp [rv, ha.get _ _ hp, asAddr, hr k w hs]
theorem Y8 {r : ResultVar} {v : Value} (hr : fn.results = #[r]) (hv : ResV P ρ L r v) {L' : Zb} (hL : List.Sublist L' L) (h : Q v L') : Xr P fn Q .ret ρ L :=
 fun k w a hs ha => ⟨v, L', by simp [V6, hr, hv.run hs ha], hs.sub hL, h⟩
theorem X2 {r s : ResultVar} {x y : Value} (hr : fn.results = #[r, s]) (hx : ResV P ρ L r x) (hy : ResV P ρ L s y) {L' : Zb} (hL : List.Sublist L' L)
  (h : Q (.tuple ⟨[x, y]⟩) L') : Xr P fn Q .ret ρ L :=
 fun k w a hs ha => ⟨.tuple ⟨[x, y]⟩, L', by simp [V6, hr, hx.run hs ha, hy.run hs ha], hs.sub hL, h⟩
end results
end Go.HL
end

/-! HLOps -/
section
namespace Go.HL
open Go
set_option linter.unusedVariables false
set_option linter.unusedSimpArgs false

/-! ### the types that a program has, as9 numbers -/
structure TyI where
 kind : Nat   -- 0 other, 1 bool, 2 int, 3 string, 4 pointer, 5 slice, 6 array, 7 struct, 8 map, 9 interface, 10 func
 x : Nat
 y : Nat
 size : Nat
 bytes : Nat
 deriving DecidableEq

def Zcl : IntKind → Nat
 | .i8 => 0 | .i16 => 1 | .i32 => 2 | .i64 => 3 | .u8 => 4 | .u16 => 5 | .u32 => 6 | .u64 => 7
def Qk : Nat → IntKind
 | 0 => .i8 | 1 => .i16 | 2 => .i32 | 3 => .i64 | 4 => .u8 | 5 => .u16 | 6 => .u32 | _ => .u64
theorem Zbl (k : IntKind) : Qk (Zcl k) = k := by cases k <;> rfl

def Q1 : TypeDesc → Nat × Nat × Nat
 | .bool => (1, 0, 0)
 | .int k => (2, Zcl k, 0)
 | .string => (3, 0, 0)
 | .pointer e => (4, e, 0)
 | .slice e => (5, e, 0)
 | .array n e => (6, n, e)
 | .struct fs => (7, fs.size, 0)
 | .map k e => (8, k, e)
 | .interface ms => (9, ms.size, 0)
 | .func ps rs _ => (10, ps.size, rs.size)
 | _ => (0, 0, 0)
def tyI (P : Program) (t : Nat) : Option TyI :=
 match P.underlying t, P.info? t with
 | some d, some i => some ⟨(Q1 d).1, (Q1 d).2.1, (Q1 d).2.2, i.size, i.bytes⟩
 | _, _ => none
def fldI (P : Program) (s f : Nat) : Option Nat :=
 match P.underlying s with
 | some (.struct fs) => match fs[f]? with
  | some fd => match P.info? fd.type with
   | some i => if i.size = 0 then none else some fd.offset
   | none => none
  | none => none
 | _ => none
def fldT (P : Program) (s f : Nat) : Option (Nat × Nat) :=
 match P.underlying s with
 | some (.struct fs) => match fs[f]? with
  | some fd => some (fd.offset, fd.type)
  | none => none
 | _ => none
def stI (P : Program) (t : Nat) : Option (List (Nat × Nat × Nat)) :=
 match P.underlying t with
 | some (.struct fs) => fs.toList.mapM fun f => (P.info? f.type).map fun i => (f.offset, i.size, f.type)
 | _ => none
def zeroI (P : Program) (t : Nat) : Option Value := (P.info? t).bind (·.zero)

def Yl {α : Type} : List (Nat × α) → Nat → Option α
 | [], _ => none
 | (t, v) :: r, x => bif Nat.beq t x then some v else Yl r x
theorem Zbp {α : Type} {l : List (Nat × α)} {x : Nat} {v : α} (h : Yl l x = some v) : (x, v) ∈ l := by
 induction l with
 | nil => simp [Yl] at h
 | cons p r ih =>
  obtain ⟨t, u⟩ := p
  simp only [Yl] at h
  cases hb : Nat.beq t x with
  | true =>
   rw [hb] at h
   cases h
   have := Nat.eq_of_beq_eq_true hb
   subst this
   exact .head _
  | false => rw [hb] at h; exact .tail _ (ih h)

def Zkw (g : Nat → Option (List Nat)) : List Field → Nat → Option (List Nat)
 | [], _ => some []
 | f :: r, off => match g f.type with
  | some l => if f.name ≠ "_" ∧ f.offset = off ∧ 0 < l.length then (match Zkw g r (off + l.length) with
   | some m => some (l ++ m)
   | none => none) else none
  | none => none
def Zal (P : Program) : Nat → Nat → Option (List Nat)
 | 0, _ => none
 | d + 1, t => match P.underlying t, P.info? t with
  | some .bool, some i => if i.size = 1 then some [1] else none
  | some (.int _), some i => if i.size = 1 then some [2] else none
  | some .string, some i => if i.size = 1 then some [3] else none
  | some (.struct fs), some i => if P.stoodInHeld t = true then none else (match Zkw (Zal P d) fs.toList 0 with
   | some l => if i.size = l.length then some l else none
   | none => none)
  | some (.array n e), some i => (match Zal P d e with
   | some l => if i.size = n * l.length ∧ (P.info? e).map (·.size) = some l.length ∧ 0 < l.length then some (List.replicate n l).flatten else none
   | none => none)
  | _, _ => none
def Zlg (P : Program) (t : Nat) : Bool := match P.underlying t with
 | some (.struct _) => true
 | some (.array _ _) => true
 | _ => false
structure Tab (P : Program) where
 ty : List (Nat × TyI)
 fl : List (Nat × Nat × Nat)
 zr : List (Nat × Value)
 st : List (Nat × List (Nat × Nat × Nat))
 eq : List (Nat × List Nat)
 ty_ok : (ty.all fun p => decide (tyI P p.1 = some p.2)) = true
 fl_ok : (fl.all fun p => decide (fldI P (p.1 / 64) (p.1 % 64) = some p.2.1) && decide (fldT P (p.1 / 64) (p.1 % 64) = some p.2)) = true
 zr_ok : ∀ p ∈ zr, zeroI P p.1 = some p.2
 st_ok : (st.all fun p => decide (stI P p.1 = some p.2)) = true
 eq_ok : (eq.all fun p => decide (Zal P 8 p.1 = some p.2) && Zlg P p.1 && !(P.eqGuardType P.depth p.1)) = true
 mixed : P.follows .mixedOrders = true

section tab
variable {P : Program} (S : Tab P)
theorem Tab.tyI {t : Nat} {i : TyI} (h : Yl S.ty t = some i) : HL.tyI P t = some i := by
 have := List.all_eq_true.1 S.ty_ok _ (Zbp h)
 exact of_decide_eq_true this
theorem Tab.fldI {s f o ft : Nat} (h : Yl S.fl (s * 64 + f) = some (o, ft)) (hf : Nat.blt f 64 = true) : HL.fldI P s f = some o ∧ HL.fldT P s f = some (o, ft) := by
 have hf' : f < 64 := Nat.le_of_ble_eq_true hf
 have := List.all_eq_true.1 S.fl_ok _ (Zbp h)
 simp only [Bool.and_eq_true, decide_eq_true_eq] at this
 have e1 : (s * 64 + f) / 64 = s := by omega
 have e2 : (s * 64 + f) % 64 = f := by omega
 rw [e1, e2] at this
 exact this
theorem Tab.stI {t : Nat} {i : List (Nat × Nat × Nat)} (h : Yl S.st t = some i) : HL.stI P t = some i := by
 have := List.all_eq_true.1 S.st_ok _ (Zbp h)
 exact of_decide_eq_true this
theorem Tab.zeroI {t : Nat} {v : Value} (h : Yl S.zr t = some v) : HL.zeroI P t = some v := S.zr_ok _ (Zbp h)
end tab

section tyfacts
variable {P : Program} {t : Nat} {i : TyI}
theorem X5 (h : tyI P t = some i) : ∃ d j, P.underlying t = some d ∧ P.info? t = some j ∧ Q1 d = (i.kind, i.x, i.y) ∧ j.size = i.size ∧ j.bytes = i.bytes := by
 unfold tyI at h
 split at h
 ·rename_i d j hd hj
  cases h
  exact ⟨d, j, hd, hj, rfl, rfl, rfl⟩
 ·cases h
theorem Xz (h : tyI P t = some i) (w : World) : (sizeOf t).run P w = .ok i.size w := by
 obtain ⟨d, j, hd, hj, _, hs, _⟩ := X5 h
 simp [sizeOf, typeInfo, hj, hs]
theorem Zvr (h : tyI P t = some i) (hk : Nat.beq i.kind 6 = false) (hk' : Nat.beq i.kind 7 = false) (w : World) : (isAgg t).run P w = .ok false w := by
 obtain ⟨d, j, hd, hj, he, hs, _⟩ := X5 h
 have k6 : i.kind ≠ 6 := fun e => by rw [e] at hk; cases hk
 have k7 : i.kind ≠ 7 := fun e => by rw [e] at hk'; cases hk'
 cases d <;> simp [isAgg, run_underlying hd] <;> simp [Q1] at he <;> omega
theorem ty_agg (h : tyI P t = some i) (hk : (Nat.beq i.kind 6 || Nat.beq i.kind 7) = true) (w : World) : (isAgg t).run P w = .ok true w := by
 obtain ⟨d, j, hd, hj, he, hs, _⟩ := X5 h
 have k : i.kind = 6 ∨ i.kind = 7 := by
  simp only [Bool.or_eq_true] at hk
  exact hk.imp Nat.eq_of_beq_eq_true Nat.eq_of_beq_eq_true
 cases d <;> simp [isAgg, run_underlying hd] <;> simp [Q1] at he <;> omega
theorem Zgv (h : tyI P t = some i) (hk : i.kind = 2) : P.underlying t = some (.int (Qk i.x)) := by
 obtain ⟨d, j, hd, hj, he, hs, _⟩ := X5 h
 rw [hd]
 cases d <;> simp [Q1, hk] at he
 rw [← he.1, Zbl]
theorem Ztj (h : tyI P t = some i) (hk : i.kind = 1) : P.underlying t = some .bool := by
 obtain ⟨d, j, hd, hj, he, hs, _⟩ := X5 h
 rw [hd]
 cases d <;> simp [Q1, hk] at he
 rfl
theorem Qz (h : tyI P t = some i) (hk : i.kind = 3) : P.underlying t = some .string := by
 obtain ⟨d, j, hd, hj, he, hs, _⟩ := X5 h
 rw [hd]
 cases d <;> simp [Q1, hk] at he
 rfl
theorem Zbq (h : tyI P t = some i) (hk : i.kind = 4) : P.underlying t = some (.pointer i.x) := by
 obtain ⟨d, j, hd, hj, he, hs, _⟩ := X5 h
 rw [hd]
 cases d <;> simp [Q1, hk] at he
 rw [he.1]
theorem Yz (h : tyI P t = some i) (hk : i.kind = 5) : P.underlying t = some (.slice i.x) := by
 obtain ⟨d, j, hd, hj, he, hs, _⟩ := X5 h
 rw [hd]
 cases d <;> simp [Q1, hk] at he
 rw [he.1]
theorem Zkr (h : tyI P t = some i) (hk : i.kind = 6) : P.underlying t = some (.array i.x i.y) := by
 obtain ⟨d, j, hd, hj, he, hs, _⟩ := X5 h
 rw [hd]
 cases d <;> simp [Q1, hk] at he
 rw [he.1, he.2]
theorem ty_map (h : tyI P t = some i) (hk : i.kind = 8) : P.underlying t = some (.map i.x i.y) := by
 obtain ⟨d, j, hd, hj, he, hs, _⟩ := X5 h
 rw [hd]
 cases d <;> simp [Q1, hk] at he
 rw [he.1, he.2]
theorem Zlp (h : tyI P t = some i) : (P.underlying t).isSome = true := by
 obtain ⟨d, j, hd, hj, he, hs, _⟩ := X5 h
 simp [hd]
theorem Q6 {v : Value} (h : zeroI P t = some v) (w : World) : (zeroValue t).run P w = .ok v w := by
 unfold zeroI at h
 cases hj : P.info? t with
 | none => simp [hj] at h
 | some j =>
  simp [hj] at h
  simp [zeroValue, typeInfo, hj, h]
end tyfacts

/-! ### blocks -/
def Has (L : Zb) (b : Nat) (o : Obj) : Prop := (b, o) ∈ L.flatten
theorem Zv {b : Nat} {o : Obj} {c : List Zq} {L : Zb} : Has (((b, o) :: c) :: L) b o := by simp [Has]
theorem Vw {b : Nat} {o : Obj} {e : Zq} {c : List Zq} {L : Zb} (h : Has (c :: L) b o) : Has ((e :: c) :: L) b o := by
 simp only [Has, List.flatten_cons, List.cons_append, List.mem_cons] at *
 exact .inr h
theorem Zf {b : Nat} {o : Obj} {c : List Zq} {L : Zb} (h : Has L b o) : Has (c :: L) b o := by
 simp only [Has, List.flatten_cons, List.mem_append] at *
 exact .inr h
theorem Yu {b : Nat} {o : Obj} {c : List Zq} {L : Zb} (h : (b, o) ∈ c) : Has (c :: L) b o := by
 simp only [Has, List.flatten_cons, List.mem_append]
 exact .inl h
theorem Sat.heap {k : Zk4} {w : World} {L : Zb} (h : Sat k w L) {b : Nat} {o : Obj} (hb : Has L b o) : w.heap[b]? = some o := h.has _ hb
theorem Sat.cell {k : Zk4} {w : World} {L : Zb} (h : Sat k w L) {b : Nat} {l : List Value} {E : Nat} {fr : Nat × Nat} (hb : Has L b (.cells ⟨l⟩ E fr)) (j : Nat) : w.cell? ⟨b, j, none⟩ = l[j]? := by
 rw [cell_of_row w b j ⟨l⟩ E fr (h.heap hb)]
 simp

def Gets (l : List Value) (i : Nat) (vs : List Value) : Prop := ∀ j v, vs[j]? = some v → l[i + j]? = some v
theorem Ze {l : List Value} {i : Nat} {a : Value} {vs : List Value} (h : l[i]? = some a) (h2 : Gets l (i + 1) vs) : Gets l i (a :: vs) := by
 intro j v hj
 match j with
 | 0 => simp at hj; subst hj; simpa using h
 | j + 1 =>
  have := h2 j v (by simpa using hj)
  rw [show i + (j + 1) = i + 1 + j by omega]
  exact this
theorem Ym {l : List Value} {i : Nat} : Gets l i [] := by intro j v hj; simp at hj

theorem W3 (b i n : Nat) : (Addr.mk b i none).add n = ⟨b, i + n, none⟩ := by
 unfold Addr.add
 split
 ·rename_i h; subst h; rfl
 ·rfl
theorem Zem {P : Program} {k : Zk4} {w : World} {L : Zb} (hs : Sat k w L) {b i E : Nat} {l vs : List Value} {fr : Nat × Nat} (hb : Has L b (.cells ⟨l⟩ E fr)) (hg : Gets l i vs) :
  (loadCells ⟨b, i, none⟩ vs.length).run P w = .ok ⟨vs⟩ w := by
 have := run_loadCells_list (P := P) w ⟨b, i, none⟩ vs (fun j v hj => by rw [W3, hs.cell hb]; exact hg j v hj)
 simpa using this

/-! ### an operation that yields one value and leaves the blocks as9 they are -/
def QOp (P : Program) (o : Oper) (ρ : Z3) (L : Zb) (v : Value) : Prop :=
 ∀ k a, (∀ x ∈ o.op.operands, ∀ u, ev ρ x = some u → a.eval x = u) → ∀ w, Sat k w L → o.quietAt P a (fun w' => Sat k w' L) w v

section rules
variable {P : Program} {n : Nat} {ops : List Oper} {Q : Exit → Z3 → Zb → Prop} {rest : List Oper} {o : Oper} {ρ : Z3} {L : Zb}

theorem Ua (o : Oper) (h : o.guard = none) (y : Nat → Option Bool) : Region.wanted o y = true := by simp [Region.wanted, h]
theorem ho_nil (h : Q .normal ρ L) : HO P n ops Q [] ρ L := fun k w a hs ha => ⟨ρ, L, ha, hs, h⟩
theorem Zj9 {k : Zk4} {w : World} {a : Act} {v : Value} {K : Act → World → Prop} {Q' : Exit → Act → World → Prop} (hs : Sat k w L) (h : o.quietAt P a (fun w' => Sat k w' L) w v)
  (hK : ∀ w', Sat k w' L → K (a.put o.dst v) w') : o.wp P a w K Q' := by
 unfold Oper.quietAt at h
 unfold Oper.wp
 generalize (execOp a.eval o).run P w = r at *
 cases r with
 | ok nx w' =>
  cases nx <;> simp only [Oper.quietUpon] at h <;> simp only [Oper.upon]
  case value u =>
   obtain ⟨e1, e2⟩ := h
   rw [e1, e2]
   exact hK _ hs
  case skip =>
   obtain ⟨e1, e2⟩ := h
   rw [e1, ← e2]
   exact hK _ hs
  case enter f args =>
   obtain ⟨e1, hc⟩ := h
   rw [e1]
   exact hc.mono fun e w'' ⟨he, hw''⟩ => by subst he; exact hK _ hw''
 | halt x w' => simp only [Oper.quietUpon] at h

theorem ho_q {v : Value} {d : Nat} {op : Op} {ty : TypeId} {pos : String} {af : Array Edge} (hn : Nat.blt d n = true) (h : QOp P ⟨some d, op, ty, pos, af, none⟩ ρ L v) (hr : HO P n ops Q rest ((d, v) :: ρ) L) :
  HO P n ops Q (⟨some d, op, ty, pos, af, none⟩ :: rest) ρ L := by
 have hg : (Oper.mk (some d) op ty pos af none).guard = none := rfl
 intro k w a hs ha
 have hlt : d < n := Nat.le_of_ble_eq_true hn
 unfold wpList
 rw [if_pos (Ua _ hg _)]
 refine .inl (Zj9 hs (h k a (fun x _ u hu => ha.ev hu) w hs) fun w' hs' => ?_)
 exact hr k w' _ hs' (ha.put hlt v)

def Q0 (ops : List Oper) (j : Nat) : Option Nat := (ops[j]?).bind (·.dst)
theorem Vo {a : Act} {j t : Nat} {b wt : Bool} (ha : Agr n a ρ) (hg : o.guard = some (j, wt)) (hj : Q0 ops j = some t) (ht : lk ρ t = some (.bool b)) : Region.wanted o (yielded ops.toArray a.tmps) = (b == wt) := by
 unfold Q0 at hj
 simp [Region.wanted, hg, yielded, hj, ha.get _ _ ht]
theorem Ztg {v : Value} {d j t : Nat} {wt : Bool} {op : Op} {ty : TypeId} {pos : String} {af : Array Edge} (hn : Nat.blt d n = true) (hj : Q0 ops j = some t) (ht : lk ρ t = some (.bool wt)) (h : QOp P ⟨some d, op, ty, pos, af, some (j, wt)⟩ ρ L v)
  (hr : HO P n ops Q rest ((d, v) :: ρ) L) : HO P n ops Q (⟨some d, op, ty, pos, af, some (j, wt)⟩ :: rest) ρ L := by
 have hg : (Oper.mk (some d) op ty pos af (some (j, wt))).guard = some (j, wt) := rfl
 intro k w a hs ha
 have hlt : d < n := Nat.le_of_ble_eq_true hn
 unfold wpList
 rw [if_pos (by rw [Vo ha hg hj ht]; simp)]
 refine .inl (Zj9 hs (h k a (fun x _ u hu => ha.ev hu) w hs) fun w' hs' => ?_)
 exact hr k w' _ hs' (ha.put hlt v)
theorem Ztf {d j t : Nat} {wt b : Bool} {op : Op} {ty : TypeId} {pos : String} {af : Array Edge} (hn : Nat.blt d n = true) (hj : Q0 ops j = some t) (ht : lk ρ t = some (.bool b)) (hb : (!wt) = b)
  (hr : HO P n ops Q rest ((d, undef) :: ρ) L) : HO P n ops Q (⟨some d, op, ty, pos, af, some (j, wt)⟩ :: rest) ρ L := by
 subst hb
 have hg : (Oper.mk (some d) op ty pos af (some (j, wt))).guard = some (j, wt) := rfl
 intro k w a hs ha
 have hlt : d < n := Nat.le_of_ble_eq_true hn
 unfold wpList
 rw [if_neg (by rw [Vo ha hg hj ht]; cases wt <;> simp)]
 exact hr k w _ hs (ha.put hlt undef)
theorem Agr.name {a : Act} (ha : Agr n a ρ) {t : Nat} {b c : Bool} (ht : lk ρ t = some (.bool b)) (hb : b = c) : Agr n a ((t, .bool c) :: ρ) := by
 subst hb
 refine ⟨ha.size, ha.defers, fun x u hx => ?_⟩
 by_cases e : t = x
 ·subst e
  rw [V4] at hx
  cases hx
  exact ha.get _ _ ht
 ·rw [V3 _ _ e] at hx
  exact ha.get _ _ hx
theorem Zwf {l : List Oper} (t : Nat) {b : Bool} (ht : lk ρ t = some (.bool b)) (h1 : b = true → HO P n ops Q l ((t, .bool true) :: ρ) L) (h0 : b = false → HO P n ops Q l ((t, .bool false) :: ρ) L) : HO P n ops Q l ρ L := by
 intro k w a hs ha
 cases hb : b with
 | true => exact h1 hb k w a hs (ha.name ht hb)
 | false => exact h0 hb k w a hs (ha.name ht hb)
theorem ho_skipu {d j t : Nat} {wt : Bool} {v : Value} {op : Op} {ty : TypeId} {pos : String} {af : Array Edge} (hj : Q0 ops j = some t) (ht : lk ρ t = some v) (hb : v = undef) (hn : Nat.blt d n = true)
  (hr : HO P n ops Q rest ((d, undef) :: ρ) L) : HO P n ops Q (⟨some d, op, ty, pos, af, some (j, wt)⟩ :: rest) ρ L := by
 subst hb
 intro k w a hs ha
 have hlt : d < n := Nat.le_of_ble_eq_true hn
 unfold wpList
 have hw : Region.wanted (Oper.mk (some d) op ty pos af (some (j, wt))) (yielded ops.toArray a.tmps) = false := by
  unfold Q0 at hj
  simp [Region.wanted, yielded, hj, ha.get _ _ ht, undef]
 rw [if_neg (by rw [hw]; simp)]
 exact hr k w _ hs (ha.put hlt undef)
theorem Zup {d j t : Nat} {wt : Bool} {op : Op} {ty : TypeId} {pos : String} {af : Array Edge} {b : Bool} (hj : Q0 ops j = some t) (ht : lk ρ t = some (.bool b))
  (h1 : b = true → HO P n ops Q (⟨some d, op, ty, pos, af, some (j, wt)⟩ :: rest) ((t, .bool true) :: ρ) L) (h0 : b = false → HO P n ops Q (⟨some d, op, ty, pos, af, some (j, wt)⟩ :: rest) ((t, .bool false) :: ρ) L) :
  HO P n ops Q (⟨some d, op, ty, pos, af, some (j, wt)⟩ :: rest) ρ L := Zwf t ht h1 h0
end rules

/-! ### the operations that read -/
section q
variable {P : Program} {ρ : Z3} {L : Zb} {d : Option Tmp} {ty : TypeId} {pos : String} {af : Array Edge} {g : Option (Nat × Bool)}

theorem Y5 {o : Oper} {v : Value} (h : ∀ (ρe : Operand → Value), (∀ x ∈ o.op.operands, ∀ u, ev ρ x = some u → ρe x = u) → ∀ k w, Sat k w L → (execOp ρe o).run P w = .ok (.value v) w) : QOp P o ρ L v := by
 intro k a he w hs
 unfold Oper.quietAt
 rw [h a.eval he k w hs]
 exact ⟨rfl, rfl⟩
theorem q_move {x : Operand} {v : Value} (hx : ev ρ x = some v) : QOp P ⟨d, .move x, ty, pos, af, g⟩ ρ L v :=
 Y5 fun ρe he k w hs => by simp [execOp, he x (by simp [Op.operands]) v hx]
theorem q_assign {x : Operand} {v : Value} (hx : ev ρ x = some v) : QOp P ⟨d, .assign x, ty, pos, af, g⟩ ρ L v :=
 Y5 fun ρe he k w hs => by simp [execOp, he x (by simp [Op.operands]) v hx]
theorem q_pickt {c x y : Operand} {v : Value} {b : Bool} (hc : ev ρ c = some (.bool b)) (hb : b = true) (hx : ev ρ x = some v) : QOp P ⟨d, .pick c x y, ty, pos, af, g⟩ ρ L v := by
 subst hb; exact Y5 fun ρe he k w hs => by simp [execOp, asBool, he c (by simp [Op.operands]) _ hc, he x (by simp [Op.operands]) v hx]
theorem q_pickf {c x y : Operand} {v : Value} {b : Bool} (hc : ev ρ c = some (.bool b)) (hb : b = false) (hy : ev ρ y = some v) : QOp P ⟨d, .pick c x y, ty, pos, af, g⟩ ρ L v := by
 subst hb; exact Y5 fun ρe he k w hs => by simp [execOp, asBool, he c (by simp [Op.operands]) _ hc, he y (by simp [Op.operands]) v hy]
theorem Zvu {x : Operand} {j : Nat} {vs : List Value} {v : Value} (hx : ev ρ x = some (.tuple ⟨vs⟩)) (hv : vs[j]? = some v) : QOp P ⟨d, .extract x j, ty, pos, af, g⟩ ρ L v :=
 Y5 fun ρe he k w hs => by simp [execOp, Instr.extract, he x (by simp [Op.operands]) _ hx, hv]
theorem Zrz {x : Operand} {p : Addr} (hx : ev ρ x = some (.pointer (some p))) : QOp P ⟨d, .nilCheck x, ty, pos, af, g⟩ ρ L (.pointer (some p)) :=
 Y5 fun ρe he k w hs => by simp [execOp, he x (by simp [Op.operands]) _ hx]
theorem Zrt {f : Nat} {cap : Array Operand} {vs : List Value} (hv : Zk3 ρ cap.toList = some vs) : QOp P ⟨d, .makeFunc (.func f) #[] cap, ty, pos, af, g⟩ ρ L (.func (.func f) #[] ⟨vs⟩) := by
 refine Y5 fun ρe he k w hs => ?_
 have hm : cap.map ρe = ⟨vs⟩ := by
  have key : ∀ (l : List Operand) (us : List Value), (∀ x ∈ l, ∀ u, ev ρ x = some u → ρe x = u) → Zk3 ρ l = some us → l.map ρe = us := by
   intro l
   induction l with
   | nil => intro us _ h; simp [Zk3] at h; simp [← h]
   | cons x r ih =>
    intro us hl h
    simp only [Zk3] at h
    cases hx : ev ρ x with
    | none => simp [hx] at h
    | some u =>
     cases hr : Zk3 ρ r with
     | none => simp [hx, hr] at h
     | some us' =>
      simp [hx, hr] at h
      rw [List.map_cons, hl x (by simp) u hx, ih us' (fun y hy => hl y (by simp [hy])) hr]
      exact h
  have := key cap.toList vs (fun x hx => he x (by simp [Op.operands]; exact Array.mem_toList_iff.1 hx)) hv
  apply Array.toList_inj.1
  simpa using this
 simp [execOp, Instr.makeFunc, hm]
end q
end Go.HL
end

/-! SeatT -/
section
namespace Go.HL
open Go Go.Proofs
set_option maxRecDepth 100000
def tyL : List (Nat × TyI) := [(2, ⟨2, 3, 0, 1, 8⟩),
 (3, ⟨2, 3, 0, 1, 8⟩),
 (4, ⟨1, 0, 0, 1, 1⟩),
 (5, ⟨2, 4, 0, 1, 1⟩),
 (9, ⟨3, 0, 0, 1, 16⟩),
 (12, ⟨2, 7, 0, 1, 8⟩),
 (13, ⟨7, 2, 0, 2, 24⟩),
 (20, ⟨9, 0, 0, 1, 16⟩),
 (21, ⟨2, 2, 0, 1, 4⟩),
 (22, ⟨5, 3, 0, 1, 24⟩),
 (26, ⟨4, 110, 0, 1, 8⟩),
 (27, ⟨9, 1, 0, 1, 16⟩),
 (28, ⟨9, 1, 0, 1, 16⟩),
 (34, ⟨5, 131, 0, 1, 24⟩),
 (37, ⟨5, 43, 0, 1, 24⟩),
 (42, ⟨7, 3, 0, 3, 24⟩),
 (43, ⟨7, 3, 0, 3, 24⟩),
 (45, ⟨5, 81, 0, 1, 24⟩),
 (48, ⟨5, 54, 0, 1, 24⟩),
 (50, ⟨4, 94, 0, 1, 8⟩),
 (53, ⟨7, 4, 0, 4, 40⟩),
 (54, ⟨7, 4, 0, 4, 40⟩),
 (61, ⟨5, 4, 0, 1, 24⟩),
 (71, ⟨5, 162, 0, 1, 24⟩),
 (75, ⟨7, 2, 0, 2, 16⟩),
 (76, ⟨7, 2, 0, 2, 16⟩),
 (80, ⟨7, 3, 0, 3, 24⟩),
 (81, ⟨7, 3, 0, 3, 24⟩),
 (82, ⟨5, 22, 0, 1, 24⟩),
 (83, ⟨5, 90, 0, 1, 24⟩),
 (89, ⟨7, 2, 0, 2, 48⟩),
 (90, ⟨7, 2, 0, 2, 48⟩),
 (91, ⟨5, 145, 0, 1, 24⟩),
 (92, ⟨5, 133, 0, 1, 24⟩),
 (93, ⟨7, 5, 0, 5, 120⟩),
 (94, ⟨7, 5, 0, 5, 120⟩),
 (96, ⟨5, 99, 0, 1, 24⟩),
 (97, ⟨5, 9, 0, 1, 24⟩),
 (98, ⟨7, 2, 0, 2, 40⟩),
 (99, ⟨7, 2, 0, 2, 40⟩),
 (107, ⟨8, 133, 4, 1, 8⟩),
 (108, ⟨5, 117, 0, 1, 24⟩),
 (109, ⟨7, 5, 0, 5, 104⟩),
 (110, ⟨7, 5, 0, 5, 104⟩),
 (111, ⟨4, 181, 0, 1, 8⟩),
 (114, ⟨4, 187, 0, 1, 8⟩),
 (117, ⟨4, 122, 0, 1, 8⟩),
 (118, ⟨4, 193, 0, 1, 8⟩),
 (119, ⟨6, 6, 118, 6, 48⟩),
 (120, ⟨6, 6, 4, 6, 6⟩),
 (121, ⟨7, 4, 0, 14, 72⟩),
 (122, ⟨7, 4, 0, 14, 72⟩),
 (130, ⟨7, 7, 0, 9, 72⟩),
 (131, ⟨7, 7, 0, 9, 72⟩),
 (133, ⟨6, 2, 3, 2, 16⟩),
 (141, ⟨4, 144, 0, 1, 8⟩),
 (142, ⟨5, 5, 0, 1, 24⟩),
 (143, ⟨7, 4, 0, 4, 40⟩),
 (144, ⟨7, 4, 0, 4, 40⟩),
 (145, ⟨4, 150, 0, 1, 8⟩),
 (146, ⟨4, 208, 0, 1, 8⟩),
 (148, ⟨5, 209, 0, 1, 24⟩),
 (149, ⟨7, 4, 0, 4, 64⟩),
 (150, ⟨7, 4, 0, 4, 64⟩),
 (158, ⟨4, 160, 0, 1, 8⟩),
 (159, ⟨7, 2, 0, 2, 24⟩),
 (160, ⟨7, 2, 0, 2, 24⟩),
 (162, ⟨7, 3, 0, 3, 24⟩),
 (168, ⟨5, 28, 0, 1, 24⟩),
 (174, ⟨4, 176, 0, 1, 8⟩),
 (175, ⟨7, 1, 0, 1, 8⟩),
 (176, ⟨7, 1, 0, 1, 8⟩),
 (180, ⟨7, 3, 0, 3, 40⟩),
 (181, ⟨7, 3, 0, 3, 40⟩),
 (182, ⟨4, 261, 0, 1, 8⟩),
 (185, ⟨8, 3, 4, 1, 8⟩),
 (186, ⟨7, 3, 0, 3, 24⟩),
 (187, ⟨7, 3, 0, 3, 24⟩),
 (191, ⟨6, 7, 43, 21, 168⟩),
 (192, ⟨7, 10, 0, 30, 264⟩),
 (193, ⟨7, 10, 0, 30, 264⟩),
 (203, ⟨4, 158, 0, 1, 8⟩),
 (205, ⟨4, 214, 0, 1, 8⟩),
 (207, ⟨7, 3, 0, 3, 40⟩),
 (208, ⟨7, 3, 0, 3, 40⟩),
 (209, ⟨4, 217, 0, 1, 8⟩),
 (213, ⟨7, 4, 0, 4, 64⟩),
 (214, ⟨7, 4, 0, 4, 64⟩),
 (216, ⟨7, 9, 0, 9, 112⟩),
 (217, ⟨7, 9, 0, 9, 112⟩),
 (231, ⟨7, 0, 0, 0, 0⟩),
 (232, ⟨7, 0, 0, 0, 0⟩),
 (233, ⟨7, 0, 0, 0, 0⟩),
 (234, ⟨7, 0, 0, 0, 0⟩),
 (235, ⟨2, 7, 0, 1, 8⟩),
 (236, ⟨7, 3, 0, 1, 8⟩),
 (237, ⟨7, 3, 0, 1, 8⟩),
 (238, ⟨2, 6, 0, 1, 4⟩),
 (239, ⟨7, 3, 0, 2, 16⟩),
 (240, ⟨7, 3, 0, 2, 16⟩),
 (243, ⟨7, 3, 0, 4, 72⟩),
 (244, ⟨7, 3, 0, 4, 72⟩),
 (251, ⟨7, 2, 0, 2, 24⟩),
 (252, ⟨7, 2, 0, 2, 24⟩),
 (254, ⟨8, 9, 252, 1, 8⟩),
 (257, ⟨7, 2, 0, 4, 32⟩),
 (258, ⟨7, 2, 0, 4, 32⟩),
 (259, ⟨6, 6, 258, 24, 192⟩),
 (260, ⟨7, 3, 0, 26, 208⟩),
 (261, ⟨7, 3, 0, 26, 208⟩),
 (288, ⟨2, 7, 0, 1, 8⟩),
 (290, ⟨7, 3, 0, 11, 96⟩),
 (291, ⟨7, 3, 0, 11, 96⟩),
 (292, ⟨4, 240, 0, 1, 8⟩),
 (298, ⟨4, 238, 0, 1, 8⟩),
 (305, ⟨4, 307, 0, 1, 8⟩),
 (306, ⟨7, 2, 0, 2, 32⟩),
 (307, ⟨7, 2, 0, 2, 32⟩),
 (315, ⟨6, 3, 3, 3, 24⟩),
 (316, ⟨5, 315, 0, 1, 24⟩),
 (323, ⟨9, 1, 0, 1, 16⟩),
 (326, ⟨9, 1, 0, 1, 16⟩),
 (328, ⟨9, 1, 0, 1, 16⟩),
 (330, ⟨9, 1, 0, 1, 16⟩),
 (337, ⟨2, 3, 0, 1, 8⟩),
 (343, ⟨4, 237, 0, 1, 8⟩),
 (345, ⟨4, 235, 0, 1, 8⟩),
 (353, ⟨4, 5, 0, 1, 8⟩),
 (354, ⟨6, 6, 9, 6, 96⟩),
 (368, ⟨2, 3, 0, 1, 8⟩),
 (371, ⟨4, 387, 0, 1, 8⟩),
 (374, ⟨6, 24, 5, 24, 24⟩),
 (378, ⟨6, 256, 5, 256, 256⟩),
 (379, ⟨7, 2, 0, 2, 2⟩),
 (380, ⟨7, 2, 0, 2, 2⟩),
 (381, ⟨6, 16, 380, 32, 32⟩),
 (386, ⟨7, 3, 0, 3, 48⟩),
 (387, ⟨7, 3, 0, 3, 48⟩),
 (390, ⟨6, 20, 235, 20, 160⟩),
 (391, ⟨6, 65, 5, 65, 65⟩),
 (394, ⟨4, 396, 0, 1, 8⟩),
 (395, ⟨7, 1, 0, 1, 16⟩),
 (396, ⟨7, 1, 0, 1, 16⟩),
 (397, ⟨6, 32, 5, 32, 32⟩),
 (398, ⟨6, 64, 5, 64, 64⟩),
 (420, ⟨2, 5, 0, 1, 2⟩),
 (421, ⟨5, 420, 0, 1, 24⟩),
 (423, ⟨5, 238, 0, 1, 24⟩),
 (433, ⟨4, 28, 0, 1, 8⟩)]
def flL : List (Nat × Nat × Nat) := [(832, 0, 9), (833, 1, 12), (2688, 0, 3), (2689, 1, 3), (2690, 2, 3), (2752, 0, 3), (2753, 1, 3), (2754, 2, 3), (3392, 0, 9), (3393, 1, 3), (3394, 2, 3), (3395, 3, 3), (3456, 0, 9), (3457, 1, 3), (3458, 2, 3), (3459, 3, 3), (4800, 0, 3), (4801, 1, 3), (4864, 0, 3), (4865, 1, 3), (5120, 0, 3), (5121, 1, 3), (5122, 2, 3), (5184, 0, 3), (5185, 1, 3), (5186, 2, 3), (5696, 0, 22), (5697, 1, 45), (5760, 0, 22), (5761, 1, 45), (5952, 0, 22), (5953, 1, 91), (5954, 2, 92), (5955, 3, 34), (5956, 4, 71), (6016, 0, 22), (6017, 1, 91), (6018, 2, 92), (6019, 3, 34), (6020, 4, 71), (6272, 0, 9), (6273, 1, 22), (6336, 0, 9), (6337, 1, 22), (6976, 0, 22), (6977, 1, 108), (6978, 2, 107), (6979, 3, 34), (6980, 4, 45), (7040, 0, 22), (7041, 1, 108), (7042, 2, 107), (7043, 3, 34), (7044, 4, 45), (7744, 0, 114), (7745, 1, 111), (7746, 2, 119), (7747, 8, 120), (7808, 0, 114), (7809, 1, 111), (7810, 2, 119), (7811, 8, 120), (8320, 0, 3), (8321, 1, 3), (8322, 2, 3), (8323, 3, 3), (8324, 4, 3), (8325, 5, 4), (8326, 6, 43), (8384, 0, 3), (8385, 1, 3), (8386, 2, 3), (8387, 3, 3), (8388, 4, 3), (8389, 5, 4), (8390, 6, 43), (9152, 0, 9), (9153, 1, 4), (9154, 2, 3), (9155, 3, 4), (9216, 0, 9), (9217, 1, 4), (9218, 2, 3), (9219, 3, 4), (9536, 0, 146), (9537, 1, 141), (9538, 2, 148), (9539, 3, 61), (9600, 0, 146), (9601, 1, 141), (9602, 2, 148), (9603, 3, 61), (10176, 0, 3), (10177, 1, 28), (10240, 0, 3), (10241, 1, 28), (10368, 0, 3), (10369, 1, 3), (10370, 2, 3), (11200, 0, 26), (11264, 0, 26), (11520, 0, 142), (11521, 1, 4), (11522, 2, 3), (11584, 0, 142), (11585, 1, 4), (11586, 2, 3), (11904, 0, 182), (11905, 1, 3), (11906, 2, 185), (11968, 0, 182), (11969, 1, 3), (11970, 2, 185), (12288, 0, 3), (12289, 1, 3), (12290, 2, 3), (12291, 3, 22), (12292, 4, 9), (12293, 5, 3), (12294, 6, 3), (12295, 7, 191), (12296, 28, 3), (12297, 29, 3), (12352, 0, 3), (12353, 1, 3), (12354, 2, 3), (12355, 3, 22), (12356, 4, 9), (12357, 5, 3), (12358, 6, 3), (12359, 7, 191), (12360, 28, 3), (12361, 29, 3), (13248, 0, 3), (13249, 1, 205), (13250, 2, 61), (13312, 0, 3), (13313, 1, 205), (13314, 2, 61), (13632, 0, 141), (13633, 1, 22), (13634, 2, 37), (13635, 3, 4), (13696, 0, 141), (13697, 1, 22), (13698, 2, 37), (13699, 3, 4), (13824, 0, 3), (13825, 1, 3), (13826, 2, 3), (13827, 3, 22), (13828, 4, 9), (13829, 5, 3), (13830, 6, 34), (13831, 7, 3), (13832, 8, 3), (13888, 0, 3), (13889, 1, 3), (13890, 2, 3), (13891, 3, 22), (13892, 4, 9), (13893, 5, 3), (13894, 6, 34), (13895, 7, 3), (13896, 8, 3), (15106, 0, 235), (15170, 0, 235), (15297, 0, 237), (15298, 1, 238), (15361, 0, 237), (15362, 1, 238), (15552, 0, 3), (15553, 1, 90), (15554, 3, 28), (15616, 0, 3), (15617, 1, 90), (15618, 3, 28), (16064, 0, 9), (16065, 1, 250), (16128, 0, 9), (16129, 1, 250), (16448, 0, 3), (16449, 1, 43), (16512, 0, 3), (16513, 1, 43), (16640, 0, 111), (16641, 1, 259), (16642, 25, 4), (16704, 0, 111), (16705, 1, 259), (16706, 25, 4), (18560, 0, 3), (18561, 1, 131), (18562, 10, 28), (18624, 0, 3), (18625, 1, 131), (18626, 10, 28), (19584, 0, 305), (19585, 1, 142), (19648, 0, 305), (19649, 1, 142), (24256, 0, 5), (24257, 1, 5), (24320, 0, 5), (24321, 1, 5), (24704, 0, 9), (24705, 1, 9), (24706, 2, 28), (24768, 0, 9), (24769, 1, 9), (24770, 2, 28), (25280, 0, 9), (25344, 0, 9)]
def zrL : List (Nat × Value) := [(2, .int .i64 0),
 (3, .int .i64 0),
 (4, .bool false),
 (5, .int .u8 0),
 (9, .string ⟨⟨[]⟩⟩),
 (12, .int .u64 0),
 (13, .agg ⟨[.string ⟨⟨[]⟩⟩, .int .u64 0]⟩),
 (20, .nilIface),
 (21, .int .i32 0),
 (22, .slice none 0 0),
 (26, .pointer none),
 (27, .nilIface),
 (28, .nilIface),
 (34, .slice none 0 0),
 (37, .slice none 0 0),
 (42, .agg ⟨[.int .i64 0, .int .i64 0, .int .i64 0]⟩),
 (43, .agg ⟨[.int .i64 0, .int .i64 0, .int .i64 0]⟩),
 (45, .slice none 0 0),
 (48, .slice none 0 0),
 (50, .pointer none),
 (53, .agg ⟨[.string ⟨⟨[]⟩⟩, .int .i64 0, .int .i64 0, .int .i64 0]⟩),
 (54, .agg ⟨[.string ⟨⟨[]⟩⟩, .int .i64 0, .int .i64 0, .int .i64 0]⟩),
 (61, .slice none 0 0),
 (71, .slice none 0 0),
 (75, .agg ⟨[.int .i64 0, .int .i64 0]⟩),
 (76, .agg ⟨[.int .i64 0, .int .i64 0]⟩),
 (80, .agg ⟨[.int .i64 0, .int .i64 0, .int .i64 0]⟩),
 (81, .agg ⟨[.int .i64 0, .int .i64 0, .int .i64 0]⟩),
 (82, .slice none 0 0),
 (83, .slice none 0 0),
 (89, .agg ⟨[.slice none 0 0, .slice none 0 0]⟩),
 (90, .agg ⟨[.slice none 0 0, .slice none 0 0]⟩),
 (91, .slice none 0 0),
 (92, .slice none 0 0),
 (93, .agg ⟨[.slice none 0 0, .slice none 0 0, .slice none 0 0, .slice none 0 0, .slice none 0 0]⟩),
 (94, .agg ⟨[.slice none 0 0, .slice none 0 0, .slice none 0 0, .slice none 0 0, .slice none 0 0]⟩),
 (96, .slice none 0 0),
 (97, .slice none 0 0),
 (98, .agg ⟨[.string ⟨⟨[]⟩⟩, .slice none 0 0]⟩),
 (99, .agg ⟨[.string ⟨⟨[]⟩⟩, .slice none 0 0]⟩),
 (107, .map none),
 (108, .slice none 0 0),
 (109, .agg ⟨[.slice none 0 0, .slice none 0 0, .map none, .slice none 0 0, .slice none 0 0]⟩),
 (110, .agg ⟨[.slice none 0 0, .slice none 0 0, .map none, .slice none 0 0, .slice none 0 0]⟩),
 (111, .pointer none),
 (114, .pointer none),
 (117, .pointer none),
 (118, .pointer none),
 (119, .agg ⟨[.pointer none, .pointer none, .pointer none, .pointer none, .pointer none, .pointer none]⟩),
 (120, .agg ⟨[.bool false, .bool false, .bool false, .bool false, .bool false, .bool false]⟩),
 (121, .agg ⟨[.pointer none, .pointer none, .pointer none, .pointer none, .pointer none, .pointer none, .pointer none, .pointer none, .bool false, .bool false, .bool false, .bool false, .bool false, .bool false]⟩),
 (122, .agg ⟨[.pointer none, .pointer none, .pointer none, .pointer none, .pointer none, .pointer none, .pointer none, .pointer none, .bool false, .bool false, .bool false, .bool false, .bool false, .bool false]⟩),
 (130, .agg ⟨[.int .i64 0, .int .i64 0, .int .i64 0, .int .i64 0, .int .i64 0, .bool false, .int .i64 0, .int .i64 0, .int .i64 0]⟩),
 (131, .agg ⟨[.int .i64 0, .int .i64 0, .int .i64 0, .int .i64 0, .int .i64 0, .bool false, .int .i64 0, .int .i64 0, .int .i64 0]⟩),
 (133, .agg ⟨[.int .i64 0, .int .i64 0]⟩),
 (141, .pointer none),
 (142, .slice none 0 0),
 (143, .agg ⟨[.string ⟨⟨[]⟩⟩, .bool false, .int .i64 0, .bool false]⟩),
 (144, .agg ⟨[.string ⟨⟨[]⟩⟩, .bool false, .int .i64 0, .bool false]⟩),
 (145, .pointer none),
 (146, .pointer none),
 (148, .slice none 0 0),
 (149, .agg ⟨[.pointer none, .pointer none, .slice none 0 0, .slice none 0 0]⟩),
 (150, .agg ⟨[.pointer none, .pointer none, .slice none 0 0, .slice none 0 0]⟩),
 (158, .pointer none),
 (159, .agg ⟨[.int .i64 0, .nilIface]⟩),
 (160, .agg ⟨[.int .i64 0, .nilIface]⟩),
 (162, .agg ⟨[.int .i64 0, .int .i64 0, .int .i64 0]⟩),
 (168, .slice none 0 0),
 (174, .pointer none),
 (175, .agg ⟨[.pointer none]⟩),
 (176, .agg ⟨[.pointer none]⟩),
 (180, .agg ⟨[.slice none 0 0, .bool false, .int .i64 0]⟩),
 (181, .agg ⟨[.slice none 0 0, .bool false, .int .i64 0]⟩),
 (182, .pointer none),
 (185, .map none),
 (186, .agg ⟨[.pointer none, .int .i64 0, .map none]⟩),
 (187, .agg ⟨[.pointer none, .int .i64 0, .map none]⟩),
 (191, .agg ⟨[.int .i64 0, .int .i64 0, .int .i64 0, .int .i64 0, .int .i64 0, .int .i64 0, .int .i64 0, .int .i64 0, .int .i64 0, .int .i64 0, .int .i64 0, .int .i64 0, .int .i64 0, .int .i64 0, .int .i64 0, .int .i64 0, .int .i64 0, .int .i64 0, .int .i64 0, .int .i64 0, .int .i64 0]⟩),
 (192, .agg ⟨[.int .i64 0, .int .i64 0, .int .i64 0, .slice none 0 0, .string ⟨⟨[]⟩⟩, .int .i64 0, .int .i64 0, .int .i64 0, .int .i64 0, .int .i64 0, .int .i64 0, .int .i64 0, .int .i64 0, .int .i64 0, .int .i64 0, .int .i64 0, .int .i64 0, .int .i64 0, .int .i64 0, .int .i64 0, .int .i64 0, .int .i64 0, .int .i64 0, .int .i64 0, .int .i64 0, .int .i64 0, .int .i64 0, .int .i64 0, .int .i64 0, .int .i64 0]⟩),
 (193, .agg ⟨[.int .i64 0, .int .i64 0, .int .i64 0, .slice none 0 0, .string ⟨⟨[]⟩⟩, .int .i64 0, .int .i64 0, .int .i64 0, .int .i64 0, .int .i64 0, .int .i64 0, .int .i64 0, .int .i64 0, .int .i64 0, .int .i64 0, .int .i64 0, .int .i64 0, .int .i64 0, .int .i64 0, .int .i64 0, .int .i64 0, .int .i64 0, .int .i64 0, .int .i64 0, .int .i64 0, .int .i64 0, .int .i64 0, .int .i64 0, .int .i64 0, .int .i64 0]⟩),
 (203, .pointer none),
 (205, .pointer none),
 (207, .agg ⟨[.int .i64 0, .pointer none, .slice none 0 0]⟩),
 (208, .agg ⟨[.int .i64 0, .pointer none, .slice none 0 0]⟩),
 (209, .pointer none),
 (213, .agg ⟨[.pointer none, .slice none 0 0, .slice none 0 0, .bool false]⟩),
 (214, .agg ⟨[.pointer none, .slice none 0 0, .slice none 0 0, .bool false]⟩),
 (216, .agg ⟨[.int .i64 0, .int .i64 0, .int .i64 0, .slice none 0 0, .string ⟨⟨[]⟩⟩, .int .i64 0, .slice none 0 0, .int .i64 0, .int .i64 0]⟩),
 (217, .agg ⟨[.int .i64 0, .int .i64 0, .int .i64 0, .slice none 0 0, .string ⟨⟨[]⟩⟩, .int .i64 0, .slice none 0 0, .int .i64 0, .int .i64 0]⟩),
 (231, .agg ⟨[]⟩),
 (232, .agg ⟨[]⟩),
 (233, .agg ⟨[]⟩),
 (234, .agg ⟨[]⟩),
 (235, .int .u64 0),
 (236, .agg ⟨[.int .u64 0]⟩),
 (237, .agg ⟨[.int .u64 0]⟩),
 (238, .int .u32 0),
 (239, .agg ⟨[.int .u64 0, .int .u32 0]⟩),
 (240, .agg ⟨[.int .u64 0, .int .u32 0]⟩),
 (243, .agg ⟨[.int .i64 0, .slice none 0 0, .slice none 0 0, .nilIface]⟩),
 (244, .agg ⟨[.int .i64 0, .slice none 0 0, .slice none 0 0, .nilIface]⟩),
 (251, .agg ⟨[.string ⟨⟨[]⟩⟩, .nilFunc]⟩),
 (252, .agg ⟨[.string ⟨⟨[]⟩⟩, .nilFunc]⟩),
 (254, .map none),
 (257, .agg ⟨[.int .i64 0, .int .i64 0, .int .i64 0, .int .i64 0]⟩),
 (258, .agg ⟨[.int .i64 0, .int .i64 0, .int .i64 0, .int .i64 0]⟩),
 (259, .agg ⟨[.int .i64 0, .int .i64 0, .int .i64 0, .int .i64 0, .int .i64 0, .int .i64 0, .int .i64 0, .int .i64 0, .int .i64 0, .int .i64 0, .int .i64 0, .int .i64 0, .int .i64 0, .int .i64 0, .int .i64 0, .int .i64 0, .int .i64 0, .int .i64 0, .int .i64 0, .int .i64 0, .int .i64 0, .int .i64 0, .int .i64 0, .int .i64 0]⟩),
 (260, .agg ⟨[.pointer none, .int .i64 0, .int .i64 0, .int .i64 0, .int .i64 0, .int .i64 0, .int .i64 0, .int .i64 0, .int .i64 0, .int .i64 0, .int .i64 0, .int .i64 0, .int .i64 0, .int .i64 0, .int .i64 0, .int .i64 0, .int .i64 0, .int .i64 0, .int .i64 0, .int .i64 0, .int .i64 0, .int .i64 0, .int .i64 0, .int .i64 0, .int .i64 0, .bool false]⟩),
 (261, .agg ⟨[.pointer none, .int .i64 0, .int .i64 0, .int .i64 0, .int .i64 0, .int .i64 0, .int .i64 0, .int .i64 0, .int .i64 0, .int .i64 0, .int .i64 0, .int .i64 0, .int .i64 0, .int .i64 0, .int .i64 0, .int .i64 0, .int .i64 0, .int .i64 0, .int .i64 0, .int .i64 0, .int .i64 0, .int .i64 0, .int .i64 0, .int .i64 0, .int .i64 0, .bool false]⟩),
 (288, .int .u64 0),
 (290, .agg ⟨[.int .i64 0, .int .i64 0, .int .i64 0, .int .i64 0, .int .i64 0, .int .i64 0, .bool false, .int .i64 0, .int .i64 0, .int .i64 0, .nilIface]⟩),
 (291, .agg ⟨[.int .i64 0, .int .i64 0, .int .i64 0, .int .i64 0, .int .i64 0, .int .i64 0, .bool false, .int .i64 0, .int .i64 0, .int .i64 0, .nilIface]⟩),
 (292, .pointer none),
 (298, .pointer none),
 (305, .pointer none),
 (306, .agg ⟨[.pointer none, .slice none 0 0]⟩),
 (307, .agg ⟨[.pointer none, .slice none 0 0]⟩),
 (315, .agg ⟨[.int .i64 0, .int .i64 0, .int .i64 0]⟩),
 (316, .slice none 0 0),
 (323, .nilIface),
 (326, .nilIface),
 (328, .nilIface),
 (330, .nilIface),
 (337, .int .i64 0),
 (343, .pointer none),
 (345, .pointer none),
 (353, .pointer none),
 (354, .agg ⟨[.string ⟨⟨[]⟩⟩, .string ⟨⟨[]⟩⟩, .string ⟨⟨[]⟩⟩, .string ⟨⟨[]⟩⟩, .string ⟨⟨[]⟩⟩, .string ⟨⟨[]⟩⟩]⟩),
 (368, .int .i64 0),
 (371, .pointer none),
 (374, .agg ⟨[.int .u8 0, .int .u8 0, .int .u8 0, .int .u8 0, .int .u8 0, .int .u8 0, .int .u8 0, .int .u8 0, .int .u8 0, .int .u8 0, .int .u8 0, .int .u8 0, .int .u8 0, .int .u8 0, .int .u8 0, .int .u8 0, .int .u8 0, .int .u8 0, .int .u8 0, .int .u8 0, .int .u8 0, .int .u8 0, .int .u8 0, .int .u8 0]⟩),
 (379, .agg ⟨[.int .u8 0, .int .u8 0]⟩),
 (380, .agg ⟨[.int .u8 0, .int .u8 0]⟩),
 (381, .agg ⟨[.int .u8 0, .int .u8 0, .int .u8 0, .int .u8 0, .int .u8 0, .int .u8 0, .int .u8 0, .int .u8 0, .int .u8 0, .int .u8 0, .int .u8 0, .int .u8 0, .int .u8 0, .int .u8 0, .int .u8 0, .int .u8 0, .int .u8 0, .int .u8 0, .int .u8 0, .int .u8 0, .int .u8 0, .int .u8 0, .int .u8 0, .int .u8 0, .int .u8 0, .int .u8 0, .int .u8 0, .int .u8 0, .int .u8 0, .int .u8 0, .int .u8 0, .int .u8 0]⟩),
 (386, .agg ⟨[.string ⟨⟨[]⟩⟩, .string ⟨⟨[]⟩⟩, .nilIface]⟩),
 (387, .agg ⟨[.string ⟨⟨[]⟩⟩, .string ⟨⟨[]⟩⟩, .nilIface]⟩),
 (390, .agg ⟨[.int .u64 0, .int .u64 0, .int .u64 0, .int .u64 0, .int .u64 0, .int .u64 0, .int .u64 0, .int .u64 0, .int .u64 0, .int .u64 0, .int .u64 0, .int .u64 0, .int .u64 0, .int .u64 0, .int .u64 0, .int .u64 0, .int .u64 0, .int .u64 0, .int .u64 0, .int .u64 0]⟩),
 (394, .pointer none),
 (395, .agg ⟨[.string ⟨⟨[]⟩⟩]⟩),
 (396, .agg ⟨[.string ⟨⟨[]⟩⟩]⟩),
 (397, .agg ⟨[.int .u8 0, .int .u8 0, .int .u8 0, .int .u8 0, .int .u8 0, .int .u8 0, .int .u8 0, .int .u8 0, .int .u8 0, .int .u8 0, .int .u8 0, .int .u8 0, .int .u8 0, .int .u8 0, .int .u8 0, .int .u8 0, .int .u8 0, .int .u8 0, .int .u8 0, .int .u8 0, .int .u8 0, .int .u8 0, .int .u8 0, .int .u8 0, .int .u8 0, .int .u8 0, .int .u8 0, .int .u8 0, .int .u8 0, .int .u8 0, .int .u8 0, .int .u8 0]⟩),
 (398, .agg ⟨[.int .u8 0, .int .u8 0, .int .u8 0, .int .u8 0, .int .u8 0, .int .u8 0, .int .u8 0, .int .u8 0, .int .u8 0, .int .u8 0, .int .u8 0, .int .u8 0, .int .u8 0, .int .u8 0, .int .u8 0, .int .u8 0, .int .u8 0, .int .u8 0, .int .u8 0, .int .u8 0, .int .u8 0, .int .u8 0, .int .u8 0, .int .u8 0, .int .u8 0, .int .u8 0, .int .u8 0, .int .u8 0, .int .u8 0, .int .u8 0, .int .u8 0, .int .u8 0, .int .u8 0, .int .u8 0, .int .u8 0, .int .u8 0, .int .u8 0, .int .u8 0, .int .u8 0, .int .u8 0, .int .u8 0, .int .u8 0, .int .u8 0, .int .u8 0, .int .u8 0, .int .u8 0, .int .u8 0, .int .u8 0, .int .u8 0, .int .u8 0, .int .u8 0, .int .u8 0, .int .u8 0, .int .u8 0, .int .u8 0, .int .u8 0, .int .u8 0, .int .u8 0, .int .u8 0, .int .u8 0, .int .u8 0, .int .u8 0, .int .u8 0, .int .u8 0]⟩),
 (420, .int .u16 0),
 (421, .slice none 0 0),
 (423, .slice none 0 0),
 (433, .pointer none)]
def stL : List (Nat × List (Nat × Nat × Nat)) := [(13, [(0, 1, 9), (1, 1, 12)]), (42, [(0, 1, 3), (1, 1, 3), (2, 1, 3)]), (43, [(0, 1, 3), (1, 1, 3), (2, 1, 3)]), (53, [(0, 1, 9), (1, 1, 3), (2, 1, 3), (3, 1, 3)]), (54, [(0, 1, 9), (1, 1, 3), (2, 1, 3), (3, 1, 3)]), (75, [(0, 1, 3), (1, 1, 3)]), (76, [(0, 1, 3), (1, 1, 3)]), (80, [(0, 1, 3), (1, 1, 3), (2, 1, 3)]), (81, [(0, 1, 3), (1, 1, 3), (2, 1, 3)]), (89, [(0, 1, 22), (1, 1, 45)]), (90, [(0, 1, 22), (1, 1, 45)]), (93, [(0, 1, 22), (1, 1, 91), (2, 1, 92), (3, 1, 34), (4, 1, 71)]), (94, [(0, 1, 22), (1, 1, 91), (2, 1, 92), (3, 1, 34), (4, 1, 71)]), (98, [(0, 1, 9), (1, 1, 22)]), (99, [(0, 1, 9), (1, 1, 22)]), (109, [(0, 1, 22), (1, 1, 108), (2, 1, 107), (3, 1, 34), (4, 1, 45)]), (110, [(0, 1, 22), (1, 1, 108), (2, 1, 107), (3, 1, 34), (4, 1, 45)]), (121, [(0, 1, 114), (1, 1, 111), (2, 6, 119), (8, 6, 120)]), (122, [(0, 1, 114), (1, 1, 111), (2, 6, 119), (8, 6, 120)]), (130, [(0, 1, 3), (1, 1, 3), (2, 1, 3), (3, 1, 3), (4, 1, 3), (5, 1, 4), (6, 3, 43)]), (131, [(0, 1, 3), (1, 1, 3), (2, 1, 3), (3, 1, 3), (4, 1, 3), (5, 1, 4), (6, 3, 43)]), (143, [(0, 1, 9), (1, 1, 4), (2, 1, 3), (3, 1, 4)]), (144, [(0, 1, 9), (1, 1, 4), (2, 1, 3), (3, 1, 4)]), (149, [(0, 1, 146), (1, 1, 141), (2, 1, 148), (3, 1, 61)]), (150, [(0, 1, 146), (1, 1, 141), (2, 1, 148), (3, 1, 61)]), (159, [(0, 1, 3), (1, 1, 28)]), (160, [(0, 1, 3), (1, 1, 28)]), (162, [(0, 1, 3), (1, 1, 3), (2, 1, 3)]), (175, [(0, 1, 26)]), (176, [(0, 1, 26)]), (180, [(0, 1, 142), (1, 1, 4), (2, 1, 3)]), (181, [(0, 1, 142), (1, 1, 4), (2, 1, 3)]), (186, [(0, 1, 182), (1, 1, 3), (2, 1, 185)]), (187, [(0, 1, 182), (1, 1, 3), (2, 1, 185)]), (192, [(0, 1, 3), (1, 1, 3), (2, 1, 3), (3, 1, 22), (4, 1, 9), (5, 1, 3), (6, 1, 3), (7, 21, 191), (28, 1, 3), (29, 1, 3)]), (193, [(0, 1, 3), (1, 1, 3), (2, 1, 3), (3, 1, 22), (4, 1, 9), (5, 1, 3), (6, 1, 3), (7, 21, 191), (28, 1, 3), (29, 1, 3)]), (207, [(0, 1, 3), (1, 1, 205), (2, 1, 61)]), (208, [(0, 1, 3), (1, 1, 205), (2, 1, 61)]), (213, [(0, 1, 141), (1, 1, 22), (2, 1, 37), (3, 1, 4)]), (214, [(0, 1, 141), (1, 1, 22), (2, 1, 37), (3, 1, 4)]), (216, [(0, 1, 3), (1, 1, 3), (2, 1, 3), (3, 1, 22), (4, 1, 9), (5, 1, 3), (6, 1, 34), (7, 1, 3), (8, 1, 3)]), (217, [(0, 1, 3), (1, 1, 3), (2, 1, 3), (3, 1, 22), (4, 1, 9), (5, 1, 3), (6, 1, 34), (7, 1, 3), (8, 1, 3)]), (231, []), (232, []), (233, []), (234, []), (236, [(0, 0, 233), (0, 0, 234), (0, 1, 235)]), (237, [(0, 0, 233), (0, 0, 234), (0, 1, 235)]), (239, [(0, 0, 232), (0, 1, 237), (1, 1, 238)]), (240, [(0, 0, 232), (0, 1, 237), (1, 1, 238)]), (243, [(0, 1, 3), (1, 2, 90), (3, 1, 28)]), (244, [(0, 1, 3), (1, 2, 90), (3, 1, 28)]), (251, [(0, 1, 9), (1, 1, 250)]), (252, [(0, 1, 9), (1, 1, 250)]), (257, [(0, 1, 3), (1, 3, 43)]), (258, [(0, 1, 3), (1, 3, 43)]), (260, [(0, 1, 111), (1, 24, 259), (25, 1, 4)]), (261, [(0, 1, 111), (1, 24, 259), (25, 1, 4)]), (290, [(0, 1, 3), (1, 9, 131), (10, 1, 28)]), (291, [(0, 1, 3), (1, 9, 131), (10, 1, 28)]), (306, [(0, 1, 305), (1, 1, 142)]), (307, [(0, 1, 305), (1, 1, 142)]), (379, [(0, 1, 5), (1, 1, 5)]), (380, [(0, 1, 5), (1, 1, 5)]), (386, [(0, 1, 9), (1, 1, 9), (2, 1, 28)]), (387, [(0, 1, 9), (1, 1, 9), (2, 1, 28)]), (395, [(0, 1, 9)]), (396, [(0, 1, 9)])]
def eqL : List (Nat × List Nat) := [(43, [2, 2, 2]), (76, [2, 2]), (81, [2, 2, 2]), (131, [2, 2, 2, 2, 2, 1, 2, 2, 2]), (133, [2, 2]), (162, [2, 2, 2]), (258, [2, 2, 2, 2]), (315, [2, 2, 2])]
theorem stL_ok : (stL.all fun p => decide (stI Tryz.prog p.1 = some p.2)) = true := by kernel_rfl
theorem tyL_ok : (tyL.all fun p => decide (tyI Tryz.prog p.1 = some p.2)) = true := by kernel_rfl
theorem flL_ok : (flL.all fun p => decide (fldI Tryz.prog (p.1 / 64) (p.1 % 64) = some p.2.1) && decide (fldT Tryz.prog (p.1 / 64) (p.1 % 64) = some p.2)) = true := by kernel_rfl
theorem zr2 : zeroI Tryz.prog 2 = some (.int .i64 0) := by kernel_rfl
theorem zr3 : zeroI Tryz.prog 3 = some (.int .i64 0) := by kernel_rfl
theorem zr4 : zeroI Tryz.prog 4 = some (.bool false) := by kernel_rfl
theorem zr5 : zeroI Tryz.prog 5 = some (.int .u8 0) := by kernel_rfl
theorem zr9 : zeroI Tryz.prog 9 = some (.string ⟨⟨[]⟩⟩) := by kernel_rfl
theorem zr12 : zeroI Tryz.prog 12 = some (.int .u64 0) := by kernel_rfl
theorem zr13 : zeroI Tryz.prog 13 = some (.agg ⟨[.string ⟨⟨[]⟩⟩, .int .u64 0]⟩) := by kernel_rfl
theorem zr20 : zeroI Tryz.prog 20 = some (.nilIface) := by kernel_rfl
theorem zr21 : zeroI Tryz.prog 21 = some (.int .i32 0) := by kernel_rfl
theorem zr22 : zeroI Tryz.prog 22 = some (.slice none 0 0) := by kernel_rfl
theorem zr26 : zeroI Tryz.prog 26 = some (.pointer none) := by kernel_rfl
theorem zr27 : zeroI Tryz.prog 27 = some (.nilIface) := by kernel_rfl
theorem zr28 : zeroI Tryz.prog 28 = some (.nilIface) := by kernel_rfl
theorem zr34 : zeroI Tryz.prog 34 = some (.slice none 0 0) := by kernel_rfl
theorem zr37 : zeroI Tryz.prog 37 = some (.slice none 0 0) := by kernel_rfl
theorem zr42 : zeroI Tryz.prog 42 = some (.agg ⟨[.int .i64 0, .int .i64 0, .int .i64 0]⟩) := by kernel_rfl
theorem zr43 : zeroI Tryz.prog 43 = some (.agg ⟨[.int .i64 0, .int .i64 0, .int .i64 0]⟩) := by kernel_rfl
theorem zr45 : zeroI Tryz.prog 45 = some (.slice none 0 0) := by kernel_rfl
theorem zr48 : zeroI Tryz.prog 48 = some (.slice none 0 0) := by kernel_rfl
theorem zr50 : zeroI Tryz.prog 50 = some (.pointer none) := by kernel_rfl
theorem zr53 : zeroI Tryz.prog 53 = some (.agg ⟨[.string ⟨⟨[]⟩⟩, .int .i64 0, .int .i64 0, .int .i64 0]⟩) := by kernel_rfl
theorem zr54 : zeroI Tryz.prog 54 = some (.agg ⟨[.string ⟨⟨[]⟩⟩, .int .i64 0, .int .i64 0, .int .i64 0]⟩) := by kernel_rfl
theorem zr61 : zeroI Tryz.prog 61 = some (.slice none 0 0) := by kernel_rfl
theorem zr71 : zeroI Tryz.prog 71 = some (.slice none 0 0) := by kernel_rfl
theorem zr75 : zeroI Tryz.prog 75 = some (.agg ⟨[.int .i64 0, .int .i64 0]⟩) := by kernel_rfl
theorem zr76 : zeroI Tryz.prog 76 = some (.agg ⟨[.int .i64 0, .int .i64 0]⟩) := by kernel_rfl
theorem zr80 : zeroI Tryz.prog 80 = some (.agg ⟨[.int .i64 0, .int .i64 0, .int .i64 0]⟩) := by kernel_rfl
theorem zr81 : zeroI Tryz.prog 81 = some (.agg ⟨[.int .i64 0, .int .i64 0, .int .i64 0]⟩) := by kernel_rfl
theorem zr82 : zeroI Tryz.prog 82 = some (.slice none 0 0) := by kernel_rfl
theorem zr83 : zeroI Tryz.prog 83 = some (.slice none 0 0) := by kernel_rfl
theorem zr89 : zeroI Tryz.prog 89 = some (.agg ⟨[.slice none 0 0, .slice none 0 0]⟩) := by kernel_rfl
theorem zr90 : zeroI Tryz.prog 90 = some (.agg ⟨[.slice none 0 0, .slice none 0 0]⟩) := by kernel_rfl
theorem zr91 : zeroI Tryz.prog 91 = some (.slice none 0 0) := by kernel_rfl
theorem zr92 : zeroI Tryz.prog 92 = some (.slice none 0 0) := by kernel_rfl
theorem zr93 : zeroI Tryz.prog 93 = some (.agg ⟨[.slice none 0 0, .slice none 0 0, .slice none 0 0, .slice none 0 0, .slice none 0 0]⟩) := by kernel_rfl
theorem zr94 : zeroI Tryz.prog 94 = some (.agg ⟨[.slice none 0 0, .slice none 0 0, .slice none 0 0, .slice none 0 0, .slice none 0 0]⟩) := by kernel_rfl
theorem zr96 : zeroI Tryz.prog 96 = some (.slice none 0 0) := by kernel_rfl
theorem zr97 : zeroI Tryz.prog 97 = some (.slice none 0 0) := by kernel_rfl
theorem zr98 : zeroI Tryz.prog 98 = some (.agg ⟨[.string ⟨⟨[]⟩⟩, .slice none 0 0]⟩) := by kernel_rfl
theorem zr99 : zeroI Tryz.prog 99 = some (.agg ⟨[.string ⟨⟨[]⟩⟩, .slice none 0 0]⟩) := by kernel_rfl
theorem zr107 : zeroI Tryz.prog 107 = some (.map none) := by kernel_rfl
theorem zr108 : zeroI Tryz.prog 108 = some (.slice none 0 0) := by kernel_rfl
theorem zr109 : zeroI Tryz.prog 109 = some (.agg ⟨[.slice none 0 0, .slice none 0 0, .map none, .slice none 0 0, .slice none 0 0]⟩) := by kernel_rfl
theorem zr110 : zeroI Tryz.prog 110 = some (.agg ⟨[.slice none 0 0, .slice none 0 0, .map none, .slice none 0 0, .slice none 0 0]⟩) := by kernel_rfl
theorem zr111 : zeroI Tryz.prog 111 = some (.pointer none) := by kernel_rfl
theorem zr114 : zeroI Tryz.prog 114 = some (.pointer none) := by kernel_rfl
theorem zr117 : zeroI Tryz.prog 117 = some (.pointer none) := by kernel_rfl
theorem zr118 : zeroI Tryz.prog 118 = some (.pointer none) := by kernel_rfl
theorem zr119 : zeroI Tryz.prog 119 = some (.agg ⟨[.pointer none, .pointer none, .pointer none, .pointer none, .pointer none, .pointer none]⟩) := by kernel_rfl
theorem zr120 : zeroI Tryz.prog 120 = some (.agg ⟨[.bool false, .bool false, .bool false, .bool false, .bool false, .bool false]⟩) := by kernel_rfl
theorem zr121 : zeroI Tryz.prog 121 = some (.agg ⟨[.pointer none, .pointer none, .pointer none, .pointer none, .pointer none, .pointer none, .pointer none, .pointer none, .bool false, .bool false, .bool false, .bool false, .bool false, .bool false]⟩) := by kernel_rfl
theorem zr122 : zeroI Tryz.prog 122 = some (.agg ⟨[.pointer none, .pointer none, .pointer none, .pointer none, .pointer none, .pointer none, .pointer none, .pointer none, .bool false, .bool false, .bool false, .bool false, .bool false, .bool false]⟩) := by kernel_rfl
theorem zr130 : zeroI Tryz.prog 130 = some (.agg ⟨[.int .i64 0, .int .i64 0, .int .i64 0, .int .i64 0, .int .i64 0, .bool false, .int .i64 0, .int .i64 0, .int .i64 0]⟩) := by kernel_rfl
theorem zr131 : zeroI Tryz.prog 131 = some (.agg ⟨[.int .i64 0, .int .i64 0, .int .i64 0, .int .i64 0, .int .i64 0, .bool false, .int .i64 0, .int .i64 0, .int .i64 0]⟩) := by kernel_rfl
theorem zr133 : zeroI Tryz.prog 133 = some (.agg ⟨[.int .i64 0, .int .i64 0]⟩) := by kernel_rfl
theorem zr141 : zeroI Tryz.prog 141 = some (.pointer none) := by kernel_rfl
theorem zr142 : zeroI Tryz.prog 142 = some (.slice none 0 0) := by kernel_rfl
theorem zr143 : zeroI Tryz.prog 143 = some (.agg ⟨[.string ⟨⟨[]⟩⟩, .bool false, .int .i64 0, .bool false]⟩) := by kernel_rfl
theorem zr144 : zeroI Tryz.prog 144 = some (.agg ⟨[.string ⟨⟨[]⟩⟩, .bool false, .int .i64 0, .bool false]⟩) := by kernel_rfl
theorem zr145 : zeroI Tryz.prog 145 = some (.pointer none) := by kernel_rfl
theorem zr146 : zeroI Tryz.prog 146 = some (.pointer none) := by kernel_rfl
theorem zr148 : zeroI Tryz.prog 148 = some (.slice none 0 0) := by kernel_rfl
theorem zr149 : zeroI Tryz.prog 149 = some (.agg ⟨[.pointer none, .pointer none, .slice none 0 0, .slice none 0 0]⟩) := by kernel_rfl
theorem zr150 : zeroI Tryz.prog 150 = some (.agg ⟨[.pointer none, .pointer none, .slice none 0 0, .slice none 0 0]⟩) := by kernel_rfl
theorem zr158 : zeroI Tryz.prog 158 = some (.pointer none) := by kernel_rfl
theorem zr159 : zeroI Tryz.prog 159 = some (.agg ⟨[.int .i64 0, .nilIface]⟩) := by kernel_rfl
theorem zr160 : zeroI Tryz.prog 160 = some (.agg ⟨[.int .i64 0, .nilIface]⟩) := by kernel_rfl
theorem zr162 : zeroI Tryz.prog 162 = some (.agg ⟨[.int .i64 0, .int .i64 0, .int .i64 0]⟩) := by kernel_rfl
theorem zr168 : zeroI Tryz.prog 168 = some (.slice none 0 0) := by kernel_rfl
theorem zr174 : zeroI Tryz.prog 174 = some (.pointer none) := by kernel_rfl
theorem zr175 : zeroI Tryz.prog 175 = some (.agg ⟨[.pointer none]⟩) := by kernel_rfl
theorem zr176 : zeroI Tryz.prog 176 = some (.agg ⟨[.pointer none]⟩) := by kernel_rfl
theorem zr180 : zeroI Tryz.prog 180 = some (.agg ⟨[.slice none 0 0, .bool false, .int .i64 0]⟩) := by kernel_rfl
theorem zr181 : zeroI Tryz.prog 181 = some (.agg ⟨[.slice none 0 0, .bool false, .int .i64 0]⟩) := by kernel_rfl
theorem zr182 : zeroI Tryz.prog 182 = some (.pointer none) := by kernel_rfl
theorem zr185 : zeroI Tryz.prog 185 = some (.map none) := by kernel_rfl
theorem zr186 : zeroI Tryz.prog 186 = some (.agg ⟨[.pointer none, .int .i64 0, .map none]⟩) := by kernel_rfl
theorem zr187 : zeroI Tryz.prog 187 = some (.agg ⟨[.pointer none, .int .i64 0, .map none]⟩) := by kernel_rfl
theorem zr191 : zeroI Tryz.prog 191 = some (.agg ⟨[.int .i64 0, .int .i64 0, .int .i64 0, .int .i64 0, .int .i64 0, .int .i64 0, .int .i64 0, .int .i64 0, .int .i64 0, .int .i64 0, .int .i64 0, .int .i64 0, .int .i64 0, .int .i64 0, .int .i64 0, .int .i64 0, .int .i64 0, .int .i64 0, .int .i64 0, .int .i64 0, .int .i64 0]⟩) := by kernel_rfl
theorem zr192 : zeroI Tryz.prog 192 = some (.agg ⟨[.int .i64 0, .int .i64 0, .int .i64 0, .slice none 0 0, .string ⟨⟨[]⟩⟩, .int .i64 0, .int .i64 0, .int .i64 0, .int .i64 0, .int .i64 0, .int .i64 0, .int .i64 0, .int .i64 0, .int .i64 0, .int .i64 0, .int .i64 0, .int .i64 0, .int .i64 0, .int .i64 0, .int .i64 0, .int .i64 0, .int .i64 0, .int .i64 0, .int .i64 0, .int .i64 0, .int .i64 0, .int .i64 0, .int .i64 0, .int .i64 0, .int .i64 0]⟩) := by kernel_rfl
theorem zr193 : zeroI Tryz.prog 193 = some (.agg ⟨[.int .i64 0, .int .i64 0, .int .i64 0, .slice none 0 0, .string ⟨⟨[]⟩⟩, .int .i64 0, .int .i64 0, .int .i64 0, .int .i64 0, .int .i64 0, .int .i64 0, .int .i64 0, .int .i64 0, .int .i64 0, .int .i64 0, .int .i64 0, .int .i64 0, .int .i64 0, .int .i64 0, .int .i64 0, .int .i64 0, .int .i64 0, .int .i64 0, .int .i64 0, .int .i64 0, .int .i64 0, .int .i64 0, .int .i64 0, .int .i64 0, .int .i64 0]⟩) := by kernel_rfl
theorem zr203 : zeroI Tryz.prog 203 = some (.pointer none) := by kernel_rfl
theorem zr205 : zeroI Tryz.prog 205 = some (.pointer none) := by kernel_rfl
theorem zr207 : zeroI Tryz.prog 207 = some (.agg ⟨[.int .i64 0, .pointer none, .slice none 0 0]⟩) := by kernel_rfl
theorem zr208 : zeroI Tryz.prog 208 = some (.agg ⟨[.int .i64 0, .pointer none, .slice none 0 0]⟩) := by kernel_rfl
theorem zr209 : zeroI Tryz.prog 209 = some (.pointer none) := by kernel_rfl
theorem zr213 : zeroI Tryz.prog 213 = some (.agg ⟨[.pointer none, .slice none 0 0, .slice none 0 0, .bool false]⟩) := by kernel_rfl
theorem zr214 : zeroI Tryz.prog 214 = some (.agg ⟨[.pointer none, .slice none 0 0, .slice none 0 0, .bool false]⟩) := by kernel_rfl
theorem zr216 : zeroI Tryz.prog 216 = some (.agg ⟨[.int .i64 0, .int .i64 0, .int .i64 0, .slice none 0 0, .string ⟨⟨[]⟩⟩, .int .i64 0, .slice none 0 0, .int .i64 0, .int .i64 0]⟩) := by kernel_rfl
theorem zr217 : zeroI Tryz.prog 217 = some (.agg ⟨[.int .i64 0, .int .i64 0, .int .i64 0, .slice none 0 0, .string ⟨⟨[]⟩⟩, .int .i64 0, .slice none 0 0, .int .i64 0, .int .i64 0]⟩) := by kernel_rfl
theorem zr231 : zeroI Tryz.prog 231 = some (.agg ⟨[]⟩) := by kernel_rfl
theorem zr232 : zeroI Tryz.prog 232 = some (.agg ⟨[]⟩) := by kernel_rfl
theorem zr233 : zeroI Tryz.prog 233 = some (.agg ⟨[]⟩) := by kernel_rfl
theorem zr234 : zeroI Tryz.prog 234 = some (.agg ⟨[]⟩) := by kernel_rfl
theorem zr235 : zeroI Tryz.prog 235 = some (.int .u64 0) := by kernel_rfl
theorem zr236 : zeroI Tryz.prog 236 = some (.agg ⟨[.int .u64 0]⟩) := by kernel_rfl
theorem zr237 : zeroI Tryz.prog 237 = some (.agg ⟨[.int .u64 0]⟩) := by kernel_rfl
theorem zr238 : zeroI Tryz.prog 238 = some (.int .u32 0) := by kernel_rfl
theorem zr239 : zeroI Tryz.prog 239 = some (.agg ⟨[.int .u64 0, .int .u32 0]⟩) := by kernel_rfl
theorem zr240 : zeroI Tryz.prog 240 = some (.agg ⟨[.int .u64 0, .int .u32 0]⟩) := by kernel_rfl
theorem zr243 : zeroI Tryz.prog 243 = some (.agg ⟨[.int .i64 0, .slice none 0 0, .slice none 0 0, .nilIface]⟩) := by kernel_rfl
theorem zr244 : zeroI Tryz.prog 244 = some (.agg ⟨[.int .i64 0, .slice none 0 0, .slice none 0 0, .nilIface]⟩) := by kernel_rfl
theorem zr251 : zeroI Tryz.prog 251 = some (.agg ⟨[.string ⟨⟨[]⟩⟩, .nilFunc]⟩) := by kernel_rfl
theorem zr252 : zeroI Tryz.prog 252 = some (.agg ⟨[.string ⟨⟨[]⟩⟩, .nilFunc]⟩) := by kernel_rfl
theorem zr254 : zeroI Tryz.prog 254 = some (.map none) := by kernel_rfl
theorem zr257 : zeroI Tryz.prog 257 = some (.agg ⟨[.int .i64 0, .int .i64 0, .int .i64 0, .int .i64 0]⟩) := by kernel_rfl
theorem zr258 : zeroI Tryz.prog 258 = some (.agg ⟨[.int .i64 0, .int .i64 0, .int .i64 0, .int .i64 0]⟩) := by kernel_rfl
theorem zr259 : zeroI Tryz.prog 259 = some (.agg ⟨[.int .i64 0, .int .i64 0, .int .i64 0, .int .i64 0, .int .i64 0, .int .i64 0, .int .i64 0, .int .i64 0, .int .i64 0, .int .i64 0, .int .i64 0, .int .i64 0, .int .i64 0, .int .i64 0, .int .i64 0, .int .i64 0, .int .i64 0, .int .i64 0, .int .i64 0, .int .i64 0, .int .i64 0, .int .i64 0, .int .i64 0, .int .i64 0]⟩) := by kernel_rfl
theorem zr260 : zeroI Tryz.prog 260 = some (.agg ⟨[.pointer none, .int .i64 0, .int .i64 0, .int .i64 0, .int .i64 0, .int .i64 0, .int .i64 0, .int .i64 0, .int .i64 0, .int .i64 0, .int .i64 0, .int .i64 0, .int .i64 0, .int .i64 0, .int .i64 0, .int .i64 0, .int .i64 0, .int .i64 0, .int .i64 0, .int .i64 0, .int .i64 0, .int .i64 0, .int .i64 0, .int .i64 0, .int .i64 0, .bool false]⟩) := by kernel_rfl
theorem zr261 : zeroI Tryz.prog 261 = some (.agg ⟨[.pointer none, .int .i64 0, .int .i64 0, .int .i64 0, .int .i64 0, .int .i64 0, .int .i64 0, .int .i64 0, .int .i64 0, .int .i64 0, .int .i64 0, .int .i64 0, .int .i64 0, .int .i64 0, .int .i64 0, .int .i64 0, .int .i64 0, .int .i64 0, .int .i64 0, .int .i64 0, .int .i64 0, .int .i64 0, .int .i64 0, .int .i64 0, .int .i64 0, .bool false]⟩) := by kernel_rfl
theorem zr288 : zeroI Tryz.prog 288 = some (.int .u64 0) := by kernel_rfl
theorem zr290 : zeroI Tryz.prog 290 = some (.agg ⟨[.int .i64 0, .int .i64 0, .int .i64 0, .int .i64 0, .int .i64 0, .int .i64 0, .bool false, .int .i64 0, .int .i64 0, .int .i64 0, .nilIface]⟩) := by kernel_rfl
theorem zr291 : zeroI Tryz.prog 291 = some (.agg ⟨[.int .i64 0, .int .i64 0, .int .i64 0, .int .i64 0, .int .i64 0, .int .i64 0, .bool false, .int .i64 0, .int .i64 0, .int .i64 0, .nilIface]⟩) := by kernel_rfl
theorem zr292 : zeroI Tryz.prog 292 = some (.pointer none) := by kernel_rfl
theorem zr298 : zeroI Tryz.prog 298 = some (.pointer none) := by kernel_rfl
theorem zr305 : zeroI Tryz.prog 305 = some (.pointer none) := by kernel_rfl
theorem zr306 : zeroI Tryz.prog 306 = some (.agg ⟨[.pointer none, .slice none 0 0]⟩) := by kernel_rfl
theorem zr307 : zeroI Tryz.prog 307 = some (.agg ⟨[.pointer none, .slice none 0 0]⟩) := by kernel_rfl
theorem zr315 : zeroI Tryz.prog 315 = some (.agg ⟨[.int .i64 0, .int .i64 0, .int .i64 0]⟩) := by kernel_rfl
theorem zr316 : zeroI Tryz.prog 316 = some (.slice none 0 0) := by kernel_rfl
theorem zr323 : zeroI Tryz.prog 323 = some (.nilIface) := by kernel_rfl
theorem zr326 : zeroI Tryz.prog 326 = some (.nilIface) := by kernel_rfl
theorem zr328 : zeroI Tryz.prog 328 = some (.nilIface) := by kernel_rfl
theorem zr330 : zeroI Tryz.prog 330 = some (.nilIface) := by kernel_rfl
theorem zr337 : zeroI Tryz.prog 337 = some (.int .i64 0) := by kernel_rfl
theorem zr343 : zeroI Tryz.prog 343 = some (.pointer none) := by kernel_rfl
theorem zr345 : zeroI Tryz.prog 345 = some (.pointer none) := by kernel_rfl
theorem zr353 : zeroI Tryz.prog 353 = some (.pointer none) := by kernel_rfl
theorem zr354 : zeroI Tryz.prog 354 = some (.agg ⟨[.string ⟨⟨[]⟩⟩, .string ⟨⟨[]⟩⟩, .string ⟨⟨[]⟩⟩, .string ⟨⟨[]⟩⟩, .string ⟨⟨[]⟩⟩, .string ⟨⟨[]⟩⟩]⟩) := by kernel_rfl
theorem zr368 : zeroI Tryz.prog 368 = some (.int .i64 0) := by kernel_rfl
theorem zr371 : zeroI Tryz.prog 371 = some (.pointer none) := by kernel_rfl
theorem zr374 : zeroI Tryz.prog 374 = some (.agg ⟨[.int .u8 0, .int .u8 0, .int .u8 0, .int .u8 0, .int .u8 0, .int .u8 0, .int .u8 0, .int .u8 0, .int .u8 0, .int .u8 0, .int .u8 0, .int .u8 0, .int .u8 0, .int .u8 0, .int .u8 0, .int .u8 0, .int .u8 0, .int .u8 0, .int .u8 0, .int .u8 0, .int .u8 0, .int .u8 0, .int .u8 0, .int .u8 0]⟩) := by kernel_rfl
theorem zr379 : zeroI Tryz.prog 379 = some (.agg ⟨[.int .u8 0, .int .u8 0]⟩) := by kernel_rfl
theorem zr380 : zeroI Tryz.prog 380 = some (.agg ⟨[.int .u8 0, .int .u8 0]⟩) := by kernel_rfl
theorem zr381 : zeroI Tryz.prog 381 = some (.agg ⟨[.int .u8 0, .int .u8 0, .int .u8 0, .int .u8 0, .int .u8 0, .int .u8 0, .int .u8 0, .int .u8 0, .int .u8 0, .int .u8 0, .int .u8 0, .int .u8 0, .int .u8 0, .int .u8 0, .int .u8 0, .int .u8 0, .int .u8 0, .int .u8 0, .int .u8 0, .int .u8 0, .int .u8 0, .int .u8 0, .int .u8 0, .int .u8 0, .int .u8 0, .int .u8 0, .int .u8 0, .int .u8 0, .int .u8 0, .int .u8 0, .int .u8 0, .int .u8 0]⟩) := by kernel_rfl
theorem zr386 : zeroI Tryz.prog 386 = some (.agg ⟨[.string ⟨⟨[]⟩⟩, .string ⟨⟨[]⟩⟩, .nilIface]⟩) := by kernel_rfl
theorem zr387 : zeroI Tryz.prog 387 = some (.agg ⟨[.string ⟨⟨[]⟩⟩, .string ⟨⟨[]⟩⟩, .nilIface]⟩) := by kernel_rfl
theorem zr390 : zeroI Tryz.prog 390 = some (.agg ⟨[.int .u64 0, .int .u64 0, .int .u64 0, .int .u64 0, .int .u64 0, .int .u64 0, .int .u64 0, .int .u64 0, .int .u64 0, .int .u64 0, .int .u64 0, .int .u64 0, .int .u64 0, .int .u64 0, .int .u64 0, .int .u64 0, .int .u64 0, .int .u64 0, .int .u64 0, .int .u64 0]⟩) := by kernel_rfl
theorem zr394 : zeroI Tryz.prog 394 = some (.pointer none) := by kernel_rfl
theorem zr395 : zeroI Tryz.prog 395 = some (.agg ⟨[.string ⟨⟨[]⟩⟩]⟩) := by kernel_rfl
theorem zr396 : zeroI Tryz.prog 396 = some (.agg ⟨[.string ⟨⟨[]⟩⟩]⟩) := by kernel_rfl
theorem zr397 : zeroI Tryz.prog 397 = some (.agg ⟨[.int .u8 0, .int .u8 0, .int .u8 0, .int .u8 0, .int .u8 0, .int .u8 0, .int .u8 0, .int .u8 0, .int .u8 0, .int .u8 0, .int .u8 0, .int .u8 0, .int .u8 0, .int .u8 0, .int .u8 0, .int .u8 0, .int .u8 0, .int .u8 0, .int .u8 0, .int .u8 0, .int .u8 0, .int .u8 0, .int .u8 0, .int .u8 0, .int .u8 0, .int .u8 0, .int .u8 0, .int .u8 0, .int .u8 0, .int .u8 0, .int .u8 0, .int .u8 0]⟩) := by kernel_rfl
theorem zr398 : zeroI Tryz.prog 398 = some (.agg ⟨[.int .u8 0, .int .u8 0, .int .u8 0, .int .u8 0, .int .u8 0, .int .u8 0, .int .u8 0, .int .u8 0, .int .u8 0, .int .u8 0, .int .u8 0, .int .u8 0, .int .u8 0, .int .u8 0, .int .u8 0, .int .u8 0, .int .u8 0, .int .u8 0, .int .u8 0, .int .u8 0, .int .u8 0, .int .u8 0, .int .u8 0, .int .u8 0, .int .u8 0, .int .u8 0, .int .u8 0, .int .u8 0, .int .u8 0, .int .u8 0, .int .u8 0, .int .u8 0, .int .u8 0, .int .u8 0, .int .u8 0, .int .u8 0, .int .u8 0, .int .u8 0, .int .u8 0, .int .u8 0, .int .u8 0, .int .u8 0, .int .u8 0, .int .u8 0, .int .u8 0, .int .u8 0, .int .u8 0, .int .u8 0, .int .u8 0, .int .u8 0, .int .u8 0, .int .u8 0, .int .u8 0, .int .u8 0, .int .u8 0, .int .u8 0, .int .u8 0, .int .u8 0, .int .u8 0, .int .u8 0, .int .u8 0, .int .u8 0, .int .u8 0, .int .u8 0]⟩) := by kernel_rfl
theorem zr420 : zeroI Tryz.prog 420 = some (.int .u16 0) := by kernel_rfl
theorem zr421 : zeroI Tryz.prog 421 = some (.slice none 0 0) := by kernel_rfl
theorem zr423 : zeroI Tryz.prog 423 = some (.slice none 0 0) := by kernel_rfl
theorem zr433 : zeroI Tryz.prog 433 = some (.pointer none) := by kernel_rfl
theorem zrL_ok : ∀ p ∈ zrL, zeroI Tryz.prog p.1 = some p.2 := by
 intro p hp
 simp only [zrL, List.mem_cons, List.not_mem_nil, or_false] at hp
 rcases hp with rfl | rfl | rfl | rfl | rfl | rfl | rfl | rfl | rfl | rfl | rfl | rfl | rfl | rfl | rfl | rfl | rfl | rfl | rfl | rfl | rfl | rfl | rfl | rfl | rfl | rfl | rfl | rfl | rfl | rfl | rfl | rfl | rfl | rfl | rfl | rfl | rfl | rfl | rfl | rfl | rfl | rfl | rfl | rfl | rfl | rfl | rfl | rfl | rfl | rfl | rfl | rfl | rfl | rfl | rfl | rfl | rfl | rfl | rfl | rfl | rfl | rfl | rfl | rfl | rfl | rfl | rfl | rfl | rfl | rfl | rfl | rfl | rfl | rfl | rfl | rfl | rfl | rfl | rfl | rfl | rfl | rfl | rfl | rfl | rfl | rfl | rfl | rfl | rfl | rfl | rfl | rfl | rfl | rfl | rfl | rfl | rfl | rfl | rfl | rfl | rfl | rfl | rfl | rfl | rfl | rfl | rfl | rfl | rfl | rfl | rfl | rfl | rfl | rfl | rfl | rfl | rfl | rfl | rfl | rfl | rfl | rfl | rfl | rfl | rfl | rfl | rfl | rfl | rfl | rfl | rfl | rfl | rfl | rfl | rfl | rfl | rfl | rfl | rfl | rfl | rfl | rfl | rfl | rfl | rfl | rfl | rfl
 ·exact zr2
 ·exact zr3
 ·exact zr4
 ·exact zr5
 ·exact zr9
 ·exact zr12
 ·exact zr13
 ·exact zr20
 ·exact zr21
 ·exact zr22
 ·exact zr26
 ·exact zr27
 ·exact zr28
 ·exact zr34
 ·exact zr37
 ·exact zr42
 ·exact zr43
 ·exact zr45
 ·exact zr48
 ·exact zr50
 ·exact zr53
 ·exact zr54
 ·exact zr61
 ·exact zr71
 ·exact zr75
 ·exact zr76
 ·exact zr80
 ·exact zr81
 ·exact zr82
 ·exact zr83
 ·exact zr89
 ·exact zr90
 ·exact zr91
 ·exact zr92
 ·exact zr93
 ·exact zr94
 ·exact zr96
 ·exact zr97
 ·exact zr98
 ·exact zr99
 ·exact zr107
 ·exact zr108
 ·exact zr109
 ·exact zr110
 ·exact zr111
 ·exact zr114
 ·exact zr117
 ·exact zr118
 ·exact zr119
 ·exact zr120
 ·exact zr121
 ·exact zr122
 ·exact zr130
 ·exact zr131
 ·exact zr133
 ·exact zr141
 ·exact zr142
 ·exact zr143
 ·exact zr144
 ·exact zr145
 ·exact zr146
 ·exact zr148
 ·exact zr149
 ·exact zr150
 ·exact zr158
 ·exact zr159
 ·exact zr160
 ·exact zr162
 ·exact zr168
 ·exact zr174
 ·exact zr175
 ·exact zr176
 ·exact zr180
 ·exact zr181
 ·exact zr182
 ·exact zr185
 ·exact zr186
 ·exact zr187
 ·exact zr191
 ·exact zr192
 ·exact zr193
 ·exact zr203
 ·exact zr205
 ·exact zr207
 ·exact zr208
 ·exact zr209
 ·exact zr213
 ·exact zr214
 ·exact zr216
 ·exact zr217
 ·exact zr231
 ·exact zr232
 ·exact zr233
 ·exact zr234
 ·exact zr235
 ·exact zr236
 ·exact zr237
 ·exact zr238
 ·exact zr239
 ·exact zr240
 ·exact zr243
 ·exact zr244
 ·exact zr251
 ·exact zr252
 ·exact zr254
 ·exact zr257
 ·exact zr258
 ·exact zr259
 ·exact zr260
 ·exact zr261
 ·exact zr288
 ·exact zr290
 ·exact zr291
 ·exact zr292
 ·exact zr298
 ·exact zr305
 ·exact zr306
 ·exact zr307
 ·exact zr315
 ·exact zr316
 ·exact zr323
 ·exact zr326
 ·exact zr328
 ·exact zr330
 ·exact zr337
 ·exact zr343
 ·exact zr345
 ·exact zr353
 ·exact zr354
 ·exact zr368
 ·exact zr371
 ·exact zr374
 ·exact zr379
 ·exact zr380
 ·exact zr381
 ·exact zr386
 ·exact zr387
 ·exact zr390
 ·exact zr394
 ·exact zr395
 ·exact zr396
 ·exact zr397
 ·exact zr398
 ·exact zr420
 ·exact zr421
 ·exact zr423
 ·exact zr433
theorem eqL_ok : (eqL.all fun p => decide (Zal Tryz.prog 8 p.1 = some p.2) && Zlg Tryz.prog p.1 && !(Tryz.prog.eqGuardType Tryz.prog.depth p.1)) = true := by kernel_rfl
def errTab : List (Nat × Nat) := [(6, 1), (0, 2), (3, 3), (4, 4), (7, 5), (5, 6), (8, 7), (1, 8), (2, 9)]
def S : Tab Tryz.prog := ⟨tyL, flL, zrL, stL, eqL, tyL_ok, flL_ok, zrL_ok, stL_ok, eqL_ok, by kernel_rfl⟩
end Go.HL
end

/-! HLRead -/
section
namespace Go.HL
open Go
set_option linter.unusedVariables false
set_option linter.unusedSimpArgs false

abbrev iv (n : Int) : Value := .int .i64 n
abbrev bs (l : List UInt8) : Value := .string ⟨⟨l⟩⟩
abbrev pt (b i : Nat) : Value := .pointer (some ⟨b, i, none⟩)
abbrev sl (b i len cap : Nat) : Value := .slice (some ⟨b, i, none⟩) len cap
abbrev Y4 : Value := .slice none 0 0

theorem Gets.at0 {l vs : List Value} {i : Nat} {v : Value} (h : Gets l i vs) (hv : vs[0]? = some v) : l[i]? = some v := h 0 v hv
theorem Gets.at {l vs : List Value} {i j : Nat} {v : Value} (h : Gets l i vs) (hv : vs[j]? = some v) : l[i + j]? = some v := h j v hv
def Rd {α : Type} (enc : α → List Value) (sz : Nat) (L : Zb) (a : Option Addr) (xs : List α) : Prop :=
 xs = [] ∨ ∃ b i l E fr, a = some ⟨b, i, none⟩ ∧ Has L b (.cells ⟨l⟩ E fr) ∧ ∀ (k : Nat) (x : α), xs[k]? = some x → Gets l (i + k * sz) (enc x)
theorem Rd.cons {α : Type} {enc : α → List Value} {sz : Nat} {L : Zb} {a : Option Addr} {xs : List α} (h : Rd enc sz L a xs) (c : List Zq) : Rd enc sz (c :: L) a xs := by
 rcases h with h | ⟨b, i, l, E, fr, h1, h2, h3⟩
 ·exact .inl h
 ·exact .inr ⟨b, i, l, E, fr, h1, Zf h2, h3⟩
theorem Rd.at {α : Type} {enc : α → List Value} {sz : Nat} {L : Zb} {a : Option Addr} {xs : List α} (h : Rd enc sz L a xs) {j : Int} (h0 : 0 ≤ j) (h1 : j < xs.length) :
  ∃ b i l E fr, a = some ⟨b, i, none⟩ ∧ Has L b (.cells ⟨l⟩ E fr) ∧ Gets l (i + j.toNat * sz) (enc (xs[j.toNat]'(by omega))) := by
 rcases h with h | ⟨b, i, l, E, fr, h2, h3, h4⟩
 ·subst h; simp at h1; omega
 ·exact ⟨b, i, l, E, fr, h2, h3, h4 j.toNat _ (List.getElem?_eq_getElem (by omega))⟩
theorem Rd.at1 {α : Type} {enc : α → List Value} {L : Zb} {a : Option Addr} {xs : List α} (h : Rd enc 1 L a xs) {j : Int} (h0 : 0 ≤ j) (h1 : j < xs.length) :
  ∃ b i l E fr, a = some ⟨b, i, none⟩ ∧ Has L b (.cells ⟨l⟩ E fr) ∧ Gets l (i + j.toNat) (enc (xs[j.toNat]'(by omega))) := by
 obtain ⟨b, i, l, E, fr, h2, h3, h4⟩ := h.at h0 h1
 rw [Nat.mul_one] at h4
 exact ⟨b, i, l, E, fr, h2, h3, h4⟩
theorem Zo9 {l : List Value} {i : Nat} {vs us : List Value} (h : Gets l i vs) (h2 : Gets l (i + vs.length) us) : Gets l i (vs ++ us) := by
 intro j v hj
 by_cases hlt : j < vs.length
 ·rw [List.getElem?_append_left hlt] at hj
  exact h j v hj
 ·rw [List.getElem?_append_right (by omega)] at hj
  have := h2 _ v hj
  rw [show i + j = i + vs.length + (j - vs.length) by omega]
  exact this
theorem Zgm {α : Type} {enc : α → List Value} {sz : Nat} {l : List Value} (hsz : ∀ x, (enc x).length = sz) : ∀ (xs : List α) (i : Nat), (∀ (k : Nat) (x : α), xs[k]? = some x → Gets l (i + k * sz) (enc x)) → Gets l i (xs.map enc).flatten
 | [], i, _ => by simpa using Ym
 | x :: r, i, h => by
  simp only [List.map_cons, List.flatten_cons]
  refine Zo9 (by simpa using h 0 x rfl) ?_
  rw [hsz]
  refine Zgm hsz r (i + sz) fun k y hy => ?_
  have := h (k + 1) y (by simpa using hy)
  rw [Nat.add_mul, Nat.one_mul] at this
  rw [show i + sz + k * sz = i + (k * sz + sz) by omega]
  exact this
theorem Uh {α : Type} {xs : List α} {j : Int} (h0 : 0 ≤ j) (h : j < xs.length) : xs.take (j + 1).toNat = xs.take j.toNat ++ [xs[j.toNat]'(by omega)] := by
 rw [show (j + 1).toNat = j.toNat + 1 by omega, List.take_succ_eq_append_getElem (by omega)]
theorem Qf {α : Type} {xs : List α} {j : Int} (h : ¬ j < xs.length) : xs.take j.toNat = xs := List.take_of_length_le (by omega)
theorem Rd.nil {α : Type} {enc : α → List Value} {sz : Nat} {L : Zb} {a : Option Addr} : Rd enc sz L a [] := .inl rfl

section q
variable {P : Program} (S : Tab P) {ρ : Z3} {L : Zb} {d : Option Tmp} {ty : TypeId} {pos : String} {af : Array Edge} {g : Option (Nat × Bool)}

theorem Znn {t b i E : Nat} {ti : TyI} {x : Operand} {l : List Value} {fr : Nat × Nat} {v : Value} (hx : ev ρ x = some (pt b i)) (ht : Yl S.ty t = some ti)
  (h6 : Nat.beq ti.kind 6 = false) (h7 : Nat.beq ti.kind 7 = false) (hb : Has L b (.cells ⟨l⟩ E fr)) (hv : l[i]? = some v) : QOp P ⟨d, .load t x, ty, pos, af, g⟩ ρ L v :=
 Y5 fun ρe he k w hs => by
  have h1 := Zvr (S.tyI ht) h6 h7 w
  have h2 : w.cell? ⟨b, i, none⟩ = some v := by rw [hs.cell hb, hv]
  simp [execOp, he x (by simp [Op.operands]) _ hx, Instr.loadAt, Instr.sureAddr, loadVar, h1, h2]
theorem Zs6 {t b i E : Nat} {ti : TyI} {x : Operand} {l vs : List Value} {fr : Nat × Nat} (hx : ev ρ x = some (pt b i)) (ht : Yl S.ty t = some ti)
  (h7 : (Nat.beq ti.kind 6 || Nat.beq ti.kind 7) = true) (hb : Has L b (.cells ⟨l⟩ E fr)) (hv : Gets l i vs ∧ ti.size = vs.length) : QOp P ⟨d, .load t x, ty, pos, af, g⟩ ρ L (.agg ⟨vs⟩) :=
 Y5 fun ρe he k w hs => by
  obtain ⟨hv, hn⟩ := hv
  have h1 := ty_agg (S.tyI ht) h7 w
  have h2 := Zem (P := P) hs hb hv
  have h3 := Xz (S.tyI ht) w
  simp [execOp, he x (by simp [Op.operands]) _ hx, Instr.loadAt, Instr.sureAddr, loadVar, h1, h2, h3, hn]
theorem Zqh {s f b i o ft : Nat} {x : Operand} (hx : ev ρ x = some (pt b i)) (hf : Yl S.fl (s * 64 + f) = some (o, ft)) (hlt : Nat.blt f 64 = true) : QOp P ⟨d, .fieldAddr s x f, ty, pos, af, g⟩ ρ L (pt b (i + o)) :=
 Y5 fun ρe he k w hs => by
  obtain ⟨h, -⟩ := S.fldI hf hlt
  unfold fldI at h
  split at h
  ·rename_i fs hfs
   split at h
   ·rename_i fd hfd
    split at h
    ·rename_i inf hinf
     split at h
     ·cases h
     ·rename_i hsz
      cases h
      simp [execOp, he x (by simp [Op.operands]) _ hx, Instr.fieldAt, run_underlying hfs, hfd, Instr.sureAddr, fieldPlace, sizeOf, typeInfo, hinf, hsz, W3]
    ·cases h
   ·cases h
  ·cases h
theorem Zhl {t b i len cap e y0 s0 b0 k1 x1 y1 sz b1 : Nat} {x y : Operand} {k : IntKind} {j : Int} (hx : ev ρ x = some (sl b i len cap)) (hy : ev ρ y = some (.int k j)) (ht : Yl S.ty t = some ⟨5, e, y0, s0, b0⟩)
  (he' : Yl S.ty e = some ⟨k1, x1, y1, sz, b1⟩) (hj : 0 ≤ j ∧ j < len) : QOp P ⟨d, .indexAddr t x y, ty, pos, af, g⟩ ρ L (pt b (i + j.toNat * sz)) :=
 Y5 fun ρe he k w hs => by
  have h1 := Yz (S.tyI ht) rfl
  have h2 := Xz (S.tyI he') w
  simp [execOp, he x (by simp [Op.operands]) _ hx, he y (by simp [Op.operands]) _ hy, Instr.indexAt, asIntOf, run_underlying h1, hj, h2, W3]
theorem Znh {t b i len cap e y0 s0 b0 k1 x1 y1 b1 : Nat} {x y : Operand} {k : IntKind} {j : Int} (hx : ev ρ x = some (sl b i len cap)) (hy : ev ρ y = some (.int k j)) (ht : Yl S.ty t = some ⟨5, e, y0, s0, b0⟩)
  (he' : Yl S.ty e = some ⟨k1, x1, y1, 1, b1⟩) (hj : 0 ≤ j ∧ j < len) : QOp P ⟨d, .indexAddr t x y, ty, pos, af, g⟩ ρ L (pt b (i + j.toNat)) := by
 have := Zhl (d := d) (ty := ty) (pos := pos) (af := af) (g := g) (L := L) S hx hy ht he' hj
 rw [Nat.mul_one] at this
 exact this
theorem Zol {t b i len e s0 b0 k1 x1 y1 sz b1 : Nat} {x y : Operand} {k : IntKind} {j : Int} (hx : ev ρ x = some (pt b i)) (hy : ev ρ y = some (.int k j)) (ht : Yl S.ty t = some ⟨6, len, e, s0, b0⟩)
  (he' : Yl S.ty e = some ⟨k1, x1, y1, sz, b1⟩) (hj : 0 ≤ j ∧ j < len) : QOp P ⟨d, .indexAddr t x y, ty, pos, af, g⟩ ρ L (pt b (i + j.toNat * sz)) :=
 Y5 fun ρe he k w hs => by
  have h1 := Zkr (S.tyI ht) rfl
  have h2 := Xz (S.tyI he') w
  simp [execOp, he x (by simp [Op.operands]) _ hx, he y (by simp [Op.operands]) _ hy, Instr.indexAt, asIntOf, Instr.sureAddr, run_underlying h1, hj, h2, W3]

/-! arithmetic -/
theorem Zdq {a : Int} (h : -9223372036854775808 ≤ a ∧ a ≤ 9223372036854775807) : IntKind.i64.wrap a = a := IntWalk.i64_in a h
theorem Zhv {op : BinOp} {t : Nat} {x y : Operand} {k k' : IntKind} {a b : Int} (w : World) : (eqGuard op t x y (.int k a) (.int k' b)).run P w = .ok () w := by
 cases op <;> simp [eqGuard]
theorem X3 {op : BinOp} {t t' : Nat} {x y : Operand} {k : IntKind} {a b : Int} {v : Value} (hx : ev ρ x = some (.int k a)) (hy : ev ρ y = some (.int k b)) (hv : ∀ w, (binOp op t (.int k a) (.int k b)).run P w = .ok v w) :
  QOp P ⟨d, .binOp op t x y t', ty, pos, af, g⟩ ρ L v :=
 Y5 fun ρe he k w hs => by simp [execOp, he x (by simp [Op.operands]) _ hx, he y (by simp [Op.operands]) _ hy, Zhv, hv w]
theorem q_add {t t' : Nat} {x y : Operand} {a b : Int} (hx : ev ρ x = some (iv a)) (hy : ev ρ y = some (iv b)) (h : -9223372036854775808 ≤ a + b ∧ a + b ≤ 9223372036854775807) : QOp P ⟨d, .binOp .add t x y t', ty, pos, af, g⟩ ρ L (iv (a + b)) :=
 X3 hx hy fun w => by simp [binOp, Op.intArith, Zdq h]
theorem q_sub {t t' : Nat} {x y : Operand} {a b : Int} (hx : ev ρ x = some (iv a)) (hy : ev ρ y = some (iv b)) (h : -9223372036854775808 ≤ a - b ∧ a - b ≤ 9223372036854775807) : QOp P ⟨d, .binOp .sub t x y t', ty, pos, af, g⟩ ρ L (iv (a - b)) :=
 X3 hx hy fun w => by simp [binOp, Op.intArith, Zdq h]
theorem q_mul {t t' : Nat} {x y : Operand} {a b : Int} (hx : ev ρ x = some (iv a)) (hy : ev ρ y = some (iv b)) (h : -9223372036854775808 ≤ a * b ∧ a * b ≤ 9223372036854775807) : QOp P ⟨d, .binOp .mul t x y t', ty, pos, af, g⟩ ρ L (iv (a * b)) :=
 X3 hx hy fun w => by simp [binOp, Op.intArith, Zdq h]
theorem q_quo {t t' : Nat} {x y : Operand} {a b : Int} (hx : ev ρ x = some (iv a)) (hy : ev ρ y = some (iv b)) (h : 0 ≤ a ∧ a ≤ 9223372036854775807 ∧ 1 ≤ b) : QOp P ⟨d, .binOp .quo t x y t', ty, pos, af, g⟩ ρ L (iv (a / b)) :=
 X3 hx hy fun w => by
  have h2 : b ≠ 0 := by omega
  simp [binOp, Op.intDiv, IntWalk.i64_quo a b h, h2]
theorem q_rem {t t' : Nat} {x y : Operand} {a b : Int} (hx : ev ρ x = some (iv a)) (hy : ev ρ y = some (iv b)) (h : 0 ≤ a ∧ a ≤ 9223372036854775807 ∧ 1 ≤ b) : QOp P ⟨d, .binOp .rem t x y t', ty, pos, af, g⟩ ρ L (iv (a % b)) :=
 X3 hx hy fun w => by
  have h2 : b ≠ 0 := by omega
  simp [binOp, Op.intDiv, IntWalk.rem_in a b h.1, h2]
theorem q_lss {t t' : Nat} {x y : Operand} {k : IntKind} {a b : Int} (hx : ev ρ x = some (.int k a)) (hy : ev ρ y = some (.int k b)) : QOp P ⟨d, .binOp .lss t x y t', ty, pos, af, g⟩ ρ L (.bool (decide (a < b))) :=
 X3 hx hy fun w => by simp [binOp, Op.intCmp]
theorem q_leq {t t' : Nat} {x y : Operand} {k : IntKind} {a b : Int} (hx : ev ρ x = some (.int k a)) (hy : ev ρ y = some (.int k b)) : QOp P ⟨d, .binOp .leq t x y t', ty, pos, af, g⟩ ρ L (.bool (decide (a ≤ b))) :=
 X3 hx hy fun w => by simp [binOp, Op.intCmp]
theorem q_gtr {t t' : Nat} {x y : Operand} {k : IntKind} {a b : Int} (hx : ev ρ x = some (.int k a)) (hy : ev ρ y = some (.int k b)) : QOp P ⟨d, .binOp .gtr t x y t', ty, pos, af, g⟩ ρ L (.bool (decide (b < a))) :=
 X3 hx hy fun w => by simp [binOp, Op.intCmp]
theorem q_geq {t t' : Nat} {x y : Operand} {k : IntKind} {a b : Int} (hx : ev ρ x = some (.int k a)) (hy : ev ρ y = some (.int k b)) : QOp P ⟨d, .binOp .geq t x y t', ty, pos, af, g⟩ ρ L (.bool (decide (b ≤ a))) :=
 X3 hx hy fun w => by simp [binOp, Op.intCmp]
theorem q_eql {t t' : Nat} {x y : Operand} {k : IntKind} {a b : Int} (hx : ev ρ x = some (.int k a)) (hy : ev ρ y = some (.int k b)) : QOp P ⟨d, .binOp .eql t x y t', ty, pos, af, g⟩ ρ L (.bool (decide (a = b))) :=
 X3 hx hy fun w => by simp [binOp, Op.intCmp]; rfl
theorem q_neq {t t' : Nat} {x y : Operand} {k : IntKind} {a b : Int} (hx : ev ρ x = some (.int k a)) (hy : ev ρ y = some (.int k b)) : QOp P ⟨d, .binOp .neq t x y t', ty, pos, af, g⟩ ρ L (.bool (decide (a ≠ b))) :=
 X3 hx hy fun w => by
  simp only [binOp, Op.intCmp, ne_eq, not_true_eq_false, if_false]
  by_cases e : a = b
  ·simp [e]
  ·simp [e, bne_iff_ne.2 e]
theorem q_not {t : Nat} {x : Operand} {b : Bool} (hx : ev ρ x = some (.bool b)) : QOp P ⟨d, .unOp .not t x, ty, pos, af, g⟩ ρ L (.bool (!b)) :=
 Y5 fun ρe he k w hs => by simp [execOp, he x (by simp [Op.operands]) _ hx, Op.unary]
theorem q_not_t {t : Nat} {x : Operand} {b : Bool} (hx : ev ρ x = some (.bool b)) (hb : b = true) : QOp P ⟨d, .unOp .not t x, ty, pos, af, g⟩ ρ L (.bool false) := by subst hb; exact q_not hx
theorem q_not_f {t : Nat} {x : Operand} {b : Bool} (hx : ev ρ x = some (.bool b)) (hb : b = false) : QOp P ⟨d, .unOp .not t x, ty, pos, af, g⟩ ρ L (.bool true) := by subst hb; exact q_not hx
theorem q_eqlB {t t' : Nat} {ti : TyI} {x y : Operand} {a b : Bool} (hx : ev ρ x = some (.bool a)) (hy : ev ρ y = some (.bool b)) (ht : Yl S.ty t = some ti) (h1 : ti.kind = 1) : QOp P ⟨d, .binOp .eql t x y t', ty, pos, af, g⟩ ρ L (.bool (decide (a = b))) :=
 Y5 fun ρe he k w hs => by
  have e : (a == b) = decide (a = b) := by cases a <;> cases b <;> rfl
  simp [execOp, he x (by simp [Op.operands]) _ hx, he y (by simp [Op.operands]) _ hy, eqGuard, run_eql_bool w t a b (Ztj (S.tyI ht) h1), e]
theorem q_neqB {t t' : Nat} {ti : TyI} {x y : Operand} {a b : Bool} (hx : ev ρ x = some (.bool a)) (hy : ev ρ y = some (.bool b)) (ht : Yl S.ty t = some ti) (h1 : ti.kind = 1) : QOp P ⟨d, .binOp .neq t x y t', ty, pos, af, g⟩ ρ L (.bool (decide (a ≠ b))) :=
 Y5 fun ρe he k w hs => by
  have e : (!(a == b)) = decide (a ≠ b) := by cases a <;> cases b <;> rfl
  simp only [execOp, he x (by simp [Op.operands]) _ hx, he y (by simp [Op.operands]) _ hy]
  simp [eqGuard, run_neq_bool w t a b (Ztj (S.tyI ht) h1)]
  cases a <;> cases b <;> rfl
theorem Zia (a : List UInt8) : (ByteArray.mk ⟨a⟩).toList = a := by
 exact Go.ByteArray.toList_mk a
theorem Zbu (a : List UInt8) : (ByteArray.mk ⟨a⟩).size = a.length := by simp [ByteArray.size]
theorem Zvh (a b : List UInt8) : (ByteArray.mk ⟨a⟩) ++ (ByteArray.mk ⟨b⟩) = ByteArray.mk ⟨a ++ b⟩ := by
 apply ByteArray.ext
 simp [ByteArray.data_append]
theorem q_eqlS {t t' : Nat} {x y : Operand} {a b : List UInt8} (hx : ev ρ x = some (bs a)) (hy : ev ρ y = some (bs b)) : QOp P ⟨d, .binOp .eql t x y t', ty, pos, af, g⟩ ρ L (.bool (decide (a = b))) :=
 Y5 fun ρe he k w hs => by
  simp only [execOp, he x (by simp [Op.operands]) _ hx, he y (by simp [Op.operands]) _ hy]
  simp [eqGuard, binOp, Op.stringOp, Zia]
  by_cases e : a = b <;> simp [e]
theorem q_neqS {t t' : Nat} {x y : Operand} {a b : List UInt8} (hx : ev ρ x = some (bs a)) (hy : ev ρ y = some (bs b)) : QOp P ⟨d, .binOp .neq t x y t', ty, pos, af, g⟩ ρ L (.bool (decide (a ≠ b))) :=
 Y5 fun ρe he k w hs => by
  simp only [execOp, he x (by simp [Op.operands]) _ hx, he y (by simp [Op.operands]) _ hy]
  simp [eqGuard, binOp, Op.stringOp, Zia]
  by_cases e : a = b <;> simp [e]
theorem q_addS {t t' : Nat} {x y : Operand} {a b : List UInt8} (hx : ev ρ x = some (bs a)) (hy : ev ρ y = some (bs b)) (h : a.length + b.length ≤ 9223372036854775807) : QOp P ⟨d, .binOp .add t x y t', ty, pos, af, g⟩ ρ L (bs (a ++ b)) :=
 Y5 fun ρe he k w hs => by
  simp only [execOp, he x (by simp [Op.operands]) _ hx, he y (by simp [Op.operands]) _ hy]
  have h2 := run_string_add_sum (P := P) w ⟨⟨a⟩⟩ ⟨⟨b⟩⟩ (by simp only [Zbu]; exact h)
  simp [eqGuard, binOp, h2, Zvh]
/-! nil -/
theorem W2 {t : Nat} {x y : Value} {b : Bool} {w : World} (h : ∀ dd, (Op.equalIn (dd + 1) t x y).run P w = .ok b w) : (Op.equal t x y).run P w = .ok b w := h 9999
theorem Zh8 {t e : Nat} {p : Option Addr} (h : P.underlying t = some (.pointer e)) (dd : Nat) (w : World) : (Op.equalIn (dd + 1) t (.pointer p) (.pointer none)).run P w = .ok p.isNone w := by
 cases p <;> simp [Op.equalIn, run_underlying h]
theorem Zt8 {t : Nat} {ms : Array (String × TypeId)} {u : Nat} {v : Value} (h : P.underlying t = some (.interface ms)) (dd : Nat) (w : World) : (Op.equalIn (dd + 1) t (.iface u v) .nilIface).run P w = .ok false w := by
 simp [Op.equalIn, run_underlying h]
theorem Zpe {t : Nat} {ms : Array (String × TypeId)} (h : P.underlying t = some (.interface ms)) (dd : Nat) (w : World) : (Op.equalIn (dd + 1) t .nilIface .nilIface).run P w = .ok true w := by
 simp [Op.equalIn, run_underlying h]
theorem Zhz {t e : Nat} {p : Option Addr} {len cap : Nat} (h : P.underlying t = some (.slice e)) (dd : Nat) (w : World) : (Op.equalIn (dd + 1) t (.slice p len cap) Y4).run P w = .ok p.isNone w := by
 cases p <;> simp [Op.equalIn, run_underlying h]
theorem Zb1 {t t' : Nat} {x y : Operand} {u v : Value} {b : Bool} (hx : ev ρ x = some u) (hy : ev ρ y = some v) (hg : ∀ w : World, (eqGuard .eql t x y u v).run P w = .ok () w) (hb : ∀ w, (Op.equal t u v).run P w = .ok b w)
  (hop : binOp .eql t u v = (do pure (.bool (← Op.equal t u v)))) : QOp P ⟨d, .binOp .eql t x y t', ty, pos, af, g⟩ ρ L (.bool b) :=
 Y5 fun ρe he k w hs => by
  simp only [execOp, he x (by simp [Op.operands]) _ hx, he y (by simp [Op.operands]) _ hy]
  simp [hg w, hop, hb w]
theorem Zad {t t' : Nat} {x y : Operand} {u v : Value} {b : Bool} (hx : ev ρ x = some u) (hy : ev ρ y = some v) (hg : ∀ w : World, (eqGuard .neq t x y u v).run P w = .ok () w) (hb : ∀ w, (Op.equal t u v).run P w = .ok b w)
  (hop : binOp .neq t u v = (do pure (.bool (!(← Op.equal t u v))))) : QOp P ⟨d, .binOp .neq t x y t', ty, pos, af, g⟩ ρ L (.bool (!b)) :=
 Y5 fun ρe he k w hs => by
  simp only [execOp, he x (by simp [Op.operands]) _ hx, he y (by simp [Op.operands]) _ hy]
  simp [hg w, hop, hb w]
theorem q_eqlPn {t t' : Nat} {ti : TyI} {x y : Operand} {p : Addr} (hx : ev ρ x = some (.pointer (some p))) (hy : ev ρ y = some (.pointer none)) (ht : Yl S.ty t = some ti) (h4 : ti.kind = 4) : QOp P ⟨d, .binOp .eql t x y t', ty, pos, af, g⟩ ρ L (.bool false) :=
 Zb1 (b := false) hx hy (fun w => by simp [eqGuard]) (fun w => W2 fun dd => Zh8 (Zbq (S.tyI ht) h4) dd w) rfl
theorem q_eqlPnn {t t' : Nat} {ti : TyI} {x y : Operand} (hx : ev ρ x = some (.pointer none)) (hy : ev ρ y = some (.pointer none)) (ht : Yl S.ty t = some ti) (h4 : ti.kind = 4) : QOp P ⟨d, .binOp .eql t x y t', ty, pos, af, g⟩ ρ L (.bool true) :=
 Zb1 (b := true) hx hy (fun w => by simp [eqGuard]) (fun w => W2 fun dd => Zh8 (Zbq (S.tyI ht) h4) dd w) rfl
theorem q_neqPn {t t' : Nat} {ti : TyI} {x y : Operand} {p : Addr} (hx : ev ρ x = some (.pointer (some p))) (hy : ev ρ y = some (.pointer none)) (ht : Yl S.ty t = some ti) (h4 : ti.kind = 4) : QOp P ⟨d, .binOp .neq t x y t', ty, pos, af, g⟩ ρ L (.bool true) :=
 Zad (b := false) hx hy (fun w => by simp [eqGuard]) (fun w => W2 fun dd => Zh8 (Zbq (S.tyI ht) h4) dd w) rfl
theorem q_neqPnn {t t' : Nat} {ti : TyI} {x y : Operand} (hx : ev ρ x = some (.pointer none)) (hy : ev ρ y = some (.pointer none)) (ht : Yl S.ty t = some ti) (h4 : ti.kind = 4) : QOp P ⟨d, .binOp .neq t x y t', ty, pos, af, g⟩ ρ L (.bool false) :=
 Zad (b := true) hx hy (fun w => by simp [eqGuard]) (fun w => W2 fun dd => Zh8 (Zbq (S.tyI ht) h4) dd w) rfl
theorem Zfj {t : Nat} {i : TyI} (h : tyI P t = some i) (hk : i.kind = 9) : ∃ ms, P.underlying t = some (.interface ms) := by
 obtain ⟨d, j, hd, hj, he, hs, _⟩ := X5 h
 rw [hd]
 cases d <;> simp [Q1, hk] at he
 exact ⟨_, rfl⟩
theorem q_eqlIn {t t' u : Nat} {ti : TyI} {x y : Operand} {v : Value} (hx : ev ρ x = some (.iface u v)) (hy : ev ρ y = some .nilIface) (ht : Yl S.ty t = some ti) (h9 : ti.kind = 9) : QOp P ⟨d, .binOp .eql t x y t', ty, pos, af, g⟩ ρ L (.bool false) := by
 obtain ⟨ms, hms⟩ := Zfj (S.tyI ht) h9
 exact Zb1 (b := false) hx hy (fun w => by simp [eqGuard]) (fun w => W2 fun dd => Zt8 hms dd w) rfl
theorem q_neqIn {t t' u : Nat} {ti : TyI} {x y : Operand} {v : Value} (hx : ev ρ x = some (.iface u v)) (hy : ev ρ y = some .nilIface) (ht : Yl S.ty t = some ti) (h9 : ti.kind = 9) : QOp P ⟨d, .binOp .neq t x y t', ty, pos, af, g⟩ ρ L (.bool true) := by
 obtain ⟨ms, hms⟩ := Zfj (S.tyI ht) h9
 exact Zad (b := false) hx hy (fun w => by simp [eqGuard]) (fun w => W2 fun dd => Zt8 hms dd w) rfl
theorem q_eqlInn {t t' : Nat} {ti : TyI} {x : Operand} (hx : ev ρ x = some .nilIface) (ht : Yl S.ty t = some ti) (h9 : ti.kind = 9) : QOp P ⟨d, .binOp .eql t x (.const .nilIface) t', ty, pos, af, g⟩ ρ L (.bool true) := by
 obtain ⟨ms, hms⟩ := Zfj (S.tyI ht) h9
 exact Zb1 (b := true) hx rfl (fun w => by cases x <;> simp [eqGuard]) (fun w => W2 fun dd => Zpe hms dd w) rfl
theorem q_neqInn {t t' : Nat} {ti : TyI} {x : Operand} (hx : ev ρ x = some .nilIface) (ht : Yl S.ty t = some ti) (h9 : ti.kind = 9) : QOp P ⟨d, .binOp .neq t x (.const .nilIface) t', ty, pos, af, g⟩ ρ L (.bool false) := by
 obtain ⟨ms, hms⟩ := Zfj (S.tyI ht) h9
 exact Zad (b := true) hx rfl (fun w => by cases x <;> simp [eqGuard]) (fun w => W2 fun dd => Zpe hms dd w) rfl

/-! lengths, parts -/
theorem q_lenS {t : Nat} {ti : TyI} {x : Operand} {a : Option Addr} {len cap : Nat} (hx : ev ρ x = some (.slice a len cap)) (ht : Yl S.ty t = some ti) (h5 : ti.kind = 5) :
  QOp P ⟨d, .call { callee := .builtin .len, args := #[x], argTypes := #[t] }, ty, pos, af, g⟩ ρ L (iv len) :=
 Y5 fun ρe he k w hs => by
  have h1 := Yz (S.tyI ht) h5
  simp [execOp, resolve, invoke, builtin, he x (by simp [Op.operands, Call.operands]) _ hx, Builtin.len_, run_underlying h1, goInt]
theorem q_lenT {t : Nat} {ti : TyI} {x : Operand} {l : List UInt8} (hx : ev ρ x = some (bs l)) (ht : Yl S.ty t = some ti) (h3 : ti.kind = 3) :
  QOp P ⟨d, .call { callee := .builtin .len, args := #[x], argTypes := #[t] }, ty, pos, af, g⟩ ρ L (iv l.length) :=
 Y5 fun ρe he k w hs => by
  have h1 := Qz (S.tyI ht) h3
  have h2 : (Builtin.len_ #[t] ty #[bs l]).run P w = .ok (iv l.length) w := by rw [run_len_string w t ty _ h1, Zbu]; rfl
  simp [execOp, resolve, invoke, builtin, he x (by simp [Op.operands, Call.operands]) _ hx, h2]
theorem q_lenA {t len e s0 b0 : Nat} {x : Operand} {v : Value} (hx : ev ρ x = some v) (ht : Yl S.ty t = some ⟨6, len, e, s0, b0⟩) :
  QOp P ⟨d, .call { callee := .builtin .len, args := #[x], argTypes := #[t] }, ty, pos, af, g⟩ ρ L (iv len) :=
 Y5 fun ρe he k w hs => by
  have h1 := Zkr (S.tyI ht) rfl
  have h3 : (Builtin.len_ #[t] ty #[ρe x]).run P w = .ok (iv len) w := by
   simp [Builtin.len_, run_underlying h1, goInt]
  simp [execOp, resolve, invoke, builtin, h3]
theorem q_max {ts : Array TypeId} {x y : Operand} {k : IntKind} {a b : Int} (hx : ev ρ x = some (.int k a)) (hy : ev ρ y = some (.int k b)) :
  QOp P ⟨d, .call { callee := .builtin .max, args := #[x, y], argTypes := ts }, ty, pos, af, g⟩ ρ L (.int k (max a b)) :=
 Y5 fun ρe he k w hs => by
  have e : (if a < b then b else a) = max a b := by simp only [Int.max_def]; split <;> split <;> omega
  simp [execOp, resolve, invoke, builtin, he x (by simp [Op.operands, Call.operands]) _ hx, he y (by simp [Op.operands, Call.operands]) _ hy, run_max_int2, e]
theorem q_min {ts : Array TypeId} {x y : Operand} {k : IntKind} {a b : Int} (hx : ev ρ x = some (.int k a)) (hy : ev ρ y = some (.int k b)) :
  QOp P ⟨d, .call { callee := .builtin .min, args := #[x, y], argTypes := ts }, ty, pos, af, g⟩ ρ L (.int k (min a b)) :=
 Y5 fun ρe he k w hs => by
  have e : (if b < a then b else a) = min a b := by simp only [Int.min_def]; split <;> split <;> omega
  simp [execOp, resolve, invoke, builtin, he x (by simp [Op.operands, Call.operands]) _ hx, he y (by simp [Op.operands, Call.operands]) _ hy, run_min_int2, e]
end q
end Go.HL
end

/-! HLWrite -/
section
namespace Go.HL
open Go
set_option linter.unusedVariables false
set_option linter.unusedSimpArgs false

def Upd (L : Zb) (b : Nat) (o o' : Obj) (L' : Zb) : Prop := ∃ l r, L.flatten = l ++ (b, o) :: r ∧ L'.flatten = l ++ (b, o') :: r
theorem Vj {b : Nat} {o o' : Obj} {c : List Zq} {L : Zb} : Upd (((b, o) :: c) :: L) b o o' (((b, o') :: c) :: L) := ⟨[], c ++ L.flatten, by simp, by simp⟩
theorem Zr6 {b : Nat} {o o' : Obj} {e : Zq} {c c' : List Zq} {L L' : Zb} (h : Upd (c :: L) b o o' (c' :: L')) : Upd ((e :: c) :: L) b o o' ((e :: c') :: L') := by
 obtain ⟨l, r, h1, h2⟩ := h
 simp only [List.flatten_cons] at h1 h2
 exact ⟨e :: l, r, by simp [h1], by simp [h2]⟩
theorem Zje {b : Nat} {o o' : Obj} {c : List Zq} {L L' : Zb} (h : Upd L b o o' L') : Upd (c :: L) b o o' (c :: L') := by
 obtain ⟨l, r, h1, h2⟩ := h
 exact ⟨c ++ l, r, by simp [h1], by simp [h2]⟩
theorem Upd.has {L L' : Zb} {b : Nat} {o o' : Obj} (h : Upd L b o o' L') : Has L b o := by
 obtain ⟨l, r, h1, h2⟩ := h
 simp [Has, h1]
theorem Sat.upd {k : Zk4} {w w' : World} {L L' : Zb} {b : Nat} {o o' : Obj} (h : Sat k w L) (hu : Upd L b o o' L') (h1 : w'.os = w.os) (h2 : w'.output = w.output) (ht : w'.tape = w.tape)
  (h3 : w'.heap[b]? = some o') (h4 : ∀ j, j ≠ b → w'.heap[j]? = w.heap[j]?) : Sat k w' L' := by
 obtain ⟨l, r, e1, e2⟩ := hu
 have hnd := h.nodup
 have hh := h.has
 rw [e1] at hnd hh
 simp only [List.map_append, List.map_cons] at hnd
 have hd := List.nodup_append.1 hnd
 have hd2 := List.nodup_cons.1 hd.2.1
 refine ⟨h1.trans h.os, h2.trans h.out, ht.trans h.tape, ?_, ?_⟩
 ·rw [e2]
  intro p hp
  rcases List.mem_append.1 hp with hp | hp
  ·rw [h4 p.1 (fun e => hd.2.2 p.1 (List.mem_map_of_mem hp) b (by simp) e)]
   exact hh p (List.mem_append.2 (.inl hp))
  ·rcases List.mem_cons.1 hp with hp | hp
   ·subst hp; exact h3
   ·rw [h4 p.1 (fun e => hd2.1 (e ▸ List.mem_map_of_mem hp))]
    exact hh p (List.mem_append.2 (.inr (List.mem_cons.2 (.inr hp))))
 ·rw [e2]
  simpa using hnd
theorem Sat.new {k : Zk4} {w : World} {L : Zb} (h : Sat k w L) (o : Obj) : Sat k (w.alloc o) ([(w.heap.size, o)] :: L) := by
 have hlt : ∀ p ∈ L.flatten, p.1 < w.heap.size := fun p hp => (Array.getElem?_eq_some_iff.1 (h.has p hp)).1
 refine ⟨h.os, h.out, h.tape, fun p hp => ?_, ?_⟩
 ·simp only [List.flatten_cons, List.cons_append, List.nil_append, List.mem_cons] at hp
  rcases hp with hp | hp
  ·subst hp; exact heap_alloc_new w o
  ·rw [Go.heap_alloc_old w o (hlt p hp)]
   exact h.has p hp
 ·simp only [List.flatten_cons, List.cons_append, List.nil_append, List.map_cons, List.nodup_cons]
  refine ⟨fun hm => ?_, h.nodup⟩
  obtain ⟨p, hp, e⟩ := List.mem_map.1 hm
  have := hlt p hp
  omega
theorem Sat.drew {k : Zk4} {w : World} {L : Zb} (h : Sat k w L) : Sat k w.drew L := ⟨h.os, h.out, h.tape, h.has, h.nodup⟩

def Zab : List Value → Nat → List Value → List Value
 | l, _, [] => l
 | l, i, v :: r => Zab (l.set i v) (i + 1) r
def Zt (l : List Value) (i : Nat) (vs l' : List Value) : Prop := l' = Zab l i vs ∧ i + vs.length ≤ l.length
theorem W4 {l : List Value} {i : Nat} {v : Value} (h : i < l.length) : Zt l i [v] (l.set i v) := ⟨rfl, by simp; omega⟩
theorem Uc {x v : Value} {l : List Value} : Zt (x :: l) 0 [v] (v :: l) := ⟨by simp [Zab], by simp⟩
theorem Zbx (vs : List Value) : ∀ (x : Value) (l : List Value) (i : Nat), Zab (x :: l) (i + 1) vs = x :: Zab l i vs := by
 induction vs with
 | nil => intro x l i; rfl
 | cons v r ih => intro x l i; simp [Zab, ih]
theorem Vp {x : Value} {l vs l' : List Value} {i : Nat} (h : Zt l i vs l') : Zt (x :: l) (i + 1) vs (x :: l') := by
 obtain ⟨h1, h2⟩ := h
 exact ⟨by rw [Zbx, h1], by simp; omega⟩
theorem Zu7 (vs : List Value) : ∀ (l : List Value), l.length = vs.length → Zab l 0 vs = vs := by
 induction vs with
 | nil => intro l h; simpa [Zab] using h
 | cons v r ih =>
  intro l h
  match l, h with
  | x :: l, h =>
   simp only [Zab, List.set_cons_zero]
   rw [Zbx, ih l (by simpa using h)]
theorem Zi9 {l vs : List Value} (h : l.length = vs.length) : Zt l 0 vs vs := ⟨(Zu7 vs l h).symm, by omega⟩
theorem Zfr (vs : List Value) : ∀ (l r : List Value), l.length = vs.length → Zab (l ++ r) 0 vs = vs ++ r := by
  induction vs with
  | nil => intro l r h; have : l = [] := by simpa using h
           subst this; simp [Zab]
  | cons v vs ih =>
    intro l r h
    match l, h with
    | x :: l, h =>
      simp only [Zab, List.cons_append, List.set_cons_zero]
      rw [Zbx, ih l r (by simpa using h)]
theorem Zrj {l r vs : List Value} (h : l.length = vs.length) : Zt (l ++ r) 0 vs (vs ++ r) := ⟨(Zfr vs l r h).symm, by simp; omega⟩

theorem Znz {w : World} {b : Nat} {l : List Value} {E : Nat} {fr : Nat × Nat} (h : w.heap[b]? = some (.cells ⟨l⟩ E fr)) (j : Nat) (v : Value) :
  (w.setCell ⟨b, j, none⟩ v).heap[b]? = some (.cells ⟨l.set j v⟩ E fr) := by
 have hb := (Array.getElem?_eq_some_iff.1 h).1
 have h' := (Array.getElem?_eq_some_iff.1 h).2
 simp only [World.setCell, Array.getElem?_modify, h, Option.map_some, if_true]
 simp
theorem Zb8 {P : Program} {k : Zk4} {b E : Nat} {fr : Nat × Nat} (vs : List Value) : ∀ (i0 i : Nat) (l : List Value) (w : World),
  w.heap[b]? = some (.cells ⟨l⟩ E fr) → (fr = (0, 0)) → i0 + i + vs.length ≤ l.length → (∀ v ∈ vs, v.oneCell' = true) →
  ∃ w', (storeCells ⟨b, i0, none⟩ vs i).run P w = .ok () w' ∧ w'.os = w.os ∧ w'.output = w.output ∧ w'.tape = w.tape ∧ w'.heap[b]? = some (.cells ⟨Zab l (i0 + i) vs⟩ E fr) ∧ ∀ j, j ≠ b → w'.heap[j]? = w.heap[j]? := by
 induction vs with
 | nil => intro i0 i l w hb hf hl hc; exact ⟨w, by simp [storeCells], rfl, rfl, rfl, hb, fun _ _ => rfl⟩
 | cons v r ih =>
  intro i0 i l w hb hf hl hc
  simp only [List.length_cons] at hl
  have hcell : w.cell? ⟨b, i0 + i, none⟩ = some (l[i0 + i]'(by omega)) := by
   rw [cell_of_row w b _ ⟨l⟩ E fr hb]
   simp
  have hfz : w.frozen? ⟨b, i0 + i, none⟩ = false := by
   subst hf
   exact frozen_of_row w b _ ⟨l⟩ E hb
  have hst : (store (Addr.mk b (i0 + i) none) v).run P w = .ok () (w.setCell ⟨b, i0 + i, none⟩ v) := by
   rw [run_store P w _ v _ (hc v (by simp))]
   simp [hcell, hfz]
  have hb' := Znz hb (i0 + i) v
  obtain ⟨w', h1, h2, h3, ht, h4, h5⟩ := ih i0 (i + 1) (l.set (i0 + i) v) (w.setCell ⟨b, i0 + i, none⟩ v) hb' hf (by simp; omega) (fun u hu => hc u (by simp [hu]))
  refine ⟨w', ?_, h2, h3, ht, ?_, fun j hj => ?_⟩
  ·simp only [storeCells, W3]
   simp [hst, h1]
  ·rw [h4]
   simp only [Zab]
   rw [show i0 + (i + 1) = i0 + i + 1 by omega]
  ·rw [h5 j hj]
   exact heap_setCell_other w _ j v hj

section o
variable {P : Program} (S : Tab P) {n : Nat} {ops : List Oper} {Q : Exit → Z3 → Zb → Prop} {rest : List Oper} {ρ : Z3} {L : Zb} {ty : TypeId} {pos : String} {af : Array Edge}

theorem U4 {o : Oper} {d : Nat} (hg : o.guard = none) (hd : o.dst = some d) (hn : Nat.blt d n = true)
  (h : ∀ (ρe : Operand → Value), (∀ x ∈ o.op.operands, ∀ u, ev ρ x = some u → ρe x = u) → ∀ k w, Sat k w L → ∃ v w' L', (execOp ρe o).run P w = .ok (.value v) w' ∧ Sat k w' L' ∧ HO P n ops Q rest ((d, v) :: ρ) L') : HO P n ops Q (o :: rest) ρ L := by
 intro k w a hs ha
 have hlt : d < n := Nat.le_of_ble_eq_true hn
 unfold wpList
 rw [if_pos (Ua o hg _)]
 obtain ⟨v, w', L', hr, hs', hK⟩ := h a.eval (fun x _ u hu => ha.ev hu) k w hs
 refine .inl ?_
 unfold Oper.wp
 rw [hr]
 simp only [Oper.upon]
 rw [hd]
 exact hK k w' _ hs' (ha.put hlt v)
theorem ho_do {o : Oper} (hg : o.guard = none) (hd : o.dst = none)
  (h : ∀ (ρe : Operand → Value), (∀ x ∈ o.op.operands, ∀ u, ev ρ x = some u → ρe x = u) → ∀ k w, Sat k w L → ∃ w' L', ((execOp ρe o).run P w = .ok .skip w' ∨ ∃ v, (execOp ρe o).run P w = .ok (.value v) w') ∧ Sat k w' L' ∧ HO P n ops Q rest ρ L') : HO P n ops Q (o :: rest) ρ L := by
 intro k w a hs ha
 unfold wpList
 rw [if_pos (Ua o hg _)]
 obtain ⟨w', L', hr, hs', hK⟩ := h a.eval (fun x _ u hu => ha.ev hu) k w hs
 refine .inl ?_
 unfold Oper.wp
 rcases hr with hr | ⟨v, hr⟩
 all_goals
  rw [hr]
  simp only [Oper.upon]
  rw [hd]
  exact hK k w' a hs' ha

theorem o_alloc {d E : Nat} {z : Value} {zs : List Value} (hz : Yl S.zr E = some z) (hc : z.cells = ⟨zs⟩) (hn : Nat.blt d n = true)
  (h : ∀ b, HO P n ops Q rest ((d, pt b 0) :: ρ) ([(b, .cells ⟨zs⟩ E)] :: L)) : HO P n ops Q (⟨some d, .alloc E, ty, pos, af, none⟩ :: rest) ρ L :=
 U4 rfl rfl hn fun ρe he k w hs => ⟨pt w.heap.size 0, w.alloc (.cells ⟨zs⟩ E), _, by
  have h1 := Q6 (S.zeroI hz) w
  simp [execOp, Instr.alloc, h1, newVar, newRow, hc], hs.new _, h _⟩
theorem o_box {d E : Nat} {x : Operand} {v : Value} {vs : List Value} (hx : ev ρ x = some v) (hc : v.cells = ⟨vs⟩) (hn : Nat.blt d n = true)
  (h : ∀ b, HO P n ops Q rest ((d, pt b 0) :: ρ) ([(b, .cells ⟨vs⟩ E)] :: L)) : HO P n ops Q (⟨some d, .box E x, ty, pos, af, none⟩ :: rest) ρ L :=
 U4 rfl rfl hn fun ρe he k w hs => ⟨pt w.heap.size 0, w.alloc (.cells ⟨vs⟩ E), _, by
  simp [execOp, Instr.box, he x (by simp [Op.operands]) _ hx, newVar, newRow, hc], hs.new _, h _⟩
theorem o_store {t b i E : Nat} {ti : TyI} {x y : Operand} {v : Value} {vs l l' : List Value} {L' : Zb} (hx : ev ρ x = some (pt b i)) (hy : ev ρ y = some v) (ht : Yl S.ty t = some ti)
  (hc : v.cells = ⟨vs⟩) (hsz : ti.size = vs.length) (h1 : (vs.all Value.oneCell') = true) (hp : Zt l i vs l') (hu : Upd L b (.cells ⟨l⟩ E (0, 0)) (.cells ⟨l'⟩ E (0, 0)) L')
  (h : HO P n ops Q rest ρ L') : HO P n ops Q (⟨none, .store t x y, ty, pos, af, none⟩ :: rest) ρ L :=
 ho_do rfl rfl fun ρe he k w hs => by
  obtain ⟨hp1, hp2⟩ := hp
  obtain ⟨w', e1, e2, e3, et, e4, e5⟩ := Zb8 (P := P) (k := k) vs i 0 l w (hs.heap hu.has) rfl (by simpa using hp2) (fun v hv => List.all_eq_true.1 h1 v hv)
  refine ⟨w', L', .inl ?_, hs.upd hu e2 e3 et (by rw [e4, hp1, Nat.add_zero]) e5, h⟩
  have h2 := Xz (S.tyI ht) w
  have h3 : v.cells.size = vs.length := by rw [hc]; rfl
  have h4 : v.cells.toList = vs := by rw [hc]
  simp [execOp, Instr.storeAt, he x (by simp [Op.operands]) _ hx, he y (by simp [Op.operands]) _ hy, Instr.sureAddr, storeVar, h2, h3, hsz, h4, e1]

/-! ### calls -/
theorem evs_map {l : List Operand} {ρe : Operand → Value} : ∀ {us : List Value}, (∀ x ∈ l, ∀ u, ev ρ x = some u → ρe x = u) → Zk3 ρ l = some us → l.map ρe = us := by
 induction l with
 | nil => intro us _ h; simp [Zk3] at h; simp [← h]
 | cons x r ih =>
  intro us hl h
  simp only [Zk3] at h
  cases hx : ev ρ x with
  | none => simp [hx] at h
  | some u =>
   cases hr : Zk3 ρ r with
   | none => simp [hx, hr] at h
   | some us' =>
    simp [hx, hr] at h
    rw [List.map_cons, hl x (by simp) u hx, ih (fun y hy => hl y (by simp [hy])) hr]
    exact h
theorem Zpf {f : Operand} {as9 : Array Operand} {ts : Array TypeId} {o : Oper} {ρe : Operand → Value} {F : Nat} {cap args : List Value} (hf : ev ρ f = some (.func (.func F) #[] ⟨cap⟩)) (ha : Zk3 ρ as9.toList = some args)
  (he : ∀ x ∈ (Op.call { callee := .value f, args := as9, argTypes := ts }).operands, ∀ u, ev ρ x = some u → ρe x = u) (hop : o.op = .call { callee := .value f, args := as9, argTypes := ts }) (hen : Zr5 P F) (w : World) :
  (execOp ρe o).run P w = .ok (.enter F ⟨args ++ cap⟩) w := by
 have e1 : ρe f = .func (.func F) #[] ⟨cap⟩ := he f (by simp [Op.operands, Call.operands]) _ hf
 have e2 : as9.map ρe = ⟨args⟩ := by
  have := evs_map (l := as9.toList) (ρe := ρe) (fun x hx u hu => he x (by simp [Op.operands, Call.operands]; exact .inr (Array.mem_toList_iff.1 hx)) u hu) ha
  apply Array.toList_inj.1
  simpa using this
 have e3 := hen ⟨args ++ cap⟩ w
 simp only [execOp, hop, resolve, e1, e2]
 simp [Deferred.ofValue, invoke, e3]
theorem q_call {d : Option Tmp} {g : Option (Nat × Bool)} {f : Operand} {as9 : Array Operand} {ts : Array TypeId} {F : Nat} {cap args : List Value} {v : Value} (hf : ev ρ f = some (.func (.func F) #[] ⟨cap⟩)) (ha : Zk3 ρ as9.toList = some args)
  (hc : HC P F (args ++ cap) L (fun u L' => u = v ∧ L' = L)) : QOp P ⟨d, .call { callee := .value f, args := as9, argTypes := ts }, ty, pos, af, g⟩ ρ L v := by
 intro k a he w hs
 unfold Oper.quietAt
 rw [Zpf hf ha he rfl hc.1 w]
 exact ⟨rfl, (hc.2 k w hs).mono fun e w' ⟨u, L', h1, h2, h3, h4⟩ => by subst h3; subst h4; exact ⟨h1, h2⟩⟩
theorem o_call {d : Nat} {f : Operand} {as9 : Array Operand} {ts : Array TypeId} {F : Nat} {cap args : List Value} {R : Value → Zb → Prop} (hf : ev ρ f = some (.func (.func F) #[] ⟨cap⟩)) (ha : Zk3 ρ as9.toList = some args)
  (hc : HC P F (args ++ cap) L R) (hn : Nat.blt d n = true) (h : ∀ v L', R v L' → HO P n ops Q rest ((d, v) :: ρ) L') : HO P n ops Q (⟨some d, .call { callee := .value f, args := as9, argTypes := ts }, ty, pos, af, none⟩ :: rest) ρ L := by
 intro k w a hs haa
 have hlt : d < n := Nat.le_of_ble_eq_true hn
 unfold wpList
 rw [if_pos (Ua _ rfl _)]
 refine .inl ?_
 unfold Oper.wp
 rw [Zpf hf ha (fun x _ u hu => haa.ev hu) rfl hc.1 w]
 refine (hc.2 k w hs).mono fun e w' ⟨u, L', h1, h2, h3⟩ => ?_
 subst h1
 exact h u L' h3 k w' _ h2 (haa.put hlt u)
theorem ho_perm {l : List Oper} {L' : Zb} (h : HO P n ops Q l ρ L') (hs : List.Perm L L') : HO P n ops Q l ρ L := fun k w a hs' ha => h k w a (hs'.perm hs) ha
end o
end Go.HL
end

/-! HLDraw -/
section
namespace Go.HL
open Go
set_option linter.unusedVariables false
set_option linter.unusedSimpArgs false

section draw
variable {P : Program} {n : Nat} {ops : List Oper} {K : Z3 → Prop} {rest : List Oper} {o : Oper} {ρ : Z3} {L : Zb}

def HQ (P : Program) (n : Nat) (ops : List Oper) (K : Z3 → Prop) (l : List Oper) (ρ : Z3) (L : Zb) : Prop :=
 ∀ k a, Agr n a ρ → wpQuiet P ops.toArray (fun w => Sat k w L) (fun a' => ∃ ρ', Agr n a' ρ' ∧ K ρ') l a
theorem hq_nil (h : K ρ) : HQ P n ops K [] ρ L := fun k a ha => ⟨ρ, ha, h⟩
theorem hq_q {v : Value} {d : Nat} {op : Op} {ty : TypeId} {pos : String} {af : Array Edge} (hn : Nat.blt d n = true) (h : QOp P ⟨some d, op, ty, pos, af, none⟩ ρ L v) (hr : HQ P n ops K rest ((d, v) :: ρ) L) :
  HQ P n ops K (⟨some d, op, ty, pos, af, none⟩ :: rest) ρ L := by
 have hg : (Oper.mk (some d) op ty pos af none).guard = none := rfl
 intro k a ha
 have hlt : d < n := Nat.le_of_ble_eq_true hn
 unfold wpQuiet
 rw [if_pos (Ua _ hg _)]
 refine ⟨v, fun w hs => h k a (fun x _ u hu => ha.ev hu) w hs, ?_⟩
 exact hr k _ (ha.put hlt v)
theorem Zs2 {v : Value} {d j t : Nat} {wt : Bool} {op : Op} {ty : TypeId} {pos : String} {af : Array Edge} (hn : Nat.blt d n = true) (hj : Q0 ops j = some t) (ht : lk ρ t = some (.bool wt)) (h : QOp P ⟨some d, op, ty, pos, af, some (j, wt)⟩ ρ L v)
  (hr : HQ P n ops K rest ((d, v) :: ρ) L) : HQ P n ops K (⟨some d, op, ty, pos, af, some (j, wt)⟩ :: rest) ρ L := by
 have hg : (Oper.mk (some d) op ty pos af (some (j, wt))).guard = some (j, wt) := rfl
 intro k a ha
 have hlt : d < n := Nat.le_of_ble_eq_true hn
 unfold wpQuiet
 rw [if_pos (by rw [Vo ha hg hj ht]; simp)]
 refine ⟨v, fun w hs => h k a (fun x _ u hu => ha.ev hu) w hs, ?_⟩
 exact hr k _ (ha.put hlt v)
theorem Zta {d j t : Nat} {wt b : Bool} {op : Op} {ty : TypeId} {pos : String} {af : Array Edge} (hn : Nat.blt d n = true) (hj : Q0 ops j = some t) (ht : lk ρ t = some (.bool b)) (hb : (!wt) = b)
  (hr : HQ P n ops K rest ((d, undef) :: ρ) L) : HQ P n ops K (⟨some d, op, ty, pos, af, some (j, wt)⟩ :: rest) ρ L := by
 subst hb
 have hg : (Oper.mk (some d) op ty pos af (some (j, wt))).guard = some (j, wt) := rfl
 intro k a ha
 have hlt : d < n := Nat.le_of_ble_eq_true hn
 unfold wpQuiet
 rw [if_neg (by rw [Vo ha hg hj ht]; cases wt <;> simp)]
 exact hr k _ (ha.put hlt undef)
theorem Zv0 {l : List Oper} (t : Nat) {b : Bool} (ht : lk ρ t = some (.bool b)) (h1 : b = true → HQ P n ops K l ((t, .bool true) :: ρ) L) (h0 : b = false → HQ P n ops K l ((t, .bool false) :: ρ) L) : HQ P n ops K l ρ L := by
 intro k a ha
 cases hb : b with
 | true => exact h1 hb k a (ha.name ht hb)
 | false => exact h0 hb k a (ha.name ht hb)
theorem hq_skipu {d j t : Nat} {wt : Bool} {v : Value} {op : Op} {ty : TypeId} {pos : String} {af : Array Edge} (hj : Q0 ops j = some t) (ht : lk ρ t = some v) (hb : v = undef) (hn : Nat.blt d n = true)
  (hr : HQ P n ops K rest ((d, undef) :: ρ) L) : HQ P n ops K (⟨some d, op, ty, pos, af, some (j, wt)⟩ :: rest) ρ L := by
 subst hb
 intro k a ha
 have hlt : d < n := Nat.le_of_ble_eq_true hn
 unfold wpQuiet
 have hw : Region.wanted (Oper.mk (some d) op ty pos af (some (j, wt))) (yielded ops.toArray a.tmps) = false := by
  unfold Q0 at hj
  simp [Region.wanted, yielded, hj, ha.get _ _ ht, undef]
 rw [if_neg (by rw [hw]; simp)]
 exact hr k _ (ha.put hlt undef)
theorem Zui {d j t : Nat} {wt : Bool} {op : Op} {ty : TypeId} {pos : String} {af : Array Edge} {b : Bool} (hj : Q0 ops j = some t) (ht : lk ρ t = some (.bool b))
  (h1 : b = true → HQ P n ops K (⟨some d, op, ty, pos, af, some (j, wt)⟩ :: rest) ((t, .bool true) :: ρ) L) (h0 : b = false → HQ P n ops K (⟨some d, op, ty, pos, af, some (j, wt)⟩ :: rest) ((t, .bool false) :: ρ) L) :
  HQ P n ops K (⟨some d, op, ty, pos, af, some (j, wt)⟩ :: rest) ρ L := Zv0 t ht h1 h0
theorem wpQuiet_mono' {P : Program} {ops : Array Oper} {C : World → Prop} {Q Q' : Act → Prop} (hq : ∀ a, Q a → Q' a) : ∀ (l : List Oper) (a : Act), wpQuiet P ops C Q l a → wpQuiet P ops C Q' l a
 | [], a, h => hq a h
 | o :: l, a, h => by
  unfold wpQuiet at *
  split
  ·rename_i hw
   rw [if_pos hw] at h
   exact Oper.quiet_mono (fun a' h' => wpQuiet_mono' hq l a' h') h
  ·rename_i hw
   rw [if_neg hw] at h
   exact wpQuiet_mono' hq l _ h
theorem Zpz {id : Nat} {Q : Exit → Z3 → Zb → Prop} (S : Tab P) (hB : Region.lexB .any ops.toArray = true) (h : HQ P n ops (fun ρ' => Q .normal ρ' L) ops ρ L) : HW P n (.region id ops.toArray true) Q ρ L := by
 intro k w a hs ha
 refine wp_region_quiet (C := fun w => Sat k w L) S.mixed hB hs.drew ?_
 exact wpQuiet_mono' (fun a' ⟨ρ', h1, h2⟩ w' hs' => ⟨ρ', L, h1, hs', h2⟩) _ _ (h k a ha)
end draw
end Go.HL
end

/-! HLApp -/
section
namespace Go.HL
open Go
set_option linter.unusedVariables false
set_option linter.unusedSimpArgs false

def Own (E sz : Nat) (v : Value) (n : Nat) (cs : List Value) (c : List Zq) : Prop :=
 (v = Y4 ∧ n = 0 ∧ cs = [] ∧ c = []) ∨
 ∃ b cap sp, v = sl b 0 n cap ∧ c = [(b, .cells ⟨cs ++ sp⟩ E)] ∧ cs.length = n * sz ∧ n ≤ cap ∧ (cs ++ sp).length = cap * sz
theorem Zt0 {E sz : Nat} : Own E sz Y4 0 [] [] := .inl ⟨rfl, rfl, rfl, rfl⟩
def Src (sz : Nat) (L : Zb) (u : Value) (n : Nat) (new : List Value) : Prop :=
 (∃ a cap, u = .slice a 0 cap ∧ n = 0 ∧ new = []) ∨ ∃ b i cap l F fr, 0 < n ∧ u = sl b i n cap ∧ Has L b (.cells ⟨l⟩ F fr) ∧ Gets l i new ∧ new.length = n * sz
theorem Yy {α : Type} {enc : α → List Value} {sz : Nat} (hsz : ∀ x, (enc x).length = sz) : ∀ ys : List α, ((ys.map enc).flatten).length = ys.length * sz
 | [] => by simp
 | y :: ys => by simp [Yy hsz ys, hsz, Nat.add_mul, Nat.add_comm]
theorem Zf9 {α : Type} {enc : α → List Value} {sz : Nat} {L : Zb} {a : Option Addr} {cap : Nat} {xs : List α} (hsz : ∀ x, (enc x).length = sz) (h : Rd enc sz L a xs) : Src sz L (.slice a xs.length cap) xs.length (xs.map enc).flatten := by
 cases xs with
 | nil => exact .inl ⟨a, cap, rfl, rfl, rfl⟩
 | cons x r =>
  rcases h with h | ⟨b, i, l, E, fr, rfl, hb, hg⟩
  ·cases h
  ·exact .inr ⟨b, i, cap, l, E, fr, by simp, rfl, hb, Zgm hsz _ _ hg, Yy hsz _⟩
theorem src_one {sz b i cap F : Nat} {L : Zb} {l new : List Value} {fr : Nat × Nat} (hb : Has L b (.cells ⟨l⟩ F fr)) (hg : Gets l i new) (hl : new.length = sz) : Src sz L (sl b i 1 cap) 1 new :=
 .inr ⟨b, i, cap, l, F, fr, by omega, rfl, hb, hg, by omega⟩

theorem Zc6 (zs : List Value) (n : Nat) : ∃ sp : List Value, Builtin.zeroCells ⟨zs⟩ n = ⟨sp⟩ ∧ sp.length = n * zs.length := by
 refine ⟨(Builtin.zeroCells ⟨zs⟩ n).toList, rfl, ?_⟩
 rw [Array.length_toList, size_zeroCells]
 rfl
theorem take_left {a b : List Value} {n : Nat} (h : a.length = n) : (a ++ b).take n = a := by subst h; simp

section app
variable {P : Program} (S : Tab P) {n : Nat} {ops : List Oper} {Q : Exit → Z3 → Zb → Prop} {rest : List Oper} {ρ : Z3} {L : Zb} {ty : TypeId} {pos : String} {af : Array Edge}

theorem Zcx (w : World) (need old e : Nat) : need ≤ grownCap w need old e := Nat.le_add_right _ _

theorem Zkc {d t E y0 s0 b0 k1 x1 y1 sz by1 m nn : Nat} {z v u : Value} {zs cs new : List Value} {c : List Zq} {x y : Operand}
  (hx : ev ρ x = some v) (hy : ev ρ y = some u) (ht : Yl S.ty t = some ⟨5, E, y0, s0, b0⟩) (he : Yl S.ty E = some ⟨k1, x1, y1, sz, by1⟩) (hz : Yl S.zr E = some z) (hzs : z.cells = ⟨zs⟩) (hzl : zs.length = sz)
  (hn : Nat.blt d n = true) (ho : Own E sz v nn cs c) (hs : Src sz (c :: L) u m new) (h1 : (new.all Value.oneCell') = true) (hby : (nn + m) * by1 ≤ 140737488355328) (hmax : nn + m ≤ 9223372036854775807)
  (h : ∀ v' c', Own E sz v' (nn + m) (cs ++ new) c' → HO P n ops Q rest ((d, v') :: ρ) (c' :: L)) :
  HO P n ops Q (⟨some d, .call { callee := .builtin .append, args := #[x, y], argTypes := #[t, t] }, ty, pos, af, none⟩ :: rest) ρ (c :: L) := by
 refine U4 rfl rfl hn fun ρe he' k w hsat => ?_
 have hdesc := Yz (S.tyI ht) rfl
 obtain ⟨de, i, hde, hi, -, hisz, hiby⟩ := X5 (S.tyI he)
 simp only at hisz hiby
 have hiz : i.zero = some z := by
  have := S.zeroI hz
  unfold zeroI at this
  simpa [hi] using this
 have hsize : (sizeOf E).run P w = .ok sz w := Xz (S.tyI he) w
 have hone : ∀ u ∈ new, u.oneCell' = true := fun u hu => List.all_eq_true.1 h1 u hu
 have e1 := he' x (by simp [Op.operands, Call.operands]) _ hx
 have e2 := he' y (by simp [Op.operands, Call.operands]) _ hy
 suffices ∃ v' w' c', (Builtin.append_ #[t, t] ty #[v, u]).run P w = .ok v' w' ∧ Sat k w' (c' :: L) ∧ Own E sz v' (nn + m) (cs ++ new) c' by
  obtain ⟨v', w', c', hr, hs', ho'⟩ := this
  refine ⟨v', w', c' :: L, ?_, hs', h v' c' ho'⟩
  simp [execOp, resolve, invoke, builtin, e1, e2, hr]
 have hdrop : Sat k w L := hsat.sub (.cons _ (.refl _))
 rcases hs with ⟨a, cap, rfl, rfl, rfl⟩ | ⟨b, j, cap, l, F, fr, hm, rfl, hb, hg, hlen⟩
 · -- nothing comes
  rcases ho with ⟨rfl, rfl, rfl, rfl⟩ | ⟨b', cap', sp, rfl, rfl, hcs, hle, hall⟩
  ·refine ⟨Y4, w, [], ?_, hsat, .inl ⟨rfl, rfl, rfl, rfl⟩⟩
   cases a <;> simp [Builtin.append_, run_underlying hdesc, hsize, Builtin.lenOf, Builtin.firstCells, loadCells, loadCellsFrom]
  ·refine ⟨sl b' 0 nn cap', w, [(b', .cells ⟨cs ++ sp⟩ E)], ?_, hsat, .inr ⟨b', cap', sp, by simp, by simp, by simp [hcs], by omega, by simpa using hall⟩⟩
   cases a <;> simp [Builtin.append_, run_underlying hdesc, hsize, Builtin.lenOf, Builtin.firstCells, loadCells, loadCellsFrom, hle, storeCells]
 ·have hnews : ∀ (q : Nat) (v : Value), new[q]? = some v → w.cell? ((Addr.mk b j none).add q) = some v := fun q v hq => by
   rw [W3, hsat.cell hb]; exact hg q v hq
  rcases ho with ⟨rfl, rfl, rfl, rfl⟩ | ⟨b', cap', sp, rfl, rfl, hcs, hle, hall⟩
  ·have hr := run_append_nil (P := P) w t ty E i z hdesc hi hiz ⟨b, j, none⟩ m cap new (by rw [hisz]; exact hlen) hnews hm (by omega) (by rw [hiby]; simp at hby; omega)
   obtain ⟨sp, hsp, hspl⟩ := Zc6 zs (grownCap w m 0 E - m)
   rw [hzs, hsp] at hr
   have hcap := Zcx w m 0 E
   refine ⟨_, _, [(w.heap.size, .cells ⟨new ++ sp⟩ E)], by simpa using hr, ?_, .inr ⟨w.heap.size, grownCap w m 0 E, sp, by simp, by simp, by simpa using hlen, by omega, ?_⟩⟩
   ·have := (hdrop.drew).new (.cells ⟨new ++ sp⟩ E)
    simpa using this
   ·simp only [List.nil_append, List.length_append, hspl, hlen, hzl]
    rw [Nat.sub_mul]
    have : m * sz ≤ grownCap w m 0 E * sz := Nat.mul_le_mul_right _ hcap
    omega
  ·have hb' : w.heap[b']? = some (.cells ⟨cs ++ sp⟩ E) := hsat.heap Zv
   by_cases hroom : nn + m ≤ cap'
   ·have hsplit : nn * sz + new.length ≤ (cs ++ sp).length := by
     rw [hlen, hall, ← Nat.add_mul]
     exact Nat.mul_le_mul_right _ hroom
    have hr := run_append_room (P := P) w t ty E i hdesc hi b' nn cap' ⟨cs ++ sp⟩ hb' ⟨b, j, none⟩ m cap new (by rw [hisz]; exact hlen) hnews hone hroom (by rw [hisz]; simpa using hsplit)
    rw [hisz] at hr
    have e3 : (cs ++ sp).take (nn * sz) ++ new ++ (cs ++ sp).drop (nn * sz + new.length) = (cs ++ new) ++ sp.drop new.length := by
     rw [take_left hcs, ← hcs, List.drop_append, List.drop_of_length_le (by omega)]
     simp
    simp only [] at hr
    rw [e3] at hr
    refine ⟨_, _, [(b', .cells ⟨(cs ++ new) ++ sp.drop new.length⟩ E)], hr, ?_, .inr ⟨b', cap', sp.drop new.length, rfl, rfl, by simp [hcs, hlen, Nat.add_mul], hroom, ?_⟩⟩
    ·refine hsat.upd (o := .cells ⟨cs ++ sp⟩ E) (o' := .cells ⟨(cs ++ new) ++ sp.drop new.length⟩ E) Vj rfl rfl rfl (setRow_heap w b' _ _ E _ hb') (fun q hq => ?_)
     simp only [World.setRow, Array.getElem?_modify]
     rw [if_neg (fun e => hq e.symm)]
    ·simp only [List.length_append, List.length_drop] at hall hsplit ⊢
     omega
   ·have hfit : Builtin.nextslicecap (nn + m) cap' * i.bytes ≤ 281474976710656 := by
     rw [hiby]; exact growslice_fits (by omega) hby
    have holds : ∀ (q : Nat) (v : Value), cs[q]? = some v → w.cell? ((Addr.mk b' 0 none).add q) = some v := fun q v hq => by
     rw [W3, hsat.cell Zv, Nat.zero_add]
     rw [List.getElem?_append_left (List.getElem?_eq_some_iff.1 hq).1]; exact hq
    have hr := run_append_grow (P := P) w t ty E i z hdesc hi hiz ⟨b', 0, none⟩ nn cap' cs (by rw [hisz]; exact hcs) holds ⟨b, j, none⟩ m cap new (by rw [hisz]; exact hlen) hnews (by omega) (by omega) hfit
    obtain ⟨sp', hsp, hspl⟩ := Zc6 zs (grownCap w (nn + m) cap' E - (nn + m))
    rw [hzs, hsp] at hr
    have hcap := Zcx w (nn + m) cap' E
    refine ⟨sl w.heap.size 0 (nn + m) (grownCap w (nn + m) cap' E), w.drew.alloc (.cells ⟨(cs ++ new) ++ sp'⟩ E), [(w.heap.size, .cells ⟨(cs ++ new) ++ sp'⟩ E)], ?_, ?_, .inr ⟨w.heap.size, grownCap w (nn + m) cap' E, sp', rfl, rfl, by simp [hcs, hlen, Nat.add_mul], hcap, ?_⟩⟩
    ·rw [hr]; simp
    ·exact (hdrop.drew).new (.cells ⟨(cs ++ new) ++ sp'⟩ E)
    ·simp only [List.length_append, hspl, hlen, hcs, hzl]
     rw [← Nat.add_mul, Nat.sub_mul]
     have : (nn + m) * sz ≤ grownCap w (nn + m) cap' E * sz := Nat.mul_le_mul_right _ hcap
     omega
def Zpx (ρ : Z3) : Nat → List (Nat × Operand) → Option (List Value)
 | _, [] => some []
 | k, (i, x) :: r => bif Nat.beq i k then (match ev ρ x, Zpx ρ (k + 1) r with
  | some v, some vs => some (v :: vs)
  | _, _ => none) else none
theorem Zos {ρe : Operand → Value} : ∀ (parts : List (Nat × Operand)) (k : Nat) (vals pre zs : List Value), (∀ p ∈ parts, ∀ u, ev ρ p.2 = some u → ρe p.2 = u) → Zpx ρ k parts = some vals → pre.length = k → zs.length = vals.length →
  (vals.all Value.oneCell') = true → Instr.fill (fun i => some (i, 1)) ⟨pre ++ zs⟩ (parts.map fun p => (p.1, ρe p.2)) = some ⟨pre ++ vals⟩
 | [], k, vals, pre, zs, _, h, _, hz, _ => by
  simp [Zpx] at h; subst h
  have : zs = [] := by simpa using hz
  subst this
  simp [Instr.fill]
 | (i, x) :: r, k, vals, pre, zs, he, h, hp, hz, h1 => by
  simp only [Zpx] at h
  cases hb : Nat.beq i k with
  | false => rw [hb] at h; cases h
  | true =>
   rw [hb] at h
   have hik := Nat.eq_of_beq_eq_true hb
   subst hik
   cases hx : ev ρ x with
   | none => simp [hx] at h
   | some v =>
    cases hr : Zpx ρ (i + 1) r with
    | none => simp [hx, hr] at h
    | some vs =>
     simp [hx, hr] at h
     subst h
     match zs, hz with
     | z :: zs, hz =>
      simp only [List.all_cons, Bool.and_eq_true] at h1
      have hev := he (i, x) (by simp) v hx
      have hc : v.cells = #[v] := by cases v <;> first | rfl | (simp [Value.oneCell'] at h1)
      have ih := Zos r (i + 1) vs (pre ++ [v]) zs (fun p hp => he p (by simp [hp])) hr (by simp [hp]) (by simpa using hz) h1.2
      simp only [List.map_cons, Instr.fill, hev, hc]
      simp only [List.append_assoc, List.cons_append, List.nil_append] at ih
      have e : (Array.mk (pre ++ z :: zs)).setIfInBounds i v = ⟨pre ++ v :: zs⟩ := by
       apply Array.toList_inj.1
       simp [List.set_append, hp]
      simp [hp, e, ih]
theorem Zli {d t E y0 s0 b0 k1 x1 y1 by1 len : Nat} {z : Value} {zv : Value} {vals : List Value} {parts : Array (Nat × Operand)} (ht : Yl S.ty t = some ⟨5, E, y0, s0, b0⟩) (he : Yl S.ty E = some ⟨k1, x1, y1, 1, by1⟩) (hz : Yl S.zr E = some z) (hzs : z.cells = ⟨[zv]⟩)
  (hp : Zpx ρ 0 parts.toList = some vals) (hlen : vals.length = len) (hsm : Nat.ble len 16777216 = true) (h1 : (vals.all Value.oneCell') = true) (hn : Nat.blt d n = true)
  (h : ∀ b, HO P n ops Q rest ((d, sl b 0 len len) :: ρ) ([(b, .cells ⟨vals⟩ E)] :: L)) : HO P n ops Q (⟨some d, .buildSlice t len parts, ty, pos, af, none⟩ :: rest) ρ L := by
 refine U4 rfl rfl hn fun ρe he' k w hs => ⟨sl w.heap.size 0 len len, w.alloc (.cells ⟨vals⟩ E), _, ?_, hs.new _, h _⟩
 have hdesc := Yz (S.tyI ht) rfl
 have hsize : (sizeOf E).run P w = .ok 1 w := Xz (S.tyI he) w
 have hzero := Q6 (S.zeroI hz) w
 have hle : len ≤ 16777216 := Nat.le_of_ble_eq_true hsm
 have hparts : ∀ p ∈ parts.toList, ∀ u, ev ρ p.2 = some u → ρe p.2 = u := fun p hp u hu => he' p.2 (by simp [Op.operands]; exact ⟨p.1, by simpa using Array.mem_toList_iff.1 hp⟩) u hu
 have hfill := Zos (ρ := ρ) parts.toList 0 vals [] (List.replicate len zv) hparts hp rfl (by simp [hlen]) h1
 have hm : (parts.map fun p => (p.1, ρe p.2)).toList = parts.toList.map fun p => (p.1, ρe p.2) := by simp
 have hbs : ∀ pp : Array (Nat × Value), pp.toList = parts.toList.map (fun p => (p.1, ρe p.2)) → (Instr.buildSlice t len pp).run P w = .ok (sl w.heap.size 0 len len) (w.alloc (.cells ⟨vals⟩ E)) := by
  intro pp hpp
  have hl2 : ¬ (16777216 < len) := by omega
  simp only [List.nil_append] at hfill
  by_cases h0 : len = 0
  ·subst h0
   have hv : vals = [] := by simpa using hlen
   subst hv
   simp only [List.replicate_zero] at hfill
   have hf2 : Instr.fill (fun i => some (i, 1)) #[] (List.map (fun p => (p.fst, ρe p.snd)) parts.toList) = some ⟨[]⟩ := hfill
   have e0 : Array.range 0 = #[] := rfl
   simp only [Instr.buildSlice]
   simp [run_underlying hdesc, hsize, hpp, e0, hf2, newRow]
  ·have harr : Array.map (fun j => (z.cells)[j % z.cells.size]!) (Array.range len) = ⟨List.replicate len zv⟩ := by
    rw [hzs]
    apply Array.toList_inj.1
    simp [List.map_const', Nat.mod_one]
   have hf2 : Instr.fill (fun i => some (i, 1)) (Array.replicate len zv) (List.map (fun p => (p.fst, ρe p.snd)) parts.toList) = some ⟨vals⟩ := by
    have e1 : Array.replicate len zv = ⟨List.replicate len zv⟩ := by simp
    rw [e1]; exact hfill
   simp only [Instr.buildSlice]
   simp [run_underlying hdesc, hsize, hzero, h0, hl2, harr, hpp, hf2, newRow]
 have := hbs (parts.map fun p => (p.1, ρe p.2)) (by simp)
 simp [execOp, this]
theorem Sat.nilc {k : Zk4} {w : World} (h : Sat k w L) : Sat k w ([] :: L) := ⟨h.os, h.out, h.tape, by simpa using h.has, by simpa using h.nodup⟩
theorem Zh3 {l : List Oper} (h : HO P n ops Q l ρ ([] :: L)) : HO P n ops Q l ρ L := fun k w a hs ha => h k w a hs.nilc ha
theorem Zie {c : Code} (h : HW P n c Q ρ ([] :: L)) : HW P n c Q ρ L := fun k w a hs ha => h k w a hs.nilc ha
theorem Zb0 {α : Type} {enc : α → List Value} (he : ∀ x, (enc x).all Value.oneCell' = true) (xs : List α) : ((xs.map enc).flatten.all Value.oneCell') = true := by
 simp only [List.all_eq_true, List.mem_flatten, List.mem_map]
 rintro v ⟨l, ⟨x, _, rfl⟩, hv⟩
 exact List.all_eq_true.1 (he x) v hv
theorem Ut {α : Type} {enc : α → List Value} {sz : Nat} (hsz : ∀ x, (enc x).length = sz) : ∀ (xs : List α) (sp : List Value) (pre : List Value) (k : Nat) (x : α), xs[k]? = some x → Gets (pre ++ (xs.map enc).flatten ++ sp) (pre.length + k * sz) (enc x)
 | [], sp, pre, k, x, h => by simp at h
 | y :: r, sp, pre, 0, x, h => by
  simp at h; subst h
  intro j v hj
  have hlt : j < (enc y).length := (List.getElem?_eq_some_iff.1 hj).1
  simp only [List.map_cons, List.flatten_cons, Nat.zero_mul, Nat.add_zero, List.append_assoc]
  rw [List.getElem?_append_right (by omega), List.getElem?_append_left (by simpa using hlt)]
  simpa using hj
 | y :: r, sp, pre, k + 1, x, h => by
  have := Ut hsz r sp (pre ++ enc y) k x (by simpa using h)
  simp only [List.map_cons, List.flatten_cons, List.append_assoc, List.length_append, hsz] at this ⊢
  rw [show pre.length + (k + 1) * sz = pre.length + sz + k * sz by rw [Nat.add_mul, Nat.one_mul]; omega]
  exact this
theorem Own.rd {α : Type} {enc : α → List Value} {E sz : Nat} (hsz : ∀ x, (enc x).length = sz) {v : Value} {nn : Nat} {xs : List α} {c : List Zq} (h : Own E sz v nn (xs.map enc).flatten c) (hl : xs.length = nn) :
  ∃ a cap, v = .slice a xs.length cap ∧ Rd enc sz (c :: L) a xs := by
 rcases h with ⟨rfl, h0, hcs, rfl⟩ | ⟨b, cap, sp, rfl, rfl, hcs, hle, hall⟩
 ·refine ⟨none, 0, by rw [hl, h0], .inl ?_⟩
  exact List.eq_nil_of_length_eq_zero (by omega)
 ·refine ⟨some ⟨b, 0, none⟩, cap, by rw [hl], .inr ⟨b, 0, _, E, (0, 0), rfl, Zv, fun k x hx => ?_⟩⟩
  have := Ut hsz xs sp [] k x hx
  simpa using this
end app
end Go.HL
end

/-! HLMore -/
section
namespace Go.HL
open Go
set_option linter.unusedVariables false
set_option linter.unusedSimpArgs false

def cut (a : Option Addr) (cap l sz : Nat) : Option Addr := if cap = l then a else a.map (·.add (l * sz))
theorem Rd.drop {α : Type} {enc : α → List Value} {sz : Nat} {L : Zb} {a : Option Addr} {xs : List α} {cap l : Nat} (h : Rd enc sz L a xs) (hc : xs.length ≤ cap) : Rd enc sz L (cut a cap l sz) (xs.drop l) := by
 by_cases hl : xs.length ≤ l
 ·exact .inl (List.drop_of_length_le hl)
 ·rcases h with h | ⟨b, i, c, E, fr, rfl, hb, hg⟩
  ·exact .inl (by simp [h])
  ·refine .inr ⟨b, i + l * sz, c, E, fr, ?_, hb, fun k x hx => ?_⟩
   ·unfold cut
    rw [if_neg (by omega)]
    simp only [Option.map_some, W3]
   ·rw [List.getElem?_drop] at hx
    have := hg _ _ hx
    rw [Nat.add_mul, ← Nat.add_assoc] at this
    exact this
theorem Rd.take {α : Type} {enc : α → List Value} {sz : Nat} {L : Zb} {a : Option Addr} {xs : List α} {n : Nat} (h : Rd enc sz L a xs) : Rd enc sz L a (xs.take n) := by
 rcases h with h | ⟨b, i, c, E, fr, rfl, hb, hg⟩
 ·exact .inl (by simp [h])
 ·refine .inr ⟨b, i, c, E, fr, rfl, hb, fun k x hx => ?_⟩
  rw [List.getElem?_take] at hx
  split at hx
  ·exact hg _ _ hx
  ·cases hx
theorem Zod {P : Program} {t e : Nat} (h : P.underlying t = some (.slice e)) : P.elem t = e ∧ P.underlying t = some (.slice (P.elem t)) := by
 have : P.elem t = e := by simp [Program.elem, h]
 exact ⟨this, by rw [this]; exact h⟩
section q
variable {P : Program} (S : Tab P) {ρ : Z3} {L : Zb} {d : Option Tmp} {ty : TypeId} {pos : String} {af : Array Edge} {g : Option (Nat × Bool)}
theorem Zvj {t E y0 s0 b0 k1 x1 y1 sz b1 len cap : Nat} {a : Option Addr} {x y : Operand} {k : IntKind} {l : Int} (hx : ev ρ x = some (.slice a len cap)) (hy : ev ρ y = some (.int k l)) (ht : Yl S.ty t = some ⟨5, E, y0, s0, b0⟩)
  (he' : Yl S.ty E = some ⟨k1, x1, y1, sz, b1⟩) (h : 0 ≤ l ∧ l ≤ len) : QOp P ⟨d, .slice t x (some y) none none, ty, pos, af, g⟩ ρ L (.slice (cut a cap l.toNat sz) (len - l.toNat) (cap - l.toNat)) :=
 Y5 fun ρe he k w hs => by
  obtain ⟨e1, e2⟩ := Zod (Yz (S.tyI ht) rfl)
  have h2 := Xz (S.tyI he') w
  simp [execOp, he x (by simp [Op.operands]) _ hx, he y (by simp [Op.operands]) _ hy, run_sliceAt_slice _ _ _ _ _ _ e2, run_slice_l _ _ _ _ _ e2 _ _ h.1 h.2, e1, h2, Result.andThen, sliced, cut]
theorem Zvf {t E y0 s0 b0 k1 x1 y1 sz b1 len cap : Nat} {a : Option Addr} {x y : Operand} {k : IntKind} {l : Int} (hx : ev ρ x = some (.slice a len cap)) (hy : ev ρ y = some (.int k l)) (ht : Yl S.ty t = some ⟨5, E, y0, s0, b0⟩)
  (he' : Yl S.ty E = some ⟨k1, x1, y1, sz, b1⟩) (h : 0 ≤ l ∧ l ≤ cap) : QOp P ⟨d, .slice t x none (some y) none, ty, pos, af, g⟩ ρ L (.slice a l.toNat cap) :=
 Y5 fun ρe he k w hs => by
  obtain ⟨e1, e2⟩ := Zod (Yz (S.tyI ht) rfl)
  have h2 := Xz (S.tyI he') w
  have : (if cap = 0 then a else a.map (·.add (0 * sz))) = a := by
   split
   ·rfl
   ·cases a <;> simp [Addr.add]
  simp [execOp, he x (by simp [Op.operands]) _ hx, he y (by simp [Op.operands]) _ hy, run_sliceAt_slice _ _ _ _ _ _ e2, run_slice_h _ _ _ _ _ e2 _ _ h.1 h.2, e1, h2, Result.andThen, sliced]
  simpa using this
theorem Zuw {t E y0 s0 b0 k1 x1 y1 sz b1 len cap : Nat} {a : Option Addr} {x y z : Operand} {k k2 : IntKind} {l hh : Int} (hx : ev ρ x = some (.slice a len cap)) (hy : ev ρ y = some (.int k l)) (hz : ev ρ z = some (.int k2 hh)) (ht : Yl S.ty t = some ⟨5, E, y0, s0, b0⟩)
  (he' : Yl S.ty E = some ⟨k1, x1, y1, sz, b1⟩) (h : 0 ≤ l ∧ l ≤ hh ∧ hh ≤ cap) : QOp P ⟨d, .slice t x (some y) (some z) none, ty, pos, af, g⟩ ρ L (.slice (cut a cap l.toNat sz) (hh.toNat - l.toNat) (cap - l.toNat)) :=
 Y5 fun ρe he k w hs => by
  obtain ⟨e1, e2⟩ := Zod (Yz (S.tyI ht) rfl)
  have h2 := Xz (S.tyI he') w
  simp [execOp, he x (by simp [Op.operands]) _ hx, he y (by simp [Op.operands]) _ hy, he z (by simp [Op.operands]) _ hz, run_sliceAt_slice _ _ _ _ _ _ e2, run_slice_lh _ _ _ _ _ e2 _ _ _ _ h.1 h.2.1 h.2.2, e1, h2, Result.andThen, sliced, cut]
end q
end Go.HL
end

/-! HLEval -/
section
namespace Go.HL
open Go
set_option linter.unusedVariables false
set_option linter.unusedSimpArgs false

def Zo1 (k k' : IntKind) : Bool := Nat.beq (Zcl k) (Zcl k')
theorem Zau {k k' : IntKind} (h : Zo1 k k' = true) : k = k' := by
 have := congrArg Qk (Nat.eq_of_beq_eq_true h)
 rwa [Zbl, Zbl] at this

def Zcc : IntKind → Int
 | .i8 => 127 | .i16 => 32767 | .i32 => 2147483647 | .i64 => 9223372036854775807 | .u8 => 255 | .u16 => 65535 | .u32 => 4294967295 | .u64 => 18446744073709551615
def loE : IntKind → Int
 | .i8 => -128 | .i16 => -32768 | .i32 => -2147483648 | .i64 => -9223372036854775808 | _ => 0
def wdE : IntKind → Int
 | .i8 => 8 | .i16 => 16 | .i32 => 32 | .i64 => 64 | .u8 => 8 | .u16 => 16 | .u32 => 32 | .u64 => 64
def wdN : IntKind → Nat
 | .i8 => 7 | .i16 => 15 | .i32 => 31 | .i64 => 63 | .u8 => 8 | .u16 => 16 | .u32 => 32 | .u64 => 64
theorem Zdk {k : IntKind} {n : Int} (h0 : loE k ≤ n) (h1 : n ≤ Zcc k) : k.wrap n = n := by
 cases k <;> simp only [loE, Zcc] at h0 h1 <;> simp [IntKind.wrap, IntKind.bits, IntKind.signed] <;> (try split) <;> omega
theorem Vs {k : IntKind} {n : Int} (h0 : 0 ≤ n) (h1 : n ≤ Zcc k) : (BitVec.ofInt k.bits n).toNat = n.toNat := by
 rw [BitVec.toNat_ofInt]
 cases k <;> simp only [Zcc] at h1 <;> simp only [IntKind.bits] <;> omega
theorem Zj5 {k : IntKind} {n : Int} (h0 : 0 ≤ n) (h1 : n ≤ Zcc k) : n.toNat < 2 ^ wdN k := by
 cases k <;> simp only [Zcc] at h1 <;> simp only [wdN] <;> omega
theorem Ztp {k : IntKind} {n : Nat} (h : n < 2 ^ wdN k) : (n : Int) ≤ Zcc k := by
 cases k <;> simp only [wdN] at h <;> simp only [Zcc] <;> omega
theorem Ztt {k : IntKind} {n : Nat} : loE k ≤ (n : Int) := by
 cases k <;> simp only [loE] <;> omega
theorem bits_and {k : IntKind} {a b : Int} (h : 0 ≤ a ∧ a ≤ Zcc k ∧ 0 ≤ b ∧ b ≤ Zcc k) : k.wrap (BitVec.ofInt k.bits a &&& BitVec.ofInt k.bits b).toNat = ((a.toNat &&& b.toNat : Nat) : Int) := by
 rw [BitVec.toNat_and, Vs h.1 h.2.1, Vs h.2.2.1 h.2.2.2]
 exact Zdk Ztt (Ztp (Nat.lt_of_le_of_lt Nat.and_le_left (Zj5 h.1 h.2.1)))
theorem bits_or {k : IntKind} {a b : Int} (h : 0 ≤ a ∧ a ≤ Zcc k ∧ 0 ≤ b ∧ b ≤ Zcc k) : k.wrap (BitVec.ofInt k.bits a ||| BitVec.ofInt k.bits b).toNat = ((a.toNat ||| b.toNat : Nat) : Int) := by
 rw [BitVec.toNat_or, Vs h.1 h.2.1, Vs h.2.2.1 h.2.2.2]
 exact Zdk Ztt (Ztp (Nat.or_lt_two_pow (Zj5 h.1 h.2.1) (Zj5 h.2.2.1 h.2.2.2)))
theorem bits_xor {k : IntKind} {a b : Int} (h : 0 ≤ a ∧ a ≤ Zcc k ∧ 0 ≤ b ∧ b ≤ Zcc k) : k.wrap (BitVec.ofInt k.bits a ^^^ BitVec.ofInt k.bits b).toNat = ((a.toNat ^^^ b.toNat : Nat) : Int) := by
 rw [BitVec.toNat_xor, Vs h.1 h.2.1, Vs h.2.2.1 h.2.2.2]
 exact Zdk Ztt (Ztp (Nat.xor_lt_two_pow (Zj5 h.1 h.2.1) (Zj5 h.2.2.1 h.2.2.2)))
theorem Zpa {k : IntKind} {a b : Int} (h : 0 ≤ a ∧ a ≤ Zcc k ∧ 0 ≤ b ∧ b ≤ Zcc k) : k.wrap (BitVec.ofInt k.bits a &&& ~~~ BitVec.ofInt k.bits b).toNat = ((a.toNat ^^^ (a.toNat &&& b.toNat) : Nat) : Int) := by
 have e : BitVec.ofInt k.bits a &&& ~~~ BitVec.ofInt k.bits b = BitVec.ofInt k.bits a ^^^ (BitVec.ofInt k.bits a &&& BitVec.ofInt k.bits b) := by
  apply BitVec.eq_of_getLsbD_eq
  intro i hi
  simp only [BitVec.getLsbD_and, BitVec.getLsbD_not, BitVec.getLsbD_xor, hi, decide_true, Bool.true_and]
  cases (BitVec.ofInt k.bits a).getLsbD i <;> cases (BitVec.ofInt k.bits b).getLsbD i <;> rfl
 rw [e, BitVec.toNat_xor, BitVec.toNat_and, Vs h.1 h.2.1, Vs h.2.2.1 h.2.2.2]
 exact Zdk Ztt (Ztp (Nat.xor_lt_two_pow (Zj5 h.1 h.2.1) (Nat.lt_of_le_of_lt Nat.and_le_left (Zj5 h.1 h.2.1))))

def wrV (k : IntKind) (n : Int) : Value :=
 match k with
 | .u8 => .int .u8 (n % 256)
 | .u16 => .int .u16 (n % 65536)
 | .u32 => .int .u32 (n % 4294967296)
 | .u64 => .int .u64 (n % 18446744073709551616)
 | .i8 => .int .i8 (IntKind.i8.wrap n)
 | .i16 => .int .i16 (IntKind.i16.wrap n)
 | .i32 => .int .i32 (IntKind.i32.wrap n)
 | .i64 => .int .i64 (IntKind.i64.wrap n)
theorem Znx (k : IntKind) (n : Int) : wrV k n = .int k (k.wrap n) := by cases k <;> simp [wrV, IntKind.wrap, IntKind.bits, IntKind.signed]
def intE (op : BinOp) (k : IntKind) (a b : Int) : Option (Value × Prop) :=
 match op with
 | .lss => some (.bool (decide (a < b)), True)
 | .leq => some (.bool (decide (a ≤ b)), True)
 | .gtr => some (.bool (decide (b < a)), True)
 | .geq => some (.bool (decide (b ≤ a)), True)
 | .eql => some (.bool (decide (a = b)), True)
 | .neq => some (.bool (decide (a ≠ b)), True)
 | .add => bif Zo1 k .i64 then some (.int .i64 (a + b), -9223372036854775808 ≤ a + b ∧ a + b ≤ 9223372036854775807) else some (wrV k (a + b), True)
 | .sub => bif Zo1 k .i64 then some (.int .i64 (a - b), -9223372036854775808 ≤ a - b ∧ a - b ≤ 9223372036854775807) else some (wrV k (a - b), True)
 | .mul => bif Zo1 k .i64 then some (.int .i64 (a * b), -9223372036854775808 ≤ a * b ∧ a * b ≤ 9223372036854775807) else some (wrV k (a * b), True)
 | .quo => bif Zo1 k .i64 then some (.int .i64 (a / b), 0 ≤ a ∧ a ≤ 9223372036854775807 ∧ 1 ≤ b) else none
 | .rem => bif Zo1 k .i64 then some (.int .i64 (a % b), 0 ≤ a ∧ a ≤ 9223372036854775807 ∧ 1 ≤ b) else none
 | .and => some (.int k ((a.toNat &&& b.toNat : Nat) : Int), 0 ≤ a ∧ a ≤ Zcc k ∧ 0 ≤ b ∧ b ≤ Zcc k)
 | .or => some (.int k ((a.toNat ||| b.toNat : Nat) : Int), 0 ≤ a ∧ a ≤ Zcc k ∧ 0 ≤ b ∧ b ≤ Zcc k)
 | .xor => some (.int k ((a.toNat ^^^ b.toNat : Nat) : Int), 0 ≤ a ∧ a ≤ Zcc k ∧ 0 ≤ b ∧ b ≤ Zcc k)
 | .andNot => some (.int k ((a.toNat ^^^ (a.toNat &&& b.toNat) : Nat) : Int), 0 ≤ a ∧ a ≤ Zcc k ∧ 0 ≤ b ∧ b ≤ Zcc k)
 | _ => none
def shE (op : BinOp) (k : IntKind) (a b : Int) : Option (Value × Prop) :=
 match op with
 | .shr => some (.int k (a / 2 ^ b.toNat), 0 ≤ b ∧ b ≤ wdE k)
 | .shl => bif Zo1 k .i64 then some (.int .i64 (a * 2 ^ b.toNat), 0 ≤ b ∧ b ≤ 64 ∧ -9223372036854775808 ≤ a * 2 ^ b.toNat ∧ a * 2 ^ b.toNat ≤ 9223372036854775807) else some (wrV k (a * 2 ^ b.toNat), 0 ≤ b ∧ b ≤ wdE k)
 | _ => none
def isSh : BinOp → Bool
 | .shr => true
 | .shl => true
 | _ => false
def binE (ty : List (Nat × TyI)) (op : BinOp) (t : Nat) (u v : Value) : Option (Value × Prop) :=
 match u, v with
 | .int k a, .int k' b => bif isSh op then shE op k a b else bif Zo1 k k' then intE op k a b else none
 | .bool a, .bool b => (Yl ty t).bind fun ti => bif Nat.beq ti.kind 1 then (match op with
  | .eql => some (.bool (decide (a = b)), True)
  | .neq => some (.bool (decide (a ≠ b)), True)
  | _ => none) else none
 | .string ⟨⟨a⟩⟩, .string ⟨⟨b⟩⟩ => (match op with
  | .eql => some (.bool (decide (a = b)), True)
  | .neq => some (.bool (decide (a ≠ b)), True)
  | .add => some (bs (a ++ b), a.length + b.length ≤ 9223372036854775807)
  | _ => none)
 | .pointer (some _), .pointer none => (Yl ty t).bind fun ti => bif Nat.beq ti.kind 4 then (match op with
  | .eql => some (.bool false, True)
  | .neq => some (.bool true, True)
  | _ => none) else none
 | .pointer none, .pointer none => (Yl ty t).bind fun ti => bif Nat.beq ti.kind 4 then (match op with
  | .eql => some (.bool true, True)
  | .neq => some (.bool false, True)
  | _ => none) else none
 | .slice (some _) _ _, .slice none 0 0 => (Yl ty t).bind fun ti => bif Nat.beq ti.kind 5 then (match op with
  | .eql => some (.bool false, True)
  | .neq => some (.bool true, True)
  | _ => none) else none
 | .slice none _ _, .slice none 0 0 => (Yl ty t).bind fun ti => bif Nat.beq ti.kind 5 then (match op with
  | .eql => some (.bool true, True)
  | .neq => some (.bool false, True)
  | _ => none) else none
 | .iface _ _, .nilIface => (Yl ty t).bind fun ti => bif Nat.beq ti.kind 9 then (match op with
  | .eql => some (.bool false, True)
  | .neq => some (.bool true, True)
  | _ => none) else none
 | _, _ => none
def isNil : Operand → Bool
 | .const .nilIface => true
 | _ => false
def nilE (ty : List (Nat × TyI)) (op : BinOp) (t : Nat) : Option (Value × Prop) :=
 (Yl ty t).bind fun ti => bif Nat.beq ti.kind 9 then (match op with
  | .eql => some (.bool true, True)
  | .neq => some (.bool false, True)
  | _ => none) else none
def Zok : Value → Bool
 | .nilIface => true
 | _ => false
def Zgy (ty : List (Nat × TyI)) (t : Nat) (a : Option Addr) (len cap : Nat) (lo hi : Option Value) : Option (Value × Prop) :=
 (Yl ty t).bind fun ti => bif Nat.beq ti.kind 5 then (Yl ty ti.x).bind fun te => (match lo, hi with
  | some (.int _ l), none => some (.slice (cut a cap l.toNat te.size) (len - l.toNat) (cap - l.toNat), 0 ≤ l ∧ l ≤ len)
  | none, some (.int _ h) => some (.slice a h.toNat cap, 0 ≤ h ∧ h ≤ cap)
  | some (.int _ l), some (.int _ h) => some (.slice (cut a cap l.toNat te.size) (h.toNat - l.toNat) (cap - l.toNat), 0 ≤ l ∧ l ≤ h ∧ h ≤ cap)
  | _, _ => none) else none
def Zsm (ty : List (Nat × TyI)) (t : Nat) (u v : Value) : Option (Value × Prop) :=
 (Yl ty t).bind fun ti => match u, v with
  | .slice (some ⟨b, i, none⟩) len _, .int _ j => bif Nat.beq ti.kind 5 then (Yl ty ti.x).bind fun te => (match te with | ⟨_, _, _, sz, _⟩ => bif Nat.beq sz 1 then some (pt b (i + j.toNat), 0 ≤ j ∧ j < len) else some (pt b (i + j.toNat * sz), 0 ≤ j ∧ j < len)) else none
  | .pointer (some ⟨b, i, none⟩), .int _ j => bif Nat.beq ti.kind 6 then (match ti with | ⟨_, n, e, _, _⟩ => (Yl ty e).bind fun te => (match te with | ⟨_, _, _, sz, _⟩ => some (pt b (i + j.toNat * sz), 0 ≤ j ∧ j < n))) else none
  | _, _ => none
def callE (ty : List (Nat × TyI)) (ρ : Z3) (b : Builtin) (args : List Operand) (ts : List Nat) : Option (Value × Prop) :=
 match b, args, ts with
 | .len, [x], [t] => (ev ρ x).bind fun u => (Yl ty t).bind fun ti => (match u with
  | .slice _ n _ => bif Nat.beq ti.kind 5 then some (iv n, True) else none
  | .string ⟨⟨l⟩⟩ => bif Nat.beq ti.kind 3 then some (iv l.length, True) else none
  | _ => bif Nat.beq ti.kind 6 then some (iv ti.x, True) else none)
 | .max, [x, y], _ => (match ev ρ x, ev ρ y with
  | some (.int k a), some (.int k' b) => bif Zo1 k k' then some (.int k (max a b), True) else none
  | _, _ => none)
 | .min, [x, y], _ => (match ev ρ x, ev ρ y with
  | some (.int k a), some (.int k' b) => bif Zo1 k k' then some (.int k (min a b), True) else none
  | _, _ => none)
 | _, _, _ => none
def notE : Value → Option (Value × Prop)
 | .bool b => (match b with
  | true => some (.bool false, True)
  | false => some (.bool true, True))
 | _ => none
def Zd1 (k : IntKind) (n : Int) : Value × Prop :=
 match k with
 | .i8 => (.int .i8 n, -128 ≤ n ∧ n ≤ 127)
 | .i16 => (.int .i16 n, -32768 ≤ n ∧ n ≤ 32767)
 | .i32 => (.int .i32 n, -2147483648 ≤ n ∧ n ≤ 2147483647)
 | .i64 => (.int .i64 n, -9223372036854775808 ≤ n ∧ n ≤ 9223372036854775807)
 | .u8 => (.int .u8 n, 0 ≤ n ∧ n ≤ 255)
 | .u16 => (.int .u16 n, 0 ≤ n ∧ n ≤ 65535)
 | .u32 => (.int .u32 n, 0 ≤ n ∧ n ≤ 4294967295)
 | .u64 => (.int .u64 n, 0 ≤ n ∧ n ≤ 18446744073709551615)
theorem convK_eq (k : IntKind) (n : Int) : Zd1 k n = (.int k n, loE k ≤ n ∧ n ≤ Zcc k) := by cases k <;> rfl
def convE (ty : List (Nat × TyI)) (src dst : Nat) (u : Value) : Option (Value × Prop) :=
 (Yl ty dst).bind fun ti => (Yl ty src).bind fun _ => match u with
  | .int _ n => bif Nat.beq ti.kind 2 then (match Qk ti.x with | .i8 => some (Zd1 .i8 n) | .i16 => some (Zd1 .i16 n) | .i32 => some (Zd1 .i32 n) | .i64 => some (Zd1 .i64 n) | .u8 => some (Zd1 .u8 n) | .u16 => some (Zd1 .u16 n) | .u32 => some (Zd1 .u32 n) | .u64 => some (Zd1 .u64 n)) else none
  | _ => none
def ixE (ty : List (Nat × TyI)) (t : Nat) (u v : Value) : Option (Value × Prop) :=
 (Yl ty t).bind fun ti => match u, v with
  | .string ⟨⟨l⟩⟩, .int _ j => bif Nat.beq ti.kind 3 then some (.int .u8 ((l.getD j.toNat 0).toNat : Int), 0 ≤ j ∧ j < l.length) else none
  | _, _ => none
def opE (ty : List (Nat × TyI)) (fl : List (Nat × Nat × Nat)) (ρ : Z3) (o : Op) : Option (Value × Prop) :=
 match o with
 | .move x => (ev ρ x).bind fun v => some (v, True)
 | .assign x => (ev ρ x).bind fun v => some (v, True)
 | .pick c x y => (match ev ρ c with
  | some (.bool b) => (match b with
   | true => (ev ρ x).bind fun v => some (v, True)
   | false => (ev ρ y).bind fun v => some (v, True))
  | _ => none)
 | .extract x j => (match ev ρ x with
  | some (.tuple ⟨vs⟩) => (vs[j]?).bind fun v => some (v, True)
  | _ => none)
 | .nilCheck x => (match ev ρ x with
  | some (.pointer (some p)) => some (.pointer (some p), True)
  | _ => none)
 | .fieldAddr s x f => (match ev ρ x with
  | some (.pointer (some ⟨b, i, none⟩)) => (Yl fl (s * 64 + f)).bind fun q => (match q with | (o, _) => bif Nat.blt f 64 then some (pt b (i + o), True) else none)
  | _ => none)
 | .indexAddr t x y => (ev ρ x).bind fun u => (ev ρ y).bind fun v => Zsm ty t u v
 | .binOp op t x y _ => (ev ρ x).bind fun u => bif isNil y && Zok u then nilE ty op t else (ev ρ y).bind fun v => binE ty op t u v
 | .unOp .not _ x => (ev ρ x).bind notE
 | .slice t x lo hi none => (match ev ρ x with
  | some (.slice a len cap) => (match lo, hi with
   | some l, none => (ev ρ l).bind fun l => Zgy ty t a len cap (some l) none
   | none, some h => (ev ρ h).bind fun h => Zgy ty t a len cap none (some h)
   | some l, some h => (ev ρ l).bind fun l => (ev ρ h).bind fun h => Zgy ty t a len cap (some l) (some h)
   | none, none => none)
  | _ => none)
 | .convert src dst x => (ev ρ x).bind fun u => convE ty src dst u
 | .index t x y => (ev ρ x).bind fun u => (ev ρ y).bind fun v => ixE ty t u v
 | .makeInterface t x => (ev ρ x).bind fun u => (Yl ty t).bind fun ti => bif Nat.beq ti.kind 9 then none else some (.iface t u, True)
 | .makeFunc (.func f) ⟨[]⟩ ⟨cap⟩ => (Zk3 ρ cap).bind fun vs => some (.func (.func f) #[] ⟨vs⟩, True)
 | .call ⟨.builtin b, ⟨args⟩, ⟨ts⟩⟩ => callE ty ρ b args ts
 | _ => none

section sound
variable {P : Program} (S : Tab P) {ρ : Z3} {L : Zb} {d : Option Tmp} {ty : TypeId} {pos : String} {af : Array Edge} {g : Option (Nat × Bool)}
theorem Z0 {α : Type} {c : Bool} {x : Option α} {v : α} (h : (bif c then x else none) = some v) : c = true ∧ x = some v := by
 cases c with
 | true => exact ⟨rfl, h⟩
 | false => cases h
theorem bind_some {α β : Type} {x : Option α} {f : α → Option β} {v : β} (h : x.bind f = some v) : ∃ y, x = some y ∧ f y = some v := by
 cases x with
 | none => cases h
 | some y => exact ⟨y, rfl, h⟩
theorem intE_q {op : BinOp} {t t' : Nat} {x y : Operand} {k : IntKind} {a b : Int} {v : Value} {p : Prop} (hx : ev ρ x = some (.int k a)) (hy : ev ρ y = some (.int k b)) (h : intE op k a b = some (v, p)) (hp : p) :
  QOp P ⟨d, .binOp op t x y t', ty, pos, af, g⟩ ρ L v := by
 unfold intE at h
 split at h
 case h_1 => cases h; exact q_lss hx hy
 case h_2 => cases h; exact q_leq hx hy
 case h_3 => cases h; exact q_gtr hx hy
 case h_4 => cases h; exact q_geq hx hy
 case h_5 => cases h; exact q_eql hx hy
 case h_6 => cases h; exact q_neq hx hy
 case h_7 =>
  cases hk : Zo1 k .i64 with
  | true => rw [hk] at h; cases h; cases Zau hk; exact q_add hx hy hp
  | false => rw [hk] at h; cases h; rw [Znx]; exact X3 hx hy fun w => by simp [binOp, Op.intArith]
 case h_8 =>
  cases hk : Zo1 k .i64 with
  | true => rw [hk] at h; cases h; cases Zau hk; exact q_sub hx hy hp
  | false => rw [hk] at h; cases h; rw [Znx]; exact X3 hx hy fun w => by simp [binOp, Op.intArith]
 case h_9 =>
  cases hk : Zo1 k .i64 with
  | true => rw [hk] at h; cases h; cases Zau hk; exact q_mul hx hy hp
  | false => rw [hk] at h; cases h; rw [Znx]; exact X3 hx hy fun w => by simp [binOp, Op.intArith]
 case h_10 =>
  obtain ⟨hk, h2⟩ := Z0 h
  clear h
  cases h2; cases Zau hk; exact q_quo hx hy hp
 case h_11 =>
  obtain ⟨hk, h2⟩ := Z0 h
  clear h
  cases h2; cases Zau hk; exact q_rem hx hy hp
 case h_12 => cases h; exact X3 hx hy fun w => by simp only [binOp, ne_eq, not_true_eq_false, if_false, Op.intBits, bits_and hp]; rfl
 case h_13 => cases h; exact X3 hx hy fun w => by simp only [binOp, ne_eq, not_true_eq_false, if_false, Op.intBits, bits_or hp]; rfl
 case h_14 => cases h; exact X3 hx hy fun w => by simp only [binOp, ne_eq, not_true_eq_false, if_false, Op.intBits, bits_xor hp]; rfl
 case h_15 => cases h; exact X3 hx hy fun w => by simp only [binOp, ne_eq, not_true_eq_false, if_false, Op.intBits, Zpa hp]; rfl
 case h_16 => cases h
theorem Zry {k : IntKind} {b : Int} (h0 : 0 ≤ b) (h1 : b ≤ wdE k) : min b.toNat k.bits = b.toNat := by
 cases k <;> simp only [wdE] at h1 <;> simp only [IntKind.bits] <;> omega
theorem Zjg {op : BinOp} {t t' : Nat} {x y : Operand} {k k' : IntKind} {a b : Int} {v : Value} (hx : ev ρ x = some (.int k a)) (hy : ev ρ y = some (.int k' b)) (hv : ∀ w, (binOp op t (.int k a) (.int k' b)).run P w = .ok v w) :
  QOp P ⟨d, .binOp op t x y t', ty, pos, af, g⟩ ρ L v :=
 Y5 fun ρe he k w hs => by simp [execOp, he x (by simp [Op.operands]) _ hx, he y (by simp [Op.operands]) _ hy, Zhv, hv w]
theorem shE_q {op : BinOp} {t t' : Nat} {x y : Operand} {k k' : IntKind} {a b : Int} {v : Value} {p : Prop} (hx : ev ρ x = some (.int k a)) (hy : ev ρ y = some (.int k' b)) (h : shE op k a b = some (v, p)) (hp : p) :
  QOp P ⟨d, .binOp op t x y t', ty, pos, af, g⟩ ρ L v := by
 unfold shE at h
 split at h
 ·cases h
  refine Zjg hx hy fun w => ?_
  have hnn : (0 : Int) ≤ 2 ^ b.toNat := Int.pow_nonneg (by decide)
  have h1 : ¬ b < 0 := by omega
  simp [binOp, Op.shift, h1, Zry hp.1 hp.2, Int.fdiv_eq_ediv_of_nonneg _ hnn]
 ·cases hk : Zo1 k .i64 with
  | true =>
   rw [hk] at h; cases h; cases Zau hk
   refine Zjg hx hy fun w => ?_
   have h1 : ¬ b < 0 := by omega
   simp [binOp, Op.shift, h1, Zry (k := .i64) hp.1 hp.2.1, Zdk (k := .i64) hp.2.2.1 hp.2.2.2]
  | false =>
   rw [hk] at h; cases h
   refine Zjg hx hy fun w => ?_
   have h1 : ¬ b < 0 := by omega
   simp [binOp, Op.shift, h1, Zry hp.1 hp.2, Znx]
 ·cases h
theorem binE_q {op : BinOp} {t t' : Nat} {x y : Operand} {u u' v : Value} {p : Prop} (hx : ev ρ x = some u) (hy : ev ρ y = some u') (h : binE S.ty op t u u' = some (v, p)) (hp : p) :
  QOp P ⟨d, .binOp op t x y t', ty, pos, af, g⟩ ρ L v := by
 unfold binE at h
 split at h
 case h_1 =>
  rename_i k a k' b
  cases hs : isSh op with
  | true => rw [hs] at h; exact shE_q hx hy h hp
  | false =>
   rw [hs] at h
   obtain ⟨hk, h2⟩ := Z0 (show (bif Zo1 k k' then intE op k a b else none) = some (v, p) from h)
   clear h
   cases Zau hk; exact intE_q hx hy h2 hp
 case h_2 =>
  obtain ⟨ti, ht, h⟩ := bind_some h
  obtain ⟨hk, h⟩ := Z0 h
  have hk := Nat.eq_of_beq_eq_true hk
  split at h <;> cases h
  ·exact q_eqlB S hx hy ht hk
  ·exact q_neqB S hx hy ht hk
 case h_3 =>
  split at h <;> cases h
  ·exact q_eqlS hx hy
  ·exact q_neqS hx hy
  ·exact q_addS hx hy hp
 case h_4 =>
  obtain ⟨ti, ht, h⟩ := bind_some h
  obtain ⟨hk, h⟩ := Z0 h
  have hk := Nat.eq_of_beq_eq_true hk
  split at h <;> cases h
  ·exact q_eqlPn S hx hy ht hk
  ·exact q_neqPn S hx hy ht hk
 case h_5 =>
  obtain ⟨ti, ht, h⟩ := bind_some h
  obtain ⟨hk, h⟩ := Z0 h
  have hk := Nat.eq_of_beq_eq_true hk
  split at h <;> cases h
  ·exact q_eqlPnn S hx hy ht hk
  ·exact q_neqPnn S hx hy ht hk
 case h_6 =>
  obtain ⟨ti, ht, h⟩ := bind_some h
  obtain ⟨hk, h⟩ := Z0 h
  have hk := Nat.eq_of_beq_eq_true hk
  split at h <;> cases h
  ·exact Zb1 (b := false) hx hy (fun w => by simp [eqGuard]) (fun w => W2 fun dd => Zhz (Yz (S.tyI ht) hk) dd w) rfl
  ·exact Zad (b := false) hx hy (fun w => by simp [eqGuard]) (fun w => W2 fun dd => Zhz (Yz (S.tyI ht) hk) dd w) rfl
 case h_7 =>
  obtain ⟨ti, ht, h⟩ := bind_some h
  obtain ⟨hk, h⟩ := Z0 h
  have hk := Nat.eq_of_beq_eq_true hk
  split at h <;> cases h
  ·exact Zb1 (b := true) hx hy (fun w => by simp [eqGuard]) (fun w => W2 fun dd => Zhz (Yz (S.tyI ht) hk) dd w) rfl
  ·exact Zad (b := true) hx hy (fun w => by simp [eqGuard]) (fun w => W2 fun dd => Zhz (Yz (S.tyI ht) hk) dd w) rfl
 case h_8 =>
  obtain ⟨ti, ht, h⟩ := bind_some h
  obtain ⟨hk, h⟩ := Z0 h
  have hk := Nat.eq_of_beq_eq_true hk
  split at h <;> cases h
  ·exact q_eqlIn S hx hy ht hk
  ·exact q_neqIn S hx hy ht hk
 case h_9 => cases h
theorem isNil_eq {y : Operand} (h : isNil y = true) : y = .const .nilIface := by
 unfold isNil at h
 split at h
 ·rfl
 ·cases h
theorem Zvz {y : Value} (h : Zok y = true) : y = .nilIface := by
 unfold Zok at h
 split at h
 ·rfl
 ·cases h
theorem nilE_q {op : BinOp} {t t' : Nat} {x : Operand} {v : Value} {p : Prop} (hx : ev ρ x = some .nilIface) (h : nilE S.ty op t = some (v, p)) :
  QOp P ⟨d, .binOp op t x (.const .nilIface) t', ty, pos, af, g⟩ ρ L v := by
 unfold nilE at h
 obtain ⟨ti, ht, h⟩ := bind_some h
 obtain ⟨hk, h⟩ := Z0 h
 have hk := Nat.eq_of_beq_eq_true hk
 split at h <;> cases h
 ·exact q_eqlInn S hx ht hk
 ·exact q_neqInn S hx ht hk
theorem indexE_q {t : Nat} {x y : Operand} {u u' v : Value} {p : Prop} (hx : ev ρ x = some u) (hy : ev ρ y = some u') (h : Zsm S.ty t u u' = some (v, p)) (hp : p) : QOp P ⟨d, .indexAddr t x y, ty, pos, af, g⟩ ρ L v := by
 unfold Zsm at h
 obtain ⟨ti, ht, h⟩ := bind_some h
 split at h
 ·obtain ⟨hk0, h2⟩ := Z0 h
  clear h
  have hk := Nat.eq_of_beq_eq_true hk0
  clear hk0
  obtain ⟨te, he, h⟩ := bind_some h2
  clear h2
  obtain ⟨k0, x0, y0, s0, b0⟩ := ti
  obtain ⟨k1, x1, y1, s1, b1⟩ := te
  simp only at hk h he
  subst hk
  cases hc : Nat.beq s1 1 with
  | true =>
   rw [hc] at h
   have := Nat.eq_of_beq_eq_true hc
   subst this
   cases h
   exact Znh S hx hy ht he hp
  | false => rw [hc] at h; cases h; exact Zhl S hx hy ht he hp
 ·obtain ⟨hk0, h2⟩ := Z0 h
  clear h
  have hk := Nat.eq_of_beq_eq_true hk0
  clear hk0
  obtain ⟨te, he, h⟩ := bind_some h2
  clear h2
  obtain ⟨k0, x0, y0, s0, b0⟩ := ti
  obtain ⟨k1, x1, y1, s1, b1⟩ := te
  simp only at hk h he
  subst hk
  cases h
  exact Zol S hx hy ht he hp
 ·cases h
theorem callE_q {b : Builtin} {args : List Operand} {ts : List Nat} {v : Value} {p : Prop} (h : callE S.ty ρ b args ts = some (v, p)) (hp : p) : QOp P ⟨d, .call ⟨.builtin b, ⟨args⟩, ⟨ts⟩⟩, ty, pos, af, g⟩ ρ L v := by
 unfold callE at h
 split at h
 ·obtain ⟨u, hu, h⟩ := bind_some h
  obtain ⟨ti, ht, h⟩ := bind_some h
  split at h
  ·obtain ⟨hk, h⟩ := Z0 h
   cases h
   exact q_lenS S hu ht (Nat.eq_of_beq_eq_true hk)
  ·obtain ⟨hk, h⟩ := Z0 h
   cases h
   exact q_lenT S hu ht (Nat.eq_of_beq_eq_true hk)
  ·obtain ⟨hk0, h2⟩ := Z0 h
   clear h
   have hk := Nat.eq_of_beq_eq_true hk0
   clear hk0
   have h := h2
   clear h2
   obtain ⟨k0, x0, y0, s0, b0⟩ := ti
   simp only at hk h
   subst hk
   cases h
   exact q_lenA S hu ht
 ·split at h
  ·rename_i h1 h2
   obtain ⟨hk, h3⟩ := Z0 h
   clear h
   cases Zau hk
   cases h3
   exact q_max h1 h2
  ·cases h
 ·split at h
  ·rename_i h1 h2
   obtain ⟨hk, h3⟩ := Z0 h
   clear h
   cases Zau hk
   cases h3
   exact q_min h1 h2
  ·cases h
 ·cases h
theorem convE_q {src dst : Nat} {x : Operand} {u v : Value} {p : Prop} (hx : ev ρ x = some u) (h : convE S.ty src dst u = some (v, p)) (hp : p) : QOp P ⟨d, .convert src dst x, ty, pos, af, g⟩ ρ L v := by
 unfold convE at h
 obtain ⟨ti, ht, h1⟩ := bind_some h
 obtain ⟨ts, hs, h2⟩ := bind_some h1
 clear h h1
 split at h2
 ·rename_i k0 n
  obtain ⟨hk, h3⟩ := Z0 h2
  clear h2
  have h : some (Zd1 (Qk ti.x) n) = some (v, p) := by
   rw [← h3]
   cases Qk ti.x <;> rfl
  rw [convK_eq] at h
  cases h
  refine Y5 fun ρe he k w hsat => ?_
  have e1 := Zgv (S.tyI ht) (Nat.eq_of_beq_eq_true hk)
  obtain ⟨ds, hds⟩ := Option.isSome_iff_exists.1 (Zlp (S.tyI hs))
  simp [execOp, he x (by simp [Op.operands]) _ hx, convert, run_underlying e1, run_underlying hds, Conv.intToInt, Zdk hp.1 hp.2]
 ·cases h2
theorem ixE_q {t : Nat} {x y : Operand} {u u' v : Value} {p : Prop} (hx : ev ρ x = some u) (hy : ev ρ y = some u') (h : ixE S.ty t u u' = some (v, p)) (hp : p) : QOp P ⟨d, .index t x y, ty, pos, af, g⟩ ρ L v := by
 unfold ixE at h
 obtain ⟨ti, ht, h1⟩ := bind_some h
 clear h
 split at h1
 ·rename_i l k j
  obtain ⟨hk, h⟩ := Z0 h1
  cases h
  refine Y5 fun ρe he k w hsat => ?_
  have e1 := Qz (S.tyI ht) (Nat.eq_of_beq_eq_true hk)
  have hlt : j.toNat < l.length := by omega
  have e2 : (ByteArray.mk ⟨l⟩)[j.toNat]? = some (l.getD j.toNat 0) := by
   have h3 : j.toNat < (ByteArray.mk ⟨l⟩).size := by rw [Zbu]; exact hlt
   rw [getElem?_pos (ByteArray.mk ⟨l⟩) j.toNat h3]
   simp [ByteArray.getElem_eq_getElem_data, List.getD, hlt]
  simp [execOp, he x (by simp [Op.operands]) _ hx, he y (by simp [Op.operands]) _ hy, Instr.index, asIntOf, run_underlying e1, hp.1, e2]
 ·cases h1
theorem opE_q {o : Op} {v : Value} {p : Prop} (h : opE S.ty S.fl ρ o = some (v, p)) (hp : p) : QOp P ⟨d, o, ty, pos, af, g⟩ ρ L v := by
 unfold opE at h
 split at h
 ·obtain ⟨u, hu, h⟩ := bind_some h
  cases h
  exact q_move hu
 ·obtain ⟨u, hu, h⟩ := bind_some h
  cases h
  exact q_assign hu
 ·split at h
  ·rename_i b hb
   split at h
   ·obtain ⟨u, hu, h⟩ := bind_some h
    cases h
    exact q_pickt hb rfl hu
   ·obtain ⟨u, hu, h⟩ := bind_some h
    cases h
    exact q_pickf hb rfl hu
  ·cases h
 ·split at h
  ·rename_i hx
   obtain ⟨u, hu, h⟩ := bind_some h
   cases h
   exact Zvu hx hu
  ·cases h
 ·split at h
  ·rename_i hx
   cases h
   exact Zrz hx
  ·cases h
 ·split at h
  ·rename_i hx
   obtain ⟨q, hq, h⟩ := bind_some h
   obtain ⟨hk, h⟩ := Z0 h
   cases h
   exact Zqh S hx hq hk
  ·cases h
 ·obtain ⟨u, hu, h⟩ := bind_some h
  obtain ⟨u', hu', h⟩ := bind_some h
  exact indexE_q S hu hu' h hp
 ·obtain ⟨u, hu, h⟩ := bind_some h
  cases hc : (isNil _ && Zok u) with
  | true =>
   rw [hc] at h
   simp only [Bool.and_eq_true] at hc
   rw [isNil_eq hc.1]
   rw [Zvz hc.2] at hu
   exact nilE_q S hu h
  | false =>
   rw [hc] at h
   obtain ⟨u', hu', h⟩ := bind_some h
   exact binE_q S hu hu' h hp
 ·obtain ⟨u, hu, h⟩ := bind_some h
  unfold notE at h
  split at h
  ·split at h
   ·cases h
    exact q_not_t hu rfl
   ·cases h
    exact q_not_f hu rfl
  ·cases h
 ·split at h
  ·rename_i hx
   split at h
   ·obtain ⟨u, hu, h⟩ := bind_some h
    unfold Zgy at h
    obtain ⟨ti, ht, h1⟩ := bind_some h
    clear h
    obtain ⟨hk0, h2⟩ := Z0 h1
    clear h1
    have hk := Nat.eq_of_beq_eq_true hk0
    clear hk0
    obtain ⟨te, he, h⟩ := bind_some h2
    clear h2
    obtain ⟨k0, x0, y0, s0, b0⟩ := ti
    obtain ⟨k1, x1, y1, s1, b1⟩ := te
    simp only at hk h he
    subst hk
    split at h
    all_goals try (rename_i e1 e2; cases e2; done)
    all_goals try (rename_i e1 e2; cases e1; done)
    all_goals try (cases h; done)
    all_goals (rename_i e1 e2; cases e1; cases h; exact Zvj S hx hu ht he hp)
   ·obtain ⟨u, hu, h⟩ := bind_some h
    unfold Zgy at h
    obtain ⟨ti, ht, h1⟩ := bind_some h
    clear h
    obtain ⟨hk0, h2⟩ := Z0 h1
    clear h1
    have hk := Nat.eq_of_beq_eq_true hk0
    clear hk0
    obtain ⟨te, he, h⟩ := bind_some h2
    clear h2
    obtain ⟨k0, x0, y0, s0, b0⟩ := ti
    obtain ⟨k1, x1, y1, s1, b1⟩ := te
    simp only at hk h he
    subst hk
    split at h
    all_goals try (rename_i e1 e2; cases e1; done)
    all_goals try (cases h; done)
    all_goals (rename_i e1 e2; cases e2; cases h; exact Zvf S hx hu ht he hp)
   ·obtain ⟨u, hu, h⟩ := bind_some h
    obtain ⟨u', hu', h9⟩ := bind_some h
    clear h
    have h := h9
    clear h9
    unfold Zgy at h
    obtain ⟨ti, ht, h1⟩ := bind_some h
    clear h
    obtain ⟨hk0, h2⟩ := Z0 h1
    clear h1
    have hk := Nat.eq_of_beq_eq_true hk0
    clear hk0
    obtain ⟨te, he, h⟩ := bind_some h2
    clear h2
    obtain ⟨k0, x0, y0, s0, b0⟩ := ti
    obtain ⟨k1, x1, y1, s1, b1⟩ := te
    simp only at hk h he
    subst hk
    split at h
    all_goals try (rename_i e1 e2; cases e2; done)
    all_goals try (rename_i e1 e2; cases e1; done)
    all_goals try (cases h; done)
    all_goals (rename_i e1 e2; cases e1; cases e2; cases h; exact Zuw S hx hu hu' ht he hp)
   ·cases h
  ·cases h
 ·obtain ⟨u, hu, h1⟩ := bind_some h
  exact convE_q S hu h1 hp
 ·obtain ⟨u, hu, h1⟩ := bind_some h
  obtain ⟨u', hu', h2⟩ := bind_some h1
  exact ixE_q S hu hu' h2 hp
 ·obtain ⟨u, hu, h1⟩ := bind_some h
  obtain ⟨ti, ht, h2⟩ := bind_some h1
  clear h h1
  rename_i t x
  cases hk : Nat.beq ti.kind 9 with
  | true => rw [hk] at h2; cases h2
  | false =>
   rw [hk] at h2
   cases h2
   refine Y5 fun ρe he k w hsat => ?_
   obtain ⟨dd, j, hd, hj, he2, -, -⟩ := X5 (S.tyI ht)
   have : ∀ ms, dd ≠ .interface ms := fun ms e => by
    subst e
    simp only [Q1, Prod.mk.injEq] at he2
    rw [← he2.1] at hk
    cases hk
   cases dd <;> first | (exact absurd rfl (this _)) | simp [execOp, he x (by simp [Op.operands]) _ hu, Instr.makeInterface, run_underlying hd]
 ·obtain ⟨u, hu, h⟩ := bind_some h
  cases h
  exact Zrt hu
 ·exact callE_q S h hp
 ·cases h
end sound

def Zof : Value → Bool
 | .tuple ⟨[]⟩ => true
 | _ => false
theorem Zes {v : Value} (h : Zof v = true) : v = undef := by
 unfold Zof at h
 split at h
 ·rfl
 ·cases h
def Yn (ops : List Oper) (ρ : Z3) : Option (Nat × Bool) → Option Bool
 | none => some true
 | some (j, wt) => (match Q0 ops j with
  | some t => (match lk ρ t with
   | some (.bool b) => (match b with
    | true => some wt
    | false => some (!wt))
   | some v => bif Zof v then some false else none
   | none => none)
  | none => none)
section go
variable {P : Program} {n : Nat} {ops : List Oper} {Q : Exit → Z3 → Zb → Prop} {rest : List Oper} {ρ : Z3} {L : Zb} {op : Op} {ty : TypeId} {pos : String} {af : Array Edge} {g : Option (Nat × Bool)} {d : Nat}
theorem ho_go {v : Value} (hg : Yn ops ρ g = some true) (hn : Nat.blt d n = true) (h : QOp P ⟨some d, op, ty, pos, af, g⟩ ρ L v) (hr : HO P n ops Q rest ((d, v) :: ρ) L) : HO P n ops Q (⟨some d, op, ty, pos, af, g⟩ :: rest) ρ L := by
 unfold Yn at hg
 split at hg
 ·exact ho_q hn h hr
 ·rename_i j wt
  split at hg
  ·rename_i hj
   split at hg
   ·rename_i ht
    split at hg
    ·cases hg; exact Ztg hn hj ht h hr
    ·cases wt with
     | true => simp at hg
     | false => exact Ztg hn hj ht h hr
   ·obtain ⟨_, h1⟩ := Z0 hg
    cases h1
   ·cases hg
  ·cases hg
theorem ho_no (hg : Yn ops ρ g = some false) (hn : Nat.blt d n = true) (hr : HO P n ops Q rest ((d, undef) :: ρ) L) : HO P n ops Q (⟨some d, op, ty, pos, af, g⟩ :: rest) ρ L := by
 unfold Yn at hg
 split at hg
 ·cases hg
 ·rename_i j wt
  split at hg
  ·rename_i hj
   split at hg
   ·rename_i ht
    split at hg
    ·cases hg; exact Ztf hn hj ht rfl hr
    ·cases wt with
     | true => exact Ztf hn hj ht rfl hr
     | false => simp at hg
   ·rename_i ht
    obtain ⟨h1, _⟩ := Z0 hg
    exact ho_skipu hj ht (Zes h1) hn hr
   ·cases hg
  ·cases hg
theorem ho_on {d : Option Tmp} {j : Nat} {wt : Bool} (hg : Yn ops ρ (some (j, wt)) = some true) (h : HO P n ops Q (⟨d, op, ty, pos, af, none⟩ :: rest) ρ L) : HO P n ops Q (⟨d, op, ty, pos, af, some (j, wt)⟩ :: rest) ρ L := by
 intro k w a hs ha
 have hw : Region.wanted (Oper.mk d op ty pos af (some (j, wt))) (yielded ops.toArray a.tmps) = true := by
  unfold Yn at hg
  simp only at hg
  split at hg
  ·rename_i t hj
   split at hg
   ·rename_i b ht
    rw [Vo ha rfl hj ht]
    cases b <;> cases wt <;> simp at hg <;> rfl
   ·obtain ⟨_, h1⟩ := Z0 hg
    cases h1
   ·cases hg
  ·cases hg
 have h1 := h k w a hs ha
 unfold wpList at h1 ⊢
 rw [if_pos hw]
 rw [if_pos (Ua _ rfl _)] at h1
 exact h1
end go

section hgo
variable {P : Program} {n : Nat} {ops : List Oper} {K : Z3 → Prop} {rest : List Oper} {ρ : Z3} {L : Zb} {op : Op} {ty : TypeId} {pos : String} {af : Array Edge} {g : Option (Nat × Bool)} {d : Nat}
theorem hq_go {v : Value} (hg : Yn ops ρ g = some true) (hn : Nat.blt d n = true) (h : QOp P ⟨some d, op, ty, pos, af, g⟩ ρ L v) (hr : HQ P n ops K rest ((d, v) :: ρ) L) : HQ P n ops K (⟨some d, op, ty, pos, af, g⟩ :: rest) ρ L := by
 unfold Yn at hg
 split at hg
 ·exact hq_q hn h hr
 ·rename_i j wt
  split at hg
  ·rename_i hj
   split at hg
   ·rename_i ht
    split at hg
    ·cases hg; exact Zs2 hn hj ht h hr
    ·cases wt with
     | true => simp at hg
     | false => exact Zs2 hn hj ht h hr
   ·obtain ⟨_, h1⟩ := Z0 hg
    cases h1
   ·cases hg
  ·cases hg
theorem hq_no (hg : Yn ops ρ g = some false) (hn : Nat.blt d n = true) (hr : HQ P n ops K rest ((d, undef) :: ρ) L) : HQ P n ops K (⟨some d, op, ty, pos, af, g⟩ :: rest) ρ L := by
 unfold Yn at hg
 split at hg
 ·cases hg
 ·rename_i j wt
  split at hg
  ·rename_i hj
   split at hg
   ·rename_i ht
    split at hg
    ·cases hg; exact Zta hn hj ht rfl hr
    ·cases wt with
     | true => exact Zta hn hj ht rfl hr
     | false => simp at hg
   ·rename_i ht
    obtain ⟨h1, _⟩ := Z0 hg
    exact hq_skipu hj ht (Zes h1) hn hr
   ·cases hg
  ·cases hg
end hgo
/-! ### package variables -/
def Gl (L : Zb) (g : Nat) (v : Value) : Prop := ∃ l E fr, Has L g (.cells ⟨l⟩ E fr) ∧ l[0]? = some v
theorem Gl.cons {L : Zb} {g : Nat} {v : Value} {c : List Zq} (h : Gl L g v) : Gl (c :: L) g v :=
 let ⟨l, E, fr, h1, h2⟩ := h
 ⟨l, E, fr, Zf h1, h2⟩
def errV (T : Nat) (E : Nat → Addr) (g : Nat) : Value := .iface T (.pointer (some (E g)))
def eV (T : Nat) (E : Nat → Addr) : Option Nat → Value
 | none => .nilIface
 | some g => .iface T (.pointer (some (E g)))
def Errs (tab : List (Nat × Nat)) (T : Nat) (E : Nat → Addr) (cs : List Nat) (L : Zb) : Prop := ∀ g c, Yl tab g = some c → List.elem c cs = true → Gl L g (.iface T (.pointer (some (E c))))
theorem Errs.cons {tab : List (Nat × Nat)} {T : Nat} {E : Nat → Addr} {cs : List Nat} {L : Zb} (h : Errs tab T E cs L) (c : List Zq) : Errs tab T E cs (c :: L) := fun g c hg hc => (h g c hg hc).cons
theorem Errs.get {tab : List (Nat × Nat)} {T : Nat} {E : Nat → Addr} {cs : List Nat} {L : Zb} {g c : Nat} (h : Errs tab T E cs L) (hg : Yl tab g = some c) (hm : List.elem c cs = true) : Gl L g (.iface T (.pointer (some (E c)))) := h g c hg hm
theorem Errs.sub {tab : List (Nat × Nat)} {T : Nat} {E : Nat → Addr} {cs cs' : List Nat} {L : Zb} (h : Errs tab T E cs L) (hm : (cs'.all fun g => cs.elem g) = true := by rfl) : Errs tab T E cs' L := fun g c hg hc => h g c hg (List.all_eq_true.1 hm c (List.elem_iff.1 hc))
theorem Gl.mono {L L' : Zb} {g : Nat} {v : Value} (h : Gl L g v) (hl : ∀ b o, Has L b o → Has L' b o) : Gl L' g v :=
 let ⟨l, E, fr, h1, h2⟩ := h
 ⟨l, E, fr, hl _ _ h1, h2⟩
theorem Errs.mono {tab : List (Nat × Nat)} {T : Nat} {E : Nat → Addr} {cs : List Nat} {L L' : Zb} (h : Errs tab T E cs L) (hl : ∀ b o, Has L b o → Has L' b o) : Errs tab T E cs L' := fun g c hg hc => (h g c hg hc).mono hl
section tab
variable {P : Program} (S : Tab P) {ρ : Z3} {L : Zb} {d : Option Tmp} {ty : TypeId} {pos : String} {af : Array Edge} {g : Option (Nat × Bool)}
theorem q_ixT {t : Nat} {l : List UInt8} {k : IntKind} {j : Int} {ti : TyI} {y : Operand} {c : Value} (hc : c = bs l) (hy : ev ρ y = some (.int k j)) (ht : Yl S.ty t = some ti) (hk : Nat.beq ti.kind 3 = true) (hl : Nat.beq l.length 256 = true) (hj : 0 ≤ j ∧ j < 256) :
  QOp P ⟨d, .index t (.const c) y, ty, pos, af, g⟩ ρ L (.int .u8 ((l.getD j.toNat 0).toNat : Int)) := by
 subst hc
 refine ixE_q S (u := bs l) (u' := .int k j) rfl hy ?_ (p := 0 ≤ j ∧ j < l.length) ?_
 ·simp [ixE, ht, hk]
 ·have := Nat.eq_of_beq_eq_true hl
  omega
end tab
section gl
variable {P : Program} (S : Tab P) {ρ : Z3} {L : Zb} {d : Option Tmp} {ty : TypeId} {pos : String} {af : Array Edge} {g : Option (Nat × Bool)}
theorem q_gload {t n : Nat} {ti : TyI} {v : Value} (ht : Yl S.ty t = some ti) (h6 : Nat.beq ti.kind 6 = false) (h7 : Nat.beq ti.kind 7 = false) (hg : Gl L n v) : QOp P ⟨d, .load t (.global n), ty, pos, af, g⟩ ρ L v := by
 obtain ⟨l, E, fr, h1, h2⟩ := hg
 exact Znn S (x := .global n) rfl ht h6 h7 h1 h2
end gl
end Go.HL
end

/-! HLAny -/
section
namespace Go.HL
open Go
set_option linter.unusedVariables false
set_option linter.unusedSimpArgs false

def QN (R : Act → World → Prop) : Exit → Act → World → Prop
 | .normal, a, w => R a w
 | _, _, _ => False
def full (n : Nat) (a : Act) : Z3 := (List.range n).map fun t => (t, a.tmps.getD t undef)
theorem Zq6 (f : Nat → Value) : ∀ (l : List Nat) (t : Nat), lk (l.map fun t => (t, f t)) t = if t ∈ l then some (f t) else none
 | [], t => by simp [lk]
 | x :: r, t => by
  simp only [List.map_cons]
  by_cases e : x = t
  ·subst e; rw [V4]; simp
  ·rw [V3 _ _ e, Zq6 f r t]
   have : t ≠ x := fun h => e h.symm
   simp [this]
theorem agr_full {n : Nat} {a : Act} (hs : a.tmps.size = n) (hd : a.defers = []) : Agr n a (full n a) := by
 refine ⟨hs, hd, fun t v h => ?_⟩
 unfold full at h
 rw [Zq6] at h
 split at h
 ·rename_i hm
  have hlt := List.mem_range.1 hm
  cases h
  rw [Array.getElem?_eq_getElem (by omega)]
  simp [Array.getD, hs, hlt]
 ·cases h
theorem Zox {n : Nat} {a : Act} (hs : a.tmps.size = n) {t : Nat} {v : Value} (h : a.tmps[t]? = some v) : lk (full n a) t = some v := by
 obtain ⟨hlt, he⟩ := Array.getElem?_eq_some_iff.1 h
 unfold full
 rw [Zq6, if_pos (List.mem_range.2 (by omega))]
 simp [Array.getD, hlt, he]

def ELe (ρ ρ' : Z3) : Prop := ∀ t v, lk ρ t = some v → lk ρ' t = some v
theorem Agr.le {n : Nat} {a : Act} {ρ ρ' : Z3} (h : Agr n a ρ') (hl : ELe ρ ρ') : Agr n a ρ := ⟨h.size, h.defers, fun t v hv => h.get t v (hl t v hv)⟩

section any
variable (P : Program) (n : Nat) (ops : List Oper) (Q : Exit → Z3 → Zb → Prop)
def Zcd (i0 i : Nat) : Bool := match ops[i]? with
 | some o => o.after.toList.all fun e => !(Region.binds .any e && Nat.beq e.on i0)
 | none => true
def Zoj (i : Nat) (L : Zb) : List (Nat × Zq) → Prop
 | [] => True
 | (i0, p) :: r => (Zcd ops i0 i = false ∨ Has L p.1 p.2) ∧ Zoj i L r
def ssF (i : Nat) (Ss : List (Nat × Zq)) : List (Nat × Zq) := Ss.filter fun s => Zcd ops s.1 i
def Fin (ρ : Z3) (L : Zb) : Prop := ∀ k w a, Sat k w L → Agr n a ρ → post k n Q .normal a w
def HStep (i : Nat) (K : Z3 → Zb → Prop) (ρ : Z3) (L : Zb) : Prop :=
 ∀ k w a, Sat k w L → Agr n a ρ → wpOp P ops.toArray (QN (post k n Q .normal)) i (fun a' w' => ∃ ρ' L', Agr n a' ρ' ∧ Sat k w' L' ∧ K ρ' L') a w
def HAny : Nat → List (Nat × Zq) → Array Bool → Z3 → Zb → Prop
 | 0, _, l, ρ, L => Region.ready .any ops.toArray l = [] ∧ Fin n Q ρ L
 | f + 1, Ss, l, ρ, L => (Region.ready .any ops.toArray l = [] → Fin n Q ρ L) ∧
  ∀ i ∈ Region.ready .any ops.toArray l, HStep P n ops Q i (fun ρ' L' => Zoj ops i L' Ss ∧ HAny f (ssF ops i Ss) (l.setIfInBounds i true) ρ' L') ρ L
end any

section any
variable {P : Program} {n : Nat} {ops : List Oper} {Q : Exit → Z3 → Zb → Prop}
theorem HStep.mono {i : Nat} {K K' : Z3 → Zb → Prop} {ρ ρ' : Z3} {L : Zb} (hl : ELe ρ ρ') (hk : ∀ ρ L, K ρ L → K' ρ L) (h : HStep P n ops Q i K ρ L) : HStep P n ops Q i K' ρ' L :=
 fun k w a hs ha => wpOp_mono (fun a' w' ⟨ρ1, L1, h1, h2, h3⟩ => ⟨ρ1, L1, h1, h2, hk _ _ h3⟩) (h k w a hs (ha.le hl))
theorem HAny.sound : ∀ (f : Nat) (Ss : List (Nat × Zq)) (l : Array Bool) (ρ : Z3) (L : Zb), HAny P n ops Q f Ss l ρ L → ∀ k w a, Sat k w L → Agr n a ρ → wpAny P .any ops.toArray (QN (post k n Q .normal)) f l a w
 | 0, _, _, _, _, h, k, w, a, hs, ha => ⟨h.1, h.2 k w a hs ha⟩
 | f + 1, Ss, l, ρ, L, h, k, w, a, hs, ha => ⟨fun h0 => h.1 h0 k w a hs ha, fun i hi => wpOp_mono (fun a' w' ⟨ρ', L', h1, h2, h3⟩ => HAny.sound f _ _ ρ' L' h3.2 k w' a' h2 h1) (h.2 i hi k w a hs ha)⟩
theorem Fin.le {ρ ρ' : Z3} {L : Zb} (hl : ELe ρ ρ') (h : Fin n Q ρ L) : Fin n Q ρ' L := fun k w a hs ha => h k w a hs (ha.le hl)
theorem HAny.le : ∀ {f : Nat} {Ss : List (Nat × Zq)} {l : Array Bool} {ρ ρ' : Z3} {L : Zb}, ELe ρ ρ' → HAny P n ops Q f Ss l ρ L → HAny P n ops Q f Ss l ρ' L
 | 0, _, _, _, _, _, hl, h => ⟨h.1, h.2.le hl⟩
 | f + 1, _, _, _, _, _, hl, h => ⟨fun h0 => (h.1 h0).le hl, fun i hi => (h.2 i hi).mono hl fun _ _ h => h⟩
def QAt (P : Program) (ops : List Oper) (o : Oper) (ρ : Z3) (F : List Zq) (v : Value) : Prop :=
 (Yn ops ρ o.guard = some true ∧ ∀ L, (∀ p ∈ F, Has L p.1 p.2) → QOp P o ρ L v) ∨ (Yn ops ρ o.guard = some false ∧ v = undef)
theorem ssOk_all {i : Nat} {L : Zb} : ∀ {Ss : List (Nat × Zq)}, Zoj ops i L Ss ↔ ∀ s ∈ Ss, Zcd ops s.1 i = true → Has L s.2.1 s.2.2
 | [] => by simp [Zoj]
 | s :: r => by
  obtain ⟨i0, p⟩ := s
  simp only [Zoj, ssOk_all (Ss := r), List.mem_cons, forall_eq_or_imp]
  constructor
  ·rintro ⟨h1, h2⟩
   refine ⟨fun hk => ?_, h2⟩
   rcases h1 with h1 | h1
   ·rw [h1] at hk; cases hk
   ·exact h1
  ·rintro ⟨h1, h2⟩
   refine ⟨?_, h2⟩
   cases hk : Zcd ops i0 i with
   | false => exact .inl rfl
   | true => exact .inr (h1 hk)
theorem Zwa {ρ ρ' : Z3} {g : Option (Nat × Bool)} {b : Bool} (hl : ∀ j wt t v, g = some (j, wt) → Q0 ops j = some t → lk ρ t = some v → lk ρ' t = some v) (h : Yn ops ρ g = some b) : Yn ops ρ' g = some b := by
 unfold Yn at *
 split at h
 ·exact h
 ·rename_i j wt
  split at h
  ·rename_i t hj
   split at h
   ·rename_i c ht
    rw [hl j wt t _ rfl hj ht]
    exact h
   ·rename_i v hv ht
    rw [hl j wt t _ rfl hj ht]
    obtain ⟨h1, h2⟩ := Z0 h
    split
    ·rename_i heq
     cases heq
     exact absurd rfl (hv _)
    ·rename_i heq
     cases heq
     rw [h1]
     exact h2
    ·rename_i heq
     cases heq
   ·cases h
  ·cases h
theorem Za9 {a : Act} {ρ : Z3} (ha : Agr n a ρ) {o : Oper} {b : Bool} (h : Yn ops ρ o.guard = some b) : Region.wanted o (yielded ops.toArray a.tmps) = b := by
 unfold Yn at h
 split at h
 ·rename_i hg
  cases h
  simp [Region.wanted, hg]
 ·rename_i j wt hg
  split at h
  ·rename_i t hj
   split at h
   ·rename_i c ht
    rw [Vo ha hg hj ht]
    cases c <;> cases wt <;> simp at h <;> subst h <;> rfl
   ·rename_i v hv ht
    obtain ⟨h1, h2⟩ := Z0 h
    cases h2
    have := Zes h1
    subst this
    unfold Q0 at hj
    simp [Region.wanted, hg, yielded, hj, ha.get _ _ ht, undef]
   ·cases h
  ·cases h
theorem QOp.le {o : Oper} {ρ ρ' : Z3} {L : Zb} {v : Value} (hl : ∀ x ∈ o.op.operands, ∀ u, ev ρ x = some u → ev ρ' x = some u) (h : QOp P o ρ L v) : QOp P o ρ' L v :=
 fun k a he w hs => h k a (fun x hx u hu => he x hx u (hl x hx u hu)) w hs
theorem Zuj {R : Act → World → Prop} {j : Nat} {oi oj : Oper} {d : Nat} {v : Value} (hj : ops.toArray[j]? = some oj) (hd : oi.dst = some d) (hap : oi.apart ops.toArray oj = true)
  (hsj : ∀ cs b, oj.op ≠ .select cs b) {K : Act → World → Prop} {a : Act} {w : World} (h : wpOp P ops.toArray (QN R) j K (a.put (some d) v) w) :
  wpOp P ops.toArray (QN R) j (fun a' w' => (∀ t ∈ oi.looksAt ops.toArray, a'.tmps[t]? = a.tmps[t]?) ∧ K (a'.put (some d) v) w') a w := by
 obtain ⟨h1, h2, h3⟩ := Oper.apart_spec hap
 rw [hd] at h1 h2
 have keep : ∀ (a0 : Act) (u : Value), (∀ t ∈ oi.looksAt ops.toArray, a0.tmps[t]? = a.tmps[t]?) → ∀ t ∈ oi.looksAt ops.toArray, (a0.put oj.dst u).tmps[t]? = a.tmps[t]? := by
  intro a0 u h0 t ht
  rw [← h0 t ht]
  cases hq : oj.dst with
  | none => rfl
  | some e =>
   have hne : e ≠ t := fun he => h3 e hq (he ▸ ht)
   simp [Act.put, Array.getElem?_setIfInBounds_ne hne]
 unfold wpOp at *
 simp only [hj] at *
 rw [wanted_put oj a (some d) v h1] at h
 split
 ·rename_i hw
  simp only [hw, if_true] at h
  rcases h with h | ⟨_, ha, hb, hlets⟩
  case inr => exact hlets.elim
  refine .inl ?_
  unfold Oper.wp at *
  rw [execOp_put oj hsj a (some d) v h1] at h
  generalize (execOp a.eval oj).run P w = r at *
  cases r with
  | ok nx w' =>
   cases nx <;> simp only [Oper.upon] at h ⊢
   case value u => exact ⟨keep a u (fun _ _ => rfl), by rw [← Act.put_comm a v u h2]; exact h⟩
   case skip => exact ⟨keep a _ (fun _ _ => rfl), by rw [← Act.put_comm a v undef h2]; exact h⟩
   case defer dd =>
    refine ⟨keep { a with defers := dd :: a.defers } _ (fun _ _ => rfl), ?_⟩
    rw [← Act.put_comm _ v undef h2, ← Act.put_defers]
    exact h
   case enter f args =>
    refine Calls.mono h fun e w'' he => ?_
    cases e with
    | returned u => exact ⟨keep a u (fun _ _ => rfl), by rw [← Act.put_comm a v u h2]; exact he⟩
    | panicked c => exact he
    | outgrown => exact he
   case row row args => exact Rows.mono h fun u w'' he => ⟨keep a u (fun _ _ => rfl), by rw [← Act.put_comm a v u h2]; exact he⟩
  | halt x w' =>
   cases x <;> simp only [Oper.upon] at h ⊢
   case panic u => exact h
 ·rename_i hw
  simp only [hw] at h
  exact ⟨keep a _ (fun _ _ => rfl), by rw [← Act.put_comm a v undef h2]; exact h⟩
theorem gdst_arr {j : Nat} : (ops.toArray[j]?).bind (·.dst) = Q0 ops j := by simp [Q0]
theorem QAt.full {o : Oper} {ρ : Z3} {F : List Zq} {v : Value} {a a' : Act} (h : QAt P ops o ρ F v) (ha : Agr n a ρ) (hs : a'.tmps.size = n) (he : ∀ t ∈ o.looksAt ops.toArray, a'.tmps[t]? = a.tmps[t]?) : QAt P ops o (full n a') F v := by
 have key : ∀ t ∈ o.looksAt ops.toArray, ∀ u, lk ρ t = some u → lk (HL.full n a') t = some u := fun t ht u hu => Zox hs (by rw [he t ht]; exact ha.get t u hu)
 have hg : ∀ b, Yn ops ρ o.guard = some b → Yn ops (HL.full n a') o.guard = some b := fun b hb => Zwa (fun j wt t u hgu hj hu => key t (by
  unfold Oper.looksAt
  rw [hgu]
  simp only [gdst_arr, hj]
  simp) u hu) hb
 have ho : ∀ x ∈ o.op.operands, ∀ u, ev ρ x = some u → ev (HL.full n a') x = some u := fun x hx u hu => by
  cases x with
  | tmp t => exact key t (List.mem_append_left _ (List.mem_filterMap.2 ⟨.tmp t, by simpa using hx, rfl⟩)) u hu
  | const c => exact hu
  | global c => exact hu
  | func c => exact hu
 rcases h with ⟨h1, h2⟩ | ⟨h1, h2⟩
 ·exact .inl ⟨hg _ h1, fun L hL => (h2 L hL).le ho⟩
 ·exact .inr ⟨hg _ h1, h2⟩
theorem HAny.ss : ∀ {f : Nat} {Ss Ss' : List (Nat × Zq)} {l : Array Bool} {ρ : Z3} {L : Zb}, (∀ s ∈ Ss', s ∈ Ss) → HAny P n ops Q f Ss l ρ L → HAny P n ops Q f Ss' l ρ L
 | 0, _, _, _, _, _, _, h => h
 | f + 1, Ss, Ss', l, ρ, L, hs, h => ⟨h.1, fun i hi => (h.2 i hi).mono (fun _ _ h => h) fun ρ' L' ⟨h1, h2⟩ => ⟨ssOk_all.2 fun s hm hk => ssOk_all.1 h1 s (hs s hm) hk, HAny.ss (fun s hm => by
   simp only [ssF, List.mem_filter] at hm ⊢
   exact ⟨hs s hm.1, hm.2⟩) h2⟩⟩
theorem Zrg {i d : Nat} {oi : Oper} {F : List Zq} {v : Value} (hi : ops.toArray[i]? = some oi) (hd : oi.dst = some d) (hdn : d < n) (hsel : ∀ (j : Nat) (o : Oper) cs b, ops.toArray[j]? = some o → o.op ≠ .select cs b) :
  ∀ (f : Nat) (Ss : List (Nat × Zq)) (l : Array Bool) (ρ : Z3) (L : Zb),
   (∀ j oj, ops.toArray[j]? = some oj → j ≠ i → l.getD j true = false → (∀ e ∈ oj.after, Region.binds .any e = true → e.on ≠ i) → oi.apart ops.toArray oj = true) →
   i ∈ Region.ready .any ops.toArray l → QAt P ops oi ρ F v → (∀ p ∈ F, Has L p.1 p.2) → (∀ s ∈ Ss, Has L s.2.1 s.2.2) →
   HAny P n ops Q f (F.map (fun p => (i, p)) ++ Ss) (l.setIfInBounds i true) ((d, v) :: ρ) L → HAny P n ops Q (f + 1) Ss l ρ L := by
 have self : ∀ (Ss : List (Nat × Zq)) (l : Array Bool) (ρ : Z3) (L : Zb) (K : Z3 → Zb → Prop), QAt P ops oi ρ F v → (∀ p ∈ F, Has L p.1 p.2) → K ((d, v) :: ρ) L → HStep P n ops Q i K ρ L := by
  intro Ss l ρ L K hq hF hK k w a hs ha
  unfold wpOp
  simp only [hi]
  rcases hq with ⟨hg, hq⟩ | ⟨hg, rfl⟩
  ·rw [if_pos (Za9 ha hg)]
   refine .inl (Zj9 hs (hq L hF k a (fun x _ u hu => ha.ev hu) w hs) fun w' hs' => ?_)
   rw [hd]
   exact ⟨_, L, ha.put hdn v, hs', hK⟩
  ·rw [if_neg (by rw [Za9 ha hg]; simp)]
   rw [hd]
   exact ⟨_, L, ha.put hdn undef, hs, hK⟩
 intro f
 induction f with
 | zero =>
  intro Ss l ρ L hfree hr hq hF hS H
  refine ⟨fun h => (by rw [h] at hr; cases hr), fun j hj => ?_⟩
  by_cases hji : j = i
  ·subst hji
   exact self Ss l ρ L _ hq hF ⟨ssOk_all.2 fun s hs _ => hS s hs, HAny.ss (fun s hm => List.mem_append_right _ (List.mem_filter.1 hm).1) H⟩
  ·have := ready_mono hj hji
   rw [H.1] at this
   cases this
 | succ f ih =>
  intro Ss l ρ L hfree hr hq hF hS H
  refine ⟨fun h => (by rw [h] at hr; cases hr), fun j hj => ?_⟩
  by_cases hji : j = i
  ·subst hji
   exact self Ss l ρ L _ hq hF ⟨ssOk_all.2 fun s hs _ => hS s hs, HAny.ss (fun s hm => List.mem_append_right _ (List.mem_filter.1 hm).1) H⟩
  ·have h1 := H.2 j (ready_mono hj hji)
   obtain ⟨hjun, oj, hoj, hall⟩ := mem_ready.1 hj
   have hnot : ∀ e ∈ oj.after, Region.binds .any e = true → e.on ≠ i := fun e he hb heq => by
    have h1 := hall e he hb
    have h0 := (mem_ready.1 hr).1
    rw [heq] at h1
    rcases Nat.lt_or_ge i l.size with h' | h'
    ·simp [h'] at h0 h1; rw [h0] at h1; cases h1
    ·simp [Array.getElem?_eq_none h'] at h1
   have hkeep : Zcd ops i j = true := by
    unfold Zcd
    rw [show ops[j]? = some oj by simpa using hoj]
    simp only [List.all_eq_true, Bool.not_eq_true', Bool.and_eq_false_iff]
    intro e he
    by_cases hb : Region.binds .any e = true
    ·refine .inr ?_
     have := hnot e (Array.mem_toList_iff.1 he) hb
     cases hbq : Nat.beq e.on i with
     | false => rfl
     | true => exact absurd (Nat.eq_of_beq_eq_true hbq) this
    ·exact .inl (by simpa using hb)
   intro k w a hs ha
   have h2 := Zuj (d := d) (v := v) hoj hd (hfree j oj hoj hji hjun hnot) (fun cs b => hsel j oj cs b hoj) (h1 k w (a.put (some d) v) hs (ha.put hdn v))
   refine wpOp_mono (fun a' w' h3 => ?_) h2
   obtain ⟨hsame, ρ', L', ha', hs', hss, hH⟩ := h3
   have hsz : a'.tmps.size = n := by
    have := ha'.size
    simpa [Act.put] using this
   have hfree' : ∀ q oq, ops.toArray[q]? = some oq → q ≠ i → (l.setIfInBounds j true).getD q true = false → (∀ e ∈ oq.after, Region.binds .any e = true → e.on ≠ i) → oi.apart ops.toArray oq = true := fun q oq hq hqi hun hno => by
    refine hfree q oq hq hqi ?_ hno
    by_cases hjk : j = q
    ·subst hjk; exact hjun
    ·rw [getD_set_ne true hjk] at hun; exact hun
   have hss' := ssOk_all.1 hss
   refine ⟨full n a', L', agr_full hsz (by have := ha'.defers; simpa [Act.put] using this), hs', ssOk_all.2 fun s hm hk => hss' s (List.mem_append_right _ hm) hk, ?_⟩
   refine ih (ssF ops j Ss) (l.setIfInBounds j true) (full n a') L' hfree' (ready_mono hr (Ne.symm hji)) (hq.full ha hsz hsame) (fun p hp => hss' (i, p) (List.mem_append_left _ (List.mem_map_of_mem hp)) hkeep)
    (fun s hm => hss' s (List.mem_append_right _ (List.mem_filter.1 hm).1) (List.mem_filter.1 hm).2) ?_
   rw [Array.setIfInBounds_comm _ _ hji]
   refine HAny.ss (fun s hm => ?_) (HAny.le (fun t u hu => ?_) hH)
   ·simp only [ssF, List.mem_filter, List.mem_append, List.mem_map] at hm ⊢
    rcases hm with ⟨p, hp, rfl⟩ | hm
    ·exact ⟨.inl ⟨p, hp, rfl⟩, hkeep⟩
    ·exact ⟨.inr hm.1, hm.2⟩
   ·have hg := ha'.get t u hu
    by_cases e : d = t
    ·subst e
     rw [V4]
     have hlt : d < a'.tmps.size := by omega
     simp [Act.put, Array.getElem?_setIfInBounds, hlt] at hg
     exact congrArg some hg
    ·rw [V3 _ _ e]
     simp [Act.put, Array.getElem?_setIfInBounds, e] at hg
     exact Zox hsz hg
end any
end Go.HL
end

/-! HLDr -/
section
namespace Go.HL
open Go
set_option linter.unusedVariables false
set_option linter.unusedSimpArgs false

structure Unl (ops : List Oper) (l : Array Bool) (rem : List (Nat × Oper)) : Prop where
 size : l.size = ops.length
 nodup : (rem.map (·.1)).Nodup
 iff : ∀ j o, (j, o) ∈ rem ↔ (ops[j]? = some o ∧ l.getD j true = false)
def HD (P : Program) (n : Nat) (ops : List Oper) (Q : Exit → Z3 → Zb → Prop) (Ss : List (Nat × Zq)) (rem : List (Nat × Oper)) (ρ : Z3) (L : Zb) : Prop :=
 (∀ s ∈ Ss, Has L s.2.1 s.2.2) → ∀ l, Unl ops l rem → HAny P n ops Q rem.length Ss l ρ L
def Zf5 : Nat → List (Nat × Oper) → Option ((Nat × Oper) × List (Nat × Oper))
 | _, [] => none
 | 0, x :: r => some (x, r)
 | k + 1, x :: r => match Zf5 k r with
  | some (y, r') => some (y, x :: r')
  | none => none
theorem Zg7 : ∀ {k : Nat} {l : List (Nat × Oper)} {x : Nat × Oper} {r : List (Nat × Oper)}, Zf5 k l = some (x, r) → ∃ a b, l = a ++ x :: b ∧ r = a ++ b
 | k, [], _, _, h => by cases k <;> simp [Zf5] at h
 | 0, x :: r, _, _, h => by simp [Zf5] at h; obtain ⟨rfl, rfl⟩ := h; exact ⟨[], _, rfl, rfl⟩
 | k + 1, y :: l, x, r, h => by
  simp only [Zf5] at h
  split at h
  ·rename_i z r' hz
   simp at h
   obtain ⟨rfl, rfl⟩ := h
   obtain ⟨a, b, rfl, rfl⟩ := Zg7 hz
   exact ⟨y :: a, b, rfl, rfl⟩
  ·cases h
def isAct (o : Oper) : Bool := match o.op with
 | .alloc _ | .box _ _ | .store _ _ _ | .buildSlice _ _ _ | .makeSlice _ _ _ | .makeMap _ _ | .mapUpdate _ _ _ _ | .insert _ _ _ _ | .makeChan _ _ => true
 | .call ⟨.builtin .append, _, _⟩ => true
 | .call ⟨.builtin .copy, _, _⟩ => true
 | .call ⟨.builtin .clear, _, _⟩ => true
 | _ => false
def Zrw (o : Oper) : Bool := match o.op with
 | .call ⟨.value _, _, _⟩ => true
 | .call ⟨.invoke _ _, _, _⟩ => true
 | _ => isAct o
def Zmo (b : Bool) : List (Nat × Oper) → Option ((Nat × Oper) × List (Nat × Oper))
 | [] => none
 | x :: r => bif (match Zrw x.2, b with | true, true => true | false, false => true | _, _ => false) then some (x, r) else match Zmo b r with
  | some (y, r') => some (y, x :: r')
  | none => none
theorem Zet {b : Bool} : ∀ {l : List (Nat × Oper)} {x : Nat × Oper} {r : List (Nat × Oper)}, Zmo b l = some (x, r) → ∃ a b, l = a ++ x :: b ∧ r = a ++ b
 | [], _, _, h => by simp [Zmo] at h
 | y :: l, x, r, h => by
  simp only [Zmo] at h
  cases hc : (match Zrw y.2, b with | true, true => true | false, false => true | _, _ => false) with
  | true =>
   rw [hc] at h
   simp at h
   obtain ⟨rfl, rfl⟩ := h
   exact ⟨[], _, rfl, rfl⟩
  | false =>
   rw [hc] at h
   simp only [cond_false] at h
   split at h
   ·rename_i z r' hz
    simp at h
    obtain ⟨rfl, rfl⟩ := h
    obtain ⟨a, b, rfl, rfl⟩ := Zet hz
    exact ⟨y :: a, b, rfl, rfl⟩
   ·cases h
def Vu (k : Nat) (l : List (Nat × Oper)) : Option ((Nat × Oper) × List (Nat × Oper)) :=
 bif Nat.beq k 100 then Zmo false l else bif Nat.beq k 101 then Zmo true l else Zf5 k l
theorem Zix {k : Nat} {l : List (Nat × Oper)} {x : Nat × Oper} {r : List (Nat × Oper)} (h : Vu k l = some (x, r)) : ∃ a b, l = a ++ x :: b ∧ r = a ++ b := by
 unfold Vu at h
 cases h1 : Nat.beq k 100 with
 | true => rw [h1] at h; exact Zet h
 | false =>
  rw [h1] at h
  cases h2 : Nat.beq k 101 with
  | true => rw [h2] at h; exact Zet h
  | false => rw [h2] at h; exact Zg7 h
def Zbw (m : Nat) (rem : List (Nat × Oper)) (o : Oper) : Bool := o.after.toList.all fun e => !(Region.binds .any e) || (Nat.blt e.on m && rem.all fun q => !Nat.beq q.1 e.on)
def Znm (o : Oper) (i : Nat) : Bool := o.after.toList.any fun e => Region.binds .any e && Nat.beq e.on i
def Zct (ops : List Oper) (rem : List (Nat × Oper)) (i : Nat) (o : Oper) : Bool :=
 Zbw ops.length ((i, o) :: rem) o && (rem.all fun q => Znm q.2 i || o.apart ops.toArray q.2) && Region.noSelect ops.toArray
def chkA (ops : List Oper) (rem : List (Nat × Oper)) (i : Nat) (o : Oper) : Bool :=
 Zbw ops.length ((i, o) :: rem) o && rem.all fun q => !Zbw ops.length ((i, o) :: rem) q.2
section hd
variable {P : Program} {n : Nat} {ops : List Oper} {Q : Exit → Z3 → Zb → Prop} {Ss : List (Nat × Zq)} {rem rem' : List (Nat × Oper)} {ρ : Z3} {L : Zb}
theorem beq_no {a b : Nat} (h : Nat.beq a b = false) : a ≠ b := fun e => by subst e; simp at h
theorem Unl.ready {l : Array Bool} {i : Nat} {o : Oper} (hu : Unl ops l rem) (hm : (i, o) ∈ rem) (hr : Zbw ops.length rem o = true) : i ∈ Region.ready .any ops.toArray l := by
 obtain ⟨h1, h2⟩ := (hu.iff i o).1 hm
 refine mem_ready.2 ⟨h2, o, by simpa using h1, fun e he hb => ?_⟩
 have := List.all_eq_true.1 hr e (Array.mem_toList_iff.2 he)
 rw [hb] at this
 simp only [Bool.not_true, Bool.false_or, Bool.and_eq_true] at this
 have hlt : e.on < ops.length := Nat.le_of_ble_eq_true this.1
 have hnot : ∀ q ∈ rem, q.1 ≠ e.on := fun q hq => by
  have h3 := List.all_eq_true.1 this.2 q hq
  exact beq_no (by simpa using h3)
 have hlt' : e.on < l.size := by rw [hu.size]; exact hlt
 cases hv : l.getD e.on true with
 | false => exact absurd rfl (hnot (e.on, ops[e.on]) ((hu.iff _ _).2 ⟨List.getElem?_eq_getElem hlt, hv⟩))
 | true => simpa [Array.getD, hlt'] using hv
theorem Unl.readyR_of {l : Array Bool} {i : Nat} (hu : Unl ops l rem) (hi : i ∈ Region.ready .any ops.toArray l) : ∃ o, (i, o) ∈ rem ∧ Zbw ops.length rem o = true := by
 obtain ⟨h1, o, h2, h3⟩ := mem_ready.1 hi
 refine ⟨o, (hu.iff i o).2 ⟨by simpa using h2, h1⟩, List.all_eq_true.2 fun e he => ?_⟩
 cases hb : Region.binds .any e with
 | false => rfl
 | true =>
  have h4 := h3 e (Array.mem_toList_iff.1 he) hb
  have hlt : e.on < l.size := by
   rcases Nat.lt_or_ge e.on l.size with h | h
   ·exact h
   ·simp [Array.getElem?_eq_none h] at h4
  simp only [Bool.not_true, Bool.false_or, Bool.and_eq_true]
  refine ⟨Nat.ble_eq_true_of_le (by have := hu.size; omega), List.all_eq_true.2 fun q hq => ?_⟩
  have := ((hu.iff q.1 q.2).1 hq).2
  cases hbq : Nat.beq q.1 e.on with
  | false => rfl
  | true =>
   have e1 := Nat.eq_of_beq_eq_true hbq
   rw [e1] at this
   simp [Array.getD, hlt] at h4 this
   rw [h4] at this
   cases this
theorem Unl.drop {l : Array Bool} {i : Nat} {o : Oper} {a b : List (Nat × Oper)} (hu : Unl ops l (a ++ (i, o) :: b)) : Unl ops (l.setIfInBounds i true) (a ++ b) := by
 have hnd := hu.nodup
 simp only [List.map_append, List.map_cons] at hnd
 have hd := List.nodup_append.1 hnd
 have hd2 := List.nodup_cons.1 hd.2.1
 refine ⟨by simp [hu.size], ?_, fun j q => ?_⟩
 ·simp only [List.map_append]
  refine List.nodup_append.2 ⟨hd.1, hd2.2, fun x hx y hy => hd.2.2 x hx y (List.mem_cons_of_mem _ hy)⟩
 ·by_cases e : i = j
  ·subst e
   constructor
   ·intro hm
    exfalso
    rcases List.mem_append.1 hm with hm | hm
    ·exact hd.2.2 i (List.mem_map_of_mem hm) i (by simp) rfl
    ·exact hd2.1 (List.mem_map_of_mem hm)
   ·rintro ⟨h1, h2⟩
    have hlt : i < l.size := by rw [hu.size]; exact (List.getElem?_eq_some_iff.1 h1).1
    simp [Array.getD, hlt] at h2
  ·rw [getD_set_ne true e, ← hu.iff j q]
   simp only [List.mem_append, List.mem_cons, Prod.mk.injEq]
   constructor
   ·rintro (h | h)
    ·exact .inl h
    ·exact .inr (.inr h)
   ·rintro (h | ⟨h, _⟩ | h)
    ·exact .inl h
    ·exact absurd h.symm e
    ·exact .inr h
theorem Zda {m : Nat} {a b : List (Nat × Oper)} {x : Nat × Oper} {o : Oper} : Zbw m (x :: (a ++ b)) o = Zbw m (a ++ x :: b) o := by
 unfold Zbw
 congr 1
 funext e
 congr 2
 simp only [List.all_cons, List.all_append]
 cases (a.all fun q => !Nat.beq q.1 e.on) <;> cases (!Nat.beq x.1 e.on) <;> rfl
theorem Zqx {o : Oper} {i : Nat} (h : ∀ e ∈ o.after, Region.binds .any e = true → e.on ≠ i) : Znm o i = false := by
 unfold Znm
 rw [List.any_eq_false]
 intro e he
 simp only [Bool.and_eq_true, not_and]
 intro hb hq
 exact h e (Array.mem_toList_iff.1 he) hb (Nat.eq_of_beq_eq_true hq)
theorem hd_nil (h : Q .normal ρ L) : HD P n ops Q Ss [] ρ L := fun hS l hu => by
 refine ⟨?_, fun k w a hs ha => ⟨ρ, L, ha, hs, h⟩⟩
 cases hr : Region.ready .any ops.toArray l with
 | nil => rfl
 | cons i r =>
  obtain ⟨o, hm, _⟩ := hu.readyR_of (i := i) (by rw [hr]; exact .head _)
  cases hm
theorem hd_q {k i d : Nat} {o : Oper} {F : List Zq} {v : Value} (hp : Vu k rem = some ((i, o), rem')) (hc : Zct ops rem' i o = true) (hd : o.dst = some d) (hn : Nat.blt d n = true) (hq : QAt P ops o ρ F v) (hF : ∀ p ∈ F, Has L p.1 p.2)
  (hr : HD P n ops Q (F.map (fun p => (i, p)) ++ Ss) rem' ((d, v) :: ρ) L) : HD P n ops Q Ss rem ρ L := fun hS l hu => by
 obtain ⟨a, b, rfl, rfl⟩ := Zix hp
 simp only [Zct, Bool.and_eq_true] at hc
 obtain ⟨⟨c1, c2⟩, c3⟩ := hc
 rw [Zda] at c1
 have hm : (i, o) ∈ a ++ (i, o) :: b := by simp
 obtain ⟨h1, h2⟩ := (hu.iff i o).1 hm
 have hlen : (a ++ (i, o) :: b).length = (a ++ b).length + 1 := by simp; omega
 rw [hlen]
 refine Zrg (by simpa using h1) hd (Nat.le_of_ble_eq_true hn) (Region.noSelect_spec c3) _ _ _ _ _ (fun j oj hj hji hun hno => ?_) (hu.ready hm c1) hq hF hS (hr (fun s hs => ?_) _ hu.drop)
 ·have hmj : (j, oj) ∈ a ++ b := by
   have := (hu.iff j oj).2 ⟨by simpa using hj, hun⟩
   simp only [List.mem_append, List.mem_cons, Prod.mk.injEq] at this ⊢
   rcases this with h | ⟨h, _⟩ | h
   ·exact .inl h
   ·exact absurd h hji
   ·exact .inr h
  have := List.all_eq_true.1 c2 _ hmj
  rw [Zqx hno] at this
  simpa using this
 ·rcases List.mem_append.1 hs with hs | hs
  ·obtain ⟨p, hp, rfl⟩ := List.mem_map.1 hs
   exact hF p hp
  ·exact hS s hs
def Z4 (P : Program) (n : Nat) (ops : List Oper) (Q : Exit → Z3 → Zb → Prop) (i : Nat) (Ss : List (Nat × Zq)) (rem : List (Nat × Oper)) : Exit → Z3 → Zb → Prop
 | .normal, ρ, L => Zoj ops i L Ss ∧ HD P n ops Q (ssF ops i Ss) rem ρ L
 | _, _, _ => False
theorem Zf1 {o : Oper} {a : Act} {w : World} {K : Act → World → Prop} {Q' : Exit → Act → World → Prop} {R : Act → World → Prop} (hq : ∀ e a w, Q' e a w → e = .normal) (h : o.wp P a w K Q') : o.wp P a w K (QN R) := by
 unfold Oper.wp at *
 generalize (execOp a.eval o).run P w = r at *
 cases r with
 | ok nx w' =>
  cases nx <;> simp only [Oper.upon] at h ⊢
  all_goals first
   | exact h
   | skip
  refine Calls.mono h fun e w'' he => ?_
  cases e with
  | returned u => exact he
  | panicked c => cases hq _ _ _ he
  | outgrown =>
   obtain ⟨a, w, hx⟩ := he
   cases hq _ _ _ hx
 | halt x w' =>
  cases x <;> simp only [Oper.upon] at h ⊢
  case panic u => cases hq _ _ _ h
theorem hd_act {k i : Nat} {o : Oper} (hp : Vu k rem = some ((i, o), rem')) (hc : chkA ops rem' i o = true) (h : HO P n ops (Z4 P n ops Q i Ss rem') [o] ρ L) : HD P n ops Q Ss rem ρ L := fun hS l hu => by
 obtain ⟨a, b, rfl, rfl⟩ := Zix hp
 simp only [chkA, Bool.and_eq_true] at hc
 obtain ⟨c1, c2⟩ := hc
 rw [Zda] at c1
 have hm : (i, o) ∈ a ++ (i, o) :: b := by simp
 obtain ⟨h1, h2⟩ := (hu.iff i o).1 hm
 have hlen : (a ++ (i, o) :: b).length = (a ++ b).length + 1 := by simp; omega
 rw [hlen]
 have hrd := hu.ready hm c1
 refine ⟨fun h0 => (by rw [h0] at hrd; cases hrd), fun j hj => ?_⟩
 obtain ⟨oj, hmj, hrj⟩ := hu.readyR_of hj
 have hji : j = i := by
  simp only [List.mem_append, List.mem_cons, Prod.mk.injEq] at hmj
  have key : (j, oj) ∈ a ++ b → False := fun hx => by
   have := List.all_eq_true.1 c2 _ hx
   rw [Zda, hrj] at this
   cases this
  rcases hmj with h | ⟨h, _⟩ | h
  ·exact (key (List.mem_append.2 (.inl h))).elim
  ·exact h
  ·exact (key (List.mem_append.2 (.inr h))).elim
 subst hji
 intro kk w ac hs ha
 have h3 := h kk w ac hs ha
 unfold wpList at h3
 have hnorm : ∀ e a1 w1, post kk n (Z4 P n ops Q j Ss (a ++ b)) e a1 w1 → e = .normal := fun e a1 w1 hx => by
  obtain ⟨_, _, _, _, hx⟩ := hx
  cases e <;> first | rfl | exact hx.elim
 have fin : ∀ a1 w1, wpList P ops.toArray (post kk n (Z4 P n ops Q j Ss (a ++ b))) [] a1 w1 → ∃ ρ' L', Agr n a1 ρ' ∧ Sat kk w1 L' ∧ Zoj ops j L' Ss ∧ HAny P n ops Q (a ++ b).length (ssF ops j Ss) (l.setIfInBounds j true) ρ' L' := fun a1 w1 hx => by
  obtain ⟨ρ', L', e1, e2, e3, e4⟩ := hx
  refine ⟨ρ', L', e1, e2, e3, e4 (fun s hs => ?_) _ hu.drop⟩
  have := List.mem_filter.1 hs
  exact ssOk_all.1 e3 s this.1 this.2
 unfold wpOp
 rw [show ops.toArray[j]? = some o by simpa using h1]
 simp only
 split
 ·rename_i hw
  rw [if_pos hw] at h3
  rcases h3 with h3 | ⟨_, a1, w1, h3⟩
  ·exact .inl (Oper.wp_mono fin (Zf1 hnorm h3))
  ·cases hnorm _ _ _ h3
 ·rename_i hw
  rw [if_neg hw] at h3
  exact fin _ _ h3
theorem hd_split {t : Nat} {b : Bool} (ht : lk ρ t = some (.bool b)) (h1 : b = true → HD P n ops Q Ss rem ((t, .bool true) :: ρ) L) (h0 : b = false → HD P n ops Q Ss rem ((t, .bool false) :: ρ) L) : HD P n ops Q Ss rem ρ L := fun hS l hu => by
 have key : ∀ c, b = c → ELe ((t, .bool c) :: ρ) ρ := fun c hc x v hx => by
  subst hc
  by_cases e : t = x
  ·subst e
   rw [V4] at hx
   rw [ht, hx]
  ·rw [V3 _ _ e] at hx
   exact hx
 cases hb : b with
 | true => exact (h1 hb hS l hu).le (key _ hb)
 | false => exact (h0 hb hS l hu).le (key _ hb)
def Zru : List Nat := [0, 1, 2, 3, 4, 5, 6, 7, 8, 9, 10, 11, 12, 13, 14, 15, 16, 17, 18, 19, 20, 21, 22, 23, 24, 25, 26, 27, 28, 29, 30, 31, 32, 33, 34, 35, 36, 37, 38, 39, 40, 41, 42, 43, 44, 45, 46, 47, 48, 49, 50, 51, 52, 53, 54, 55, 56, 57, 58, 59]
def Zo7 : List Nat → List Oper → (List (Nat × Oper) → Option (List (Nat × Oper))) → Option (List (Nat × Oper))
 | _, [], K => K []
 | k :: ks, o :: r, K => Zo7 ks r fun l => K ((k, o) :: l)
 | [], _ :: _, _ => none
def Zdt : List Nat → List Oper → Option (List (Nat × Oper))
 | _, [] => some []
 | k :: ks, o :: r => (Zdt ks r).map ((k, o) :: ·)
 | [], _ :: _ => none
theorem Zs8 : ∀ (ks : List Nat) (l : List Oper) (K : List (Nat × Oper) → Option (List (Nat × Oper))), Zo7 ks l K = (Zdt ks l).bind K
 | ks, [], K => by cases ks <;> simp [Zo7, Zdt]
 | [], _ :: _, K => by simp [Zo7, Zdt]
 | k :: ks, o :: r, K => by
  simp only [Zo7, Zdt, Zs8 ks r]
  cases Zdt ks r <;> rfl
theorem Zmu : ∀ (ks : List Nat) (l : List Oper) (b : Nat) (rem : List (Nat × Oper)), (∀ i k, ks[i]? = some k → k = b + i) → Zdt ks l = some rem → (rem.map (·.1)).Nodup ∧ ∀ j o, (j, o) ∈ rem ↔ (b ≤ j ∧ l[j - b]? = some o)
 | ks, [], b, rem, _, h => by cases ks <;> (simp [Zdt] at h; subst h; simp)
 | [], _ :: _, _, _, _, h => by simp [Zdt] at h
 | k :: ks, o :: r, b, rem, hk, h => by
  simp only [Zdt, Option.map_eq_some_iff] at h
  obtain ⟨l', hl, rfl⟩ := h
  have hk0 : k = b := by simpa using hk 0 k rfl
  obtain ⟨h1, h2⟩ := Zmu ks r (b + 1) l' (fun i q hq => by have := hk (i + 1) q (by simpa using hq); omega) hl
  subst hk0
  refine ⟨?_, fun j q => ?_⟩
  ·rw [List.map_cons, List.nodup_cons]
   refine ⟨fun hm => ?_, h1⟩
   obtain ⟨p, hp, e⟩ := List.mem_map.1 hm
   have := (h2 p.1 p.2).1 hp
   simp only at e
   omega
  ·simp only [List.mem_cons, Prod.mk.injEq, h2]
   constructor
   ·rintro (⟨rfl, rfl⟩ | ⟨e1, e2⟩)
    ·simp
    ·refine ⟨by omega, ?_⟩
     rw [show j - k = (j - (k + 1)) + 1 by omega]
     simpa using e2
   ·rintro ⟨e1, e2⟩
    by_cases e : j = k
    ·subst e
     simp at e2
     exact .inl ⟨rfl, e2.symm⟩
    ·refine .inr ⟨by omega, ?_⟩
     rw [show j - k = (j - (k + 1)) + 1 by omega] at e2
     simpa using e2
theorem Zoo : ∀ (ks : List Nat) (l : List Oper) (rem : List (Nat × Oper)), Zdt ks l = some rem → rem.length = l.length
 | ks, [], rem, h => by cases ks <;> (simp [Zdt] at h; subst h; rfl)
 | [], _ :: _, _, h => by simp [Zdt] at h
 | k :: ks, o :: r, rem, h => by
  simp only [Zdt, Option.map_eq_some_iff] at h
  obtain ⟨l', hl, rfl⟩ := h
  simp [Zoo ks r l' hl]
theorem Zt5 {id : Nat} (S : Tab P) (h0 : Zo7 Zru ops some = some rem) (h : HD P n ops Q [] rem ρ L) : HW P n (.region id ops.toArray true) Q ρ L := by
 intro k w a hs ha
 rw [Zs8] at h0
 have h0' : Zdt Zru ops = some rem := by
  cases hx : Zdt Zru ops with
  | none => rw [hx] at h0; cases h0
  | some r => rw [hx] at h0; exact h0
 obtain ⟨h1, h2⟩ := Zmu Zru ops 0 rem (fun i q hq => by
  have hlt : i < 60 := (List.getElem?_eq_some_iff.1 hq).1
  have : ∀ i, i < 60 → Zru[i]? = some i := by decide
  rw [this i hlt] at hq
  cases hq
  omega) h0'
 have hlen := Zoo _ _ _ h0'
 have hu : Unl ops (Array.replicate ops.length false) rem := ⟨by simp, h1, fun j o => by
  rw [h2 j o]
  simp only [Nat.zero_le, true_and, Nat.sub_zero]
  constructor
  ·intro hj
   have hlt := (List.getElem?_eq_some_iff.1 hj).1
   exact ⟨hj, by simp [Array.getD, hlt]⟩
  ·exact fun h => h.1⟩
 have hx := HAny.sound _ _ _ _ _ (h (fun s hs => by cases hs) _ hu) k w.drew a hs.drew ha
 rw [hlen] at hx
 refine Code.wp_mono (fun e a' w' he => ?_) (wp_region_any (Q := QN (post k n Q .normal)) S.mixed (by simpa using hx))
 cases e <;> first | exact he | exact he.elim
end hd
end Go.HL
end

/-! HLEq -/
section
namespace Go.HL
open Go
set_option linter.unusedVariables false
set_option linter.unusedSimpArgs false

def Zd4 : List Nat → List Value → List Value → Option Bool
 | [], [], [] => some true
 | 1 :: t, .bool a :: xs, .bool b :: ys => match Zd4 t xs ys with
  | some r => some ((a == b) && r)
  | none => none
 | 2 :: t, .int k a :: xs, .int k' b :: ys => bif Zo1 k k' then (match Zd4 t xs ys with
  | some r => some (decide (a = b) && r)
  | none => none) else none
 | 3 :: t, .string ⟨⟨a⟩⟩ :: xs, .string ⟨⟨b⟩⟩ :: ys => match Zd4 t xs ys with
  | some r => some (decide (a = b) && r)
  | none => none
 | _, _, _ => none
theorem Ztu : ∀ {t : List Nat} {xs ys : List Value} {r : Bool}, Zd4 t xs ys = some r → xs.length = t.length ∧ ys.length = t.length := by
 intro t
 induction t with
 | nil =>
  intro xs ys r h
  unfold Zd4 at h
  split at h <;> simp_all
 | cons a t ih =>
  intro xs ys r h
  unfold Zd4 at h
  split at h
  ·rename_i e; cases e
  ·rename_i e
   cases e
   split at h
   ·rename_i hr; have := ih hr; simp_all
   ·cases h
  ·rename_i e
   cases e
   obtain ⟨_, h⟩ := Z0 h
   split at h
   ·rename_i hr; have := ih hr; simp_all
   ·cases h
  ·rename_i e
   cases e
   split at h
   ·rename_i hr; have := ih hr; simp_all
   ·cases h
  ·cases h
theorem Zkq : ∀ {t t2 : List Nat} {xs ys : List Value} {r : Bool}, Zd4 (t ++ t2) xs ys = some r → ∃ r1 r2, Zd4 t (xs.take t.length) (ys.take t.length) = some r1 ∧ Zd4 t2 (xs.drop t.length) (ys.drop t.length) = some r2 ∧ r = (r1 && r2) := by
 intro t
 induction t with
 | nil => intro t2 xs ys r h; exact ⟨true, r, by simp [Zd4], by simpa using h, by simp⟩
 | cons a t ih =>
  intro t2 xs ys r h
  rw [List.cons_append] at h
  unfold Zd4 at h
  split at h
  ·rename_i e; cases e
  ·rename_i e
   cases e
   split at h
   ·rename_i hr
    cases h
    obtain ⟨r1, r2, h1, h2, rfl⟩ := ih hr
    exact ⟨_, r2, by simp [Zd4, h1]; rfl, by simpa using h2, by simp [Bool.and_assoc]⟩
   ·cases h
  ·rename_i e
   cases e
   obtain ⟨hk, h⟩ := Z0 h
   split at h
   ·rename_i hr
    cases h
    obtain ⟨r1, r2, h1, h2, rfl⟩ := ih hr
    exact ⟨_, r2, by simp [Zd4, h1, hk]; rfl, by simpa using h2, by simp [Bool.and_assoc]⟩
   ·cases h
  ·rename_i e
   cases e
   split at h
   ·rename_i hr
    cases h
    obtain ⟨r1, r2, h1, h2, rfl⟩ := ih hr
    exact ⟨_, r2, by simp [Zd4, h1]; rfl, by simpa using h2, by simp [Bool.and_assoc]⟩
   ·cases h
  ·cases h
section eq
variable {P : Program}
def ofC (P : Program) (t : Nat) (xs : List Value) (v : Value) : Prop := (Zlg P t = true ∧ v = .agg ⟨xs⟩) ∨ (Zlg P t = false ∧ xs = [v])
theorem Zun {d t : Nat} {l : List Nat} (h : Zal P d t = some l) : ∃ i dsc, P.underlying t = some dsc ∧ P.info? t = some i ∧ (Zlg P t = true → i.size = l.length) ∧ (Zlg P t = false → l.length = 1) := by
 cases d with
 | zero => simp [Zal] at h
 | succ d =>
  unfold Zal at h
  unfold Zlg
  split at h
  ·rename_i i hu hi; split at h <;> cases h; exact ⟨i, _, hu, hi, by simp [hu], fun _ => rfl⟩
  ·rename_i i hu hi; split at h <;> cases h; exact ⟨i, _, hu, hi, by simp [hu], fun _ => rfl⟩
  ·rename_i i hu hi; split at h <;> cases h; exact ⟨i, _, hu, hi, by simp [hu], fun _ => rfl⟩
  ·rename_i fs i hu hi
   split at h
   ·cases h
   ·split at h
    ·split at h
     ·rename_i hs; cases h; exact ⟨i, _, hu, hi, fun _ => hs, by simp [hu]⟩
     ·cases h
    ·cases h
  ·rename_i n e i hu hi
   split at h
   ·split at h
    ·rename_i hs; cases h; exact ⟨i, _, hu, hi, fun _ => by simp [hs.1], by simp [hu]⟩
    ·cases h
   ·cases h
  ·cases h
theorem Zve {t : Nat} {dsc : TypeDesc} (h : P.underlying t = some dsc) (w : World) : (isAgg t).run P w = .ok (Zlg P t) w := by
 unfold Zlg
 cases dsc <;> simp [isAgg, run_underlying h, h]
theorem Zfx {d t off : Nat} {l : List Nat} {XS : List Value} (h : Zal P d t = some l) (hl : off + l.length ≤ XS.length) (w : World) : ∃ v, (part t ⟨XS⟩ off).run P w = .ok v w ∧ ofC P t ((XS.drop off).take l.length) v := by
 obtain ⟨i, dsc, hu, hi, h1, h2⟩ := Zun h
 have ha := Zve hu w
 cases hA : Zlg P t with
 | true =>
  rw [hA] at ha
  refine ⟨.agg ⟨(XS.drop off).take l.length⟩, ?_, .inl ⟨hA, rfl⟩⟩
  have hs : (sizeOf t).run P w = .ok l.length w := by simp [sizeOf, typeInfo, hi, h1 hA]
  simp [part, ha, hs, List.take_drop, List.extract_eq_take_drop]
 | false =>
  rw [hA] at ha
  have h3 := h2 hA
  have hlt : off < XS.length := by omega
  refine ⟨XS[off], ?_, .inr ⟨hA, ?_⟩⟩
  ·simp [part, ha, hlt]
  ·rw [h3, List.drop_eq_getElem_cons hlt]
   rfl
def EqRun (P : Program) (dd d : Nat) : Prop := ∀ (t : Nat) (l : List Nat) (xs ys : List Value) (x y : Value) (r : Bool) (w : World), Zal P d t = some l → ofC P t xs x → ofC P t ys y → Zd4 l xs ys = some r → (Op.equalIn dd t x y).run P w = .ok r w
theorem Zfn {dd d : Nat} (IH : EqRun P dd d) : ∀ (fs : List Field) (off : Nat) (l : List Nat) (XS YS : List Value) (r : Bool) (w : World), Zkw (Zal P d) fs off = some l → Zd4 l (XS.drop off) (YS.drop off) = some r → (Op.eqFields dd ⟨XS⟩ ⟨YS⟩ fs).run P w = .ok r w
 | [], off, l, XS, YS, r, w, hf, h => by
  simp [Zkw] at hf
  subst hf
  unfold Zd4 at h
  split at h
  ·cases h; simp [Op.eqFields]
  all_goals simp_all
 | f :: fs, off, l, XS, YS, r, w, hf, h => by
  simp only [Zkw] at hf
  split at hf
  ·rename_i l1 hl1
   split at hf
   ·rename_i hc
    obtain ⟨hn, ho, hz⟩ := hc
    split at hf
    ·rename_i m hm
     cases hf
     obtain ⟨r1, r2, e1, e2, rfl⟩ := Zkq h
     have hlen := Ztu h
     simp only [List.length_append, List.length_drop] at hlen
     obtain ⟨x, p1, f1⟩ := Zfx (XS := XS) (off := off) hl1 (by omega) w
     obtain ⟨y, p2, f2⟩ := Zfx (XS := YS) (off := off) hl1 (by omega) w
     have hr := IH f.type l1 _ _ x y r1 w hl1 f1 f2 e1
     have ih := Zfn IH fs (off + l1.length) m XS YS r2 w hm (by simpa [List.drop_drop] using e2)
     subst ho
     cases r1 <;> simp [Op.eqFields, hn, p1, p2, hr, ih]
    ·cases hf
   ·cases hf
  ·cases hf
theorem Zhe {dd d e : Nat} (IH : EqRun P dd d) {l : List Nat} (hl : Zal P d e = some l) (hz : 0 < l.length) : ∀ (k i0 : Nat) (XS YS : List Value) (r : Bool) (w : World), Zd4 (List.replicate k l).flatten (XS.drop (i0 * l.length)) (YS.drop (i0 * l.length)) = some r → (Op.eqItems dd e l.length ⟨XS⟩ ⟨YS⟩ ((List.range k).map (· + i0))).run P w = .ok r w
 | 0, i0, XS, YS, r, w, h => by
  simp [Zd4] at h
  unfold Zd4 at h
  split at h
  ·cases h; simp [Op.eqItems]
  all_goals simp_all
 | k + 1, i0, XS, YS, r, w, h => by
  rw [List.replicate_succ, List.flatten_cons] at h
  obtain ⟨r1, r2, e1, e2, rfl⟩ := Zkq h
  have hlen := Ztu h
  simp only [List.length_append, List.length_drop] at hlen
  obtain ⟨x, p1, f1⟩ := Zfx (XS := XS) (off := i0 * l.length) hl (by omega) w
  obtain ⟨y, p2, f2⟩ := Zfx (XS := YS) (off := i0 * l.length) hl (by omega) w
  have hr := IH e l _ _ x y r1 w hl f1 f2 e1
  have ih := Zhe IH hl hz k (i0 + 1) XS YS r2 w (by simpa [List.drop_drop, Nat.add_mul] using e2)
  rw [List.range_succ_eq_map, List.map_cons, List.map_map]
  have e9 : ((fun x => x + i0) ∘ Nat.succ) = (· + (i0 + 1)) := by funext q; simp; omega
  rw [e9]
  cases r1 <;> simp [Op.eqItems, p1, p2, hr, ih]
theorem eq_leaf1 {t : Nat} {x y : Value} {r : Bool} {w : World} (dd : Nat) (hu : P.underlying t = some .bool) (he : Zd4 [1] [x] [y] = some r) : (Op.equalIn (dd + 1) t x y).run P w = .ok r w := by
 cases x <;> cases y <;> simp [Zd4] at he
 subst he
 exact run_equalIn_bool w dd t _ _ hu
theorem eq_leaf2 {t : Nat} {k : IntKind} {x y : Value} {r : Bool} {w : World} (dd : Nat) (hu : P.underlying t = some (.int k)) (he : Zd4 [2] [x] [y] = some r) : (Op.equalIn (dd + 1) t x y).run P w = .ok r w := by
 cases x <;> cases y <;> simp [Zd4] at he
 rename_i k1 a k2 b
 obtain ⟨hk, he⟩ := Z0 he
 cases he
 cases Zau hk
 exact run_equalIn_int w dd t k1 k a b hu
theorem eq_leaf3 {t : Nat} {x y : Value} {r : Bool} {w : World} (dd : Nat) (hu : P.underlying t = some .string) (he : Zd4 [3] [x] [y] = some r) : (Op.equalIn (dd + 1) t x y).run P w = .ok r w := by
 cases x <;> cases y <;> try (simp [Zd4] at he; done)
 rename_i a b
 obtain ⟨⟨a⟩⟩ := a
 obtain ⟨⟨b⟩⟩ := b
 simp [Zd4] at he
 subst he
 rw [run_equalIn_string w dd t _ _ hu, Zia, Zia]
 by_cases e : a = b <;> simp [e]
theorem Zpl : ∀ (d q : Nat), EqRun P (q + d) d
 | 0, q => by intro t l xs ys x y r w h; simp [Zal] at h
 | d + 1, q => by
  intro t l xs ys x y r w h hx hy he
  have h0 := h
  unfold Zal at h
  split at h
  ·rename_i i hu hi
   split at h
   ·cases h
    have hA : Zlg P t = false := by simp [Zlg, hu]
    rcases hx with ⟨hx, _⟩ | ⟨_, rfl⟩
    ·rw [hA] at hx; cases hx
    ·rcases hy with ⟨hy, _⟩ | ⟨_, rfl⟩
     ·rw [hA] at hy; cases hy
     ·rw [show q + (d + 1) = q + d + 1 by omega]
      exact eq_leaf1 (q + d) hu he
   ·cases h
  ·rename_i i hu hi
   split at h
   ·cases h
    have hA : Zlg P t = false := by simp [Zlg, hu]
    rcases hx with ⟨hx, _⟩ | ⟨_, rfl⟩
    ·rw [hA] at hx; cases hx
    ·rcases hy with ⟨hy, _⟩ | ⟨_, rfl⟩
     ·rw [hA] at hy; cases hy
     ·rw [show q + (d + 1) = q + d + 1 by omega]
      exact eq_leaf2 (q + d) hu he
   ·cases h
  ·rename_i i hu hi
   split at h
   ·cases h
    have hA : Zlg P t = false := by simp [Zlg, hu]
    rcases hx with ⟨hx, _⟩ | ⟨_, rfl⟩
    ·rw [hA] at hx; cases hx
    ·rcases hy with ⟨hy, _⟩ | ⟨_, rfl⟩
     ·rw [hA] at hy; cases hy
     ·rw [show q + (d + 1) = q + d + 1 by omega]
      exact eq_leaf3 (q + d) hu he
   ·cases h
  ·rename_i fs i hu hi
   split at h
   ·cases h
   ·rename_i hs
    split at h
    ·rename_i l' hl
     split at h
     ·cases h
      have hA : Zlg P t = true := by simp [Zlg, hu]
      rcases hx with ⟨_, rfl⟩ | ⟨hx, _⟩
      ·rcases hy with ⟨_, rfl⟩ | ⟨hy, _⟩
       ·have hf : P.fieldsOf t = fs := by simp [Program.fieldsOf, hu]
        have := run_equalIn_struct (P := P) w (q + d) t ⟨xs⟩ ⟨ys⟩ (by rw [hf]; exact hu) (by simpa using hs)
        rw [show q + (d + 1) = q + d + 1 by omega, this, hf]
        exact Zfn (Zpl d q) fs.toList 0 l xs ys r w hl (by simpa using he)
       ·rw [hA] at hy; cases hy
      ·rw [hA] at hx; cases hx
     ·cases h
    ·cases h
  ·rename_i n e i hu hi
   split at h
   ·rename_i l' hl
    split at h
    ·rename_i hc
     cases h
     have hA : Zlg P t = true := by simp [Zlg, hu]
     rcases hx with ⟨_, rfl⟩ | ⟨hx, _⟩
     ·rcases hy with ⟨_, rfl⟩ | ⟨hy, _⟩
      ·obtain ⟨ie, hie, hse⟩ := Option.map_eq_some_iff.1 hc.2.1
       have hce : P.cellsOf e = l'.length := by simp [Program.cellsOf, hie, hse]
       have := run_equalIn_array (P := P) w (q + d) ⟨xs⟩ ⟨ys⟩ hu hie
       rw [show q + (d + 1) = q + d + 1 by omega, this, hce]
       have h9 := Zhe (Zpl d q) hl hc.2.2 n 0 xs ys r w (by simpa using he)
       simpa using h9
      ·rw [hA] at hy; cases hy
     ·rw [hA] at hx; cases hx
    ·cases h
   ·cases h
  ·cases h
theorem q_eqA {S : Tab P} {ρ : Z3} {L : Zb} {d : Option Tmp} {ty : TypeId} {pos : String} {af : Array Edge} {g : Option (Nat × Bool)} {t t' : Nat} {l : List Nat} {x y : Operand} {xs ys : List Value} {r : Bool}
  (hx : ev ρ x = some (.agg ⟨xs⟩)) (hy : ev ρ y = some (.agg ⟨ys⟩)) (ht : Yl S.eq t = some l) (he : Zd4 l xs ys = some r) : QOp P ⟨d, .binOp .eql t x y t', ty, pos, af, g⟩ ρ L (.bool r) := by
 have h := List.all_eq_true.1 S.eq_ok _ (Zbp ht)
 simp only [Bool.and_eq_true, decide_eq_true_eq, Bool.not_eq_true'] at h
 refine Zb1 hx hy (fun w => run_eqGuard_agg w .eql t x y ⟨xs⟩ ⟨ys⟩ h.2) (fun w => ?_) rfl
 exact Zpl 8 9992 t l xs ys _ _ r w h.1.1 (.inl ⟨h.1.2, rfl⟩) (.inl ⟨h.1.2, rfl⟩) he
theorem q_neA {S : Tab P} {ρ : Z3} {L : Zb} {d : Option Tmp} {ty : TypeId} {pos : String} {af : Array Edge} {g : Option (Nat × Bool)} {t t' : Nat} {l : List Nat} {x y : Operand} {xs ys : List Value} {r : Bool}
  (hx : ev ρ x = some (.agg ⟨xs⟩)) (hy : ev ρ y = some (.agg ⟨ys⟩)) (ht : Yl S.eq t = some l) (he : Zd4 l xs ys = some r) : QOp P ⟨d, .binOp .neq t x y t', ty, pos, af, g⟩ ρ L (.bool (!r)) := by
 have h := List.all_eq_true.1 S.eq_ok _ (Zbp ht)
 simp only [Bool.and_eq_true, decide_eq_true_eq, Bool.not_eq_true'] at h
 refine Zad hx hy (fun w => run_eqGuard_agg w .neq t x y ⟨xs⟩ ⟨ys⟩ h.2) (fun w => ?_) rfl
 exact Zpl 8 9992 t l xs ys _ _ r w h.1.1 (.inl ⟨h.1.2, rfl⟩) (.inl ⟨h.1.2, rfl⟩) he
end eq
end Go.HL
end

/-! HLMem -/
section
namespace Go.HL
open Go
set_option linter.unusedVariables false
set_option linter.unusedSimpArgs false

def uc (b : UInt8) : List Value := [.int .u8 b.toNat]
theorem Zua (l : List UInt8) : (l.map uc).flatten = l.map fun b => Value.int .u8 b.toNat := by
 induction l with
 | nil => rfl
 | cons b r ih => simp only [List.map_cons, List.flatten_cons, ih]; rfl
theorem Zld (z : Value) (n : Nat) : madeCells #[z] n = ⟨List.replicate n z⟩ := by
 apply Array.ext'
 simp only [madeCells, Array.toList_map, Array.toList_range]
 apply List.ext_getElem?
 intro i
 by_cases h : i < n
 ·simp [h, List.getElem?_replicate, Nat.mod_one]
 ·simp [h, List.getElem?_replicate]
section m
variable {P : Program} (S : Tab P) {n : Nat} {ops : List Oper} {Q : Exit → Z3 → Zb → Prop} {rest : List Oper} {ρ : Z3} {L : Zb} {ty : TypeId} {pos : String} {af : Array Edge}
theorem Zmy {d t E y0 s0 b0 k1 x1 y1 by1 : Nat} {z zv : Value} {x y : Operand} {kl kc : IntKind} {l c : Int} (hx : ev ρ x = some (.int kl l)) (hy : ev ρ y = some (.int kc c)) (ht : Yl S.ty t = some ⟨5, E, y0, s0, b0⟩) (he : Yl S.ty E = some ⟨k1, x1, y1, 1, by1⟩)
  (hz : Yl S.zr E = some z) (hzs : z.cells = #[zv]) (hn : Nat.blt d n = true) (hc : 0 ≤ l ∧ l ≤ c ∧ (by1 : Int) * c ≤ 281474976710656 ∧ c ≤ 9223372036854775807)
  (h : ∀ b, HO P n ops Q rest ((d, sl b 0 l.toNat c.toNat) :: ρ) ([(b, .cells ⟨List.replicate c.toNat zv⟩ E)] :: L)) : HO P n ops Q (⟨some d, .makeSlice t x y, ty, pos, af, none⟩ :: rest) ρ L := by
 refine U4 rfl rfl hn fun ρe he' k w hs => ⟨sl w.heap.size 0 l.toNat c.toNat, w.alloc (.cells ⟨List.replicate c.toNat zv⟩ E), _, ?_, hs.new _, h _⟩
 have hdesc := Yz (S.tyI ht) rfl
 obtain ⟨de, i, hde, hi, -, hisz, hiby⟩ := X5 (S.tyI he)
 simp only at hisz hiby
 have hiz : i.zero = some z := by
  have := S.zeroI hz
  unfold zeroI at this
  simpa [hi] using this
 have hr := run_make (P := P) w t E i z hdesc hi hiz kl kc l c hc.1 hc.2.1 (by rw [hiby]; exact hc.2.2.1) hc.2.2.2
 rw [hisz, hzs, Nat.mul_one, Zld] at hr
 simp [execOp, he' x (by simp [Op.operands]) _ hx, he' y (by simp [Op.operands]) _ hy, hr]
theorem Zpw : ∀ (l : List UInt8) (s : List UInt8), (l.map fun b => ((b.toNat : Nat) : Int)).foldl (fun r (n : Int) => r.push (UInt8.ofNat n.toNat)) (ByteArray.mk ⟨s⟩) = ByteArray.mk ⟨s ++ l⟩
 | [], s => by simp
 | b :: r, s => by
  have e : (ByteArray.mk ⟨s⟩).push (UInt8.ofNat (((b.toNat : Nat) : Int)).toNat) = ByteArray.mk ⟨s ++ [b]⟩ := by
   apply ByteArray.ext
   simp [ByteArray.push]
  rw [List.map_cons, List.foldl_cons, e, Zpw r (s ++ [b])]
  simp
theorem Zjz {d : Option Tmp} {g : Option (Nat × Bool)} {t t2 E y0 s0 b0 x1 y1 s1 by1 : Nat} {ti : TyI} {x : Operand} {a : Option Addr} {cap : Nat} {l : List UInt8} (hx : ev ρ x = some (.slice a l.length cap)) (ht : Yl S.ty t = some ⟨5, E, y0, s0, b0⟩) (he : Yl S.ty E = some ⟨2, x1, y1, s1, by1⟩) (hu : Nat.beq x1 4 = true)
  (ht2 : Yl S.ty t2 = some ti) (h3 : Nat.beq ti.kind 3 = true) (hR : Rd uc 1 L a l) : QOp P ⟨d, .convert t t2 x, ty, pos, af, g⟩ ρ L (bs l) :=
 Y5 fun ρe he' k w hs => by
  have hu' := Nat.eq_of_beq_eq_true hu
  have h1 := Yz (S.tyI ht) rfl
  have h2 := Qz (S.tyI ht2) (Nat.eq_of_beq_eq_true h3)
  have h4 : P.underlying E = some (.int .u8) := by
   have := Zgv (S.tyI he) rfl
   simpa [hu', Qk] using this
  have hcv : (Conv.bytesToString (.slice a l.length cap)).run P w = .ok (bs l) w := by
   rcases hR with rfl | ⟨b, i, c, E', fr, rfl, hb, hg⟩
   ·cases a with
    | none => simp [Conv.bytesToString, Sem.run_pure]; rfl
    | some a =>
     have := run_bytesToString (P := P) w a 0 cap [] (by simp [loadCells, loadCellsFrom])
     exact this
   ·have hg2 : Gets c i ((l.map fun b => ((b.toNat : Nat) : Int)).map (Value.int .u8)) := by
     have := Zgm (enc := uc) (sz := 1) (fun _ => rfl) l i hg
     rw [Zua] at this
     rw [List.map_map]
     exact this
    have hld := Zem (P := P) hs hb hg2
    simp only [List.length_map] at hld
    have := run_bytesToString (P := P) w ⟨b, i, none⟩ l.length cap (l.map fun b => ((b.toNat : Nat) : Int)) (by simpa using hld)
    rw [this]
    have e := Zpw l []
    simp only [List.nil_append] at e
    exact congrArg (fun z => Result.ok (Value.string z) w) e
  simp [execOp, he' x (by simp [Op.operands]) _ hx, convert, run_underlying h1, run_underlying h2, run_underlying h4, hcv]
theorem Zb6 (l : List UInt8) (a b : Nat) : (ByteArray.mk ⟨l⟩).extract a b = ByteArray.mk ⟨(l.take b).drop a⟩ := by
 apply ByteArray.ext
 simp [ByteArray.data_extract, List.extract_eq_take_drop, List.drop_take]
theorem q_strLo {d : Option Tmp} {g : Option (Nat × Bool)} {t : Nat} {ti : TyI} {x y : Operand} {k : IntKind} {lo : Int} {l : List UInt8} (hx : ev ρ x = some (bs l)) (hy : ev ρ y = some (.int k lo)) (ht : Yl S.ty t = some ti) (hk : Nat.beq ti.kind 3 = true) (h : 0 ≤ lo ∧ lo ≤ l.length) :
  QOp P ⟨d, .slice t x (some y) none none, ty, pos, af, g⟩ ρ L (bs (l.drop lo.toNat)) :=
 Y5 fun ρe he k' w hs => by
  have h1 := Qz (S.tyI ht) (Nat.eq_of_beq_eq_true hk)
  have e : (ByteArray.mk ⟨l⟩).extract lo.toNat l.length = ByteArray.mk ⟨l.drop lo.toNat⟩ := by rw [Zb6, List.take_length]
  simp [execOp, he x (by simp [Op.operands]) _ hx, he y (by simp [Op.operands]) _ hy, run_sliceAt_string _ _ _ _ _ _ h1, Instr.slice, run_underlying h1, Instr.sliceBounds, run_sliceBound, Zbu, h.1, h.2, e]
theorem q_strHi {d : Option Tmp} {g : Option (Nat × Bool)} {t : Nat} {ti : TyI} {x y : Operand} {k : IntKind} {hi : Int} {l : List UInt8} (hx : ev ρ x = some (bs l)) (hy : ev ρ y = some (.int k hi)) (ht : Yl S.ty t = some ti) (hk : Nat.beq ti.kind 3 = true) (h : 0 ≤ hi ∧ hi ≤ l.length) :
  QOp P ⟨d, .slice t x none (some y) none, ty, pos, af, g⟩ ρ L (bs (l.take hi.toNat)) :=
 Y5 fun ρe he k' w hs => by
  have h1 := Qz (S.tyI ht) (Nat.eq_of_beq_eq_true hk)
  have e : (ByteArray.mk ⟨l⟩).extract 0 hi.toNat = ByteArray.mk ⟨l.take hi.toNat⟩ := by rw [Zb6, List.drop_zero]
  simp [execOp, he x (by simp [Op.operands]) _ hx, he y (by simp [Op.operands]) _ hy, run_sliceAt_string _ _ _ _ _ _ h1, Instr.slice, run_underlying h1, Instr.sliceBounds, run_sliceBound, Zbu, h.1, h.2, e]
theorem q_strLH {d : Option Tmp} {g : Option (Nat × Bool)} {t : Nat} {ti : TyI} {x y z : Operand} {k k2 : IntKind} {lo hi : Int} {l : List UInt8} (hx : ev ρ x = some (bs l)) (hy : ev ρ y = some (.int k lo)) (hz : ev ρ z = some (.int k2 hi)) (ht : Yl S.ty t = some ti) (hk : Nat.beq ti.kind 3 = true) (h : 0 ≤ lo ∧ lo ≤ hi ∧ hi ≤ l.length) :
  QOp P ⟨d, .slice t x (some y) (some z) none, ty, pos, af, g⟩ ρ L (bs ((l.take hi.toNat).drop lo.toNat)) :=
 Y5 fun ρe he k' w hs => by
  have h1 := Qz (S.tyI ht) (Nat.eq_of_beq_eq_true hk)
  have e := Zb6 l lo.toNat hi.toNat
  have h0 : 0 ≤ hi := by omega
  have eh : (hi.toNat : Int) = hi := Int.toNat_of_nonneg h0
  simp [execOp, he x (by simp [Op.operands]) _ hx, he y (by simp [Op.operands]) _ hy, he z (by simp [Op.operands]) _ hz, run_sliceAt_string _ _ _ _ _ _ h1, Instr.slice, run_underlying h1, Instr.sliceBounds, run_sliceBound, Zbu, h.1, h.2.1, h.2.2, h0, eh, e]

/-! struct literals -/
def Xy : Value → List Value
 | .agg ⟨vs⟩ => vs
 | v => [v]
theorem Zlu (v : Value) : v.cells = ⟨Xy v⟩ := by cases v <;> rfl
def Zpg : List Value → Nat → List Value → List Value
 | cells, _, [] => cells
 | cells, off, v :: r => Zpg (cells.set off v) (off + 1) r
def Zmq (fs : List (Nat × Nat × Nat)) : List Value → List (Nat × Value) → Option (List Value)
 | cells, [] => some cells
 | cells, (i, v) :: r => (fs[i]?).bind fun q => bif Nat.beq (Xy v).length q.2.1 && Nat.ble (q.1 + (Xy v).length) cells.length then Zmq fs (Zpg cells q.1 (Xy v)) r else none
def nfL {α : Type} : List Value → (List Value → Option α) → Option α
 | [], k => k []
 | x :: r, k => nfL r fun r' => k (x :: r')
theorem Zgn {α : Type} : ∀ (l : List Value) (k : List Value → Option α), nfL l k = k l
 | [], k => rfl
 | x :: r, k => Zgn r _
def Vr (ρ : Z3) : List (Nat × Operand) → Option (List (Nat × Value))
 | [] => some []
 | (i, x) :: r => match ev ρ x, Vr ρ r with
  | some v, some vs => some ((i, v) :: vs)
  | _, _ => none
theorem Zra : ∀ (vs : List Value) (cells : List Value) (off j : Nat), (vs.zipIdx j).foldl (fun (cs : Array Value) (p : Value × Nat) => cs.setIfInBounds (off + p.2) p.1) ⟨cells⟩ = ⟨Zpg cells (off + j) vs⟩
 | [], cells, off, j => rfl
 | v :: r, cells, off, j => by
  simp only [List.zipIdx_cons, List.foldl_cons, Zpg]
  rw [show (Array.mk cells).setIfInBounds (off + j) v = ⟨cells.set (off + j) v⟩ by simp, Zra r _ off (j + 1)]
  rfl
theorem Zak {ρ : Z3} {ρe : Operand → Value} : ∀ {l : List (Nat × Operand)} {vs : List (Nat × Value)}, (∀ p ∈ l, ∀ u, ev ρ p.2 = some u → ρe p.2 = u) → Vr ρ l = some vs → (l.map fun p => (p.1, ρe p.2)) = vs
 | [], vs, _, h => by simp [Vr] at h; subst h; rfl
 | (i, x) :: r, vs, he, h => by
  simp only [Vr] at h
  cases hx : ev ρ x with
  | none => simp [hx] at h
  | some v =>
   cases hr : Vr ρ r with
   | none => simp [hx, hr] at h
   | some us =>
    simp [hx, hr] at h
    subst h
    rw [List.map_cons, Zak (fun p hp => he p (by simp [hp])) hr, he (i, x) (by simp) v hx]
theorem Ztn {fs : List (Nat × Nat × Nat)} {place : Nat → Option (Nat × Nat)} (hp : ∀ i, place i = (fs[i]?).map fun q => (q.1, q.2.1)) : ∀ (l : List (Nat × Value)) (cells out : List Value), Zmq fs cells l = some out → Instr.fill place ⟨cells⟩ l = some ⟨out⟩
 | [], cells, out, h => by simp [Zmq] at h; subst h; rfl
 | (i, v) :: r, cells, out, h => by
  simp only [Zmq] at h
  obtain ⟨q, hq, h1⟩ := bind_some h
  obtain ⟨hc, h2⟩ := Z0 h1
  simp only [Bool.and_eq_true] at hc
  have e1 := Nat.eq_of_beq_eq_true hc.1
  have e2 := Nat.le_of_ble_eq_true hc.2
  have ih := Ztn hp r _ out h2
  have e3 := Zra (Xy v) cells q.1 0
  simp only [Nat.add_zero] at e3
  unfold Instr.fill
  rw [hp i, hq]
  simp only [Option.map_some, Zlu]
  have hcond : (decide ((Array.mk (Xy v)).size ≠ q.2.1) || decide (q.1 + (Array.mk (Xy v)).size > (Array.mk cells).size)) = false := by simp; omega
  rw [hcond]
  simp only [Bool.false_eq_true, if_false]
  have e4 : (Array.zipIdx ⟨Xy v⟩ 0 : Array (Value × Nat)) = ⟨(Xy v).zipIdx 0⟩ := by simp
  rw [e4]
  simp only [List.foldl_toArray]
  rw [e3]
  exact ih
theorem Zec {α β : Type} {f : α → Sem β} {w : World} : ∀ (l : List α) (r : List β), (∀ (i : Nat) (x : α), l[i]? = some x → ∃ y, r[i]? = some y ∧ (f x).run P w = .ok y w) → l.length = r.length → (l.mapM f).run P w = .ok r w
 | [], r, _, hl => by
  have : r = [] := by cases r with | nil => rfl | cons _ _ => simp at hl
  subst this
  simp [Sem.run_pure]
 | x :: l, r, h, hl => by
  cases r with
  | nil => simp at hl
  | cons y r =>
   obtain ⟨y', hy, hf⟩ := h 0 x rfl
   simp at hy
   subst hy
   have ih := Zec l r (fun i z hz => h (i + 1) z hz) (by simpa using hl)
   simp [List.mapM_cons, Sem.run_bind, hf, ih, Result.andThen, Sem.run_pure]
theorem Zu1 {t : Nat} {fs : List (Nat × Nat × Nat)} (h : stI P t = some fs) : ∃ fields, P.underlying t = some (.struct fields) ∧ ∀ w, (fields.mapM fun f => do pure (f.offset, ← sizeOf f.type) : Sem (Array (Nat × Nat))).run P w = .ok (fs.map fun q => (q.1, q.2.1)).toArray w := by
 unfold stI at h
 split at h
 ·rename_i fields hu
  refine ⟨fields, hu, fun w => ?_⟩
  rw [Array.mapM_eq_mapM_toList]
  have hl : ∀ (l : List Field) (fs : List (Nat × Nat × Nat)), (l.mapM fun f => (P.info? f.type).map fun i => (f.offset, i.size, f.type)) = some fs → l.length = fs.length ∧ ∀ (i : Nat) (x : Field), l[i]? = some x → ∃ y, fs[i]? = some y ∧ ∃ j, P.info? x.type = some j ∧ y = (x.offset, j.size, x.type) := by
   intro l
   induction l with
   | nil => intro fs h; simp at h; subst h; simp
   | cons f l ih =>
    intro fs h
    simp only [List.mapM_cons, bind, Option.bind_eq_some_iff, pure] at h
    obtain ⟨y, hy, r, hr, e⟩ := h
    cases e
    obtain ⟨h1, h2⟩ := ih r hr
    refine ⟨by simp [h1], fun i x hx => ?_⟩
    cases i with
    | zero =>
     simp at hx
     subst hx
     simp only [Option.map_eq_some_iff] at hy
     obtain ⟨j, hj, e⟩ := hy
     exact ⟨y, rfl, j, hj, e.symm⟩
    | succ i => exact h2 i x hx
  obtain ⟨h1, h2⟩ := hl _ _ h
  have hr := Zec (P := P) (w := w) (f := fun f : Field => (do pure (f.offset, ← sizeOf f.type) : Sem (Nat × Nat))) fields.toList (fs.map fun q => (q.1, q.2.1)) (fun i x hx => by
   obtain ⟨y, hy, j, hj, e⟩ := h2 i x hx
   refine ⟨(y.1, y.2.1), by simp [hy], ?_⟩
   subst e
   simp [sizeOf, typeInfo, hj]) (by simpa using h1)
  simp only [map_eq_pure_bind, Sem.run_bind, hr, Result.andThen, Sem.run_pure]
 ·cases h
theorem q_build {d : Option Tmp} {g : Option (Nat × Bool)} {t : Nat} {parts : Array (Nat × Operand)} {zs out : List Value} {vals : List (Nat × Value)} {fs : List (Nat × Nat × Nat)} (hz : Yl S.zr t = some (.agg ⟨zs⟩)) (hs : Yl S.st t = some fs) (hp : Vr ρ parts.toList = some vals)
  (hf : ((Zmq fs zs vals).bind fun l => nfL l some) = some out) : QOp P ⟨d, .build t parts, ty, pos, af, g⟩ ρ L (.agg ⟨out⟩) :=
 Y5 fun ρe he k w hsat => by
  obtain ⟨l, hl, h1⟩ := bind_some hf
  rw [Zgn] at h1
  cases h1
  obtain ⟨fields, hu, hm⟩ := Zu1 (S.stI hs)
  have hzero := Q6 (S.zeroI hz) w
  have hm2 := hm w
  have e1 : (parts.map fun p => (p.1, ρe p.2)).toList = vals := by
   rw [Array.toList_map]
   exact Zak (fun p hp' u hu => he p.2 (by simp [Op.operands]; exact ⟨p.1, by simpa using hp'⟩) u hu) hp
  have hfill := Ztn (place := fun i => ((fs.map fun q => (q.1, q.2.1)).toArray)[i]?) (fun i => by simp) vals zs out hl
  show (Instr.build t (parts.map fun p => (p.1, ρe p.2)) >>= fun v => pure (Next.value v) : Sem Next).run P w = _
  simp only [Sem.run_bind, Instr.build, hzero, Result.andThen, run_underlying hu, hm2, e1, Value.cells, hfill]
  rfl
end m
end Go.HL
end
