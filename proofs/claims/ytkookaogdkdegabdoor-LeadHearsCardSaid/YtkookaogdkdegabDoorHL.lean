/- The heap logic: a program logic over the model's walk, with a list of known blocks in the place of the world. No program in sight. Conditions: none. -/
import Derived.WalkKit
import Derived.WalkSpells
import Derived.WalkLawsBesides
import Derived.Deep.Quiet
import Derived.KernelRfl
namespace Go.HL
open Go
set_option linter.unusedVariables false
set_option linter.unusedSimpArgs false

abbrev Env := List (Nat × Value)
abbrev Blk := Nat × Obj
abbrev Heap := List (List Blk)
abbrev Ctx := Os × Array (Nat × ByteArray) × (Nat → Question → Nat)

def lk : Env → Nat → Option Value
  | [], _ => none
  | (t, v) :: r, x => bif Nat.beq t x then some v else lk r x

def ev (ρ : Env) : Operand → Option Value
  | .tmp t => lk ρ t
  | .const v => some v
  | .global g => some (.pointer (some ⟨g, 0, none⟩))
  | .func f => some (.func (.func f) #[] #[])

def evs (ρ : Env) : List Operand → Option (List Value)
  | [] => some []
  | x :: r => match ev ρ x, evs ρ r with
    | some v, some vs => some (v :: vs)
    | _, _ => none

structure Sat (k : Ctx) (w : World) (L : Heap) : Prop where
  os : w.os = k.1
  out : w.output = k.2.1
  tape : w.tape = k.2.2
  has : ∀ p ∈ L.flatten, w.heap[p.1]? = some p.2
  nodup : (L.flatten.map (·.1)).Nodup

structure Agr (n : Nat) (a : Act) (ρ : Env) : Prop where
  size : a.tmps.size = n
  defers : a.defers = []
  get : ∀ t v, lk ρ t = some v → a.tmps[t]? = some v

def post (k : Ctx) (n : Nat) (Q : Exit → Env → Heap → Prop) : Exit → Act → World → Prop :=
  fun e a w => ∃ ρ L, Agr n a ρ ∧ Sat k w L ∧ Q e ρ L

def HW (P : Program) (n : Nat) (c : Code) (Q : Exit → Env → Heap → Prop) (ρ : Env) (L : Heap) : Prop :=
  ∀ k w a, Sat k w L → Agr n a ρ → c.wp P (post k n Q) a w

def HO (P : Program) (n : Nat) (ops : List Oper) (Q : Exit → Env → Heap → Prop) (l : List Oper) (ρ : Env) (L : Heap) : Prop :=
  ∀ k w a, Sat k w L → Agr n a ρ → wpList P ops.toArray (post k n Q) l a w

def Enters (P : Program) (f : Nat) : Prop := ∀ args w, (callFunc f args).run P w = .ok (.enter f args) w

def HC (P : Program) (f : Nat) (args : List Value) (L : Heap) (Q : Value → Heap → Prop) : Prop :=
  Enters P f ∧ ∀ k w, Sat k w L → Calls P f ⟨args⟩ w fun e w' => ∃ v L', e = .returned v ∧ Sat k w' L' ∧ Q v L'

theorem HC.mono {P : Program} {f : Nat} {args : List Value} {L : Heap} {Q Q' : Value → Heap → Prop} (h : HC P f args L Q) (hq : ∀ v L', Q v L' → Q' v L') : HC P f args L Q' :=
  ⟨h.1, fun k w hs => (h.2 k w hs).mono fun e w' ⟨v, L', he, hs', hq'⟩ => ⟨v, L', he, hs', hq v L' hq'⟩⟩

/-! ### the environment -/
theorem lk_cons_eq (t : Nat) (v : Value) (ρ : Env) : lk ((t, v) :: ρ) t = some v := by simp [lk]
theorem lk_cons_ne {t x : Nat} (v : Value) (ρ : Env) (h : t ≠ x) : lk ((t, v) :: ρ) x = lk ρ x := by
  simp only [lk]
  have : Nat.beq t x = false := by
    cases hb : Nat.beq t x with
    | false => rfl
    | true => exact absurd (Nat.eq_of_beq_eq_true hb) h
  rw [this]; rfl

theorem Agr.put {n : Nat} {a : Act} {ρ : Env} (h : Agr n a ρ) {d : Nat} (hd : d < n) (v : Value) : Agr n (a.put (some d) v) ((d, v) :: ρ) := by
  refine ⟨by simp [Act.put, h.size], h.defers, fun t x hx => ?_⟩
  by_cases e : d = t
  · subst e
    rw [lk_cons_eq] at hx
    cases hx
    simp [Act.put, Array.getElem?_setIfInBounds, h.size, hd]
  · rw [lk_cons_ne _ _ e] at hx
    simp [Act.put, Array.getElem?_setIfInBounds, e, h.get t x hx]

theorem Agr.none {n : Nat} {a : Act} {ρ : Env} (h : Agr n a ρ) (v : Value) : Agr n (a.put none v) ρ := h

theorem Agr.ev {n : Nat} {a : Act} {ρ : Env} (h : Agr n a ρ) {x : Operand} {v : Value} (hv : ev ρ x = some v) : a.eval x = v := by
  cases x with
  | tmp t => simp [Act.eval, h.get t v hv]
  | const c => simpa [HL.ev, Act.eval] using hv
  | global g => simpa [HL.ev, Act.eval] using hv
  | func f => simpa [HL.ev, Act.eval] using hv

/-- every entry of the first is found in the second -/
def Sub : Env → Env → Prop
  | [], _ => True
  | (t, v) :: r, ρ => lk ρ t = some v ∧ Sub r ρ

theorem Agr.sub {n : Nat} {a : Act} {ρ : Env} (h : Agr n a ρ) : ∀ {ρ' : Env}, Sub ρ' ρ → Agr n a ρ'
  | [], _ => ⟨h.size, h.defers, fun t v hv => by simp [lk] at hv⟩
  | (t, v) :: r, hs => by
    have ih := Agr.sub h hs.2
    refine ⟨h.size, h.defers, fun x u hx => ?_⟩
    by_cases e : t = x
    · subst e
      rw [lk_cons_eq] at hx
      cases hx
      exact h.get _ _ hs.1
    · rw [lk_cons_ne _ _ e] at hx
      exact ih.get x u hx

/-! ### control -/
section control
variable {P : Program} {n : Nat} {Q : Exit → Env → Heap → Prop} {ρ : Env} {L : Heap}

def seqQ (P : Program) (n : Nat) (y : Code) (Q : Exit → Env → Heap → Prop) : Exit → Env → Heap → Prop
  | .normal, ρ, L => HW P n y Q ρ L
  | e, ρ, L => Q e ρ L
def blkQ (id : Nat) (Q : Exit → Env → Heap → Prop) : Exit → Env → Heap → Prop
  | .exit i, ρ, L => if i = id then Q .normal ρ L else Q (.exit i) ρ L
  | e, ρ, L => Q e ρ L

theorem HW.mono {c : Code} {Q' : Exit → Env → Heap → Prop} (h : HW P n c Q ρ L) (hq : ∀ e ρ L, Q e ρ L → Q' e ρ L) : HW P n c Q' ρ L :=
  fun k w a hs ha => wp_mono (h k w a hs ha) fun e a' w' ⟨ρ', L', h1, h2, h3⟩ => ⟨ρ', L', h1, h2, hq _ _ _ h3⟩

theorem hw_seq {x y : Code} (h : HW P n x (seqQ P n y Q) ρ L) : HW P n (.seq x y) Q ρ L := by
  intro k w a hs ha
  refine wp_seq (wp_mono (h k w a hs ha) fun e a' w' ⟨ρ', L', h1, h2, h3⟩ => ?_)
  cases e with
  | normal => exact h3 k w' a' h2 h1
  | exit id => exact ⟨ρ', L', h1, h2, h3⟩
  | goto l => exact ⟨ρ', L', h1, h2, h3⟩
  | ret => exact ⟨ρ', L', h1, h2, h3⟩
  | panic c => exact ⟨ρ', L', h1, h2, h3⟩
  | outgrown => exact ⟨ρ', L', h1, h2, h3⟩
theorem hw_block {id : Nat} {c : Code} (h : HW P n c (blkQ id Q) ρ L) : HW P n (.block id c) Q ρ L := by
  intro k w a hs ha
  refine wp_block (wp_mono (h k w a hs ha) fun e a' w' ⟨ρ', L', h1, h2, h3⟩ => ?_)
  cases e with
  | exit i =>
    simp only [blkQ] at h3
    simp only [Exit.inBlock]
    split
    · rename_i hi; rw [if_pos hi] at h3; exact ⟨ρ', L', h1, h2, h3⟩
    · rename_i hi; rw [if_neg hi] at h3; exact ⟨ρ', L', h1, h2, h3⟩
  | normal => exact ⟨ρ', L', h1, h2, h3⟩
  | goto l => exact ⟨ρ', L', h1, h2, h3⟩
  | ret => exact ⟨ρ', L', h1, h2, h3⟩
  | panic c => exact ⟨ρ', L', h1, h2, h3⟩
  | outgrown => exact ⟨ρ', L', h1, h2, h3⟩
theorem hw_skip (h : Q .normal ρ L) : HW P n .skip Q ρ L := fun k w a hs ha => wp_skip ⟨ρ, L, ha, hs, h⟩
theorem hw_label {l : Nat} (h : Q .normal ρ L) : HW P n (.label l) Q ρ L := fun k w a hs ha => wp_label ⟨ρ, L, ha, hs, h⟩
theorem hw_exit {id : Nat} (h : Q (.exit id) ρ L) : HW P n (.exit id) Q ρ L := fun k w a hs ha => wp_exit ⟨ρ, L, ha, hs, h⟩
theorem hw_ret (h : Q .ret ρ L) : HW P n .ret Q ρ L := fun k w a hs ha => wp_ret ⟨ρ, L, ha, hs, h⟩
theorem hw_true {c : Operand} {x y : Code} {b : Bool} (hc : ev ρ c = some (.bool b)) (hb : b = true) (h : HW P n x Q ρ L) : HW P n (.cond c x y) Q ρ L :=
  fun k w a hs ha => wp_cond_true (ha.ev (hb ▸ hc)) (h k w a hs ha)
theorem hw_false {c : Operand} {x y : Code} {b : Bool} (hc : ev ρ c = some (.bool b)) (hb : b = false) (h : HW P n y Q ρ L) : HW P n (.cond c x y) Q ρ L :=
  fun k w a hs ha => wp_cond_false (ha.ev (hb ▸ hc)) (h k w a hs ha)
theorem hw_cond {c : Operand} {x y : Code} {p : Prop} [Decidable p] (hc : ev ρ c = some (.bool (decide p))) (ht : p → HW P n x Q ρ L) (hf : ¬ p → HW P n y Q ρ L) : HW P n (.cond c x y) Q ρ L := by
  intro k w a hs ha
  refine wp_cond_split (ha.ev hc) (fun h => ?_) (fun h => ?_)
  · exact ht (of_decide_eq_true h) k w a hs ha
  · exact hf (of_decide_eq_false h) k w a hs ha
theorem hw_bool {c : Operand} {x y : Code} {b : Bool} (hc : ev ρ c = some (.bool b)) (ht : b = true → HW P n x Q ρ L) (hf : b = false → HW P n y Q ρ L) : HW P n (.cond c x y) Q ρ L := by
  intro k w a hs ha
  exact wp_cond_split (ha.ev hc) (fun h => ht h k w a hs ha) (fun h => hf h k w a hs ha)
theorem hw_region {id : Nat} {l : List Oper} (h : HO P n l Q l ρ L) : HW P n (.region id l.toArray false) Q ρ L :=
  fun k w a hs ha => wp_region_lit (h k w a hs ha)

theorem seqQ_normal {y : Code} (h : HW P n y Q ρ L) : seqQ P n y Q .normal ρ L := h
theorem seqQ_ret {y : Code} (h : Q .ret ρ L) : seqQ P n y Q .ret ρ L := h
theorem seqQ_exit {y : Code} {i : Nat} (h : Q (.exit i) ρ L) : seqQ P n y Q (.exit i) ρ L := h
theorem blkQ_normal {id : Nat} (h : Q .normal ρ L) : blkQ id Q .normal ρ L := h
theorem blkQ_ret {id : Nat} (h : Q .ret ρ L) : blkQ id Q .ret ρ L := h
theorem blkQ_here {id : Nat} (h : Q .normal ρ L) : blkQ id Q (.exit id) ρ L := by simpa [blkQ] using h
theorem blkQ_exit {id i : Nat} (hn : Nat.beq i id = false) (h : Q (.exit i) ρ L) : blkQ id Q (.exit i) ρ L := by
  have : i ≠ id := fun e => by subst e; simp at hn
  simpa [blkQ, this] using h

/-- forget -/
theorem hw_sub {c : Code} {ρ' : Env} (h : HW P n c Q ρ' L) (hs : Sub ρ' ρ) : HW P n c Q ρ L := fun k w a hs' ha => h k w a hs' (ha.sub hs)

theorem sublist_flatten : ∀ {l₁ l₂ : Heap}, List.Sublist l₁ l₂ → List.Sublist l₁.flatten l₂.flatten
  | _, _, .slnil => List.Sublist.refl _
  | _, _, .cons a h => by
    simp only [List.flatten_cons]
    exact (sublist_flatten h).trans (List.sublist_append_right _ _)
  | _, _, .cons_cons a h => by
    simp only [List.flatten_cons]
    exact (List.append_sublist_append_left a).2 (sublist_flatten h)
theorem Sat.sub {k : Ctx} {w : World} {L' : Heap} (h : Sat k w L) (hs : List.Sublist L' L) : Sat k w L' :=
  ⟨h.os, h.out, h.tape, fun p hp => h.has p ((sublist_flatten hs).subset hp), h.nodup.sublist ((sublist_flatten hs).map _)⟩
theorem Sat.perm {k : Ctx} {w : World} {L' : Heap} (h : Sat k w L) (hs : List.Perm L L') : Sat k w L' :=
  ⟨h.os, h.out, h.tape, fun p hp => h.has p (hs.flatten.mem_iff.2 hp), (hs.flatten.map _).nodup_iff.1 h.nodup⟩
theorem hw_drop {c : Code} {L' : Heap} (h : HW P n c Q ρ L') (hs : List.Sublist L' L) : HW P n c Q ρ L := fun k w a hs' ha => h k w a (hs'.sub hs) ha
theorem hw_perm {c : Code} {L' : Heap} (h : HW P n c Q ρ L') (hs : List.Perm L L') : HW P n c Q ρ L := fun k w a hs' ha => h k w a (hs'.perm hs) ha

/-! ### other cuts of the same blocks -/
/-- some of these blocks, in any order -/
def LS (a b : List Blk) : Prop := ∃ l, List.Perm l a ∧ List.Sublist l b
theorem LS.refl (a : List Blk) : LS a a := ⟨a, .refl _, .refl _⟩
theorem LS.of_eq {a b : List Blk} (h : a = b) : LS a b := h ▸ LS.refl a
theorem LS.of_perm {a b : List Blk} (h : List.Perm a b) : LS a b := ⟨b, h.symm, .refl _⟩
theorem LS.of_sub {a b : List Blk} (h : List.Sublist a b) : LS a b := ⟨a, .refl _, h⟩
theorem LS.skip {a b : List Blk} (x : Blk) (h : LS a b) : LS a (x :: b) := let ⟨l, h1, h2⟩ := h; ⟨l, h1, .cons _ h2⟩
theorem LS.both {a b : List Blk} (x : Blk) (h : LS a b) : LS (x :: a) (x :: b) := let ⟨l, h1, h2⟩ := h; ⟨x :: l, h1.cons x, h2.cons_cons x⟩
theorem LS.skips {a b : List Blk} (c : List Blk) (h : LS a b) : LS a (c ++ b) := let ⟨l, h1, h2⟩ := h; ⟨l, h1, h2.trans (List.sublist_append_right _ _)⟩
theorem LS.boths {a b : List Blk} (c : List Blk) (h : LS a b) : LS (c ++ a) (c ++ b) := let ⟨l, h1, h2⟩ := h; ⟨c ++ l, h1.append_left c, (List.append_sublist_append_left c).2 h2⟩
theorem LS.c {a x : List Blk} {L : Heap} (h : LS a L.flatten) : LS a (x :: L).flatten := by rw [List.flatten_cons]; exact h.skips x
theorem LS.k {x : List Blk} {A L : Heap} (h : LS A.flatten L.flatten) : LS (x :: A).flatten (x :: L).flatten := by rw [List.flatten_cons, List.flatten_cons]; exact h.boths x
theorem LS.trans {a b c : List Blk} (h : LS a b) (h' : LS b c) : LS a c := by
  obtain ⟨l, h1, h2⟩ := h
  obtain ⟨m, h3, h4⟩ := h'
  obtain ⟨l', h5, h6⟩ := List.exists_perm_sublist h2 h3.symm
  exact ⟨l', h5.trans h1, h6.trans h4⟩
theorem Sat.sp {k : Ctx} {w : World} {L L' : Heap} (h : Sat k w L) (hf : LS L'.flatten L.flatten) : Sat k w L' := by
  obtain ⟨l, hp, hs⟩ := hf
  refine ⟨h.os, h.out, h.tape, fun p hp' => h.has p (hs.subset (hp.mem_iff.2 hp')), ?_⟩
  exact (hp.map _).nodup_iff.1 (h.nodup.sublist (hs.map _))
/-- a loop whose state is a value of a type: its slots, its heap, what holds, a measure -/
def loopQ {σ : Type} (env : σ → Env) (heap : σ → Heap) (inv : σ → Prop) (μ : σ → Nat) (m : Nat) (Q : Exit → Env → Heap → Prop) : Exit → Env → Heap → Prop
  | .normal, ρ, L => ∃ s', Sub (env s') ρ ∧ LS (heap s').flatten L.flatten ∧ inv s' ∧ μ s' < m
  | e, ρ, L => Q e ρ L
theorem hw_loop {σ : Type} {c : Code} (env : σ → Env) (heap : σ → Heap) (inv : σ → Prop) (μ : σ → Nat) (s : σ)
    (hρ : Sub (env s) ρ) (hL : List.Sublist (heap s) L) (hi : inv s)
    (round : ∀ s, inv s → HW P n c (loopQ env heap inv μ (μ s) Q) (env s) (heap s)) : HW P n (.loop c) Q ρ L := by
  intro k w a hs ha b kk cs
  have key : ∀ m s, μ s = m → inv s → ∀ a w, Sat k w (heap s) → Agr n a (env s) →
      ∃ e a' w', post k n Q e a' w' ∧ Arrives P (lone (b.at a (.code c :: .inLoop c :: kk)) cs w) b kk cs e a' w' := by
    intro m
    induction m using Nat.strongRecOn with
    | _ m ih =>
      intro s hm hi a w hs ha
      obtain ⟨e, a₁, w₁, ⟨ρ₁, L₁, ha₁, hs₁, hq⟩, harr⟩ := round s hi k w a hs ha b (.inLoop c :: kk) cs
      cases e with
      | normal =>
        obtain ⟨s', hsub, hL', hi', hlt⟩ := hq
        obtain ⟨e₂, a₂, w₂, hq₂, harr₂⟩ := ih (μ s') (hm ▸ hlt) s' rfl hi' a₁ w₁ (hs₁.sp hL') (ha₁.sub hsub)
        exact ⟨e₂, a₂, w₂, hq₂, .of_steps (Steps.trans harr (.one step_inLoop)) harr₂⟩
      | exit id => exact ⟨_, a₁, w₁, ⟨ρ₁, L₁, ha₁, hs₁, hq⟩, .pass (x := .inLoop c) rfl (fun _ _ => .inl (by simp)) harr⟩
      | goto l => exact ⟨_, a₁, w₁, ⟨ρ₁, L₁, ha₁, hs₁, hq⟩, .pass (x := .inLoop c) rfl (fun _ _ => .inl (by simp)) harr⟩
      | ret => exact ⟨_, a₁, w₁, ⟨ρ₁, L₁, ha₁, hs₁, hq⟩, .pass (x := .inLoop c) rfl (fun _ _ => .inl (by simp)) harr⟩
      | panic ch => exact ⟨_, a₁, w₁, ⟨ρ₁, L₁, ha₁, hs₁, hq⟩, .pass (x := .inLoop c) rfl (fun _ _ => .inl (by simp)) harr⟩
      | outgrown => exact ⟨_, a₁, w₁, ⟨ρ₁, L₁, ha₁, hs₁, hq⟩, .pass (x := .inLoop c) rfl (fun _ _ => .inl (by simp)) harr⟩
  obtain ⟨e, a', w', hq, harr⟩ := key _ s rfl hi a w (hs.sub hL) (ha.sub hρ)
  exact ⟨e, a', w', hq, .of_steps (.one step_loop) harr⟩
theorem loopQ_ret {σ : Type} {env : σ → Env} {heap : σ → Heap} {inv : σ → Prop} {μ : σ → Nat} {m : Nat} (h : Q .ret ρ L) : loopQ env heap inv μ m Q .ret ρ L := h
theorem loopQ_exit {σ : Type} {env : σ → Env} {heap : σ → Heap} {inv : σ → Prop} {μ : σ → Nat} {m i : Nat} (h : Q (.exit i) ρ L) : loopQ env heap inv μ m Q (.exit i) ρ L := h
theorem loopQ_normal {σ : Type} {env : σ → Env} {heap : σ → Heap} {inv : σ → Prop} {μ : σ → Nat} {m : Nat} (s' : σ) (h : Sub (env s') ρ) (hL : List.Sublist (heap s') L) (hi : inv s') (hm : μ s' < m) : loopQ env heap inv μ m Q .normal ρ L := ⟨s', h, LS.of_sub (sublist_flatten hL), hi, hm⟩
theorem loopQ_sp {σ : Type} {env : σ → Env} {heap : σ → Heap} {inv : σ → Prop} {μ : σ → Nat} {m : Nat} (s' : σ) (h : Sub (env s') ρ) (hL : LS (heap s').flatten L.flatten) (hi : inv s') (hm : μ s' < m) : loopQ env heap inv μ m Q .normal ρ L := ⟨s', h, hL, hi, hm⟩
end control

/-! ### a function -/
def fnQ (P : Program) (fn : Func) (Q : Value → Heap → Prop) : Exit → Env → Heap → Prop
  | .normal, ρ, L | .ret, ρ, L => ∀ (k : Ctx) (w : World) (a : Act), Sat k w L → Agr fn.ntmps a ρ → ∃ v L', (results fn a.tmps).run P w = .ok v w ∧ Sat k w L' ∧ Q v L'
  | _, _, _ => False

def args0 : Nat → List Value → Env
  | _, [] => []
  | i, v :: r => (i, v) :: args0 (i + 1) r

theorem lk_args0 (vs : List Value) : ∀ (i t : Nat) (v : Value), lk (args0 i vs) t = some v → i ≤ t ∧ vs[t - i]? = some v := by
  induction vs with
  | nil => intro i t v h; simp [args0, lk] at h
  | cons x r ih =>
    intro i t v h
    simp only [args0] at h
    by_cases e : i = t
    · subst e
      rw [lk_cons_eq] at h
      cases h
      simp
    · rw [lk_cons_ne _ _ e] at h
      obtain ⟨h1, h2⟩ := ih (i + 1) t v h
      refine ⟨by omega, ?_⟩
      rw [show t - i = (t - (i + 1)) + 1 by omega]
      simpa using h2

theorem hc_enter {P : Program} {f : Nat} {fn : Func} {c : Code} {args : List Value} {L : Heap} {Q : Value → Heap → Prop}
    (he : Enters P f) (hf : P.funcs[f]? = some fn) (hb : fn.body = some c) {n : Nat} (hn : fn.ntmps = n) (hlen : args.length ≤ n)
    (h : HW P n c (fnQ P fn Q) (args0 0 args) L) : HC P f args L Q := by
  subst hn
  refine ⟨he, fun k w hs => calls_of_wp hf hb (wp_mono (h k w _ hs ⟨?_, rfl, ?_⟩) ?_)⟩
  · have hlen' : args.length ≤ fn.ntmps := hlen
    simp; omega
  · intro t v hv
    obtain ⟨_, h2⟩ := lk_args0 args 0 t v hv
    have hlt : t < args.length := (List.getElem?_eq_some_iff.1 h2).1
    rw [Array.getElem?_append_left (by simpa using hlt)]
    simpa using h2
  · intro e a' w' ⟨ρ', L', ha', hs', hq⟩
    cases e with
    | normal =>
      obtain ⟨v, L2, hr, hs2, hq2⟩ := hq k w' a' hs' ha'
      exact ⟨ha'.defers, v, hr, v, L2, rfl, hs2, hq2⟩
    | ret =>
      obtain ⟨v, L2, hr, hs2, hq2⟩ := hq k w' a' hs' ha'
      exact ⟨ha'.defers, v, hr, v, L2, rfl, hs2, hq2⟩
    | exit i => exact hq.elim
    | goto i => exact hq.elim
    | panic ch => exact hq.elim
    | outgrown => exact hq.elim

section results
variable {P : Program} {fn : Func} {Q : Value → Heap → Prop} {ρ : Env} {L : Heap}
/-- what a result's variable reads as -/
def ResV (P : Program) (ρ : Env) (L : Heap) : ResultVar → Value → Prop
  | .tmp t, v => lk ρ t = some v
  | .cell t T, v => ∃ p, lk ρ t = some (.pointer (some p)) ∧ ∀ k w, Sat k w L → (loadVar T p).run P w = .ok v w
def rv (tmps : Array Value) : ResultVar → Sem Value
  | .tmp t => pure (tmps.getD t undef)
  | .cell a t => do loadVar t (← asAddr (tmps.getD a undef))
theorem results_rv (fn : Func) (tmps : Array Value) : results fn tmps = (do
  let vs ← fn.results.mapM (rv tmps)
  pure (if h : vs.size = 1 then vs[0] else .tuple vs)) := rfl
theorem ResV.run {n : Nat} {r : ResultVar} {v : Value} (h : ResV P ρ L r v) {k : Ctx} {w : World} {a : Act} (hs : Sat k w L) (ha : Agr n a ρ) : (rv a.tmps r).run P w = .ok v w := by
  cases r with
  | tmp t => simp [rv, ha.get _ _ h]
  | cell t T =>
    obtain ⟨p, hp, hr⟩ := h
    simp [rv, ha.get _ _ hp, asAddr, hr k w hs]
theorem fn_ret0 (hr : fn.results = #[]) {L' : Heap} (hL : List.Sublist L' L) (h : Q (.tuple #[]) L') : fnQ P fn Q .ret ρ L :=
  fun k w a hs ha => ⟨_, L', by simp [results, hr], hs.sub hL, h⟩
theorem fn_end0 (hr : fn.results = #[]) {L' : Heap} (hL : List.Sublist L' L) (h : Q (.tuple #[]) L') : fnQ P fn Q .normal ρ L :=
  fun k w a hs ha => ⟨_, L', by simp [results, hr], hs.sub hL, h⟩
theorem fn_ret1 {r : ResultVar} {v : Value} (hr : fn.results = #[r]) (hv : ResV P ρ L r v) {L' : Heap} (hL : List.Sublist L' L) (h : Q v L') : fnQ P fn Q .ret ρ L :=
  fun k w a hs ha => ⟨v, L', by simp [results_rv, hr, hv.run hs ha], hs.sub hL, h⟩
theorem fn_ret2 {r s : ResultVar} {x y : Value} (hr : fn.results = #[r, s]) (hx : ResV P ρ L r x) (hy : ResV P ρ L s y) {L' : Heap} (hL : List.Sublist L' L)
    (h : Q (.tuple ⟨[x, y]⟩) L') : fnQ P fn Q .ret ρ L :=
  fun k w a hs ha => ⟨.tuple ⟨[x, y]⟩, L', by simp [results_rv, hr, hx.run hs ha, hy.run hs ha], hs.sub hL, h⟩
theorem fn_ret3 {r s q : ResultVar} {x y z : Value} (hr : fn.results = #[r, s, q]) (hx : ResV P ρ L r x) (hy : ResV P ρ L s y) (hz : ResV P ρ L q z) {L' : Heap} (hL : List.Sublist L' L)
    (h : Q (.tuple ⟨[x, y, z]⟩) L') : fnQ P fn Q .ret ρ L :=
  fun k w a hs ha => ⟨.tuple ⟨[x, y, z]⟩, L', by simp [results_rv, hr, hx.run hs ha, hy.run hs ha, hz.run hs ha], hs.sub hL, h⟩
end results
end Go.HL
