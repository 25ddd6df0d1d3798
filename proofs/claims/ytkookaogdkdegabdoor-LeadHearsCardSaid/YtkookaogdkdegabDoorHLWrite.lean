/- The heap logic: what makes or writes memory; calls. No program in sight. Conditions: none. -/
import Derived.Test.YtkookaogdkdegabDoorHLRead
namespace Go.HL
open Go
set_option linter.unusedVariables false
set_option linter.unusedSimpArgs false

/-- block b is written -/
def Upd (L : Heap) (b : Nat) (o o' : Obj) (L' : Heap) : Prop := ∃ l r, L.flatten = l ++ (b, o) :: r ∧ L'.flatten = l ++ (b, o') :: r
theorem upd_here {b : Nat} {o o' : Obj} {c : List Blk} {L : Heap} : Upd (((b, o) :: c) :: L) b o o' (((b, o') :: c) :: L) := ⟨[], c ++ L.flatten, by simp, by simp⟩
theorem upd_in {b : Nat} {o o' : Obj} {e : Blk} {c c' : List Blk} {L L' : Heap} (h : Upd (c :: L) b o o' (c' :: L')) : Upd ((e :: c) :: L) b o o' ((e :: c') :: L') := by
  obtain ⟨l, r, h1, h2⟩ := h
  simp only [List.flatten_cons] at h1 h2
  exact ⟨e :: l, r, by simp [h1], by simp [h2]⟩
theorem upd_next {b : Nat} {o o' : Obj} {c : List Blk} {L L' : Heap} (h : Upd L b o o' L') : Upd (c :: L) b o o' (c :: L') := by
  obtain ⟨l, r, h1, h2⟩ := h
  exact ⟨c ++ l, r, by simp [h1], by simp [h2]⟩
theorem Upd.has {L L' : Heap} {b : Nat} {o o' : Obj} (h : Upd L b o o' L') : Has L b o := by
  obtain ⟨l, r, h1, h2⟩ := h
  simp [Has, h1]
theorem Sat.upd {k : Ctx} {w w' : World} {L L' : Heap} {b : Nat} {o o' : Obj} (h : Sat k w L) (hu : Upd L b o o' L') (h1 : w'.os = w.os) (h2 : w'.output = w.output) (ht : w'.tape = w.tape)
    (h3 : w'.heap[b]? = some o') (h4 : ∀ j, j ≠ b → w'.heap[j]? = w.heap[j]?) : Sat k w' L' := by
  obtain ⟨l, r, e1, e2⟩ := hu
  have hnd := h.nodup
  have hh := h.has
  rw [e1] at hnd hh
  simp only [List.map_append, List.map_cons] at hnd
  have hd := List.nodup_append.1 hnd
  have hd2 := List.nodup_cons.1 hd.2.1
  refine ⟨h1.trans h.os, h2.trans h.out, ht.trans h.tape, ?_, ?_⟩
  · rw [e2]
    intro p hp
    rcases List.mem_append.1 hp with hp | hp
    · rw [h4 p.1 (fun e => hd.2.2 p.1 (List.mem_map_of_mem hp) b (by simp) e)]
      exact hh p (List.mem_append.2 (.inl hp))
    · rcases List.mem_cons.1 hp with hp | hp
      · subst hp; exact h3
      · rw [h4 p.1 (fun e => hd2.1 (e ▸ List.mem_map_of_mem hp))]
        exact hh p (List.mem_append.2 (.inr (List.mem_cons.2 (.inr hp))))
  · rw [e2]
    simpa using hnd
theorem Sat.new {k : Ctx} {w : World} {L : Heap} (h : Sat k w L) (o : Obj) : Sat k (w.alloc o) ([(w.heap.size, o)] :: L) := by
  have hlt : ∀ p ∈ L.flatten, p.1 < w.heap.size := fun p hp => (Array.getElem?_eq_some_iff.1 (h.has p hp)).1
  refine ⟨h.os, h.out, h.tape, fun p hp => ?_, ?_⟩
  · simp only [List.flatten_cons, List.cons_append, List.nil_append, List.mem_cons] at hp
    rcases hp with hp | hp
    · subst hp; exact heap_alloc_new w o
    · rw [Go.heap_alloc_old w o (hlt p hp)]
      exact h.has p hp
  · simp only [List.flatten_cons, List.cons_append, List.nil_append, List.map_cons, List.nodup_cons]
    refine ⟨fun hm => ?_, h.nodup⟩
    obtain ⟨p, hp, e⟩ := List.mem_map.1 hm
    have := hlt p hp
    omega
theorem Sat.drew {k : Ctx} {w : World} {L : Heap} (h : Sat k w L) : Sat k w.drew L := ⟨h.os, h.out, h.tape, h.has, h.nodup⟩

/-- cells in a row are written -/
def setAt : List Value → Nat → List Value → List Value
  | l, _, [] => l
  | l, i, v :: r => setAt (l.set i v) (i + 1) r
theorem setAt_length (vs : List Value) : ∀ (l : List Value) (i : Nat), (setAt l i vs).length = l.length := by
  induction vs with
  | nil => intro l i; rfl
  | cons v r ih => intro l i; simp [setAt, ih]
/-- l' is l with the cells vs from i on -/
def Puts (l : List Value) (i : Nat) (vs l' : List Value) : Prop := l' = setAt l i vs ∧ i + vs.length ≤ l.length
theorem puts_set {l : List Value} {i : Nat} {v : Value} (h : i < l.length) : Puts l i [v] (l.set i v) := ⟨rfl, by simp; omega⟩
theorem puts_zero {x v : Value} {l : List Value} : Puts (x :: l) 0 [v] (v :: l) := ⟨by simp [setAt], by simp⟩
theorem setAt_cons (vs : List Value) : ∀ (x : Value) (l : List Value) (i : Nat), setAt (x :: l) (i + 1) vs = x :: setAt l i vs := by
  induction vs with
  | nil => intro x l i; rfl
  | cons v r ih => intro x l i; simp [setAt, ih]
theorem puts_succ {x : Value} {l vs l' : List Value} {i : Nat} (h : Puts l i vs l') : Puts (x :: l) (i + 1) vs (x :: l') := by
  obtain ⟨h1, h2⟩ := h
  exact ⟨by rw [setAt_cons, h1], by simp; omega⟩
theorem setAt_all (vs : List Value) : ∀ (l : List Value), l.length = vs.length → setAt l 0 vs = vs := by
  induction vs with
  | nil => intro l h; simpa [setAt] using h
  | cons v r ih =>
    intro l h
    match l, h with
    | x :: l, h =>
      simp only [setAt, List.set_cons_zero]
      rw [setAt_cons, ih l (by simpa using h)]
theorem puts_all {l vs : List Value} (h : l.length = vs.length) : Puts l 0 vs vs := ⟨(setAt_all vs l h).symm, by omega⟩
theorem setAt_append (vs : List Value) : ∀ (l r : List Value), l.length = vs.length → setAt (l ++ r) 0 vs = vs ++ r := by
  induction vs with
  | nil => intro l r h; have : l = [] := by simpa using h
           subst this; simp [setAt]
  | cons v vs ih =>
    intro l r h
    match l, h with
    | x :: l, h =>
      simp only [setAt, List.cons_append, List.set_cons_zero]
      rw [setAt_cons, ih l r (by simpa using h)]
theorem puts_front {l r vs : List Value} (h : l.length = vs.length) : Puts (l ++ r) 0 vs (vs ++ r) := ⟨(setAt_append vs l r h).symm, by simp; omega⟩

theorem setCell_heap {w : World} {b : Nat} {l : List Value} {E : Nat} {fr : Nat × Nat} (h : w.heap[b]? = some (.cells ⟨l⟩ E fr)) (j : Nat) (v : Value) :
    (w.setCell ⟨b, j, none⟩ v).heap[b]? = some (.cells ⟨l.set j v⟩ E fr) := by
  have hb := (Array.getElem?_eq_some_iff.1 h).1
  have h' := (Array.getElem?_eq_some_iff.1 h).2
  simp only [World.setCell, Array.getElem?_modify, h, Option.map_some, if_true]
  simp
theorem run_stores {P : Program} {k : Ctx} {b E : Nat} {fr : Nat × Nat} (vs : List Value) : ∀ (i0 i : Nat) (l : List Value) (w : World),
    w.heap[b]? = some (.cells ⟨l⟩ E fr) → (fr = (0, 0)) → i0 + i + vs.length ≤ l.length → (∀ v ∈ vs, v.oneCell' = true) →
    ∃ w', (storeCells ⟨b, i0, none⟩ vs i).run P w = .ok () w' ∧ w'.os = w.os ∧ w'.output = w.output ∧ w'.tape = w.tape ∧ w'.heap[b]? = some (.cells ⟨setAt l (i0 + i) vs⟩ E fr) ∧ ∀ j, j ≠ b → w'.heap[j]? = w.heap[j]? := by
  induction vs with
  | nil => intro i0 i l w hb hf hl hc; exact ⟨w, by simp [storeCells], rfl, rfl, rfl, hb, fun _ _ => rfl⟩
  | cons v r ih =>
    intro i0 i l w hb hf hl hc
    simp only [List.length_cons] at hl
    have hcell : w.cell? ⟨b, i0 + i, none⟩ = some (l[i0 + i]'(by omega)) := by
      rw [cell_of_row w b _ ⟨l⟩ E fr hb]
      simp
    have hfz : w.frozen? ⟨b, i0 + i, none⟩ = false := by
      subst hf
      exact frozen_of_row w b _ ⟨l⟩ E hb
    have hst : (store (Addr.mk b (i0 + i) none) v).run P w = .ok () (w.setCell ⟨b, i0 + i, none⟩ v) := by
      rw [run_store P w _ v _ (hc v (by simp))]
      simp [hcell, hfz]
    have hb' := setCell_heap hb (i0 + i) v
    obtain ⟨w', h1, h2, h3, ht, h4, h5⟩ := ih i0 (i + 1) (l.set (i0 + i) v) (w.setCell ⟨b, i0 + i, none⟩ v) hb' hf (by simp; omega) (fun u hu => hc u (by simp [hu]))
    refine ⟨w', ?_, h2, h3, ht, ?_, fun j hj => ?_⟩
    · simp only [storeCells, addr_add]
      simp [hst, h1]
    · rw [h4]
      simp only [setAt]
      rw [show i0 + (i + 1) = i0 + i + 1 by omega]
    · rw [h5 j hj]
      exact heap_setCell_other w _ j v hj

section o
variable {P : Program} (S : Tab P) {n : Nat} {ops : List Oper} {Q : Exit → Env → Heap → Prop} {rest : List Oper} {ρ : Env} {L : Heap} {ty : TypeId} {pos : String} {af : Array Edge}

/-- an operation that is no quiet one -/
theorem ho_run {o : Oper} {d : Nat} (hg : o.guard = none) (hd : o.dst = some d) (hn : Nat.blt d n = true)
    (h : ∀ (ρe : Operand → Value), (∀ x ∈ o.op.operands, ∀ u, ev ρ x = some u → ρe x = u) → ∀ k w, Sat k w L → ∃ v w' L', (execOp ρe o).run P w = .ok (.value v) w' ∧ Sat k w' L' ∧ HO P n ops Q rest ((d, v) :: ρ) L') : HO P n ops Q (o :: rest) ρ L := by
  intro k w a hs ha
  have hlt : d < n := Nat.le_of_ble_eq_true hn
  unfold wpList
  rw [if_pos (wanted_none o hg _)]
  obtain ⟨v, w', L', hr, hs', hK⟩ := h a.eval (fun x _ u hu => ha.ev hu) k w hs
  refine .inl ?_
  unfold Oper.wp
  rw [hr]
  simp only [Oper.upon]
  rw [hd]
  exact hK k w' _ hs' (ha.put hlt v)
theorem ho_do {o : Oper} (hg : o.guard = none) (hd : o.dst = none)
    (h : ∀ (ρe : Operand → Value), (∀ x ∈ o.op.operands, ∀ u, ev ρ x = some u → ρe x = u) → ∀ k w, Sat k w L → ∃ w' L', ((execOp ρe o).run P w = .ok .skip w' ∨ ∃ v, (execOp ρe o).run P w = .ok (.value v) w') ∧ Sat k w' L' ∧ HO P n ops Q rest ρ L') : HO P n ops Q (o :: rest) ρ L := by
  intro k w a hs ha
  unfold wpList
  rw [if_pos (wanted_none o hg _)]
  obtain ⟨w', L', hr, hs', hK⟩ := h a.eval (fun x _ u hu => ha.ev hu) k w hs
  refine .inl ?_
  unfold Oper.wp
  rcases hr with hr | ⟨v, hr⟩
  all_goals
    rw [hr]
    simp only [Oper.upon]
    rw [hd]
    exact hK k w' a hs' ha

theorem o_alloc {d E : Nat} {z : Value} {zs : List Value} (hz : lkN S.zr E = some z) (hc : z.cells = ⟨zs⟩) (hn : Nat.blt d n = true)
    (h : ∀ b, HO P n ops Q rest ((d, pt b 0) :: ρ) ([(b, .cells ⟨zs⟩ E)] :: L)) : HO P n ops Q (⟨some d, .alloc E, ty, pos, af, none⟩ :: rest) ρ L :=
  ho_run rfl rfl hn fun ρe he k w hs => ⟨pt w.heap.size 0, w.alloc (.cells ⟨zs⟩ E), _, by
    have h1 := zero_run (S.zeroI hz) w
    simp [execOp, Instr.alloc, h1, newVar, newRow, hc], hs.new _, h _⟩
theorem o_box {d E : Nat} {x : Operand} {v : Value} {vs : List Value} (hx : ev ρ x = some v) (hc : v.cells = ⟨vs⟩) (hn : Nat.blt d n = true)
    (h : ∀ b, HO P n ops Q rest ((d, pt b 0) :: ρ) ([(b, .cells ⟨vs⟩ E)] :: L)) : HO P n ops Q (⟨some d, .box E x, ty, pos, af, none⟩ :: rest) ρ L :=
  ho_run rfl rfl hn fun ρe he k w hs => ⟨pt w.heap.size 0, w.alloc (.cells ⟨vs⟩ E), _, by
    simp [execOp, Instr.box, he x (by simp [Op.operands]) _ hx, newVar, newRow, hc], hs.new _, h _⟩
theorem o_store {t b i E : Nat} {ti : TyI} {x y : Operand} {v : Value} {vs l l' : List Value} {L' : Heap} (hx : ev ρ x = some (pt b i)) (hy : ev ρ y = some v) (ht : lkN S.ty t = some ti)
    (hc : v.cells = ⟨vs⟩) (hsz : ti.size = vs.length) (h1 : (vs.all Value.oneCell') = true) (hp : Puts l i vs l') (hu : Upd L b (.cells ⟨l⟩ E (0, 0)) (.cells ⟨l'⟩ E (0, 0)) L')
    (h : HO P n ops Q rest ρ L') : HO P n ops Q (⟨none, .store t x y, ty, pos, af, none⟩ :: rest) ρ L :=
  ho_do rfl rfl fun ρe he k w hs => by
    obtain ⟨hp1, hp2⟩ := hp
    obtain ⟨w', e1, e2, e3, et, e4, e5⟩ := run_stores (P := P) (k := k) vs i 0 l w (hs.heap hu.has) rfl (by simpa using hp2) (fun v hv => List.all_eq_true.1 h1 v hv)
    refine ⟨w', L', .inl ?_, hs.upd hu e2 e3 et (by rw [e4, hp1, Nat.add_zero]) e5, h⟩
    have h2 := ty_size (S.tyI ht) w
    have h3 : v.cells.size = vs.length := by rw [hc]; rfl
    have h4 : v.cells.toList = vs := by rw [hc]
    simp [execOp, Instr.storeAt, he x (by simp [Op.operands]) _ hx, he y (by simp [Op.operands]) _ hy, Instr.sureAddr, storeVar, h2, h3, hsz, h4, e1]

/-! ### calls -/
theorem evs_map {l : List Operand} {ρe : Operand → Value} : ∀ {us : List Value}, (∀ x ∈ l, ∀ u, ev ρ x = some u → ρe x = u) → evs ρ l = some us → l.map ρe = us := by
  induction l with
  | nil => intro us _ h; simp [evs] at h; simp [← h]
  | cons x r ih =>
    intro us hl h
    simp only [evs] at h
    cases hx : ev ρ x with
    | none => simp [hx] at h
    | some u =>
      cases hr : evs ρ r with
      | none => simp [hx, hr] at h
      | some us' =>
        simp [hx, hr] at h
        rw [List.map_cons, hl x (by simp) u hx, ih (fun y hy => hl y (by simp [hy])) hr]
        exact h
theorem call_run {f : Operand} {as : Array Operand} {ts : Array TypeId} {o : Oper} {ρe : Operand → Value} {F : Nat} {cap args : List Value} (hf : ev ρ f = some (.func (.func F) #[] ⟨cap⟩)) (ha : evs ρ as.toList = some args)
    (he : ∀ x ∈ (Op.call { callee := .value f, args := as, argTypes := ts }).operands, ∀ u, ev ρ x = some u → ρe x = u) (hop : o.op = .call { callee := .value f, args := as, argTypes := ts }) (hen : Enters P F) (w : World) :
    (execOp ρe o).run P w = .ok (.enter F ⟨args ++ cap⟩) w := by
  have e1 : ρe f = .func (.func F) #[] ⟨cap⟩ := he f (by simp [Op.operands, Call.operands]) _ hf
  have e2 : as.map ρe = ⟨args⟩ := by
    have := evs_map (l := as.toList) (ρe := ρe) (fun x hx u hu => he x (by simp [Op.operands, Call.operands]; exact .inr (Array.mem_toList_iff.1 hx)) u hu) ha
    apply Array.toList_inj.1
    simpa using this
  have e3 := hen ⟨args ++ cap⟩ w
  simp only [execOp, hop, resolve, e1, e2]
  simp [Deferred.ofValue, invoke, e3]
theorem q_call {d : Option Tmp} {g : Option (Nat × Bool)} {f : Operand} {as : Array Operand} {ts : Array TypeId} {F : Nat} {cap args : List Value} {v : Value} (hf : ev ρ f = some (.func (.func F) #[] ⟨cap⟩)) (ha : evs ρ as.toList = some args)
    (hc : HC P F (args ++ cap) L (fun u L' => u = v ∧ L' = L)) : QOp P ⟨d, .call { callee := .value f, args := as, argTypes := ts }, ty, pos, af, g⟩ ρ L v := by
  intro k a he w hs
  unfold Oper.quietAt
  rw [call_run hf ha he rfl hc.1 w]
  exact ⟨rfl, (hc.2 k w hs).mono fun e w' ⟨u, L', h1, h2, h3, h4⟩ => by subst h3; subst h4; exact ⟨h1, h2⟩⟩
theorem o_call {d : Nat} {f : Operand} {as : Array Operand} {ts : Array TypeId} {F : Nat} {cap args : List Value} {R : Value → Heap → Prop} (hf : ev ρ f = some (.func (.func F) #[] ⟨cap⟩)) (ha : evs ρ as.toList = some args)
    (hc : HC P F (args ++ cap) L R) (hn : Nat.blt d n = true) (h : ∀ v L', R v L' → HO P n ops Q rest ((d, v) :: ρ) L') : HO P n ops Q (⟨some d, .call { callee := .value f, args := as, argTypes := ts }, ty, pos, af, none⟩ :: rest) ρ L := by
  intro k w a hs haa
  have hlt : d < n := Nat.le_of_ble_eq_true hn
  unfold wpList
  rw [if_pos (wanted_none _ rfl _)]
  refine .inl ?_
  unfold Oper.wp
  rw [call_run hf ha (fun x _ u hu => haa.ev hu) rfl hc.1 w]
  refine (hc.2 k w hs).mono fun e w' ⟨u, L', h1, h2, h3⟩ => ?_
  subst h1
  exact h u L' h3 k w' _ h2 (haa.put hlt u)
theorem o_callW {d j t : Nat} {wt : Bool} {f : Operand} {as : Array Operand} {ts : Array TypeId} {F : Nat} {cap args : List Value} {R : Value → Heap → Prop} (hj : gdst ops j = some t) (ht : lk ρ t = some (.bool wt)) (hf : ev ρ f = some (.func (.func F) #[] ⟨cap⟩)) (ha : evs ρ as.toList = some args)
    (hc : HC P F (args ++ cap) L R) (hn : Nat.blt d n = true) (h : ∀ v L', R v L' → HO P n ops Q rest ((d, v) :: ρ) L') : HO P n ops Q (⟨some d, .call { callee := .value f, args := as, argTypes := ts }, ty, pos, af, some (j, wt)⟩ :: rest) ρ L := by
  intro k w a hs haa
  have hlt : d < n := Nat.le_of_ble_eq_true hn
  unfold wpList
  rw [if_pos (by rw [wanted_guard haa rfl hj ht]; simp)]
  refine .inl ?_
  unfold Oper.wp
  rw [call_run hf ha (fun x _ u hu => haa.ev hu) rfl hc.1 w]
  refine (hc.2 k w hs).mono fun e w' ⟨u, L', h1, h2, h3⟩ => ?_
  subst h1
  exact h u L' h3 k w' _ h2 (haa.put hlt u)
/-- put the blocks in another order, or forget some -/
theorem ho_perm {l : List Oper} {L' : Heap} (h : HO P n ops Q l ρ L') (hs : List.Perm L L') : HO P n ops Q l ρ L := fun k w a hs' ha => h k w a (hs'.perm hs) ha
theorem ho_drop {l : List Oper} {L' : Heap} (h : HO P n ops Q l ρ L') (hs : List.Sublist L' L) : HO P n ops Q l ρ L := fun k w a hs' ha => h k w a (hs'.sub hs) ha
theorem ho_sub {l : List Oper} {ρ' : Env} (h : HO P n ops Q l ρ' L) (hs : Sub ρ' ρ) : HO P n ops Q l ρ L := fun k w a hs' ha => h k w a hs' (ha.sub hs)
end o
end Go.HL
