/- Texts laid into one, without what the claim does not use. Conditions: none. -/
import Derived.Test.YtkookaogdkdegabDoorSDA
import Derived.Orders
import Derived.Still
import Derived.Laws.StructEq
import Derived.ChangeKeysEq
import Derived.Laws.MakeOwn
import Derived.Laws.BytesString
/-! QHLWrite -/
section
namespace Go.HL
set_option linter.unusedSectionVars false
variable [Tasks]
open Go
set_option linter.unusedVariables false
set_option linter.unusedSimpArgs false

theorem upd_here {b : Nat} {o o' : Obj} {c : List Blk} {L : Heap} : Upd (((b, o) :: c) :: L) b o o' (((b, o') :: c) :: L) := ⟨[], c ++ L.flatten, by simp, by simp⟩
theorem upd_in {b : Nat} {o o' : Obj} {e : Blk} {c c' : List Blk} {L L' : Heap} (h : Upd (c :: L) b o o' (c' :: L')) : Upd ((e :: c) :: L) b o o' ((e :: c') :: L') := by
  obtain ⟨l, r, h1, h2⟩ := h
  simp only [List.flatten_cons] at h1 h2
  exact ⟨e :: l, r, by simp [h1], by simp [h2]⟩
theorem upd_next {b : Nat} {o o' : Obj} {c : List Blk} {L L' : Heap} (h : Upd L b o o' L') : Upd (c :: L) b o o' (c :: L') := by
  obtain ⟨l, r, h1, h2⟩ := h
  exact ⟨c ++ l, r, by simp [h1], by simp [h2]⟩
theorem Upd.has {L L' : Heap} {b : Nat} {o o' : Obj} (h : Upd L b o o' L') : Has L b o := by
  obtain ⟨l, r, h1, h2⟩ := h
  simp [Has, h1]
/-- what a step of one's own leaves -/
structure Nx (k : Ctx) (w : World) (L : Heap) (w' : World) (L' : Heap) : Prop where
  sat : Sat k w' L'
  gr : Gr w.heap.size L L'
theorem Sat.id {k : Ctx} {w : World} {L : Heap} (h : Sat k w L) : Nx k w L w L := ⟨h, .refl _ _⟩
theorem Nx.wk {k : Ctx} {w w' : World} {L L1 L' : Heap} (h : Nx k w L1 w' L') (hw : Wk L L1) : Nx k w L w' L' := ⟨h.sat, h.gr.wk hw⟩
theorem Nx.base {k : Ctx} {w w1 w' : World} {L L1 L' : Heap} (h : Nx k w1 L1 w' L') (hw : Wk L L1) (he : w1.heap.size = w.heap.size := by rfl) : Nx k w L w' L' := ⟨h.sat, by rw [← he]; exact h.gr.wk hw⟩
theorem Wk.tl {c : List Blk} {L : Heap} : Wk (c :: L) L := .ls (.of_sub (sublist_flatten (.cons _ (.refl _))))
theorem Upd.tok {L L' : Heap} {b : Nat} {o o' : Obj} (h : Upd L b o o' L') (ho' : gho o' = false) : ∀ p ∈ L'.flatten, gho p.2 = true → p ∈ L.flatten := by
  obtain ⟨l, r, e1, e2⟩ := h
  intro p hp hg
  rw [e2] at hp
  rw [e1]
  simp only [List.mem_append, List.mem_cons] at hp ⊢
  rcases hp with hp | hp | hp
  · exact .inl hp
  · subst hp; simp only at hg; rw [ho'] at hg; cases hg
  · exact .inr (.inr hp)
theorem Upd.inW {L L' : Heap} {b : Nat} {o o' : Obj} (h : Upd L b o o' L') (ho : pln o = true) : ∀ c, InW L' c → InW L c := by
  obtain ⟨l, r, e1, e2⟩ := h
  rintro c ⟨q, hq, hp⟩
  rw [e2] at hq
  simp only [List.mem_append, List.mem_cons, Prod.mk.injEq] at hq
  rcases hq with hq | ⟨rfl, rfl⟩ | hq
  · exact ⟨q, by rw [e1]; simp [hq], hp⟩
  · exact ⟨o, by rw [e1]; simp, ho⟩
  · exact ⟨q, by rw [e1]; simp [hq], hp⟩
theorem Upd.inB {L L' : Heap} {b : Nat} {o o' : Obj} (h : Upd L b o o' L') (ho : pln o = true) : ∀ c, InB L' c → InB L c := by
  obtain ⟨l, r, e1, e2⟩ := h
  rintro c ⟨q, hq, hp⟩
  rw [e2] at hq
  simp only [List.mem_append, List.mem_cons, Prod.mk.injEq] at hq
  rcases hq with hq | ⟨rfl, rfl⟩ | hq
  · exact ⟨q, by rw [e1]; simp [hq], hp⟩
  · exact ⟨o, by rw [e1]; simp, pln_gho ho⟩
  · exact ⟨q, by rw [e1]; simp [hq], hp⟩
theorem Sat.upd {k : Ctx} {w w' : World} {L L' : Heap} {b : Nat} {o o' : Obj} (h : Sat k w L) (hu : Upd L b o o' L') (h1 : w'.os = w.os) (h2 : w'.output = w.output) (ht : w'.tape = w.tape)
    (h3 : w'.heap[b]? = some o') (h4 : ∀ j, j ≠ b → w'.heap[j]? = w.heap[j]?) (ho : pln o = true := by rfl) (ho' : pln o' = true := by rfl) (hv' : noView o' = true := by rfl) : Nx k w L w' L' := by
  have hu' := hu
  obtain ⟨l, r, e1, e2⟩ := hu
  have hnd := h.nodup
  have hh := h.has
  rw [e1] at hnd hh
  simp only [List.map_append, List.map_cons] at hnd
  have hd := List.nodup_append.1 hnd
  have hd2 := List.nodup_cons.1 hd.2.1
  have hsz : w.heap.size ≤ w'.heap.size := by
    rcases Nat.lt_or_ge w'.heap.size w.heap.size with hlt | hge
    · exfalso
      have hbl : b < w'.heap.size := (Array.getElem?_eq_some_iff.1 h3).1
      have := h4 w'.heap.size (by omega)
      rw [Array.getElem?_eq_none (Nat.le_refl _), Array.getElem?_eq_getElem hlt] at this
      cases this
    · exact hge
  refine ⟨⟨h1.trans h.os, h2.trans h.out, ht.trans h.tape, ?_, ?_, ?_, ?_⟩, fun c hc => .inl (hu'.inW ho c hc), fun c hc => .inl (hu'.inB ho c hc), hu'.tok (pln_gho ho')⟩
  · rw [e2]
    intro p hp hg
    rcases List.mem_append.1 hp with hp | hp
    · rw [h4 p.1 (fun e => hd.2.2 p.1 (List.mem_map_of_mem hp) b (by simp) e)]
      exact hh p (List.mem_append.2 (.inl hp)) hg
    · rcases List.mem_cons.1 hp with hp | hp
      · subst hp; rw [act_pln ho']; exact h3
      · rw [h4 p.1 (fun e => hd2.1 (e ▸ List.mem_map_of_mem hp))]
        exact hh p (List.mem_append.2 (.inr (List.mem_cons.2 (.inr hp)))) hg
  · rw [e2]
    simpa using hnd
  · rw [e2]
    intro p hp
    rcases List.mem_append.1 hp with hp | hp
    · exact h.nv p (by rw [e1]; simp [hp])
    · rcases List.mem_cons.1 hp with hp | hp
      · subst hp; exact hv'
      · exact h.nv p (by rw [e1]; simp [hp])
  · rw [e2]
    intro p hp
    refine Nat.lt_of_lt_of_le ?_ hsz
    rcases List.mem_append.1 hp with hp | hp
    · exact h.lt p (by rw [e1]; simp [hp])
    · rcases List.mem_cons.1 hp with hp | hp
      · subst hp; exact h.lt (b, o) (by rw [e1]; simp)
      · exact h.lt p (by rw [e1]; simp [hp])
theorem Sat.new {k : Ctx} {w : World} {L : Heap} (h : Sat k w L) (o : Obj) (ho : pln o = true := by rfl) (hv : noView o = true := by rfl) : Nx k w L (w.alloc o) ([(w.heap.size, o)] :: L) := by
  refine ⟨⟨h.os, h.out, h.tape, fun p hp hg => ?_, ?_, fun p hp => ?_, fun p hp => ?_⟩, fun c hc => ?_, fun c hc => ?_, fun p hp hg => ?_⟩
  · simp only [List.flatten_cons, List.cons_append, List.nil_append, List.mem_cons] at hp
    rcases hp with hp | hp
    · subst hp; rw [act_pln ho]; exact heap_alloc_new w o
    · rw [Go.heap_alloc_old w o (h.lt p hp)]
      exact h.has p hp hg
  · simp only [List.flatten_cons, List.cons_append, List.nil_append, List.map_cons, List.nodup_cons]
    refine ⟨fun hm => ?_, h.nodup⟩
    obtain ⟨p, hp, e⟩ := List.mem_map.1 hm
    have := h.lt p hp
    omega
  · simp only [List.flatten_cons, List.cons_append, List.nil_append, List.mem_cons] at hp
    rcases hp with rfl | hp
    · exact hv
    · exact h.nv p hp
  · simp only [List.flatten_cons, List.cons_append, List.nil_append, List.mem_cons] at hp
    rw [World.size_alloc]
    rcases hp with rfl | hp
    · exact Nat.lt_succ_self _
    · exact Nat.lt_succ_of_lt (h.lt p hp)
  · obtain ⟨q, hq, hp⟩ := hc
    simp only [List.flatten_cons, List.cons_append, List.nil_append, List.mem_cons, Prod.mk.injEq] at hq
    rcases hq with ⟨rfl, rfl⟩ | hq
    · exact .inr (Nat.le_refl _)
    · exact .inl ⟨q, hq, hp⟩
  · obtain ⟨q, hq, hp⟩ := hc
    simp only [List.flatten_cons, List.cons_append, List.nil_append, List.mem_cons, Prod.mk.injEq] at hq
    rcases hq with ⟨rfl, rfl⟩ | hq
    · exact .inr (Nat.le_refl _)
    · exact .inl ⟨q, hq, hp⟩
  · simp only [List.flatten_cons, List.cons_append, List.nil_append, List.mem_cons] at hp
    rcases hp with rfl | hp
    · simp only at hg; rw [pln_gho ho] at hg; cases hg
    · exact hp
theorem Sat.drew {k : Ctx} {w : World} {L : Heap} (h : Sat k w L) : Sat k w.drew L := ⟨h.os, h.out, h.tape, h.has, h.nodup, h.nv, h.lt⟩

/-- cells in a row are written -/
def setAt : List Value → Nat → List Value → List Value
  | l, _, [] => l
  | l, i, v :: r => setAt (l.set i v) (i + 1) r
/-- l' is l with the cells vs from i on -/
def Puts (l : List Value) (i : Nat) (vs l' : List Value) : Prop := l' = setAt l i vs ∧ i + vs.length ≤ l.length
theorem puts_set {l : List Value} {i : Nat} {v : Value} (h : i < l.length) : Puts l i [v] (l.set i v) := ⟨rfl, by simp; omega⟩
theorem puts_zero {x v : Value} {l : List Value} : Puts (x :: l) 0 [v] (v :: l) := ⟨by simp [setAt], by simp⟩
theorem setAt_cons (vs : List Value) : ∀ (x : Value) (l : List Value) (i : Nat), setAt (x :: l) (i + 1) vs = x :: setAt l i vs := by
  induction vs with
  | nil => intro x l i; rfl
  | cons v r ih => intro x l i; simp [setAt, ih]
theorem puts_succ {x : Value} {l vs l' : List Value} {i : Nat} (h : Puts l i vs l') : Puts (x :: l) (i + 1) vs (x :: l') := by
  obtain ⟨h1, h2⟩ := h
  exact ⟨by rw [setAt_cons, h1], by simp; omega⟩
theorem setAt_all (vs : List Value) : ∀ (l : List Value), l.length = vs.length → setAt l 0 vs = vs := by
  induction vs with
  | nil => intro l h; simpa [setAt] using h
  | cons v r ih =>
    intro l h
    match l, h with
    | x :: l, h =>
      simp only [setAt, List.set_cons_zero]
      rw [setAt_cons, ih l (by simpa using h)]
theorem puts_all {l vs : List Value} (h : l.length = vs.length) : Puts l 0 vs vs := ⟨(setAt_all vs l h).symm, by omega⟩
theorem setAt_append (vs : List Value) : ∀ (l r : List Value), l.length = vs.length → setAt (l ++ r) 0 vs = vs ++ r := by
  induction vs with
  | nil => intro l r h; have : l = [] := by simpa using h
           subst this; simp [setAt]
  | cons v vs ih =>
    intro l r h
    match l, h with
    | x :: l, h =>
      simp only [setAt, List.cons_append, List.set_cons_zero]
      rw [setAt_cons, ih l r (by simpa using h)]
theorem puts_front {l r vs : List Value} (h : l.length = vs.length) : Puts (l ++ r) 0 vs (vs ++ r) := ⟨(setAt_append vs l r h).symm, by simp; omega⟩

theorem setCell_heap {w : World} {b : Nat} {l : List Value} {E : Nat} {fr : Nat × Nat} (h : w.heap[b]? = some (.cells ⟨l⟩ E fr)) (j : Nat) (v : Value) :
    (w.setCell ⟨b, j, none⟩ v).heap[b]? = some (.cells ⟨l.set j v⟩ E fr) := by
  have hb := (Array.getElem?_eq_some_iff.1 h).1
  have h' := (Array.getElem?_eq_some_iff.1 h).2
  simp only [World.setCell, Array.getElem?_modify, h, Option.map_some, if_true]
  simp
theorem run_stores {P : Program} {k : Ctx} {b E : Nat} {fr : Nat × Nat} (vs : List Value) : ∀ (i0 i : Nat) (l : List Value) (w : World),
    w.heap[b]? = some (.cells ⟨l⟩ E fr) → (fr = (0, 0)) → i0 + i + vs.length ≤ l.length → (∀ v ∈ vs, v.oneCell' = true) →
    ∃ w', (storeCells ⟨b, i0, none⟩ vs i).run P w = .ok () w' ∧ w'.os = w.os ∧ w'.output = w.output ∧ w'.tape = w.tape ∧ w'.heap[b]? = some (.cells ⟨setAt l (i0 + i) vs⟩ E fr) ∧ ∀ j, j ≠ b → w'.heap[j]? = w.heap[j]? := by
  induction vs with
  | nil => intro i0 i l w hb hf hl hc; exact ⟨w, by simp [storeCells], rfl, rfl, rfl, hb, fun _ _ => rfl⟩
  | cons v r ih =>
    intro i0 i l w hb hf hl hc
    simp only [List.length_cons] at hl
    have hcell : w.cell? ⟨b, i0 + i, none⟩ = some (l[i0 + i]'(by omega)) := by
      rw [cell_of_row w b _ ⟨l⟩ E fr hb]
      simp
    have hfz : w.frozen? ⟨b, i0 + i, none⟩ = false := by
      subst hf
      exact frozen_of_row w b _ ⟨l⟩ E hb
    have hst : (store (Addr.mk b (i0 + i) none) v).run P w = .ok () (w.setCell ⟨b, i0 + i, none⟩ v) := by
      rw [run_store P w _ v _ (hc v (by simp))]
      simp [hcell, hfz]
    have hb' := setCell_heap hb (i0 + i) v
    obtain ⟨w', h1, h2, h3, ht, h4, h5⟩ := ih i0 (i + 1) (l.set (i0 + i) v) (w.setCell ⟨b, i0 + i, none⟩ v) hb' hf (by simp; omega) (fun u hu => hc u (by simp [hu]))
    refine ⟨w', ?_, h2, h3, ht, ?_, fun j hj => ?_⟩
    · simp only [storeCells, addr_add]
      simp [hst, h1]
    · rw [h4]
      simp only [setAt]
      rw [show i0 + (i + 1) = i0 + i + 1 by omega]
    · rw [h5 j hj]
      exact heap_setCell_other w _ j v hj

section o
variable {P : Program} (S : Tab P) {n : Nat} {ops : List Oper} {Q : Exit → Env → Heap → Prop} {rest : List Oper} {ρ : Env} {L : Heap} {ty : TypeId} {pos : String} {af : Array Edge}

/-- an operation that is no quiet one -/
theorem ho_run {o : Oper} {d : Nat} (hg : o.guard = none) (hd : o.dst = some d) (hn : Nat.blt d n = true)
    (h : ∀ (ρe : Operand → Value), (∀ x ∈ o.op.operands, ∀ u, ev ρ x = some u → ρe x = u) → ∀ k w, Sat k w L → ∃ v w' L', (execOp ρe o).run P w = .ok (.value v) w' ∧ Nx k w L w' L' ∧ HO P n ops Q rest ((d, v) :: ρ) L')
    (hp : ∀ (ρe : Operand → Value), (∀ x ∈ o.op.operands, ∀ u, ev ρ x = some u → ρe x = u) → ∀ N, Plo P (InB L) (InW L) N (execOp ρe o) := by exact fun e _ _ => pl_op e _ rfl) : HO P n ops Q (o :: rest) ρ L :=
  ho_op (fun a _ => wanted_none o hg _) fun a ha => .plain fun k w hs => by
    obtain ⟨v, w', L', hr, hs', hK⟩ := h a.eval (fun x _ u hu => ha.ev hu) k w hs
    refine ⟨_, v, w', L', hr, .inl rfl, tr_pl hs (hp a.eval (fun x _ u hu => ha.ev hu) _) (fun w2 hs2 => ?_) hr hs'.gr, hs'.sat, _, by rw [hd]; exact ha.put (Nat.le_of_ble_eq_true hn) v, hK⟩
    obtain ⟨v2, w2', _, hr2, _⟩ := h a.eval (fun x _ u hu => ha.ev hu) k w2 hs2
    exact ⟨_, w2', hr2⟩
theorem ho_do {o : Oper} (hg : o.guard = none) (hd : o.dst = none)
    (h : ∀ (ρe : Operand → Value), (∀ x ∈ o.op.operands, ∀ u, ev ρ x = some u → ρe x = u) → ∀ k w, Sat k w L → ∃ w' L', ((execOp ρe o).run P w = .ok .skip w' ∨ ∃ v, (execOp ρe o).run P w = .ok (.value v) w') ∧ Nx k w L w' L' ∧ HO P n ops Q rest ρ L')
    (hp : ∀ (ρe : Operand → Value), (∀ x ∈ o.op.operands, ∀ u, ev ρ x = some u → ρe x = u) → ∀ N, Plo P (InB L) (InW L) N (execOp ρe o) := by exact fun e _ _ => pl_op e _ rfl) : HO P n ops Q (o :: rest) ρ L :=
  ho_op (fun a _ => wanted_none o hg _) fun a ha => .plain fun k w hs => by
    obtain ⟨w', L', hr, hs', hK⟩ := h a.eval (fun x _ u hu => ha.ev hu) k w hs
    have hok : ∀ w2, Sat k w2 L → ∃ v w', (execOp a.eval o).run P w2 = .ok v w' := fun w2 hs2 => by
      obtain ⟨w2', _, hr2, _⟩ := h a.eval (fun x _ u hu => ha.ev hu) k w2 hs2
      rcases hr2 with hr2 | ⟨v, hr2⟩ <;> exact ⟨_, w2', hr2⟩
    rcases hr with hr | ⟨v, hr⟩
    · exact ⟨_, undef, w', L', hr, .inr ⟨rfl, rfl⟩, tr_pl hs (hp a.eval (fun x _ u hu => ha.ev hu) _) hok hr hs'.gr, hs'.sat, ρ, by rw [hd]; exact ha.none _, hK⟩
    · exact ⟨_, v, w', L', hr, .inl rfl, tr_pl hs (hp a.eval (fun x _ u hu => ha.ev hu) _) hok hr hs'.gr, hs'.sat, ρ, by rw [hd]; exact ha.none _, hK⟩

theorem o_alloc {d E : Nat} {z : Value} {zs : List Value} (hz : lkN S.zr E = some z) (hc : z.cells = ⟨zs⟩) (hn : Nat.blt d n = true)
    (h : ∀ b, HO P n ops Q rest ((d, pt b 0) :: ρ) ([(b, .cells ⟨zs⟩ E)] :: L)) : HO P n ops Q (⟨some d, .alloc E, ty, pos, af, none⟩ :: rest) ρ L :=
  ho_run rfl rfl hn fun ρe he k w hs => ⟨pt w.heap.size 0, w.alloc (.cells ⟨zs⟩ E), _, by
    have h1 := zero_run (S.zeroI hz) w
    simp [execOp, Instr.alloc, h1, newVar, newRow, hc], hs.new _, h _⟩
theorem o_box {d E : Nat} {x : Operand} {v : Value} {vs : List Value} (hx : ev ρ x = some v) (hc : v.cells = ⟨vs⟩) (hn : Nat.blt d n = true)
    (h : ∀ b, HO P n ops Q rest ((d, pt b 0) :: ρ) ([(b, .cells ⟨vs⟩ E)] :: L)) : HO P n ops Q (⟨some d, .box E x, ty, pos, af, none⟩ :: rest) ρ L :=
  ho_run rfl rfl hn fun ρe he k w hs => ⟨pt w.heap.size 0, w.alloc (.cells ⟨vs⟩ E), _, by
    simp [execOp, Instr.box, he x (by simp [Op.operands]) _ hx, newVar, newRow, hc], hs.new _, h _⟩
theorem o_store {t b i E : Nat} {ti : TyI} {x y : Operand} {v : Value} {vs l l' : List Value} {L' : Heap} (hx : ev ρ x = some (pt b i)) (hy : ev ρ y = some v) (ht : lkN S.ty t = some ti)
    (hc : v.cells = ⟨vs⟩) (hsz : ti.size = vs.length) (h1 : (vs.all Value.oneCell') = true) (hp : Puts l i vs l') (hu : Upd L b (.cells ⟨l⟩ E (0, 0)) (.cells ⟨l'⟩ E (0, 0)) L')
    (h : HO P n ops Q rest ρ L') : HO P n ops Q (⟨none, .store t x y, ty, pos, af, none⟩ :: rest) ρ L :=
  ho_do rfl rfl (fun ρe he k w hs => by
    obtain ⟨hp1, hp2⟩ := hp
    obtain ⟨w', e1, e2, e3, et, e4, e5⟩ := run_stores (P := P) (k := k) vs i 0 l w (hs.heap hu.has) rfl (by simpa using hp2) (fun v hv => List.all_eq_true.1 h1 v hv)
    refine ⟨w', L', .inl ?_, hs.upd hu e2 e3 et (by rw [e4, hp1, Nat.add_zero]) e5, h⟩
    have h2 := ty_size (S.tyI ht) w
    have h3 : v.cells.size = vs.length := by rw [hc]; rfl
    have h4 : v.cells.toList = vs := by rw [hc]
    simp [execOp, Instr.storeAt, he x (by simp [Op.operands]) _ hx, he y (by simp [Op.operands]) _ hy, Instr.sureAddr, storeVar, h2, h3, hsz, h4, e1]) fun ρe he N => by
    simp only [execOp, he x (by simp [Op.operands]) _ hx]
    exact (Plo.bind (pl_storeVar (.inl (⟨_, hu.has, rfl⟩ : InW L b))) fun _ => trivial : Plo P _ (InW L) _ (storeVar t ⟨b, i, none⟩ (ρe y) >>= fun _ => pure Next.skip))

/-! ### calls -/
theorem evs_map {l : List Operand} {ρe : Operand → Value} : ∀ {us : List Value}, (∀ x ∈ l, ∀ u, ev ρ x = some u → ρe x = u) → evs ρ l = some us → l.map ρe = us := by
  induction l with
  | nil => intro us _ h; simp [evs] at h; simp [← h]
  | cons x r ih =>
    intro us hl h
    simp only [evs] at h
    cases hx : ev ρ x with
    | none => simp [hx] at h
    | some u =>
      cases hr : evs ρ r with
      | none => simp [hx, hr] at h
      | some us' =>
        simp [hx, hr] at h
        rw [List.map_cons, hl x (by simp) u hx, ih (fun y hy => hl y (by simp [hy])) hr]
        exact h
theorem call_run {f : Operand} {as9 : Array Operand} {ts : Array TypeId} {o : Oper} {ρe : Operand → Value} {F : Nat} {cap args : List Value} (hf : ev ρ f = some (.func (.func F) #[] ⟨cap⟩)) (ha : evs ρ as9.toList = some args)
    (he : ∀ x ∈ (Op.call { callee := .value f, args := as9, argTypes := ts }).operands, ∀ u, ev ρ x = some u → ρe x = u) (hop : o.op = .call { callee := .value f, args := as9, argTypes := ts }) (hen : Enters P F) (w : World) :
    (execOp ρe o).run P w = .ok (.enter F ⟨args ++ cap⟩) w := by
  have e1 : ρe f = .func (.func F) #[] ⟨cap⟩ := he f (by simp [Op.operands, Call.operands]) _ hf
  have e2 : as9.map ρe = ⟨args⟩ := by
    have := evs_map (l := as9.toList) (ρe := ρe) (fun x hx u hu => he x (by simp [Op.operands, Call.operands]; exact .inr (Array.mem_toList_iff.1 hx)) u hu) ha
    apply Array.toList_inj.1
    simpa using this
  have e3 := hen.run ⟨args ++ cap⟩ w
  simp only [execOp, hop, resolve, e1, e2]
  simp [Deferred.ofValue, invoke, e3]
theorem call_pl {f : Operand} {as9 : Array Operand} {ts : Array TypeId} {o : Oper} {ρe : Operand → Value} {F : Nat} {cap args : List Value} (hf : ev ρ f = some (.func (.func F) #[] ⟨cap⟩)) (ha : evs ρ as9.toList = some args)
    (he : ∀ x ∈ (Op.call { callee := .value f, args := as9, argTypes := ts }).operands, ∀ u, ev ρ x = some u → ρe x = u) (hop : o.op = .call { callee := .value f, args := as9, argTypes := ts }) (hen : Enters P F) (B W : Nat → Prop) (N : Nat) :
    Plo P B W N (execOp ρe o) := by
  have e1 : ρe f = .func (.func F) #[] ⟨cap⟩ := he f (by simp [Op.operands, Call.operands]) _ hf
  simp only [execOp, hop, resolve, e1, Deferred.ofValue]
  exact hen.pl _ B W N
theorem call_opw {f : Operand} {as9 : Array Operand} {ts : Array TypeId} {o : Oper} {ρe : Operand → Value} {F : Nat} {cap args : List Value} {R : Value → Heap → Prop} (hf : ev ρ f = some (.func (.func F) #[] ⟨cap⟩)) (ha : evs ρ as9.toList = some args)
    (he : ∀ x ∈ (Op.call { callee := .value f, args := as9, argTypes := ts }).operands, ∀ u, ev ρ x = some u → ρe x = u) (hop : o.op = .call { callee := .value f, args := as9, argTypes := ts }) (hc : HC P F (args ++ cap) L R) : OpW P o ρe L R :=
  .call F (args ++ cap) (fun k w hs => ⟨call_run hf ha he hop hc.1 w, tr_pl hs (call_pl hf ha he hop hc.1 _ _ _) (fun w2 hs2 => ⟨_, w2, call_run hf ha he hop hc.1 w2⟩) (call_run hf ha he hop hc.1 w) (.refl _ _)⟩) hc
theorem q_call {d : Option Tmp} {g : Option (Nat × Bool)} {f : Operand} {as9 : Array Operand} {ts : Array TypeId} {F : Nat} {cap args : List Value} {v : Value} (hf : ev ρ f = some (.func (.func F) #[] ⟨cap⟩)) (ha : evs ρ as9.toList = some args)
    (hc : HC P F (args ++ cap) L (fun u L' => u = v ∧ L' = L)) : QOp P ⟨d, .call { callee := .value f, args := as9, argTypes := ts }, ty, pos, af, g⟩ ρ L v := by
  intro e he
  exact call_opw hf ha he rfl hc
theorem o_call {d : Nat} {f : Operand} {as9 : Array Operand} {ts : Array TypeId} {F : Nat} {cap args : List Value} {R : Value → Heap → Prop} (hf : ev ρ f = some (.func (.func F) #[] ⟨cap⟩)) (ha : evs ρ as9.toList = some args)
    (hc : HC P F (args ++ cap) L R) (hn : Nat.blt d n = true) (h : ∀ v L', R v L' → HO P n ops Q rest ((d, v) :: ρ) L') : HO P n ops Q (⟨some d, .call { callee := .value f, args := as9, argTypes := ts }, ty, pos, af, none⟩ :: rest) ρ L := by
  exact ho_op (fun a _ => wanted_none _ rfl _) fun a haa => (call_opw hf ha (fun x _ u hu => haa.ev hu) rfl hc).mono fun v L' hv => ⟨_, haa.put (Nat.le_of_ble_eq_true hn) v, h v L' hv⟩
/-- put the blocks in another order, or forget some -/
theorem ho_ls : ∀ {l : List Oper} {ρ : Env} {L L' : Heap}, HO P n ops Q l ρ L' → LS L'.flatten L.flatten → HO P n ops Q l ρ L
  | [], ρ, L, L', h, hw => let ⟨L2, h1, h2⟩ := h; ⟨L2, h1.trans hw, h2⟩
  | o :: l, ρ, L, L', h, hw => ho_cons fun a ha => by
    have h1 := ho_uncons h a ha
    split
    · rename_i hq; rw [if_pos hq] at h1; exact h1.wk (.ls hw)
    · rename_i hq; rw [if_neg hq] at h1; obtain ⟨ρ', h2, h3⟩ := h1; exact ⟨ρ', h2, ho_ls h3 hw⟩
theorem ho_perm {l : List Oper} {L' : Heap} (h : HO P n ops Q l ρ L') (hs : List.Perm L L') : HO P n ops Q l ρ L := ho_ls h (.of_perm hs.symm.flatten)
end o
end Go.HL
end

/-! QHLDraw -/
section
namespace Go.HL
set_option linter.unusedSectionVars false
variable [Tasks]
open Go
set_option linter.unusedVariables false
set_option linter.unusedSimpArgs false

/-! ### whatever order is picked -/
section any
variable {P : Program} {ops : Array Oper} {md : Region.Mode}
theorem OpW.congr {o o' : Oper} {e e' : Operand → Value} {L : Heap} {R : Value → Heap → Prop} (he : execOp e' o' = execOp e o) (h : OpW P o e L R) (hop : o'.op = o.op := by rfl) : OpW P o' e' L R := by
  cases h with
  | plain h => exact .plain (by rw [he]; exact h)
  | call f args h1 h2 => exact .call f args (by rw [he]; exact h1) h2
  | raw h => exact .raw fun main Φ b k cs a ops i is o2 h1 h2 h3 h4 h5 h6 => h main Φ b k cs a ops i is o2 (h1.trans he) (h2.trans hop) h3 h4 h5 h6
/-- operation number i comes up -/
def KOp (P : Program) (ops : Array Oper) (i : Nat) (K : Act → Heap → Prop) (a : Act) (L : Heap) : Prop :=
  match ops[i]? with
  | none => K a L
  | some o => if Region.wanted o (yielded ops a.tmps) = true then OpW P o a.eval L (fun v L' => K (a.put o.dst v) L') else K (a.put o.dst undef) L
def KOps (P : Program) (ops : Array Oper) (Q : Act → Heap → Prop) : List Nat → Act → Heap → Prop
  | [], a, L => Q a L
  | i :: is, a, L => KOp P ops i (KOps P ops Q is) a L
def KAny (P : Program) (md : Region.Mode) (ops : Array Oper) (Q : Act → Heap → Prop) : Nat → Array Bool → Act → Heap → Prop
  | 0, l, a, L => Region.ready md ops l = [] ∧ Q a L
  | f + 1, l, a, L => (Region.ready md ops l = [] → Q a L) ∧ ∀ i ∈ Region.ready md ops l, KOp P ops i (KAny P md ops Q f (l.setIfInBounds i true)) a L
theorem KOp.mono {i : Nat} {a : Act} {L : Heap} {K K' : Act → Heap → Prop} (h : ∀ a L, K a L → K' a L) (hh : KOp P ops i K a L) : KOp P ops i K' a L := by
  unfold KOp at *
  split
  · exact h _ _ (by simpa [*] using hh)
  · rename_i o ho
    simp only [ho] at hh
    split
    · rename_i hw; rw [if_pos hw] at hh; exact hh.mono fun v L' => h _ _
    · rename_i hw; rw [if_neg hw] at hh; exact h _ _ hh
theorem KAny.sound {Q : Act → Heap → Prop} : ∀ (f t : Nat) (l : Array Bool) (a : Act) (L : Heap), KAny P md ops Q f l a L → KOps P ops Q (Region.linearise.go md ops f t l []) a L := by
  intro f
  induction f with
  | zero => intro t l a L h; simpa [Region.linearise.go, KOps] using h.2
  | succ f ih =>
    intro t l a L h
    obtain ⟨h₀, h₁⟩ := h
    simp only [Region.linearise.go]
    change KOps P ops Q (match (Region.ready md ops l)[t % (Region.ready md ops l).length]? with
      | some i => Region.linearise.go md ops f (t / (Region.ready md ops l).length) (l.setIfInBounds i true) [i]
      | none => [].reverse) a L
    cases hi : (Region.ready md ops l)[t % (Region.ready md ops l).length]? with
    | none =>
      have hnil : Region.ready md ops l = [] := by
        cases hr : Region.ready md ops l with
        | nil => rfl
        | cons x xs =>
          rw [hr] at hi
          have hlt : t % (x :: xs).length < (x :: xs).length := Nat.mod_lt _ (by simp)
          simp at hi
          simp at hlt
          omega
      simpa [KOps] using h₀ hnil
    | some i =>
      simp only []
      rw [linearise_go_acc, List.reverse_singleton, List.singleton_append]
      exact KOp.mono (fun a L => ih _ _ a L) (h₁ i (List.mem_of_getElem? hi))
theorem kops_lo {Q : Act → Heap → Prop} : ∀ (is : List Nat) (a : Act) (L : Heap), KOps P ops Q is a L → ∀ (main : Bool) (Φ : Goroutine → Heap → Prop) (b : Frame) (k : List Item) (cs : List Frame), b.kind ≠ .early →
    (∀ a' L', Q a' L' → a'.defers = a.defers → Lo P main Φ (Conc.G (b.at a' k) cs) L') → Lo P main Φ (Conc.G (b.at a (.inRegion ops is :: k)) cs) L
  | [], a, L, h, main, Φ, b, k, cs, hb, hc => .ctl rfl rfl (fun w => Conc.stepG_region_end) (hc a L h rfl)
  | i :: is, a, L, h, main, Φ, b, k, cs, hb, hc => by
    have hd : ∀ (d : Option Nat) v, (a.put d v).defers = a.defers := fun d v => by cases d <;> rfl
    simp only [KOps, KOp] at h
    split at h
    · rename_i ho
      refine .ctl (g' := Conc.G (b.at a (.inRegion ops is :: k)) cs) rfl rfl (fun w => ?_) (kops_lo is a L h main Φ b k cs hb hc)
      have hf : (b.at a (.inRegion ops (i :: is) :: k)).finish undef = b.at a (.inRegion ops is :: k) := by rw [Frame.finish_at, ho]; rfl
      rw [← hf]
      simp [Conc.G, stepG, stepG.exec, Frame.at, ho]
    · rename_i o ho
      split at h
      · rename_i hw
        cases h with
        | plain h2 =>
          refine .own (fun g' L' => ∃ v, g' = Conc.G (b.at (a.put o.dst v) (.inRegion ops is :: k)) cs ∧ KOps P ops Q is (a.put o.dst v) L') rfl (fun kk w hs => ?_) ?_
          · obtain ⟨nx, v, w', L', e1, e2, e3, e4, e5⟩ := h2 kk w hs
            refine ⟨_, w', _, L', ?_, rfl, e3.seen (P := P) (fn := b.fn), noX_seen, e4, v, rfl, e5⟩
            rcases e2 with rfl | ⟨rfl, rfl⟩
            · exact Conc.stepG_value ho hw hb e1
            · exact Conc.stepG_none ho hw hb e1
          · rintro g' L' ⟨v, rfl, h3⟩
            exact kops_lo is _ L' h3 main Φ b k cs hb (by rw [hd]; exact hc)
        | call f args h2 h3 =>
          refine .own (fun g' L' => g' = Conc.G (Frame.enter P f ⟨args⟩ .normal) (b.at a (.inRegion ops (i :: is) :: k) :: cs) ∧ L' = L) rfl (fun kk w hs => ?_) ?_
          · obtain ⟨e1, e2⟩ := h2 kk w hs
            exact ⟨_, w, _, L, Conc.stepG_enter ho hw hb e1, rfl, e2.seen (P := P) (fn := b.fn), noX_seen, hs, rfl, rfl⟩
          · rintro _ _ ⟨rfl, rfl⟩
            refine h3.2 main Φ _ cs fun v L' e6 => ?_
            rw [Frame.finish_at, ho]
            exact kops_lo is (a.put o.dst v) L' e6 main Φ b k cs hb (by rw [hd]; exact hc)
        | raw h2 =>
          refine h2 main Φ b k cs a ops i is o rfl rfl ho hw hb fun v L' e6 => ?_
          exact kops_lo is (a.put o.dst v) L' e6 main Φ b k cs hb (by rw [hd]; exact hc)
      · rename_i hw
        refine .ctl rfl rfl (fun w => Conc.stepG_unwanted ho (by simpa using hw)) ?_
        exact kops_lo is _ L h main Φ b k cs hb (by rw [hd]; exact hc)
theorem stepG_drawn {main : Bool} {b : Frame} {a : Act} {k : List Item} {cs : List Frame} {w : World} {id : Nat} :
    stepG P main (Conc.G (b.at a (.code (.region id ops true) :: k)) cs) w = .go (Conc.G (b.at a (.inRegion ops (Region.schedule (P.follows .mixedOrders) ops (w.tape w.drawn (.order b.fn id))) :: k)) cs) w.drew #[] := by
  simp [Conc.G, stepG, stepG.exec, Frame.at, choose, Sem.run, Question.forced, Question.cut]
/-- a region that draws its order -/
theorem hw_any {n id : Nat} {Q : Exit → Env → Heap → Prop} {ρ : Env} {L : Heap} (hm : P.follows .mixedOrders = true) (h : ∀ a, Agr n a ρ → KAny P .any ops (fun a' L' => ∃ ρ' L2, Agr n a' ρ' ∧ Wk L' L2 ∧ Q .normal ρ' L2) ops.size (Array.replicate ops.size false) a L) :
    HW P n (.region id ops true) Q ρ L := fun main Φ b k cs a hb hc ha => by
  refine .own (fun g' L' => ∃ t, g' = Conc.G (b.at a (.inRegion ops (Region.linearise .any ops t) :: k)) cs ∧ L' = L) rfl (fun kk w hs => ?_) ?_
  · refine ⟨_, w.drew, #[], L, stepG_drawn, rfl, ⟨Nat.le_refl _, fun _ _ _ => rfl, .refl _ _, fun e he => by simp at he⟩, noX_nil, ⟨hs.os, hs.out, hs.tape, hs.has, hs.nodup, hs.nv, hs.lt⟩, w.tape w.drawn (.order b.fn id), ?_, rfl⟩
    simp only [Region.schedule, hm, Bool.true_or, if_true]
  · rintro _ _ ⟨t, rfl, rfl⟩
    exact kops_lo _ a _ (KAny.sound _ t _ a _ (h a ha)) main Φ b k cs hb fun a' L2 ⟨ρ', L3, h1, h2, h3⟩ hd => .weak h2 (hc _ _ _ h3 a' hd h1)
end any

section draw
variable {P : Program} {n : Nat} {ops : List Oper} {K : Env → Prop} {rest : List Oper} {o : Oper} {ρ : Env} {L : Heap}

/-! ### operations that leave the blocks: the text's order serves every order -/
def Qt (P : Program) (o : Oper) (a : Act) (L : Heap) (v : Value) : Prop := OpW P o a.eval L (fun u L' => u = v ∧ L' = L)
def kQuiet (P : Program) (ops : Array Oper) (L : Heap) (Q : Act → Prop) : List Oper → Act → Prop
  | [], a => Q a
  | o :: rest, a => if Region.wanted o (yielded ops a.tmps) = true then ∃ v, Qt P o a L v ∧ kQuiet P ops L Q rest (a.put o.dst v) else kQuiet P ops L Q rest (a.put o.dst undef)
def kOp (P : Program) (ops : Array Oper) (L : Heap) (i : Nat) (K : Act → Prop) (a : Act) : Prop :=
  match ops[i]? with
  | none => K a
  | some o => if Region.wanted o (yielded ops a.tmps) = true then ∃ v, Qt P o a L v ∧ K (a.put o.dst v) else K (a.put o.dst undef)
theorem kOp_mono {ops : Array Oper} {i : Nat} {a : Act} {K K' : Act → Prop} (h : ∀ a, K a → K' a) (hh : kOp P ops L i K a) : kOp P ops L i K' a := by
  unfold kOp at *
  split
  · exact h _ (by simpa [*] using hh)
  · rename_i o ho
    simp only [ho] at hh
    split
    · rename_i hw; rw [if_pos hw] at hh; obtain ⟨v, h1, h2⟩ := hh; exact ⟨v, h1, h _ h2⟩
    · rename_i hw; rw [if_neg hw] at hh; exact h _ hh
def kAnyQ (P : Program) (md : Region.Mode) (ops : Array Oper) (L : Heap) (Q : Act → Prop) : Nat → Array Bool → Act → Prop
  | 0, l, a => Region.ready md ops l = [] ∧ Q a
  | f + 1, l, a => (Region.ready md ops l = [] → Q a) ∧ ∀ i ∈ Region.ready md ops l, kOp P ops L i (kAnyQ P md ops L Q f (l.setIfInBounds i true)) a
theorem kany_of_quiet {ops : Array Oper} {md : Region.Mode} {Q : Act → Prop} {Q' : Act → Heap → Prop} (hQ : ∀ a, Q a → Q' a L) : ∀ (f : Nat) (l : Array Bool) (a : Act), kAnyQ P md ops L Q f l a → KAny P md ops Q' f l a L
  | 0, _, _, h => ⟨h.1, hQ _ h.2⟩
  | f + 1, l, a, h => ⟨fun h0 => hQ _ (h.1 h0), fun i hi => by
    have h1 := h.2 i hi
    unfold kOp at h1
    unfold KOp
    split
    · rename_i ho; simp only [ho] at h1; exact kany_of_quiet hQ f _ _ h1
    · rename_i o ho
      simp only [ho] at h1
      split
      · rename_i hw
        rw [if_pos hw] at h1
        obtain ⟨v, h2, h3⟩ := h1
        exact OpW.mono h2 fun u L' ⟨e1, e2⟩ => by rw [e1, e2]; exact kany_of_quiet hQ f _ _ h3
      · rename_i hw
        rw [if_neg hw] at h1
        exact kany_of_quiet hQ f _ _ h1⟩
def YieldsK (P : Program) (ops : Array Oper) (L : Heap) (o : Oper) (v : Value) (a : Act) : Prop :=
  (Region.wanted o (yielded ops a.tmps) = true ∧ Qt P o a L v) ∨ (Region.wanted o (yielded ops a.tmps) = false ∧ v = undef)
theorem YieldsK.kOp {ops : Array Oper} {i : Nat} {o : Oper} {v : Value} {a : Act} (hi : ops[i]? = some o) (hy : YieldsK P ops L o v a) {K : Act → Prop} (h : K (a.put o.dst v)) : kOp P ops L i K a := by
  unfold HL.kOp
  simp only [hi]
  rcases hy with ⟨hw, hv⟩ | ⟨hw, rfl⟩
  · rw [if_pos hw]; exact ⟨v, hv, h⟩
  · rw [if_neg (by rw [hw]; simp)]; exact h
theorem YieldsK.of_same {ops : Array Oper} {o : Oper} {v : Value} {a a' : Act} (hy : YieldsK P ops L o v a) (he : execOp a'.eval o = execOp a.eval o)
    (hw : Region.wanted o (yielded ops a'.tmps) = Region.wanted o (yielded ops a.tmps)) : YieldsK P ops L o v a' := by
  unfold YieldsK Qt at *
  rw [hw]
  exact hy.imp (fun h => ⟨h.1, h.2.congr he⟩) _root_.id
theorem yieldsK_of_kOp {ops : Array Oper} {i : Nat} {o : Oper} {a : Act} {K : Act → Prop} (hi : ops[i]? = some o) (h : kOp P ops L i K a) : ∃ v, YieldsK P ops L o v a ∧ K (a.put o.dst v) := by
  unfold kOp at h
  simp only [hi] at h
  by_cases hw : Region.wanted o (yielded ops a.tmps) = true
  · rw [if_pos hw] at h
    obtain ⟨v, h1, h2⟩ := h
    exact ⟨v, .inl ⟨hw, h1⟩, h2⟩
  · rw [if_neg hw] at h
    exact ⟨undef, .inr ⟨by simpa using hw, rfl⟩, h⟩
theorem kOp_put {ops : Array Oper} {j : Nat} {oi oj : Oper} {v : Value} (hj : ops[j]? = some oj) (hap : oi.apart ops oj = true)
    (hsi : ∀ cs b, oi.op ≠ .select cs b) (hsj : ∀ cs b, oj.op ≠ .select cs b) {K : Act → Prop} {a : Act}
    (hy : YieldsK P ops L oi v a) (h : kOp P ops L j K (a.put oi.dst v)) :
    kOp P ops L j (fun a' => YieldsK P ops L oi v a' ∧ K (a'.put oi.dst v)) a := by
  obtain ⟨h1, h2, h3⟩ := Oper.apart_spec hap
  have keep : ∀ (a : Act), YieldsK P ops L oi v a → ∀ u, YieldsK P ops L oi v (a.put oj.dst u) := fun a hy u =>
    hy.of_same (execOp_put oi hsi a oj.dst u h3) (wanted_put oi a oj.dst u h3)
  unfold kOp at *
  simp only [hj] at *
  rw [wanted_put oj a oi.dst v h1] at h
  split
  · rename_i hw
    rw [if_pos hw] at h
    obtain ⟨u, hu, hn⟩ := h
    exact ⟨u, hu.congr (execOp_put oj hsj a oi.dst v h1).symm, keep a hy u, by rw [← Act.put_comm a v u h2]; exact hn⟩
  · rename_i hw
    rw [if_neg hw] at h
    exact ⟨keep a hy _, by rw [← Act.put_comm a v undef h2]; exact h⟩
theorem kAnyQ_first {ops : Array Oper} {md : Region.Mode} {Q : Act → Prop} {i : Nat} {oi : Oper} {v : Value} (hi : ops[i]? = some oi) (hsel : ∀ (j : Nat) (o : Oper) cs b, ops[j]? = some o → o.op ≠ .select cs b) :
    ∀ (f : Nat) (l : Array Bool) (a : Act),
      (∀ j oj, ops[j]? = some oj → j ≠ i → l.getD j true = false → (∀ e ∈ oj.after, Region.binds md e = true → e.on ≠ i) → oi.apart ops oj = true) →
      i ∈ Region.ready md ops l → YieldsK P ops L oi v a →
      kAnyQ P md ops L Q f (l.setIfInBounds i true) (a.put oi.dst v) → kAnyQ P md ops L Q (f + 1) l a := by
  intro f
  induction f with
  | zero =>
    intro l a _ hr hy H
    refine ⟨fun h => (by rw [h] at hr; cases hr), fun j hj => ?_⟩
    by_cases hji : j = i
    · subst hji; exact hy.kOp hi H
    · have := ready_mono hj hji
      rw [H.1] at this
      cases this
  | succ f ih =>
    intro l a hfree hr hy H
    refine ⟨fun h => (by rw [h] at hr; cases hr), fun j hj => ?_⟩
    by_cases hji : j = i
    · subst hji; exact hy.kOp hi H
    · have h1 := H.2 j (ready_mono hj hji)
      obtain ⟨hjun, oj, hoj, hall⟩ := mem_ready.1 hj
      have hnot : ∀ e ∈ oj.after, Region.binds md e = true → e.on ≠ i := fun e he hb heq => by
        have h1 := hall e he hb
        have h0 := (mem_ready.1 hr).1
        rw [heq] at h1
        rcases Nat.lt_or_ge i l.size with h' | h'
        · simp [h'] at h0 h1; rw [h0] at h1; cases h1
        · simp [Array.getElem?_eq_none h'] at h1
      have h2 := kOp_put hoj (hfree j oj hoj hji hjun hnot) (fun cs b => hsel i oi cs b hi) (fun cs b => hsel j oj cs b hoj) hy h1
      have hfree' : ∀ k ok, ops[k]? = some ok → k ≠ i → (l.setIfInBounds j true).getD k true = false →
          (∀ e ∈ ok.after, Region.binds md e = true → e.on ≠ i) → oi.apart ops ok = true := fun k ok hk hki hun hno => by
        refine hfree k ok hk hki ?_ hno
        by_cases hjk : j = k
        · subst hjk; exact hjun
        · rw [getD_set_ne true hjk] at hun; exact hun
      refine kOp_mono (fun a' h3 => ih (l.setIfInBounds j true) a' hfree' (ready_mono hr (Ne.symm hji)) h3.1 ?_) h2
      rw [Array.setIfInBounds_comm _ _ hji]
      exact h3.2
theorem kAnyQ_lex {ops : Array Oper} {md : Region.Mode} {Q : Act → Prop} (hs : Region.noSelect ops = true) : ∀ (l : List Oper) (k : Nat) (listed : Array Bool) (a : Act), (∀ j, l[j]? = ops[k + j]?) →
    Region.lexFrom md ops l.length k listed = true → kQuiet P ops L Q l a → kAnyQ P md ops L Q l.length listed a
  | [], _, _, _, _, hB, h => ⟨by simpa [Region.lexFrom] using hB, h⟩
  | o :: l, k, listed, a, hl, hB, h => by
    have h0 : ops[k]? = some o := by simpa using (hl 0).symm
    simp only [List.length_cons, Region.lexFrom, Bool.and_eq_true] at hB
    obtain ⟨⟨hr, hf⟩, hB'⟩ := hB
    have hst : kOp P ops L k (kQuiet P ops L Q l) a := by unfold kOp; simp only [h0]; exact h
    obtain ⟨v, hy, hK⟩ := yieldsK_of_kOp h0 hst
    exact kAnyQ_first h0 (Region.noSelect_spec hs) l.length listed a (Region.free_spec h0 hf) (by simpa using hr) hy
      (kAnyQ_lex hs l (k + 1) _ _ (fun j => by have := hl (j + 1); simpa [Nat.add_assoc, Nat.add_comm 1 j] using this) hB' hK)

/-- the operations in the text's order, each of them quiet -/
def HQ (P : Program) (n : Nat) (ops : List Oper) (K : Env → Prop) (l : List Oper) (ρ : Env) (L : Heap) : Prop :=
  ∀ a, Agr n a ρ → kQuiet P ops.toArray L (fun a' => ∃ ρ', Agr n a' ρ' ∧ K ρ') l a
theorem hq_nil (h : K ρ) : HQ P n ops K [] ρ L := fun a ha => ⟨ρ, ha, h⟩
theorem hq_on {v : Value} {d : Nat} (hd : o.dst = some d) (hn : Nat.blt d n = true) (hw : ∀ a : Act, Agr n a ρ → Region.wanted o (yielded ops.toArray a.tmps) = true) (h : QOp P o ρ L v) (hr : HQ P n ops K rest ((d, v) :: ρ) L) : HQ P n ops K (o :: rest) ρ L := by
  intro a ha
  unfold kQuiet
  rw [if_pos (hw a ha)]
  exact ⟨v, h a.eval fun x _ u hu => ha.ev hu, by rw [hd]; exact hr _ (ha.put (Nat.le_of_ble_eq_true hn) v)⟩
theorem hq_off {d : Nat} (hd : o.dst = some d) (hn : Nat.blt d n = true) (hw : ∀ a : Act, Agr n a ρ → Region.wanted o (yielded ops.toArray a.tmps) = false) (hr : HQ P n ops K rest ((d, undef) :: ρ) L) : HQ P n ops K (o :: rest) ρ L := by
  intro a ha
  unfold kQuiet
  rw [if_neg (by rw [hw a ha]; simp)]
  rw [hd]; exact hr _ (ha.put (Nat.le_of_ble_eq_true hn) undef)
theorem hq_q {v : Value} {d : Nat} {op : Op} {ty : TypeId} {pos : String} {af : Array Edge} (hn : Nat.blt d n = true) (h : QOp P ⟨some d, op, ty, pos, af, none⟩ ρ L v) (hr : HQ P n ops K rest ((d, v) :: ρ) L) :
    HQ P n ops K (⟨some d, op, ty, pos, af, none⟩ :: rest) ρ L := hq_on rfl hn (fun a _ => wanted_none _ rfl _) h hr
theorem hq_want {v : Value} {d j t : Nat} {wt : Bool} {op : Op} {ty : TypeId} {pos : String} {af : Array Edge} (hn : Nat.blt d n = true) (hj : gdst ops j = some t) (ht : lk ρ t = some (.bool wt)) (h : QOp P ⟨some d, op, ty, pos, af, some (j, wt)⟩ ρ L v)
    (hr : HQ P n ops K rest ((d, v) :: ρ) L) : HQ P n ops K (⟨some d, op, ty, pos, af, some (j, wt)⟩ :: rest) ρ L := hq_on rfl hn (fun a ha => by rw [wanted_guard ha rfl hj ht]; simp) h hr
theorem hq_skip {d j t : Nat} {wt b : Bool} {op : Op} {ty : TypeId} {pos : String} {af : Array Edge} (hn : Nat.blt d n = true) (hj : gdst ops j = some t) (ht : lk ρ t = some (.bool b)) (hb : (!wt) = b)
    (hr : HQ P n ops K rest ((d, undef) :: ρ) L) : HQ P n ops K (⟨some d, op, ty, pos, af, some (j, wt)⟩ :: rest) ρ L := by
  subst hb
  exact hq_off rfl hn (fun a ha => by rw [wanted_guard ha rfl hj ht]; cases wt <;> simp) hr
theorem hq_splitb {l : List Oper} (t : Nat) {b : Bool} (ht : lk ρ t = some (.bool b)) (h1 : b = true → HQ P n ops K l ((t, .bool true) :: ρ) L) (h0 : b = false → HQ P n ops K l ((t, .bool false) :: ρ) L) : HQ P n ops K l ρ L := by
  intro a ha
  cases hb : b with
  | true => exact h1 hb a (ha.name ht hb)
  | false => exact h0 hb a (ha.name ht hb)
theorem hq_skipu {d j t : Nat} {wt : Bool} {v : Value} {op : Op} {ty : TypeId} {pos : String} {af : Array Edge} (hj : gdst ops j = some t) (ht : lk ρ t = some v) (hb : v = undef) (hn : Nat.blt d n = true)
    (hr : HQ P n ops K rest ((d, undef) :: ρ) L) : HQ P n ops K (⟨some d, op, ty, pos, af, some (j, wt)⟩ :: rest) ρ L := by
  subst hb
  refine hq_off rfl hn (fun a ha => ?_) hr
  unfold gdst at hj
  simp [Region.wanted, yielded, hj, ha.get _ _ ht, undef]
theorem hq_gsplit {d j t : Nat} {wt : Bool} {op : Op} {ty : TypeId} {pos : String} {af : Array Edge} {b : Bool} (hj : gdst ops j = some t) (ht : lk ρ t = some (.bool b))
    (h1 : b = true → HQ P n ops K (⟨some d, op, ty, pos, af, some (j, wt)⟩ :: rest) ((t, .bool true) :: ρ) L) (h0 : b = false → HQ P n ops K (⟨some d, op, ty, pos, af, some (j, wt)⟩ :: rest) ((t, .bool false) :: ρ) L) :
    HQ P n ops K (⟨some d, op, ty, pos, af, some (j, wt)⟩ :: rest) ρ L := hq_splitb t ht h1 h0
/-- a region that draws its order: all of it only reads -/
theorem hw_quiet {id : Nat} {Q : Exit → Env → Heap → Prop} (S : Tab P) (hB : Region.lexB .any ops.toArray = true) (h : HQ P n ops (fun ρ' => Q .normal ρ' L) ops ρ L) : HW P n (.region id ops.toArray true) Q ρ L := by
  simp only [Region.lexB, Bool.and_eq_true] at hB
  refine hw_any S.mixed fun a ha => kany_of_quiet (Q := fun a' => ∃ ρ', Agr n a' ρ' ∧ Q .normal ρ' L) (fun a' ⟨ρ', h1, h2⟩ => ⟨ρ', L, h1, .refl L, h2⟩) _ _ _ ?_
  have := kAnyQ_lex (L := L) (P := P) (md := .any) hB.1 ops 0 (Array.replicate ops.toArray.size false) a (by simp) (by simpa using hB.2) (h a ha)
  simpa using this
end draw
end Go.HL
end

/-! QHLApp -/
section
namespace Go.HL
set_option linter.unusedSectionVars false
variable [Tasks]
open Go
set_option linter.unusedVariables false
set_option linter.unusedSimpArgs false

/-- a slice of one's own: nil, or at the head of a block of its own -/
def Own (E sz : Nat) (v : Value) (n : Nat) (cs : List Value) (c : List Blk) : Prop :=
  (v = nilS ∧ n = 0 ∧ cs = [] ∧ c = []) ∨
  ∃ b cap sp, v = sl b 0 n cap ∧ c = [(b, .cells ⟨cs ++ sp⟩ E)] ∧ cs.length = n * sz ∧ n ≤ cap ∧ (cs ++ sp).length = cap * sz
theorem own_nil {E sz : Nat} : Own E sz nilS 0 [] [] := .inl ⟨rfl, rfl, rfl, rfl⟩
/-- a slice that is read: n elements, the cells new -/
def Src (sz : Nat) (L : Heap) (u : Value) (n : Nat) (new : List Value) : Prop :=
  (∃ a cap, u = .slice a 0 cap ∧ n = 0 ∧ new = []) ∨ ∃ b i cap l F fr, 0 < n ∧ u = sl b i n cap ∧ Has L b (.cells ⟨l⟩ F fr) ∧ Gets l i new ∧ new.length = n * sz
theorem src_one {sz b i cap F : Nat} {L : Heap} {l new : List Value} {fr : Nat × Nat} (hb : Has L b (.cells ⟨l⟩ F fr)) (hg : Gets l i new) (hl : new.length = sz) : Src sz L (sl b i 1 cap) 1 new :=
  .inr ⟨b, i, cap, l, F, fr, by omega, rfl, hb, hg, by omega⟩

theorem zeroCells_list (zs : List Value) (n : Nat) : ∃ sp : List Value, Builtin.zeroCells ⟨zs⟩ n = ⟨sp⟩ ∧ sp.length = n * zs.length := by
  refine ⟨(Builtin.zeroCells ⟨zs⟩ n).toList, rfl, ?_⟩
  rw [Array.length_toList, size_zeroCells]
  rfl
theorem take_left {a b : List Value} {n : Nat} (h : a.length = n) : (a ++ b).take n = a := by subst h; simp

section app
variable {P : Program} (S : Tab P) {n : Nat} {ops : List Oper} {Q : Exit → Env → Heap → Prop} {rest : List Oper} {ρ : Env} {L : Heap} {ty : TypeId} {pos : String} {af : Array Edge}

theorem grownCap_ge (w : World) (need old e : Nat) : need ≤ grownCap w need old e := Nat.le_add_right _ _

theorem pl_lenOf (v : Value) {B W : Nat → Prop} {N : Nat} : Plo P B W N (Builtin.lenOf v) := by unfold Builtin.lenOf; split <;> exact trivial
theorem pl_firstCells (s n : Nat) (v : Value) {B W : Nat → Prop} {N : Nat} : Plo P B W N (Builtin.firstCells s n v) := by unfold Builtin.firstCells; split <;> first | exact trivial | exact pl_loadCells _ _
theorem Halts.of_bind {α β : Type} {x : Sem α} {f : α → Sem β} (hf : ∀ a, Halts P (f a)) : Halts P (x >>= f) := fun w => by
  cases hx : x.run P w with
  | ok a w' =>
    obtain ⟨h, w2, h2⟩ := hf a w'
    exact ⟨h, w2, by simp [hx, h2]⟩
  | halt h w' => exact ⟨h, w', by simp [hx]⟩
theorem halts_unsup {α : Type} (u : Unsupported) : Halts P (unsupported u : Sem α) := fun w => ⟨_, _, rfl⟩
theorem pl_share {α : Type} {x : Sem Bool} {u : Unsupported} {B W : Nat → Prop} {N : Nat} : Plo P B W N (x >>= fun b => if (!b) = true then (mark .noRoom >>= fun _ => (unsupported u : Sem α)) else unsupported u) :=
  pl_of_halts (Halts.of_bind fun b => by
    split
    · exact Halts.of_bind fun _ => halts_unsup _
    · exact halts_unsup _)
theorem add_w {a : Addr} {x y k : Nat} {W : Nat → Prop} {N : Nat} (h : ∀ (a' : Addr) (n c : Nat), Value.slice (some a) x y = .slice (some a') n c → W a'.block ∨ N ≤ a'.block) : W (a.add k).block ∨ N ≤ (a.add k).block := by
  have := h a x y rfl
  unfold Addr.add
  split <;> exact this
theorem pl_append {t ty : TypeId} {v u : Value} {B W : Nat → Prop} {N : Nat} (hv : ∀ a n c, v = .slice (some a) n c → W a.block ∨ N ≤ a.block) : Plo P B W N (Builtin.append_ #[t, t] ty #[v, u]) := by
  unfold Builtin.append_
  simp only [List.getElem?_toArray, List.getElem?_cons_zero, List.getElem?_cons_succ]
  repeat' first | (with_reducible first | exact pl_lenOf _ | exact pl_firstCells _ _ _ | exact pl_storeCells (add_w hv) _ _ | exact pl_share) | (with_reducible first | assumption | exact pl_pure _ | exact pl_stuck _ | exact pl_unsup _ | exact pl_halt _ | exact pl_program | exact Zd _ | exact pl_sizeOf _ | exact pl_typeInfo _ | exact pl_zeroValue _ | exact pl_isAgg _ | exact pl_load _ _ | exact pl_loadVar _ _ | exact pl_loadCells _ _ | exact pl_getObj _ | exact pl_newRow _ _ | exact pl_newVar _ _ | exact pl_newObj rfl | exact pl_choose _ | exact pl_askRoom _ | exact pl_runtimePanic _ | exact pl_goPanic _ | exact pl_boundsPanic _ _ _ _ | exact pl_asIntOf _ | exact pl_asInt _ | exact pl_asBool _ | exact pl_asString _ | exact pl_asAgg _ | exact pl_asAddr _ | exact pl_part _ _ _ | exact pl_elemOf _ | refine Plo.bind ?_ (fun _ => ?_) | refine Plo.ite ?_ ?_) | split | dsimp only

theorem o_append {d t E y0 s0 b0 k1 x1 y1 sz by1 m nn : Nat} {z v u : Value} {zs cs new : List Value} {c : List Blk} {x y : Operand}
    (hx : ev ρ x = some v) (hy : ev ρ y = some u) (ht : lkN S.ty t = some ⟨5, E, y0, s0, b0⟩) (he : lkN S.ty E = some ⟨k1, x1, y1, sz, by1⟩) (hz : lkN S.zr E = some z) (hzs : z.cells = ⟨zs⟩) (hzl : zs.length = sz)
    (hn : Nat.blt d n = true) (ho : Own E sz v nn cs c) (hs : Src sz (c :: L) u m new) (h1 : (new.all Value.oneCell') = true) (hby : (nn + m) * by1 ≤ 140737488355328) (hmax : nn + m ≤ 9223372036854775807)
    (h : ∀ v' c', Own E sz v' (nn + m) (cs ++ new) c' → HO P n ops Q rest ((d, v') :: ρ) (c' :: L)) :
    HO P n ops Q (⟨some d, .call { callee := .builtin .append, args := #[x, y], argTypes := #[t, t] }, ty, pos, af, none⟩ :: rest) ρ (c :: L) := by
  refine ho_run rfl rfl hn (fun ρe he' k w hsat => ?_) (fun ρe he' N => ?_)
  case refine_2 =>
    have e1 := he' x (by simp [Op.operands, Call.operands]) _ hx
    have e2 := he' y (by simp [Op.operands, Call.operands]) _ hy
    simp only [execOp, resolve, List.map_toArray, List.map_cons, List.map_nil, e1, e2]
    refine (Plo.bind (pl_append ?_) fun _ => trivial : Plo P _ _ _ (Builtin.append_ #[t, t] ty #[v, u] >>= fun v => pure (Next.value v)))
    rintro a n c' rfl
    rcases ho with ⟨h1, -, -, -⟩ | ⟨b, cap, sp, h1, rfl, -⟩
    · cases h1
    · cases h1; exact .inl ⟨_, List.mem_append_left _ (.head _), rfl⟩
  have hdesc := ty_slice (S.tyI ht) rfl
  obtain ⟨de, i, hde, hi, -, hisz, hiby⟩ := ty_desc (S.tyI he)
  simp only at hisz hiby
  have hiz : i.zero = some z := by
    have := S.zeroI hz
    unfold zeroI at this
    simpa [hi] using this
  have hsize : (sizeOf E).run P w = .ok sz w := ty_size (S.tyI he) w
  have hone : ∀ u ∈ new, u.oneCell' = true := fun u hu => List.all_eq_true.1 h1 u hu
  have e1 := he' x (by simp [Op.operands, Call.operands]) _ hx
  have e2 := he' y (by simp [Op.operands, Call.operands]) _ hy
  suffices ∃ v' w' c', (Builtin.append_ #[t, t] ty #[v, u]).run P w = .ok v' w' ∧ Nx k w (c :: L) w' (c' :: L) ∧ Own E sz v' (nn + m) (cs ++ new) c' by
    obtain ⟨v', w', c', hr, hs', ho'⟩ := this
    refine ⟨v', w', c' :: L, ?_, hs', h v' c' ho'⟩
    simp [execOp, resolve, invoke, builtin, e1, e2, hr]
  have hdrop : Sat k w L := hsat.sub (.cons _ (.refl _))
  rcases hs with ⟨a, cap, rfl, rfl, rfl⟩ | ⟨b, j, cap, l, F, fr, hm, rfl, hb, hg, hlen⟩
  · -- nothing comes
    rcases ho with ⟨rfl, rfl, rfl, rfl⟩ | ⟨b', cap', sp, rfl, rfl, hcs, hle, hall⟩
    · refine ⟨nilS, w, [], ?_, hsat.id, .inl ⟨rfl, rfl, rfl, rfl⟩⟩
      cases a <;> simp [Builtin.append_, run_underlying hdesc, hsize, Builtin.lenOf, Builtin.firstCells, loadCells, loadCellsFrom]
    · refine ⟨sl b' 0 nn cap', w, [(b', .cells ⟨cs ++ sp⟩ E)], ?_, hsat.id, .inr ⟨b', cap', sp, by simp, by simp, by simp [hcs], by omega, by simpa using hall⟩⟩
      cases a <;> simp [Builtin.append_, run_underlying hdesc, hsize, Builtin.lenOf, Builtin.firstCells, loadCells, loadCellsFrom, hle, storeCells]
  · have hnews : ∀ (q : Nat) (v : Value), new[q]? = some v → w.cell? ((Addr.mk b j none).add q) = some v := fun q v hq => by
      rw [addr_add, hsat.cell hb]; exact hg q v hq
    rcases ho with ⟨rfl, rfl, rfl, rfl⟩ | ⟨b', cap', sp, rfl, rfl, hcs, hle, hall⟩
    · have hr := run_append_nil (P := P) w t ty E i z hdesc hi hiz ⟨b, j, none⟩ m cap new (by rw [hisz]; exact hlen) hnews hm (by omega) (by rw [hiby]; simp at hby; omega)
      obtain ⟨sp, hsp, hspl⟩ := zeroCells_list zs (grownCap w m 0 E - m)
      rw [hzs, hsp] at hr
      have hcap := grownCap_ge w m 0 E
      refine ⟨_, _, [(w.heap.size, .cells ⟨new ++ sp⟩ E)], by simpa using hr, ?_, .inr ⟨w.heap.size, grownCap w m 0 E, sp, by simp, by simp, by simpa using hlen, by omega, ?_⟩⟩
      · have := ((hdrop.drew).new (.cells ⟨new ++ sp⟩ E)).base (w := w) (L := [] :: L) Wk.tl
        simpa using this
      · simp only [List.nil_append, List.length_append, hspl, hlen, hzl]
        rw [Nat.sub_mul]
        have : m * sz ≤ grownCap w m 0 E * sz := Nat.mul_le_mul_right _ hcap
        omega
    · have hb' : w.heap[b']? = some (.cells ⟨cs ++ sp⟩ E) := hsat.heap has_here
      by_cases hroom : nn + m ≤ cap'
      · have hsplit : nn * sz + new.length ≤ (cs ++ sp).length := by
          rw [hlen, hall, ← Nat.add_mul]
          exact Nat.mul_le_mul_right _ hroom
        have hr := run_append_room (P := P) w t ty E i hdesc hi b' nn cap' ⟨cs ++ sp⟩ hb' ⟨b, j, none⟩ m cap new (by rw [hisz]; exact hlen) hnews hone hroom (by rw [hisz]; simpa using hsplit)
        rw [hisz] at hr
        have e3 : (cs ++ sp).take (nn * sz) ++ new ++ (cs ++ sp).drop (nn * sz + new.length) = (cs ++ new) ++ sp.drop new.length := by
          rw [take_left hcs, ← hcs, List.drop_append, List.drop_of_length_le (by omega)]
          simp
        simp only [] at hr
        rw [e3] at hr
        refine ⟨_, _, [(b', .cells ⟨(cs ++ new) ++ sp.drop new.length⟩ E)], hr, ?_, .inr ⟨b', cap', sp.drop new.length, rfl, rfl, by simp [hcs, hlen, Nat.add_mul], hroom, ?_⟩⟩
        · refine hsat.upd (o := .cells ⟨cs ++ sp⟩ E) (o' := .cells ⟨(cs ++ new) ++ sp.drop new.length⟩ E) upd_here rfl rfl rfl (setRow_heap w b' _ _ E _ hb') (fun q hq => ?_)
          simp only [World.setRow, Array.getElem?_modify]
          rw [if_neg (fun e => hq e.symm)]
        · simp only [List.length_append, List.length_drop] at hall hsplit ⊢
          omega
      · have hfit : Builtin.nextslicecap (nn + m) cap' * i.bytes ≤ 281474976710656 := by
          rw [hiby]; exact growslice_fits (by omega) hby
        have holds : ∀ (q : Nat) (v : Value), cs[q]? = some v → w.cell? ((Addr.mk b' 0 none).add q) = some v := fun q v hq => by
          rw [addr_add, hsat.cell has_here, Nat.zero_add]
          rw [List.getElem?_append_left (List.getElem?_eq_some_iff.1 hq).1]; exact hq
        have hr := run_append_grow (P := P) w t ty E i z hdesc hi hiz ⟨b', 0, none⟩ nn cap' cs (by rw [hisz]; exact hcs) holds ⟨b, j, none⟩ m cap new (by rw [hisz]; exact hlen) hnews (by omega) (by omega) hfit
        obtain ⟨sp', hsp, hspl⟩ := zeroCells_list zs (grownCap w (nn + m) cap' E - (nn + m))
        rw [hzs, hsp] at hr
        have hcap := grownCap_ge w (nn + m) cap' E
        refine ⟨sl w.heap.size 0 (nn + m) (grownCap w (nn + m) cap' E), w.drew.alloc (.cells ⟨(cs ++ new) ++ sp'⟩ E), [(w.heap.size, .cells ⟨(cs ++ new) ++ sp'⟩ E)], ?_, ?_, .inr ⟨w.heap.size, grownCap w (nn + m) cap' E, sp', rfl, rfl, by simp [hcs, hlen, Nat.add_mul], hcap, ?_⟩⟩
        · rw [hr]; simp
        · exact ((hdrop.drew).new (.cells ⟨(cs ++ new) ++ sp'⟩ E)).base Wk.tl
        · simp only [List.length_append, hspl, hlen, hcs, hzl]
          rw [← Nat.add_mul, Nat.sub_mul]
          have : (nn + m) * sz ≤ grownCap w (nn + m) cap' E * sz := Nat.mul_le_mul_right _ hcap
          omega
/-- the parts of a literal, in order -/
def evIx (ρ : Env) : Nat → List (Nat × Operand) → Option (List Value)
  | _, [] => some []
  | k, (i, x) :: r => bif Nat.beq i k then (match ev ρ x, evIx ρ (k + 1) r with
    | some v, some vs => some (v :: vs)
    | _, _ => none) else none
theorem fill_row {ρe : Operand → Value} : ∀ (parts : List (Nat × Operand)) (k : Nat) (vals pre zs : List Value), (∀ p ∈ parts, ∀ u, ev ρ p.2 = some u → ρe p.2 = u) → evIx ρ k parts = some vals → pre.length = k → zs.length = vals.length →
    (vals.all Value.oneCell') = true → Instr.fill (fun i => some (i, 1)) ⟨pre ++ zs⟩ (parts.map fun p => (p.1, ρe p.2)) = some ⟨pre ++ vals⟩
  | [], k, vals, pre, zs, _, h, _, hz, _ => by
    simp [evIx] at h; subst h
    have : zs = [] := by simpa using hz
    subst this
    simp [Instr.fill]
  | (i, x) :: r, k, vals, pre, zs, he, h, hp, hz, h1 => by
    simp only [evIx] at h
    cases hb : Nat.beq i k with
    | false => rw [hb] at h; cases h
    | true =>
      rw [hb] at h
      have hik := Nat.eq_of_beq_eq_true hb
      subst hik
      cases hx : ev ρ x with
      | none => simp [hx] at h
      | some v =>
        cases hr : evIx ρ (i + 1) r with
        | none => simp [hx, hr] at h
        | some vs =>
          simp [hx, hr] at h
          subst h
          match zs, hz with
          | z :: zs, hz =>
            simp only [List.all_cons, Bool.and_eq_true] at h1
            have hev := he (i, x) (by simp) v hx
            have hc : v.cells = #[v] := by cases v <;> first | rfl | (simp [Value.oneCell'] at h1)
            have ih := fill_row r (i + 1) vs (pre ++ [v]) zs (fun p hp => he p (by simp [hp])) hr (by simp [hp]) (by simpa using hz) h1.2
            simp only [List.map_cons, Instr.fill, hev, hc]
            simp only [List.append_assoc, List.cons_append, List.nil_append] at ih
            have e : (Array.mk (pre ++ z :: zs)).setIfInBounds i v = ⟨pre ++ v :: zs⟩ := by
              apply Array.toList_inj.1
              simp [List.set_append, hp]
            simp [hp, e, ih]
theorem o_buildSlice1 {d t E y0 s0 b0 k1 x1 y1 by1 len : Nat} {z : Value} {zv : Value} {vals : List Value} {parts : Array (Nat × Operand)} (ht : lkN S.ty t = some ⟨5, E, y0, s0, b0⟩) (he : lkN S.ty E = some ⟨k1, x1, y1, 1, by1⟩) (hz : lkN S.zr E = some z) (hzs : z.cells = ⟨[zv]⟩)
    (hp : evIx ρ 0 parts.toList = some vals) (hlen : vals.length = len) (hsm : Nat.ble len 16777216 = true) (h1 : (vals.all Value.oneCell') = true) (hn : Nat.blt d n = true)
    (h : ∀ b, HO P n ops Q rest ((d, sl b 0 len len) :: ρ) ([(b, .cells ⟨vals⟩ E)] :: L)) : HO P n ops Q (⟨some d, .buildSlice t len parts, ty, pos, af, none⟩ :: rest) ρ L := by
  refine ho_run rfl rfl hn fun ρe he' k w hs => ⟨sl w.heap.size 0 len len, w.alloc (.cells ⟨vals⟩ E), _, ?_, hs.new _, h _⟩
  have hdesc := ty_slice (S.tyI ht) rfl
  have hsize : (sizeOf E).run P w = .ok 1 w := ty_size (S.tyI he) w
  have hzero := zero_run (S.zeroI hz) w
  have hle : len ≤ 16777216 := Nat.le_of_ble_eq_true hsm
  have hparts : ∀ p ∈ parts.toList, ∀ u, ev ρ p.2 = some u → ρe p.2 = u := fun p hp u hu => he' p.2 (by simp [Op.operands]; exact ⟨p.1, by simpa using Array.mem_toList_iff.1 hp⟩) u hu
  have hfill := fill_row (ρ := ρ) parts.toList 0 vals [] (List.replicate len zv) hparts hp rfl (by simp [hlen]) h1
  have hm : (parts.map fun p => (p.1, ρe p.2)).toList = parts.toList.map fun p => (p.1, ρe p.2) := by simp
  have hbs : ∀ pp : Array (Nat × Value), pp.toList = parts.toList.map (fun p => (p.1, ρe p.2)) → (Instr.buildSlice t len pp).run P w = .ok (sl w.heap.size 0 len len) (w.alloc (.cells ⟨vals⟩ E)) := by
    intro pp hpp
    have hl2 : ¬ (16777216 < len) := by omega
    simp only [List.nil_append] at hfill
    by_cases h0 : len = 0
    · subst h0
      have hv : vals = [] := by simpa using hlen
      subst hv
      simp only [List.replicate_zero] at hfill
      have hf2 : Instr.fill (fun i => some (i, 1)) #[] (List.map (fun p => (p.fst, ρe p.snd)) parts.toList) = some ⟨[]⟩ := hfill
      have e0 : Array.range 0 = #[] := rfl
      simp only [Instr.buildSlice]
      simp [run_underlying hdesc, hsize, hpp, e0, hf2, newRow]
    · have harr : Array.map (fun j => (z.cells)[j % z.cells.size]!) (Array.range len) = ⟨List.replicate len zv⟩ := by
        rw [hzs]
        apply Array.toList_inj.1
        simp [List.map_const', Nat.mod_one]
      have hf2 : Instr.fill (fun i => some (i, 1)) (Array.replicate len zv) (List.map (fun p => (p.fst, ρe p.snd)) parts.toList) = some ⟨vals⟩ := by
        have e1 : Array.replicate len zv = ⟨List.replicate len zv⟩ := by simp
        rw [e1]; exact hfill
      simp only [Instr.buildSlice]
      simp [run_underlying hdesc, hsize, hzero, h0, hl2, harr, hpp, hf2, newRow]
  have := hbs (parts.map fun p => (p.1, ρe p.2)) (by simp)
  simp [execOp, this]
/-- a slice of one's own reads as9 its elements -/
theorem gets_row {α : Type} {enc : α → List Value} {sz : Nat} (hsz : ∀ x, (enc x).length = sz) : ∀ (xs : List α) (sp : List Value) (pre : List Value) (k : Nat) (x : α), xs[k]? = some x → Gets (pre ++ (xs.map enc).flatten ++ sp) (pre.length + k * sz) (enc x)
  | [], sp, pre, k, x, h => by simp at h
  | y :: r, sp, pre, 0, x, h => by
    simp at h; subst h
    intro j v hj
    have hlt : j < (enc y).length := (List.getElem?_eq_some_iff.1 hj).1
    simp only [List.map_cons, List.flatten_cons, Nat.zero_mul, Nat.add_zero, List.append_assoc]
    rw [List.getElem?_append_right (by omega), List.getElem?_append_left (by simpa using hlt)]
    simpa using hj
  | y :: r, sp, pre, k + 1, x, h => by
    have := gets_row hsz r sp (pre ++ enc y) k x (by simpa using h)
    simp only [List.map_cons, List.flatten_cons, List.append_assoc, List.length_append, hsz] at this ⊢
    rw [show pre.length + (k + 1) * sz = pre.length + sz + k * sz by rw [Nat.add_mul, Nat.one_mul]; omega]
    exact this
theorem Own.rd {α : Type} {enc : α → List Value} {E sz : Nat} (hsz : ∀ x, (enc x).length = sz) {v : Value} {nn : Nat} {xs : List α} {c : List Blk} (h : Own E sz v nn (xs.map enc).flatten c) (hl : xs.length = nn) :
    ∃ a cap, v = .slice a xs.length cap ∧ Rd enc sz (c :: L) a xs := by
  rcases h with ⟨rfl, h0, hcs, rfl⟩ | ⟨b, cap, sp, rfl, rfl, hcs, hle, hall⟩
  · refine ⟨none, 0, by rw [hl, h0], .inl ?_⟩
    exact List.eq_nil_of_length_eq_zero (by omega)
  · refine ⟨some ⟨b, 0, none⟩, cap, by rw [hl], .inr ⟨b, 0, _, E, (0, 0), rfl, has_here, fun k x hx => ?_⟩⟩
    have := gets_row hsz xs sp [] k x hx
    simpa using this
end app
end Go.HL
end

/-! QHLMore -/
section
namespace Go.HL
set_option linter.unusedSectionVars false
variable [Tasks]
open Go
set_option linter.unusedVariables false
set_option linter.unusedSimpArgs false

/-- where a slice of a slice begins -/
def cut (a : Option Addr) (cap l sz : Nat) : Option Addr := if cap = l then a else a.map (·.add (l * sz))
theorem Rd.drop {α : Type} {enc : α → List Value} {sz : Nat} {L : Heap} {a : Option Addr} {xs : List α} {cap l : Nat} (h : Rd enc sz L a xs) (hc : xs.length ≤ cap) : Rd enc sz L (cut a cap l sz) (xs.drop l) := by
  by_cases hl : xs.length ≤ l
  · exact .inl (List.drop_of_length_le hl)
  · rcases h with h | ⟨b, i, c, E, fr, rfl, hb, hg⟩
    · exact .inl (by simp [h])
    · refine .inr ⟨b, i + l * sz, c, E, fr, ?_, hb, fun k x hx => ?_⟩
      · unfold cut
        rw [if_neg (by omega)]
        simp only [Option.map_some, addr_add]
      · rw [List.getElem?_drop] at hx
        have := hg _ _ hx
        rw [Nat.add_mul, ← Nat.add_assoc] at this
        exact this
theorem Rd.take {α : Type} {enc : α → List Value} {sz : Nat} {L : Heap} {a : Option Addr} {xs : List α} {n : Nat} (h : Rd enc sz L a xs) : Rd enc sz L a (xs.take n) := by
  rcases h with h | ⟨b, i, c, E, fr, rfl, hb, hg⟩
  · exact .inl (by simp [h])
  · refine .inr ⟨b, i, c, E, fr, rfl, hb, fun k x hx => ?_⟩
    rw [List.getElem?_take] at hx
    split at hx
    · exact hg _ _ hx
    · cases hx
theorem elem_of {P : Program} {t e : Nat} (h : P.underlying t = some (.slice e)) : P.elem t = e ∧ P.underlying t = some (.slice (P.elem t)) := by
  have : P.elem t = e := by simp [Program.elem, h]
  exact ⟨this, by rw [this]; exact h⟩
section q
variable {P : Program} (S : Tab P) {ρ : Env} {L : Heap} {d : Option Tmp} {ty : TypeId} {pos : String} {af : Array Edge} {g : Option (Nat × Bool)}
theorem q_sliceLo {t E y0 s0 b0 k1 x1 y1 sz b1 len cap : Nat} {a : Option Addr} {x y : Operand} {k : IntKind} {l : Int} (hx : ev ρ x = some (.slice a len cap)) (hy : ev ρ y = some (.int k l)) (ht : lkN S.ty t = some ⟨5, E, y0, s0, b0⟩)
    (he' : lkN S.ty E = some ⟨k1, x1, y1, sz, b1⟩) (h : 0 ≤ l ∧ l ≤ len) : QOp P ⟨d, .slice t x (some y) none none, ty, pos, af, g⟩ ρ L (.slice (cut a cap l.toNat sz) (len - l.toNat) (cap - l.toNat)) :=
  q_run fun ρe he k w hs => by
    obtain ⟨e1, e2⟩ := elem_of (ty_slice (S.tyI ht) rfl)
    have h2 := ty_size (S.tyI he') w
    simp [execOp, he x (by simp [Op.operands]) _ hx, he y (by simp [Op.operands]) _ hy, run_sliceAt_slice _ _ _ _ _ _ e2, run_slice_l _ _ _ _ _ e2 _ _ h.1 h.2, e1, h2, Result.andThen, sliced, cut]
theorem q_sliceHi {t E y0 s0 b0 k1 x1 y1 sz b1 len cap : Nat} {a : Option Addr} {x y : Operand} {k : IntKind} {l : Int} (hx : ev ρ x = some (.slice a len cap)) (hy : ev ρ y = some (.int k l)) (ht : lkN S.ty t = some ⟨5, E, y0, s0, b0⟩)
    (he' : lkN S.ty E = some ⟨k1, x1, y1, sz, b1⟩) (h : 0 ≤ l ∧ l ≤ cap) : QOp P ⟨d, .slice t x none (some y) none, ty, pos, af, g⟩ ρ L (.slice a l.toNat cap) :=
  q_run fun ρe he k w hs => by
    obtain ⟨e1, e2⟩ := elem_of (ty_slice (S.tyI ht) rfl)
    have h2 := ty_size (S.tyI he') w
    have : (if cap = 0 then a else a.map (·.add (0 * sz))) = a := by
      split
      · rfl
      · cases a <;> simp [Addr.add]
    simp [execOp, he x (by simp [Op.operands]) _ hx, he y (by simp [Op.operands]) _ hy, run_sliceAt_slice _ _ _ _ _ _ e2, run_slice_h _ _ _ _ _ e2 _ _ h.1 h.2, e1, h2, Result.andThen, sliced]
    simpa using this
theorem q_sliceLH {t E y0 s0 b0 k1 x1 y1 sz b1 len cap : Nat} {a : Option Addr} {x y z : Operand} {k k2 : IntKind} {l hh : Int} (hx : ev ρ x = some (.slice a len cap)) (hy : ev ρ y = some (.int k l)) (hz : ev ρ z = some (.int k2 hh)) (ht : lkN S.ty t = some ⟨5, E, y0, s0, b0⟩)
    (he' : lkN S.ty E = some ⟨k1, x1, y1, sz, b1⟩) (h : 0 ≤ l ∧ l ≤ hh ∧ hh ≤ cap) : QOp P ⟨d, .slice t x (some y) (some z) none, ty, pos, af, g⟩ ρ L (.slice (cut a cap l.toNat sz) (hh.toNat - l.toNat) (cap - l.toNat)) :=
  q_run fun ρe he k w hs => by
    obtain ⟨e1, e2⟩ := elem_of (ty_slice (S.tyI ht) rfl)
    have h2 := ty_size (S.tyI he') w
    simp [execOp, he x (by simp [Op.operands]) _ hx, he y (by simp [Op.operands]) _ hy, he z (by simp [Op.operands]) _ hz, run_sliceAt_slice _ _ _ _ _ _ e2, run_slice_lh _ _ _ _ _ e2 _ _ _ _ h.1 h.2.1 h.2.2, e1, h2, Result.andThen, sliced, cut]
end q
end Go.HL
end

/-! QHLEval -/
section
namespace Go.HL
set_option linter.unusedSectionVars false
variable [Tasks]
open Go
set_option linter.unusedVariables false
set_option linter.unusedSimpArgs false

def kEq (k k' : IntKind) : Bool := Nat.beq (kindNo k) (kindNo k')
theorem kEq_eq {k k' : IntKind} (h : kEq k k' = true) : k = k' := by
  have := congrArg kindOf (Nat.eq_of_beq_eq_true h)
  rwa [kindOf_no, kindOf_no] at this

def hiE : IntKind → Int
  | .i8 => 127 | .i16 => 32767 | .i32 => 2147483647 | .i64 => 9223372036854775807 | .u8 => 255 | .u16 => 65535 | .u32 => 4294967295 | .u64 => 18446744073709551615
def loE : IntKind → Int
  | .i8 => -128 | .i16 => -32768 | .i32 => -2147483648 | .i64 => -9223372036854775808 | _ => 0
def wdE : IntKind → Int
  | .i8 => 8 | .i16 => 16 | .i32 => 32 | .i64 => 64 | .u8 => 8 | .u16 => 16 | .u32 => 32 | .u64 => 64
def wdN : IntKind → Nat
  | .i8 => 7 | .i16 => 15 | .i32 => 31 | .i64 => 63 | .u8 => 8 | .u16 => 16 | .u32 => 32 | .u64 => 64
theorem wrap_id {k : IntKind} {n : Int} (h0 : loE k ≤ n) (h1 : n ≤ hiE k) : k.wrap n = n := by
  cases k <;> simp only [loE, hiE] at h0 h1 <;> simp [IntKind.wrap, IntKind.bits, IntKind.signed] <;> (try split) <;> omega
theorem ofInt_nat {k : IntKind} {n : Int} (h0 : 0 ≤ n) (h1 : n ≤ hiE k) : (BitVec.ofInt k.bits n).toNat = n.toNat := by
  rw [BitVec.toNat_ofInt]
  cases k <;> simp only [hiE] at h1 <;> simp only [IntKind.bits] <;> omega
theorem lt_wd {k : IntKind} {n : Int} (h0 : 0 ≤ n) (h1 : n ≤ hiE k) : n.toNat < 2 ^ wdN k := by
  cases k <;> simp only [hiE] at h1 <;> simp only [wdN] <;> omega
theorem le_hi {k : IntKind} {n : Nat} (h : n < 2 ^ wdN k) : (n : Int) ≤ hiE k := by
  cases k <;> simp only [wdN] at h <;> simp only [hiE] <;> omega
theorem lo_le {k : IntKind} {n : Nat} : loE k ≤ (n : Int) := by
  cases k <;> simp only [loE] <;> omega
theorem bits_and {k : IntKind} {a b : Int} (h : 0 ≤ a ∧ a ≤ hiE k ∧ 0 ≤ b ∧ b ≤ hiE k) : k.wrap (BitVec.ofInt k.bits a &&& BitVec.ofInt k.bits b).toNat = ((a.toNat &&& b.toNat : Nat) : Int) := by
  rw [BitVec.toNat_and, ofInt_nat h.1 h.2.1, ofInt_nat h.2.2.1 h.2.2.2]
  exact wrap_id lo_le (le_hi (Nat.lt_of_le_of_lt Nat.and_le_left (lt_wd h.1 h.2.1)))
theorem bits_or {k : IntKind} {a b : Int} (h : 0 ≤ a ∧ a ≤ hiE k ∧ 0 ≤ b ∧ b ≤ hiE k) : k.wrap (BitVec.ofInt k.bits a ||| BitVec.ofInt k.bits b).toNat = ((a.toNat ||| b.toNat : Nat) : Int) := by
  rw [BitVec.toNat_or, ofInt_nat h.1 h.2.1, ofInt_nat h.2.2.1 h.2.2.2]
  exact wrap_id lo_le (le_hi (Nat.or_lt_two_pow (lt_wd h.1 h.2.1) (lt_wd h.2.2.1 h.2.2.2)))
theorem bits_xor {k : IntKind} {a b : Int} (h : 0 ≤ a ∧ a ≤ hiE k ∧ 0 ≤ b ∧ b ≤ hiE k) : k.wrap (BitVec.ofInt k.bits a ^^^ BitVec.ofInt k.bits b).toNat = ((a.toNat ^^^ b.toNat : Nat) : Int) := by
  rw [BitVec.toNat_xor, ofInt_nat h.1 h.2.1, ofInt_nat h.2.2.1 h.2.2.2]
  exact wrap_id lo_le (le_hi (Nat.xor_lt_two_pow (lt_wd h.1 h.2.1) (lt_wd h.2.2.1 h.2.2.2)))
theorem bits_andNot {k : IntKind} {a b : Int} (h : 0 ≤ a ∧ a ≤ hiE k ∧ 0 ≤ b ∧ b ≤ hiE k) : k.wrap (BitVec.ofInt k.bits a &&& ~~~ BitVec.ofInt k.bits b).toNat = ((a.toNat ^^^ (a.toNat &&& b.toNat) : Nat) : Int) := by
  have e : BitVec.ofInt k.bits a &&& ~~~ BitVec.ofInt k.bits b = BitVec.ofInt k.bits a ^^^ (BitVec.ofInt k.bits a &&& BitVec.ofInt k.bits b) := by
    apply BitVec.eq_of_getLsbD_eq
    intro i hi
    simp only [BitVec.getLsbD_and, BitVec.getLsbD_not, BitVec.getLsbD_xor, hi, decide_true, Bool.true_and]
    cases (BitVec.ofInt k.bits a).getLsbD i <;> cases (BitVec.ofInt k.bits b).getLsbD i <;> rfl
  rw [e, BitVec.toNat_xor, BitVec.toNat_and, ofInt_nat h.1 h.2.1, ofInt_nat h.2.2.1 h.2.2.2]
  exact wrap_id lo_le (le_hi (Nat.xor_lt_two_pow (lt_wd h.1 h.2.1) (Nat.lt_of_le_of_lt Nat.and_le_left (lt_wd h.1 h.2.1))))

/-- a number cut to its kind -/
def wrV (k : IntKind) (n : Int) : Value :=
  match k with
  | .u8 => .int .u8 (n % 256)
  | .u16 => .int .u16 (n % 65536)
  | .u32 => .int .u32 (n % 4294967296)
  | .u64 => .int .u64 (n % 18446744073709551616)
  | .i8 => .int .i8 (IntKind.i8.wrap n)
  | .i16 => .int .i16 (IntKind.i16.wrap n)
  | .i32 => .int .i32 (IntKind.i32.wrap n)
  | .i64 => .int .i64 (IntKind.i64.wrap n)
theorem wrV_eq (k : IntKind) (n : Int) : wrV k n = .int k (k.wrap n) := by cases k <;> simp [wrV, IntKind.wrap, IntKind.bits, IntKind.signed]
/-- two integers of one kind -/
def intE (op : BinOp) (k : IntKind) (a b : Int) : Option (Value × Prop) :=
  match op with
  | .lss => some (.bool (decide (a < b)), True)
  | .leq => some (.bool (decide (a ≤ b)), True)
  | .gtr => some (.bool (decide (b < a)), True)
  | .geq => some (.bool (decide (b ≤ a)), True)
  | .eql => some (.bool (decide (a = b)), True)
  | .neq => some (.bool (decide (a ≠ b)), True)
  | .add => bif kEq k .i64 then some (.int .i64 (a + b), -9223372036854775808 ≤ a + b ∧ a + b ≤ 9223372036854775807) else some (wrV k (a + b), True)
  | .sub => bif kEq k .i64 then some (.int .i64 (a - b), -9223372036854775808 ≤ a - b ∧ a - b ≤ 9223372036854775807) else some (wrV k (a - b), True)
  | .mul => bif kEq k .i64 then some (.int .i64 (a * b), -9223372036854775808 ≤ a * b ∧ a * b ≤ 9223372036854775807) else some (wrV k (a * b), True)
  | .quo => bif kEq k .i64 then some (.int .i64 (a / b), 0 ≤ a ∧ a ≤ 9223372036854775807 ∧ 1 ≤ b) else none
  | .rem => bif kEq k .i64 then some (.int .i64 (a % b), 0 ≤ a ∧ a ≤ 9223372036854775807 ∧ 1 ≤ b) else none
  | .and => some (.int k ((a.toNat &&& b.toNat : Nat) : Int), 0 ≤ a ∧ a ≤ hiE k ∧ 0 ≤ b ∧ b ≤ hiE k)
  | .or => some (.int k ((a.toNat ||| b.toNat : Nat) : Int), 0 ≤ a ∧ a ≤ hiE k ∧ 0 ≤ b ∧ b ≤ hiE k)
  | .xor => some (.int k ((a.toNat ^^^ b.toNat : Nat) : Int), 0 ≤ a ∧ a ≤ hiE k ∧ 0 ≤ b ∧ b ≤ hiE k)
  | .andNot => some (.int k ((a.toNat ^^^ (a.toNat &&& b.toNat) : Nat) : Int), 0 ≤ a ∧ a ≤ hiE k ∧ 0 ≤ b ∧ b ≤ hiE k)
  | _ => none
def shE (op : BinOp) (k : IntKind) (a b : Int) : Option (Value × Prop) :=
  match op with
  | .shr => some (.int k (a / 2 ^ b.toNat), 0 ≤ b ∧ b ≤ wdE k)
  | .shl => bif kEq k .i64 then some (.int .i64 (a * 2 ^ b.toNat), 0 ≤ b ∧ b ≤ 64 ∧ -9223372036854775808 ≤ a * 2 ^ b.toNat ∧ a * 2 ^ b.toNat ≤ 9223372036854775807) else some (wrV k (a * 2 ^ b.toNat), 0 ≤ b ∧ b ≤ wdE k)
  | _ => none
def isSh : BinOp → Bool
  | .shr => true
  | .shl => true
  | _ => false
/-- two values -/
def binE (ty : List (Nat × TyI)) (op : BinOp) (t : Nat) (u v : Value) : Option (Value × Prop) :=
  match u, v with
  | .int k a, .int k' b => bif isSh op then shE op k a b else bif kEq k k' then intE op k a b else none
  | .bool a, .bool b => (lkN ty t).bind fun ti => bif Nat.beq ti.kind 1 then (match op with
    | .eql => some (.bool (decide (a = b)), True)
    | .neq => some (.bool (decide (a ≠ b)), True)
    | _ => none) else none
  | .string ⟨⟨a⟩⟩, .string ⟨⟨b⟩⟩ => (match op with
    | .eql => some (.bool (decide (a = b)), True)
    | .neq => some (.bool (decide (a ≠ b)), True)
    | .add => some (bs (a ++ b), a.length + b.length ≤ 9223372036854775807)
    | _ => none)
  | .pointer (some _), .pointer none => (lkN ty t).bind fun ti => bif Nat.beq ti.kind 4 then (match op with
    | .eql => some (.bool false, True)
    | .neq => some (.bool true, True)
    | _ => none) else none
  | .pointer none, .pointer none => (lkN ty t).bind fun ti => bif Nat.beq ti.kind 4 then (match op with
    | .eql => some (.bool true, True)
    | .neq => some (.bool false, True)
    | _ => none) else none
  | .slice (some _) _ _, .slice none 0 0 => (lkN ty t).bind fun ti => bif Nat.beq ti.kind 5 then (match op with
    | .eql => some (.bool false, True)
    | .neq => some (.bool true, True)
    | _ => none) else none
  | .slice none _ _, .slice none 0 0 => (lkN ty t).bind fun ti => bif Nat.beq ti.kind 5 then (match op with
    | .eql => some (.bool true, True)
    | .neq => some (.bool false, True)
    | _ => none) else none
  | .iface _ _, .nilIface => (lkN ty t).bind fun ti => bif Nat.beq ti.kind 9 then (match op with
    | .eql => some (.bool false, True)
    | .neq => some (.bool true, True)
    | _ => none) else none
  | _, _ => none
def isNil : Operand → Bool
  | .const .nilIface => true
  | _ => false
def nilE (ty : List (Nat × TyI)) (op : BinOp) (t : Nat) : Option (Value × Prop) :=
  (lkN ty t).bind fun ti => bif Nat.beq ti.kind 9 then (match op with
    | .eql => some (.bool true, True)
    | .neq => some (.bool false, True)
    | _ => none) else none
def isNilV : Value → Bool
  | .nilIface => true
  | _ => false
def sliceE (ty : List (Nat × TyI)) (t : Nat) (a : Option Addr) (len cap : Nat) (lo hi : Option Value) : Option (Value × Prop) :=
  (lkN ty t).bind fun ti => bif Nat.beq ti.kind 5 then (lkN ty ti.x).bind fun te => (match lo, hi with
    | some (.int _ l), none => some (.slice (cut a cap l.toNat te.size) (len - l.toNat) (cap - l.toNat), 0 ≤ l ∧ l ≤ len)
    | none, some (.int _ h) => some (.slice a h.toNat cap, 0 ≤ h ∧ h ≤ cap)
    | some (.int _ l), some (.int _ h) => some (.slice (cut a cap l.toNat te.size) (h.toNat - l.toNat) (cap - l.toNat), 0 ≤ l ∧ l ≤ h ∧ h ≤ cap)
    | _, _ => none) else none
def indexE (ty : List (Nat × TyI)) (t : Nat) (u v : Value) : Option (Value × Prop) :=
  (lkN ty t).bind fun ti => match u, v with
    | .slice (some ⟨b, i, none⟩) len _, .int _ j => bif Nat.beq ti.kind 5 then (lkN ty ti.x).bind fun te => (match te with | ⟨_, _, _, sz, _⟩ => bif Nat.beq sz 1 then some (pt b (i + j.toNat), 0 ≤ j ∧ j < len) else some (pt b (i + j.toNat * sz), 0 ≤ j ∧ j < len)) else none
    | .pointer (some ⟨b, i, none⟩), .int _ j => bif Nat.beq ti.kind 6 then (match ti with | ⟨_, n, e, _, _⟩ => (lkN ty e).bind fun te => (match te with | ⟨_, _, _, sz, _⟩ => some (pt b (i + j.toNat * sz), 0 ≤ j ∧ j < n))) else none
    | _, _ => none
def callE (ty : List (Nat × TyI)) (ρ : Env) (b : Builtin) (args : List Operand) (ts : List Nat) : Option (Value × Prop) :=
  match b, args, ts with
  | .len, [x], [t] => (ev ρ x).bind fun u => (lkN ty t).bind fun ti => (match u with
    | .slice _ n _ => bif Nat.beq ti.kind 5 then some (iv n, True) else none
    | .string ⟨⟨l⟩⟩ => bif Nat.beq ti.kind 3 then some (iv l.length, True) else none
    | _ => bif Nat.beq ti.kind 6 then some (iv ti.x, True) else none)
  | .max, [x, y], _ => (match ev ρ x, ev ρ y with
    | some (.int k a), some (.int k' b) => bif kEq k k' then some (.int k (max a b), True) else none
    | _, _ => none)
  | .min, [x, y], _ => (match ev ρ x, ev ρ y with
    | some (.int k a), some (.int k' b) => bif kEq k k' then some (.int k (min a b), True) else none
    | _, _ => none)
  | _, _, _ => none
def notE : Value → Option (Value × Prop)
  | .bool b => (match b with
    | true => some (.bool false, True)
    | false => some (.bool true, True))
  | _ => none
/-- an integer as9 another kind, where it fits -/
def convK (k : IntKind) (n : Int) : Value × Prop :=
  match k with
  | .i8 => (.int .i8 n, -128 ≤ n ∧ n ≤ 127)
  | .i16 => (.int .i16 n, -32768 ≤ n ∧ n ≤ 32767)
  | .i32 => (.int .i32 n, -2147483648 ≤ n ∧ n ≤ 2147483647)
  | .i64 => (.int .i64 n, -9223372036854775808 ≤ n ∧ n ≤ 9223372036854775807)
  | .u8 => (.int .u8 n, 0 ≤ n ∧ n ≤ 255)
  | .u16 => (.int .u16 n, 0 ≤ n ∧ n ≤ 65535)
  | .u32 => (.int .u32 n, 0 ≤ n ∧ n ≤ 4294967295)
  | .u64 => (.int .u64 n, 0 ≤ n ∧ n ≤ 18446744073709551615)
theorem convK_eq (k : IntKind) (n : Int) : convK k n = (.int k n, loE k ≤ n ∧ n ≤ hiE k) := by cases k <;> rfl
def convE (ty : List (Nat × TyI)) (src dst : Nat) (u : Value) : Option (Value × Prop) :=
  (lkN ty dst).bind fun ti => (lkN ty src).bind fun _ => match u with
    | .int _ n => bif Nat.beq ti.kind 2 then (match kindOf ti.x with | .i8 => some (convK .i8 n) | .i16 => some (convK .i16 n) | .i32 => some (convK .i32 n) | .i64 => some (convK .i64 n) | .u8 => some (convK .u8 n) | .u16 => some (convK .u16 n) | .u32 => some (convK .u32 n) | .u64 => some (convK .u64 n)) else none
    | _ => none
def ixE (ty : List (Nat × TyI)) (t : Nat) (u v : Value) : Option (Value × Prop) :=
  (lkN ty t).bind fun ti => match u, v with
    | .string ⟨⟨l⟩⟩, .int _ j => bif Nat.beq ti.kind 3 then some (.int .u8 ((l.getD j.toNat 0).toNat : Int), 0 ≤ j ∧ j < l.length) else none
    | _, _ => none
def opE (ty : List (Nat × TyI)) (fl : List (Nat × Nat × Nat)) (ρ : Env) (o : Op) : Option (Value × Prop) :=
  match o with
  | .move x => (ev ρ x).bind fun v => some (v, True)
  | .assign x => (ev ρ x).bind fun v => some (v, True)
  | .pick c x y => (match ev ρ c with
    | some (.bool b) => (match b with
      | true => (ev ρ x).bind fun v => some (v, True)
      | false => (ev ρ y).bind fun v => some (v, True))
    | _ => none)
  | .extract x j => (match ev ρ x with
    | some (.tuple ⟨vs⟩) => (vs[j]?).bind fun v => some (v, True)
    | _ => none)
  | .nilCheck x => (match ev ρ x with
    | some (.pointer (some p)) => some (.pointer (some p), True)
    | _ => none)
  | .fieldAddr s x f => (match ev ρ x with
    | some (.pointer (some ⟨b, i, none⟩)) => (lkN fl (s * 64 + f)).bind fun q => (match q with | (o, _) => bif Nat.blt f 64 then some (pt b (i + o), True) else none)
    | _ => none)
  | .indexAddr t x y => (ev ρ x).bind fun u => (ev ρ y).bind fun v => indexE ty t u v
  | .binOp op t x y _ => (ev ρ x).bind fun u => bif isNil y && isNilV u then nilE ty op t else (ev ρ y).bind fun v => binE ty op t u v
  | .unOp .not _ x => (ev ρ x).bind notE
  | .slice t x lo hi none => (match ev ρ x with
    | some (.slice a len cap) => (match lo, hi with
      | some l, none => (ev ρ l).bind fun l => sliceE ty t a len cap (some l) none
      | none, some h => (ev ρ h).bind fun h => sliceE ty t a len cap none (some h)
      | some l, some h => (ev ρ l).bind fun l => (ev ρ h).bind fun h => sliceE ty t a len cap (some l) (some h)
      | none, none => none)
    | _ => none)
  | .convert src dst x => (ev ρ x).bind fun u => convE ty src dst u
  | .index t x y => (ev ρ x).bind fun u => (ev ρ y).bind fun v => ixE ty t u v
  | .makeInterface t x => (ev ρ x).bind fun u => (lkN ty t).bind fun ti => bif Nat.beq ti.kind 9 then none else some (.iface t u, True)
  | .makeFunc (.func f) ⟨[]⟩ ⟨cap⟩ => (evs ρ cap).bind fun vs => some (.func (.func f) #[] ⟨vs⟩, True)
  | .call ⟨.builtin b, ⟨args⟩, ⟨ts⟩⟩ => callE ty ρ b args ts
  | _ => none

section sound
variable {P : Program} (S : Tab P) {ρ : Env} {L : Heap} {d : Option Tmp} {ty : TypeId} {pos : String} {af : Array Edge} {g : Option (Nat × Bool)}
theorem bif_some {α : Type} {c : Bool} {x : Option α} {v : α} (h : (bif c then x else none) = some v) : c = true ∧ x = some v := by
  cases c with
  | true => exact ⟨rfl, h⟩
  | false => cases h
theorem bind_some {α β : Type} {x : Option α} {f : α → Option β} {v : β} (h : x.bind f = some v) : ∃ y, x = some y ∧ f y = some v := by
  cases x with
  | none => cases h
  | some y => exact ⟨y, rfl, h⟩
theorem intE_q {op : BinOp} {t t' : Nat} {x y : Operand} {k : IntKind} {a b : Int} {v : Value} {p : Prop} (hx : ev ρ x = some (.int k a)) (hy : ev ρ y = some (.int k b)) (h : intE op k a b = some (v, p)) (hp : p) :
    QOp P ⟨d, .binOp op t x y t', ty, pos, af, g⟩ ρ L v := by
  unfold intE at h
  split at h
  case h_1 => cases h; exact q_lss hx hy
  case h_2 => cases h; exact q_leq hx hy
  case h_3 => cases h; exact q_gtr hx hy
  case h_4 => cases h; exact q_geq hx hy
  case h_5 => cases h; exact q_eql hx hy
  case h_6 => cases h; exact q_neq hx hy
  case h_7 =>
    cases hk : kEq k .i64 with
    | true => rw [hk] at h; cases h; cases kEq_eq hk; exact q_add hx hy hp
    | false => rw [hk] at h; cases h; rw [wrV_eq]; exact q_arith hx hy fun w => by simp [binOp, Op.intArith]
  case h_8 =>
    cases hk : kEq k .i64 with
    | true => rw [hk] at h; cases h; cases kEq_eq hk; exact q_sub hx hy hp
    | false => rw [hk] at h; cases h; rw [wrV_eq]; exact q_arith hx hy fun w => by simp [binOp, Op.intArith]
  case h_9 =>
    cases hk : kEq k .i64 with
    | true => rw [hk] at h; cases h; cases kEq_eq hk; exact q_mul hx hy hp
    | false => rw [hk] at h; cases h; rw [wrV_eq]; exact q_arith hx hy fun w => by simp [binOp, Op.intArith]
  case h_10 =>
    obtain ⟨hk, h2⟩ := bif_some h
    clear h
    cases h2; cases kEq_eq hk; exact q_quo hx hy hp
  case h_11 =>
    obtain ⟨hk, h2⟩ := bif_some h
    clear h
    cases h2; cases kEq_eq hk; exact q_rem hx hy hp
  case h_12 => cases h; exact q_arith hx hy fun w => by simp only [binOp, ne_eq, not_true_eq_false, if_false, Op.intBits, bits_and hp]; rfl
  case h_13 => cases h; exact q_arith hx hy fun w => by simp only [binOp, ne_eq, not_true_eq_false, if_false, Op.intBits, bits_or hp]; rfl
  case h_14 => cases h; exact q_arith hx hy fun w => by simp only [binOp, ne_eq, not_true_eq_false, if_false, Op.intBits, bits_xor hp]; rfl
  case h_15 => cases h; exact q_arith hx hy fun w => by simp only [binOp, ne_eq, not_true_eq_false, if_false, Op.intBits, bits_andNot hp]; rfl
  case h_16 => cases h
theorem sh_min {k : IntKind} {b : Int} (h0 : 0 ≤ b) (h1 : b ≤ wdE k) : min b.toNat k.bits = b.toNat := by
  cases k <;> simp only [wdE] at h1 <;> simp only [IntKind.bits] <;> omega
theorem q_arith2 {op : BinOp} {t t' : Nat} {x y : Operand} {k k' : IntKind} {a b : Int} {v : Value} (hx : ev ρ x = some (.int k a)) (hy : ev ρ y = some (.int k' b)) (hv : ∀ w, (binOp op t (.int k a) (.int k' b)).run P w = .ok v w) :
    QOp P ⟨d, .binOp op t x y t', ty, pos, af, g⟩ ρ L v :=
  q_runp (fun ρe he N => by
    refine pl_bin ?_ ?_
    · rw [he x (by simp [Op.operands]) _ hx, he y (by simp [Op.operands]) _ hy]; exact pl_guardInt
    · rw [he x (by simp [Op.operands]) _ hx, he y (by simp [Op.operands]) _ hy]; exact pl_binInt) fun ρe he k w hs => by simp [execOp, he x (by simp [Op.operands]) _ hx, he y (by simp [Op.operands]) _ hy, eqGuard_int, hv w]
theorem shE_q {op : BinOp} {t t' : Nat} {x y : Operand} {k k' : IntKind} {a b : Int} {v : Value} {p : Prop} (hx : ev ρ x = some (.int k a)) (hy : ev ρ y = some (.int k' b)) (h : shE op k a b = some (v, p)) (hp : p) :
    QOp P ⟨d, .binOp op t x y t', ty, pos, af, g⟩ ρ L v := by
  unfold shE at h
  split at h
  · cases h
    refine q_arith2 hx hy fun w => ?_
    have hnn : (0 : Int) ≤ 2 ^ b.toNat := Int.pow_nonneg (by decide)
    have h1 : ¬ b < 0 := by omega
    simp [binOp, Op.shift, h1, sh_min hp.1 hp.2, Int.fdiv_eq_ediv_of_nonneg _ hnn]
  · cases hk : kEq k .i64 with
    | true =>
      rw [hk] at h; cases h; cases kEq_eq hk
      refine q_arith2 hx hy fun w => ?_
      have h1 : ¬ b < 0 := by omega
      simp [binOp, Op.shift, h1, sh_min (k := .i64) hp.1 hp.2.1, wrap_id (k := .i64) hp.2.2.1 hp.2.2.2]
    | false =>
      rw [hk] at h; cases h
      refine q_arith2 hx hy fun w => ?_
      have h1 : ¬ b < 0 := by omega
      simp [binOp, Op.shift, h1, sh_min hp.1 hp.2, wrV_eq]
  · cases h
theorem binE_q {op : BinOp} {t t' : Nat} {x y : Operand} {u u' v : Value} {p : Prop} (hx : ev ρ x = some u) (hy : ev ρ y = some u') (h : binE S.ty op t u u' = some (v, p)) (hp : p) :
    QOp P ⟨d, .binOp op t x y t', ty, pos, af, g⟩ ρ L v := by
  unfold binE at h
  split at h
  case h_1 =>
    rename_i k a k' b
    cases hs : isSh op with
    | true => rw [hs] at h; exact shE_q hx hy h hp
    | false =>
      rw [hs] at h
      obtain ⟨hk, h2⟩ := bif_some (show (bif kEq k k' then intE op k a b else none) = some (v, p) from h)
      clear h
      cases kEq_eq hk; exact intE_q hx hy h2 hp
  case h_2 =>
    obtain ⟨ti, ht, h⟩ := bind_some h
    obtain ⟨hk, h⟩ := bif_some h
    have hk := Nat.eq_of_beq_eq_true hk
    split at h <;> cases h
    · exact q_eqlB S hx hy ht hk
    · exact q_neqB S hx hy ht hk
  case h_3 =>
    split at h <;> cases h
    · exact q_eqlS hx hy
    · exact q_neqS hx hy
    · exact q_addS hx hy hp
  case h_4 =>
    obtain ⟨ti, ht, h⟩ := bind_some h
    obtain ⟨hk, h⟩ := bif_some h
    have hk := Nat.eq_of_beq_eq_true hk
    split at h <;> cases h
    · exact q_eqlPn S hx hy ht hk
    · exact q_neqPn S hx hy ht hk
  case h_5 =>
    obtain ⟨ti, ht, h⟩ := bind_some h
    obtain ⟨hk, h⟩ := bif_some h
    have hk := Nat.eq_of_beq_eq_true hk
    split at h <;> cases h
    · exact q_eqlPnn S hx hy ht hk
    · exact q_neqPnn S hx hy ht hk
  case h_6 =>
    obtain ⟨ti, ht, h⟩ := bind_some h
    obtain ⟨hk, h⟩ := bif_some h
    have hk := Nat.eq_of_beq_eq_true hk
    split at h <;> cases h
    · exact q_equal (b := false) hx hy (fun w => by simp [eqGuard]) (fun w => equal_of fun dd => eqIn_sn (ty_slice (S.tyI ht) hk) dd w) (fun _ _ _ => trivial) (fun _ _ _ => pl_equal_of fun dd => plIn_sn (ty_slice (S.tyI ht) hk) dd) rfl
    · exact q_nequal (b := false) hx hy (fun w => by simp [eqGuard]) (fun w => equal_of fun dd => eqIn_sn (ty_slice (S.tyI ht) hk) dd w) (fun _ _ _ => trivial) (fun _ _ _ => pl_equal_of fun dd => plIn_sn (ty_slice (S.tyI ht) hk) dd) rfl
  case h_7 =>
    obtain ⟨ti, ht, h⟩ := bind_some h
    obtain ⟨hk, h⟩ := bif_some h
    have hk := Nat.eq_of_beq_eq_true hk
    split at h <;> cases h
    · exact q_equal (b := true) hx hy (fun w => by simp [eqGuard]) (fun w => equal_of fun dd => eqIn_sn (ty_slice (S.tyI ht) hk) dd w) (fun _ _ _ => trivial) (fun _ _ _ => pl_equal_of fun dd => plIn_sn (ty_slice (S.tyI ht) hk) dd) rfl
    · exact q_nequal (b := true) hx hy (fun w => by simp [eqGuard]) (fun w => equal_of fun dd => eqIn_sn (ty_slice (S.tyI ht) hk) dd w) (fun _ _ _ => trivial) (fun _ _ _ => pl_equal_of fun dd => plIn_sn (ty_slice (S.tyI ht) hk) dd) rfl
  case h_8 =>
    obtain ⟨ti, ht, h⟩ := bind_some h
    obtain ⟨hk, h⟩ := bif_some h
    have hk := Nat.eq_of_beq_eq_true hk
    split at h <;> cases h
    · exact q_eqlIn S hx hy ht hk
    · exact q_neqIn S hx hy ht hk
  case h_9 => cases h
theorem isNil_eq {y : Operand} (h : isNil y = true) : y = .const .nilIface := by
  unfold isNil at h
  split at h
  · rfl
  · cases h
theorem isNilV_eq {y : Value} (h : isNilV y = true) : y = .nilIface := by
  unfold isNilV at h
  split at h
  · rfl
  · cases h
theorem nilE_q {op : BinOp} {t t' : Nat} {x : Operand} {v : Value} {p : Prop} (hx : ev ρ x = some .nilIface) (h : nilE S.ty op t = some (v, p)) :
    QOp P ⟨d, .binOp op t x (.const .nilIface) t', ty, pos, af, g⟩ ρ L v := by
  unfold nilE at h
  obtain ⟨ti, ht, h⟩ := bind_some h
  obtain ⟨hk, h⟩ := bif_some h
  have hk := Nat.eq_of_beq_eq_true hk
  split at h <;> cases h
  · exact q_eqlInn S hx ht hk
  · exact q_neqInn S hx ht hk
theorem indexE_q {t : Nat} {x y : Operand} {u u' v : Value} {p : Prop} (hx : ev ρ x = some u) (hy : ev ρ y = some u') (h : indexE S.ty t u u' = some (v, p)) (hp : p) : QOp P ⟨d, .indexAddr t x y, ty, pos, af, g⟩ ρ L v := by
  unfold indexE at h
  obtain ⟨ti, ht, h⟩ := bind_some h
  split at h
  · obtain ⟨hk0, h2⟩ := bif_some h
    clear h
    have hk := Nat.eq_of_beq_eq_true hk0
    clear hk0
    obtain ⟨te, he, h⟩ := bind_some h2
    clear h2
    obtain ⟨k0, x0, y0, s0, b0⟩ := ti
    obtain ⟨k1, x1, y1, s1, b1⟩ := te
    simp only at hk h he
    subst hk
    cases hc : Nat.beq s1 1 with
    | true =>
      rw [hc] at h
      have := Nat.eq_of_beq_eq_true hc
      subst this
      cases h
      exact q_indexAddr1 S hx hy ht he hp
    | false => rw [hc] at h; cases h; exact q_indexAddr S hx hy ht he hp
  · obtain ⟨hk0, h2⟩ := bif_some h
    clear h
    have hk := Nat.eq_of_beq_eq_true hk0
    clear hk0
    obtain ⟨te, he, h⟩ := bind_some h2
    clear h2
    obtain ⟨k0, x0, y0, s0, b0⟩ := ti
    obtain ⟨k1, x1, y1, s1, b1⟩ := te
    simp only at hk h he
    subst hk
    cases h
    exact q_indexAddrA S hx hy ht he hp
  · cases h
theorem callE_q {b : Builtin} {args : List Operand} {ts : List Nat} {v : Value} {p : Prop} (h : callE S.ty ρ b args ts = some (v, p)) (hp : p) : QOp P ⟨d, .call ⟨.builtin b, ⟨args⟩, ⟨ts⟩⟩, ty, pos, af, g⟩ ρ L v := by
  unfold callE at h
  split at h
  · obtain ⟨u, hu, h⟩ := bind_some h
    obtain ⟨ti, ht, h⟩ := bind_some h
    split at h
    · obtain ⟨hk, h⟩ := bif_some h
      cases h
      exact q_lenS S hu ht (Nat.eq_of_beq_eq_true hk)
    · obtain ⟨hk, h⟩ := bif_some h
      cases h
      exact q_lenT S hu ht (Nat.eq_of_beq_eq_true hk)
    · obtain ⟨hk0, h2⟩ := bif_some h
      clear h
      have hk := Nat.eq_of_beq_eq_true hk0
      clear hk0
      have h := h2
      clear h2
      obtain ⟨k0, x0, y0, s0, b0⟩ := ti
      simp only at hk h
      subst hk
      cases h
      exact q_lenA S hu ht
  · split at h
    · rename_i h1 h2
      obtain ⟨hk, h3⟩ := bif_some h
      clear h
      cases kEq_eq hk
      cases h3
      exact q_max h1 h2
    · cases h
  · split at h
    · rename_i h1 h2
      obtain ⟨hk, h3⟩ := bif_some h
      clear h
      cases kEq_eq hk
      cases h3
      exact q_min h1 h2
    · cases h
  · cases h
theorem pl_convInt {src dst : Nat} {k k' : IntKind} {n : Int} {B W : Nat → Prop} {N : Nat} (h : P.underlying dst = some (.int k')) : Plo P B W N (convert src dst (.int k n)) := by
  unfold convert
  refine Plo.bind (Zd _) fun d => Zc h ?_
  split <;> first | exact trivial | (rename_i e _; cases e; done) | (rename_i e; cases e; done) | skip
theorem convE_q {src dst : Nat} {x : Operand} {u v : Value} {p : Prop} (hx : ev ρ x = some u) (h : convE S.ty src dst u = some (v, p)) (hp : p) : QOp P ⟨d, .convert src dst x, ty, pos, af, g⟩ ρ L v := by
  unfold convE at h
  obtain ⟨ti, ht, h1⟩ := bind_some h
  obtain ⟨ts, hs, h2⟩ := bind_some h1
  clear h h1
  split at h2
  · rename_i k0 n
    obtain ⟨hk, h3⟩ := bif_some h2
    clear h2
    have h : some (convK (kindOf ti.x) n) = some (v, p) := by
      rw [← h3]
      cases kindOf ti.x <;> rfl
    rw [convK_eq] at h
    cases h
    refine q_runp (fun ρe he N => ?_) fun ρe he k w hsat => ?_
    · simp only [execOp, he x (by simp [Op.operands]) _ hx]
      have e1 := ty_int (S.tyI ht) (Nat.eq_of_beq_eq_true hk)
      obtain ⟨ds, hds⟩ := Option.isSome_iff_exists.1 (ty_isSome (S.tyI hs))
      exact Plo.bind (pl_convInt e1) fun _ => trivial
    have e1 := ty_int (S.tyI ht) (Nat.eq_of_beq_eq_true hk)
    obtain ⟨ds, hds⟩ := Option.isSome_iff_exists.1 (ty_isSome (S.tyI hs))
    simp [execOp, he x (by simp [Op.operands]) _ hx, convert, run_underlying e1, run_underlying hds, Conv.intToInt, wrap_id hp.1 hp.2]
  · cases h2
theorem ixE_q {t : Nat} {x y : Operand} {u u' v : Value} {p : Prop} (hx : ev ρ x = some u) (hy : ev ρ y = some u') (h : ixE S.ty t u u' = some (v, p)) (hp : p) : QOp P ⟨d, .index t x y, ty, pos, af, g⟩ ρ L v := by
  unfold ixE at h
  obtain ⟨ti, ht, h1⟩ := bind_some h
  clear h
  split at h1
  · rename_i l k j
    obtain ⟨hk, h⟩ := bif_some h1
    cases h
    refine q_run fun ρe he k w hsat => ?_
    have e1 := ty_string (S.tyI ht) (Nat.eq_of_beq_eq_true hk)
    have hlt : j.toNat < l.length := by omega
    have e2 : (ByteArray.mk ⟨l⟩)[j.toNat]? = some (l.getD j.toNat 0) := by
      have h3 : j.toNat < (ByteArray.mk ⟨l⟩).size := by rw [ba_size]; exact hlt
      rw [getElem?_pos (ByteArray.mk ⟨l⟩) j.toNat h3]
      simp [ByteArray.getElem_eq_getElem_data, List.getD, hlt]
    simp [execOp, he x (by simp [Op.operands]) _ hx, he y (by simp [Op.operands]) _ hy, Instr.index, asIntOf, run_underlying e1, hp.1, e2]
  · cases h1
theorem opE_q {o : Op} {v : Value} {p : Prop} (h : opE S.ty S.fl ρ o = some (v, p)) (hp : p) : QOp P ⟨d, o, ty, pos, af, g⟩ ρ L v := by
  unfold opE at h
  split at h
  · obtain ⟨u, hu, h⟩ := bind_some h
    cases h
    exact q_move hu
  · obtain ⟨u, hu, h⟩ := bind_some h
    cases h
    exact q_assign hu
  · split at h
    · rename_i b hb
      split at h
      · obtain ⟨u, hu, h⟩ := bind_some h
        cases h
        exact q_pickt hb rfl hu
      · obtain ⟨u, hu, h⟩ := bind_some h
        cases h
        exact q_pickf hb rfl hu
    · cases h
  · split at h
    · rename_i hx
      obtain ⟨u, hu, h⟩ := bind_some h
      cases h
      exact q_extract hx hu
    · cases h
  · split at h
    · rename_i hx
      cases h
      exact q_nilCheck hx
    · cases h
  · split at h
    · rename_i hx
      obtain ⟨q, hq, h⟩ := bind_some h
      obtain ⟨hk, h⟩ := bif_some h
      cases h
      exact q_fieldAddr S hx hq hk
    · cases h
  · obtain ⟨u, hu, h⟩ := bind_some h
    obtain ⟨u', hu', h⟩ := bind_some h
    exact indexE_q S hu hu' h hp
  · obtain ⟨u, hu, h⟩ := bind_some h
    cases hc : (isNil _ && isNilV u) with
    | true =>
      rw [hc] at h
      simp only [Bool.and_eq_true] at hc
      rw [isNil_eq hc.1]
      rw [isNilV_eq hc.2] at hu
      exact nilE_q S hu h
    | false =>
      rw [hc] at h
      obtain ⟨u', hu', h⟩ := bind_some h
      exact binE_q S hu hu' h hp
  · obtain ⟨u, hu, h⟩ := bind_some h
    unfold notE at h
    split at h
    · split at h
      · cases h
        exact q_not_t hu rfl
      · cases h
        exact q_not_f hu rfl
    · cases h
  · split at h
    · rename_i hx
      split at h
      · obtain ⟨u, hu, h⟩ := bind_some h
        unfold sliceE at h
        obtain ⟨ti, ht, h1⟩ := bind_some h
        clear h
        obtain ⟨hk0, h2⟩ := bif_some h1
        clear h1
        have hk := Nat.eq_of_beq_eq_true hk0
        clear hk0
        obtain ⟨te, he, h⟩ := bind_some h2
        clear h2
        obtain ⟨k0, x0, y0, s0, b0⟩ := ti
        obtain ⟨k1, x1, y1, s1, b1⟩ := te
        simp only at hk h he
        subst hk
        split at h
        all_goals try (rename_i e1 e2; cases e2; done)
        all_goals try (rename_i e1 e2; cases e1; done)
        all_goals try (cases h; done)
        all_goals (rename_i e1 e2; cases e1; cases h; exact q_sliceLo S hx hu ht he hp)
      · obtain ⟨u, hu, h⟩ := bind_some h
        unfold sliceE at h
        obtain ⟨ti, ht, h1⟩ := bind_some h
        clear h
        obtain ⟨hk0, h2⟩ := bif_some h1
        clear h1
        have hk := Nat.eq_of_beq_eq_true hk0
        clear hk0
        obtain ⟨te, he, h⟩ := bind_some h2
        clear h2
        obtain ⟨k0, x0, y0, s0, b0⟩ := ti
        obtain ⟨k1, x1, y1, s1, b1⟩ := te
        simp only at hk h he
        subst hk
        split at h
        all_goals try (rename_i e1 e2; cases e1; done)
        all_goals try (cases h; done)
        all_goals (rename_i e1 e2; cases e2; cases h; exact q_sliceHi S hx hu ht he hp)
      · obtain ⟨u, hu, h⟩ := bind_some h
        obtain ⟨u', hu', h9⟩ := bind_some h
        clear h
        have h := h9
        clear h9
        unfold sliceE at h
        obtain ⟨ti, ht, h1⟩ := bind_some h
        clear h
        obtain ⟨hk0, h2⟩ := bif_some h1
        clear h1
        have hk := Nat.eq_of_beq_eq_true hk0
        clear hk0
        obtain ⟨te, he, h⟩ := bind_some h2
        clear h2
        obtain ⟨k0, x0, y0, s0, b0⟩ := ti
        obtain ⟨k1, x1, y1, s1, b1⟩ := te
        simp only at hk h he
        subst hk
        split at h
        all_goals try (rename_i e1 e2; cases e2; done)
        all_goals try (rename_i e1 e2; cases e1; done)
        all_goals try (cases h; done)
        all_goals (rename_i e1 e2; cases e1; cases e2; cases h; exact q_sliceLH S hx hu hu' ht he hp)
      · cases h
    · cases h
  · obtain ⟨u, hu, h1⟩ := bind_some h
    exact convE_q S hu h1 hp
  · obtain ⟨u, hu, h1⟩ := bind_some h
    obtain ⟨u', hu', h2⟩ := bind_some h1
    exact ixE_q S hu hu' h2 hp
  · obtain ⟨u, hu, h1⟩ := bind_some h
    obtain ⟨ti, ht, h2⟩ := bind_some h1
    clear h h1
    rename_i t x
    cases hk : Nat.beq ti.kind 9 with
    | true => rw [hk] at h2; cases h2
    | false =>
      rw [hk] at h2
      cases h2
      refine q_run fun ρe he k w hsat => ?_
      obtain ⟨dd, j, hd, hj, he2, -, -⟩ := ty_desc (S.tyI ht)
      have : ∀ ms, dd ≠ .interface ms := fun ms e => by
        subst e
        simp only [descI, Prod.mk.injEq] at he2
        rw [← he2.1] at hk
        cases hk
      cases dd <;> first | (exact absurd rfl (this _)) | simp [execOp, he x (by simp [Op.operands]) _ hu, Instr.makeInterface, run_underlying hd]
  · obtain ⟨u, hu, h⟩ := bind_some h
    cases h
    exact q_makeFunc hu
  · exact callE_q S h hp
  · cases h
end sound

def isUndef : Value → Bool
  | .tuple ⟨[]⟩ => true
  | _ => false
theorem isUndef_eq {v : Value} (h : isUndef v = true) : v = undef := by
  unfold isUndef at h
  split at h
  · rfl
  · cases h
/-- is an operation wanted? -/
def guardE (ops : List Oper) (ρ : Env) : Option (Nat × Bool) → Option Bool
  | none => some true
  | some (j, wt) => (match gdst ops j with
    | some t => (match lk ρ t with
      | some (.bool b) => (match b with
        | true => some wt
        | false => some (!wt))
      | some v => bif isUndef v then some false else none
      | none => none)
    | none => none)
section go
variable {P : Program} {n : Nat} {ops : List Oper} {Q : Exit → Env → Heap → Prop} {rest : List Oper} {ρ : Env} {L : Heap} {op : Op} {ty : TypeId} {pos : String} {af : Array Edge} {g : Option (Nat × Bool)} {d : Nat}
theorem ho_go {v : Value} (hg : guardE ops ρ g = some true) (hn : Nat.blt d n = true) (h : QOp P ⟨some d, op, ty, pos, af, g⟩ ρ L v) (hr : HO P n ops Q rest ((d, v) :: ρ) L) : HO P n ops Q (⟨some d, op, ty, pos, af, g⟩ :: rest) ρ L := by
  unfold guardE at hg
  split at hg
  · exact ho_q hn h hr
  · rename_i j wt
    split at hg
    · rename_i hj
      split at hg
      · rename_i ht
        split at hg
        · cases hg; exact ho_want hn hj ht h hr
        · cases wt with
          | true => simp at hg
          | false => exact ho_want hn hj ht h hr
      · obtain ⟨_, h1⟩ := bif_some hg
        cases h1
      · cases hg
    · cases hg
theorem ho_no (hg : guardE ops ρ g = some false) (hn : Nat.blt d n = true) (hr : HO P n ops Q rest ((d, undef) :: ρ) L) : HO P n ops Q (⟨some d, op, ty, pos, af, g⟩ :: rest) ρ L := by
  unfold guardE at hg
  split at hg
  · cases hg
  · rename_i j wt
    split at hg
    · rename_i hj
      split at hg
      · rename_i ht
        split at hg
        · cases hg; exact ho_skip hn hj ht rfl hr
        · cases wt with
          | true => exact ho_skip hn hj ht rfl hr
          | false => simp at hg
      · rename_i ht
        obtain ⟨h1, _⟩ := bif_some hg
        exact ho_skipu hj ht (isUndef_eq h1) hn hr
      · cases hg
    · cases hg
/-- what is wanted, without its guard -/
theorem ho_on {d : Option Tmp} {j : Nat} {wt : Bool} (hg : guardE ops ρ (some (j, wt)) = some true) (h : HO P n ops Q (⟨d, op, ty, pos, af, none⟩ :: rest) ρ L) : HO P n ops Q (⟨d, op, ty, pos, af, some (j, wt)⟩ :: rest) ρ L := by
  refine ho_cons fun a ha => ?_
  have hw : Region.wanted (Oper.mk d op ty pos af (some (j, wt))) (yielded ops.toArray a.tmps) = true := by
    unfold guardE at hg
    simp only at hg
    split at hg
    · rename_i t hj
      split at hg
      · rename_i b ht
        rw [wanted_guard ha rfl hj ht]
        cases b <;> cases wt <;> simp at hg <;> rfl
      · obtain ⟨_, h1⟩ := bif_some hg
        cases h1
      · cases hg
    · cases hg
  have h1 := ho_uncons h a ha
  rw [if_pos (wanted_none _ rfl _)] at h1
  rw [if_pos hw]
  exact OpW.congr (o := ⟨d, op, ty, pos, af, none⟩) (e := a.eval) rfl h1
end go

section hgo
variable {P : Program} {n : Nat} {ops : List Oper} {K : Env → Prop} {rest : List Oper} {ρ : Env} {L : Heap} {op : Op} {ty : TypeId} {pos : String} {af : Array Edge} {g : Option (Nat × Bool)} {d : Nat}
theorem hq_go {v : Value} (hg : guardE ops ρ g = some true) (hn : Nat.blt d n = true) (h : QOp P ⟨some d, op, ty, pos, af, g⟩ ρ L v) (hr : HQ P n ops K rest ((d, v) :: ρ) L) : HQ P n ops K (⟨some d, op, ty, pos, af, g⟩ :: rest) ρ L := by
  unfold guardE at hg
  split at hg
  · exact hq_q hn h hr
  · rename_i j wt
    split at hg
    · rename_i hj
      split at hg
      · rename_i ht
        split at hg
        · cases hg; exact hq_want hn hj ht h hr
        · cases wt with
          | true => simp at hg
          | false => exact hq_want hn hj ht h hr
      · obtain ⟨_, h1⟩ := bif_some hg
        cases h1
      · cases hg
    · cases hg
theorem hq_no (hg : guardE ops ρ g = some false) (hn : Nat.blt d n = true) (hr : HQ P n ops K rest ((d, undef) :: ρ) L) : HQ P n ops K (⟨some d, op, ty, pos, af, g⟩ :: rest) ρ L := by
  unfold guardE at hg
  split at hg
  · cases hg
  · rename_i j wt
    split at hg
    · rename_i hj
      split at hg
      · rename_i ht
        split at hg
        · cases hg; exact hq_skip hn hj ht rfl hr
        · cases wt with
          | true => exact hq_skip hn hj ht rfl hr
          | false => simp at hg
      · rename_i ht
        obtain ⟨h1, _⟩ := bif_some hg
        exact hq_skipu hj ht (isUndef_eq h1) hn hr
      · cases hg
    · cases hg
end hgo
/-! ### package variables -/
def Gl (L : Heap) (g : Nat) (v : Value) : Prop := ∃ l E fr, Has L g (.cells ⟨l⟩ E fr) ∧ l[0]? = some v
theorem Gl.cons {L : Heap} {g : Nat} {v : Value} {c : List Blk} (h : Gl L g v) : Gl (c :: L) g v :=
  let ⟨l, E, fr, h1, h2⟩ := h
  ⟨l, E, fr, has_next h1, h2⟩
/-- an error, by the number of its variable -/
def errV (T : Nat) (E : Nat → Addr) (g : Nat) : Value := .iface T (.pointer (some (E g)))
def eV (T : Nat) (E : Nat → Addr) : Option Nat → Value
  | none => .nilIface
  | some g => .iface T (.pointer (some (E g)))
/-- the errors' variables, by their codes; tab: the code of a variable -/
def Errs (tab : List (Nat × Nat)) (T : Nat) (E : Nat → Addr) (cs : List Nat) (L : Heap) : Prop := ∀ g c, lkN tab g = some c → List.elem c cs = true → Gl L g (.iface T (.pointer (some (E c))))
theorem Errs.cons {tab : List (Nat × Nat)} {T : Nat} {E : Nat → Addr} {cs : List Nat} {L : Heap} (h : Errs tab T E cs L) (c : List Blk) : Errs tab T E cs (c :: L) := fun g c hg hc => (h g c hg hc).cons
theorem Errs.get {tab : List (Nat × Nat)} {T : Nat} {E : Nat → Addr} {cs : List Nat} {L : Heap} {g c : Nat} (h : Errs tab T E cs L) (hg : lkN tab g = some c) (hm : List.elem c cs = true) : Gl L g (.iface T (.pointer (some (E c)))) := h g c hg hm
theorem Errs.sub {tab : List (Nat × Nat)} {T : Nat} {E : Nat → Addr} {cs cs' : List Nat} {L : Heap} (h : Errs tab T E cs L) (hm : (cs'.all fun g => cs.elem g) = true := by rfl) : Errs tab T E cs' L := fun g c hg hc => h g c hg (List.all_eq_true.1 hm c (List.elem_iff.1 hc))
theorem Gl.mono {L L' : Heap} {g : Nat} {v : Value} (h : Gl L g v) (hl : ∀ b o, Has L b o → Has L' b o) : Gl L' g v :=
  let ⟨l, E, fr, h1, h2⟩ := h
  ⟨l, E, fr, hl _ _ h1, h2⟩
theorem Errs.mono {tab : List (Nat × Nat)} {T : Nat} {E : Nat → Addr} {cs : List Nat} {L L' : Heap} (h : Errs tab T E cs L) (hl : ∀ b o, Has L b o → Has L' b o) : Errs tab T E cs L' := fun g c hg hc => (h g c hg hc).mono hl
section tab
variable {P : Program} (S : Tab P) {ρ : Env} {L : Heap} {d : Option Tmp} {ty : TypeId} {pos : String} {af : Array Edge} {g : Option (Nat × Bool)}
end tab
section gl
variable {P : Program} (S : Tab P) {ρ : Env} {L : Heap} {d : Option Tmp} {ty : TypeId} {pos : String} {af : Array Edge} {g : Option (Nat × Bool)}
theorem q_gload {t n : Nat} {ti : TyI} {v : Value} (ht : lkN S.ty t = some ti) (h6 : Nat.beq ti.kind 6 = false) (h7 : Nat.beq ti.kind 7 = false) (hg : Gl L n v) : QOp P ⟨d, .load t (.global n), ty, pos, af, g⟩ ρ L v := by
  obtain ⟨l, E, fr, h1, h2⟩ := hg
  exact q_load S (x := .global n) rfl ht h6 h7 h1 h2
end gl
end Go.HL
end

/-! QHLAny -/
section
namespace Go.HL
set_option linter.unusedSectionVars false
variable [Tasks]
open Go
set_option linter.unusedVariables false
set_option linter.unusedSimpArgs false

/-- all that a frame holds -/
def full (n : Nat) (a : Act) : Env := (List.range n).map fun t => (t, a.tmps.getD t undef)
theorem lk_map (f : Nat → Value) : ∀ (l : List Nat) (t : Nat), lk (l.map fun t => (t, f t)) t = if t ∈ l then some (f t) else none
  | [], t => by simp [lk]
  | x :: r, t => by
    simp only [List.map_cons]
    by_cases e : x = t
    · subst e; rw [lk_cons_eq]; simp
    · rw [lk_cons_ne _ _ e, lk_map f r t]
      have : t ≠ x := fun h => e h.symm
      simp [this]
theorem agr_full {n : Nat} {a : Act} (hs : a.tmps.size = n) : Agr n a (full n a) := by
  refine ⟨hs, fun t v h => ?_⟩
  unfold full at h
  rw [lk_map] at h
  split at h
  · rename_i hm
    have hlt := List.mem_range.1 hm
    cases h
    rw [Array.getElem?_eq_getElem (by omega)]
    simp [Array.getD, hs, hlt]
  · cases h
theorem full_get {n : Nat} {a : Act} (hs : a.tmps.size = n) {t : Nat} {v : Value} (h : a.tmps[t]? = some v) : lk (full n a) t = some v := by
  obtain ⟨hlt, he⟩ := Array.getElem?_eq_some_iff.1 h
  unfold full
  rw [lk_map, if_pos (List.mem_range.2 (by omega))]
  simp [Array.getD, hlt, he]

def ELe (ρ ρ' : Env) : Prop := ∀ t v, lk ρ t = some v → lk ρ' t = some v
theorem Agr.le {n : Nat} {a : Act} {ρ ρ' : Env} (h : Agr n a ρ') (hl : ELe ρ ρ') : Agr n a ρ := ⟨h.size, fun t v hv => h.get t v (hl t v hv)⟩

section any
variable (P : Program) (n : Nat) (ops : List Oper) (Q : Exit → Env → Heap → Prop)
def keepE (i0 i : Nat) : Bool := match ops[i]? with
  | some o => o.after.toList.all fun e => !(Region.binds .any e && Nat.beq e.on i0)
  | none => true
/-- what is kept for the operations that may come late -/
def ssOk (i : Nat) (L : Heap) : List (Nat × Blk) → Prop
  | [] => True
  | (i0, p) :: r => (keepE ops i0 i = false ∨ Has L p.1 p.2) ∧ ssOk i L r
def ssF (i : Nat) (Ss : List (Nat × Blk)) : List (Nat × Blk) := Ss.filter fun s => keepE ops s.1 i
def Fin (ρ : Env) (L : Heap) : Prop := ∀ a, Agr n a ρ → ∃ ρ' L2, Agr n a ρ' ∧ Wk L L2 ∧ Q .normal ρ' L2
def HStep (i : Nat) (K : Env → Heap → Prop) (ρ : Env) (L : Heap) : Prop :=
  ∀ a, Agr n a ρ → KOp P ops.toArray i (fun a' L' => ∃ ρ', Agr n a' ρ' ∧ K ρ' L') a L
def HAny : Nat → List (Nat × Blk) → Array Bool → Env → Heap → Prop
  | 0, _, l, ρ, L => Region.ready .any ops.toArray l = [] ∧ Fin n Q ρ L
  | f + 1, Ss, l, ρ, L => (Region.ready .any ops.toArray l = [] → Fin n Q ρ L) ∧
    ∀ i ∈ Region.ready .any ops.toArray l, HStep P n ops i (fun ρ' L' => ssOk ops i L' Ss ∧ HAny f (ssF ops i Ss) (l.setIfInBounds i true) ρ' L') ρ L
end any

section any
variable {P : Program} {n : Nat} {ops : List Oper} {Q : Exit → Env → Heap → Prop}
theorem HStep.mono {i : Nat} {K K' : Env → Heap → Prop} {ρ ρ' : Env} {L : Heap} (hl : ELe ρ ρ') (hk : ∀ ρ L, K ρ L → K' ρ L) (h : HStep P n ops i K ρ L) : HStep P n ops i K' ρ' L :=
  fun a ha => KOp.mono (fun a' L' ⟨ρ1, h1, h3⟩ => ⟨ρ1, h1, hk _ _ h3⟩) (h a (ha.le hl))
theorem HAny.sound : ∀ (f : Nat) (Ss : List (Nat × Blk)) (l : Array Bool) (ρ : Env) (L : Heap), HAny P n ops Q f Ss l ρ L → ∀ a, Agr n a ρ → KAny P .any ops.toArray (fun a' L' => ∃ ρ' L2, Agr n a' ρ' ∧ Wk L' L2 ∧ Q .normal ρ' L2) f l a L
  | 0, _, _, _, _, h, a, ha => ⟨h.1, h.2 a ha⟩
  | f + 1, Ss, l, ρ, L, h, a, ha => ⟨fun h0 => h.1 h0 a ha, fun i hi => KOp.mono (fun a' L' ⟨ρ', h1, h3⟩ => HAny.sound f _ _ ρ' L' h3.2 a' h1) (h.2 i hi a ha)⟩
theorem Fin.le {ρ ρ' : Env} {L : Heap} (hl : ELe ρ ρ') (h : Fin n Q ρ L) : Fin n Q ρ' L := fun a ha => h a (ha.le hl)
theorem HAny.le : ∀ {f : Nat} {Ss : List (Nat × Blk)} {l : Array Bool} {ρ ρ' : Env} {L : Heap}, ELe ρ ρ' → HAny P n ops Q f Ss l ρ L → HAny P n ops Q f Ss l ρ' L
  | 0, _, _, _, _, _, hl, h => ⟨h.1, h.2.le hl⟩
  | f + 1, _, _, _, _, _, hl, h => ⟨fun h0 => (h.1 h0).le hl, fun i hi => (h.2 i hi).mono hl fun _ _ h => h⟩
theorem KOp.wk {ops : Array Oper} {i : Nat} {K : Act → Heap → Prop} {a : Act} {L L' : Heap} (hK : ∀ a, K a L' → K a L) (hw : Wk L L') (h : KOp P ops i K a L') : KOp P ops i K a L := by
  unfold KOp at *
  split
  · rename_i ho; simp only [ho] at h; exact hK _ h
  · rename_i o ho
    simp only [ho] at h
    split
    · rename_i hq; rw [if_pos hq] at h; exact h.wk hw
    · rename_i hq; rw [if_neg hq] at h; exact hK _ h
theorem ssOk_ls {i : Nat} {L L' : Heap} (hl : LS L'.flatten L.flatten) : ∀ {Ss : List (Nat × Blk)}, ssOk ops i L' Ss → ssOk ops i L Ss
  | [], _ => trivial
  | (i0, p) :: r, h => ⟨h.1.imp _root_.id fun h => hl.mem h, ssOk_ls hl h.2⟩
theorem HAny.ls : ∀ {f : Nat} {Ss : List (Nat × Blk)} {l : Array Bool} {ρ : Env} {L L' : Heap}, HAny P n ops Q f Ss l ρ L' → LS L'.flatten L.flatten → HAny P n ops Q f Ss l ρ L
  | 0, _, _, _, _, _, h, hl => ⟨h.1, fun a ha => let ⟨ρ', L2, h1, h2, h3⟩ := h.2 a ha; ⟨ρ', L2, h1, (Wk.ls hl).trans h2, h3⟩⟩
  | f + 1, _, _, _, _, _, h, hl => ⟨fun h0 a ha => let ⟨ρ', L2, h1, h2, h3⟩ := h.1 h0 a ha; ⟨ρ', L2, h1, (Wk.ls hl).trans h2, h3⟩, fun i hi a ha =>
    KOp.wk (fun a' ⟨ρ', h1, h2, h3⟩ => ⟨ρ', h1, ssOk_ls hl h2, HAny.ls h3 hl⟩) (.ls hl) (h.2 i hi a ha)⟩
/-- an operation that reads: its value wherever its blocks are -/
def QAt (P : Program) (ops : List Oper) (o : Oper) (ρ : Env) (F : List Blk) (v : Value) : Prop :=
  (guardE ops ρ o.guard = some true ∧ ∀ L, (∀ p ∈ F, Has L p.1 p.2) → QOp P o ρ L v) ∨ (guardE ops ρ o.guard = some false ∧ v = undef)
theorem ssOk_all {i : Nat} {L : Heap} : ∀ {Ss : List (Nat × Blk)}, ssOk ops i L Ss ↔ ∀ s ∈ Ss, keepE ops s.1 i = true → Has L s.2.1 s.2.2
  | [] => by simp [ssOk]
  | s :: r => by
    obtain ⟨i0, p⟩ := s
    simp only [ssOk, ssOk_all (Ss := r), List.mem_cons, forall_eq_or_imp]
    constructor
    · rintro ⟨h1, h2⟩
      refine ⟨fun hk => ?_, h2⟩
      rcases h1 with h1 | h1
      · rw [h1] at hk; cases hk
      · exact h1
    · rintro ⟨h1, h2⟩
      refine ⟨?_, h2⟩
      cases hk : keepE ops i0 i with
      | false => exact .inl rfl
      | true => exact .inr (h1 hk)
theorem guardE_le {ρ ρ' : Env} {g : Option (Nat × Bool)} {b : Bool} (hl : ∀ j wt t v, g = some (j, wt) → gdst ops j = some t → lk ρ t = some v → lk ρ' t = some v) (h : guardE ops ρ g = some b) : guardE ops ρ' g = some b := by
  unfold guardE at *
  split at h
  · exact h
  · rename_i j wt
    split at h
    · rename_i t hj
      split at h
      · rename_i c ht
        rw [hl j wt t _ rfl hj ht]
        exact h
      · rename_i v hv ht
        rw [hl j wt t _ rfl hj ht]
        obtain ⟨h1, h2⟩ := bif_some h
        split
        · rename_i heq
          cases heq
          exact absurd rfl (hv _)
        · rename_i heq
          cases heq
          rw [h1]
          exact h2
        · rename_i heq
          cases heq
      · cases h
    · cases h
theorem wanted_of_guardE {a : Act} {ρ : Env} (ha : Agr n a ρ) {o : Oper} {b : Bool} (h : guardE ops ρ o.guard = some b) : Region.wanted o (yielded ops.toArray a.tmps) = b := by
  unfold guardE at h
  split at h
  · rename_i hg
    cases h
    simp [Region.wanted, hg]
  · rename_i j wt hg
    split at h
    · rename_i t hj
      split at h
      · rename_i c ht
        rw [wanted_guard ha hg hj ht]
        cases c <;> cases wt <;> simp at h <;> subst h <;> rfl
      · rename_i v hv ht
        obtain ⟨h1, h2⟩ := bif_some h
        cases h2
        have := isUndef_eq h1
        subst this
        unfold gdst at hj
        simp [Region.wanted, hg, yielded, hj, ha.get _ _ ht, undef]
      · cases h
    · cases h
theorem QOp.le {o : Oper} {ρ ρ' : Env} {L : Heap} {v : Value} (hl : ∀ x ∈ o.op.operands, ∀ u, ev ρ x = some u → ev ρ' x = some u) (h : QOp P o ρ L v) : QOp P o ρ' L v :=
  fun e he => h e (fun x hx u hu => he x hx u (hl x hx u hu))
/-- another operation goes first -/
theorem kop_swap {j : Nat} {oi oj : Oper} {d : Nat} {v : Value} (hj : ops.toArray[j]? = some oj) (hd : oi.dst = some d) (hap : oi.apart ops.toArray oj = true)
    (hsj : ∀ cs b, oj.op ≠ .select cs b) {K : Act → Heap → Prop} {a : Act} {L : Heap} (h : KOp P ops.toArray j K (a.put (some d) v) L) :
    KOp P ops.toArray j (fun a' L' => (∀ t ∈ oi.looksAt ops.toArray, a'.tmps[t]? = a.tmps[t]?) ∧ K (a'.put (some d) v) L') a L := by
  obtain ⟨h1, h2, h3⟩ := Oper.apart_spec hap
  rw [hd] at h1 h2
  have keep : ∀ (a0 : Act) (u : Value), (∀ t ∈ oi.looksAt ops.toArray, a0.tmps[t]? = a.tmps[t]?) → ∀ t ∈ oi.looksAt ops.toArray, (a0.put oj.dst u).tmps[t]? = a.tmps[t]? := by
    intro a0 u h0 t ht
    rw [← h0 t ht]
    cases hq : oj.dst with
    | none => rfl
    | some e =>
      have hne : e ≠ t := fun he => h3 e hq (he ▸ ht)
      simp [Act.put, Array.getElem?_setIfInBounds_ne hne]
  unfold KOp at *
  simp only [hj] at *
  rw [wanted_put oj a (some d) v h1] at h
  split
  · rename_i hw
    rw [if_pos hw] at h
    exact (h.congr (execOp_put oj hsj a (some d) v h1).symm).mono fun u L' hk => ⟨keep a u (fun _ _ => rfl), by rw [← Act.put_comm a v u h2]; exact hk⟩
  · rename_i hw
    rw [if_neg hw] at h
    exact ⟨keep a _ (fun _ _ => rfl), by rw [← Act.put_comm a v undef h2]; exact h⟩
theorem gdst_arr {j : Nat} : (ops.toArray[j]?).bind (·.dst) = gdst ops j := by simp [gdst]
theorem QAt.full {o : Oper} {ρ : Env} {F : List Blk} {v : Value} {a a' : Act} (h : QAt P ops o ρ F v) (ha : Agr n a ρ) (hs : a'.tmps.size = n) (he : ∀ t ∈ o.looksAt ops.toArray, a'.tmps[t]? = a.tmps[t]?) : QAt P ops o (full n a') F v := by
  have key : ∀ t ∈ o.looksAt ops.toArray, ∀ u, lk ρ t = some u → lk (HL.full n a') t = some u := fun t ht u hu => full_get hs (by rw [he t ht]; exact ha.get t u hu)
  have hg : ∀ b, guardE ops ρ o.guard = some b → guardE ops (HL.full n a') o.guard = some b := fun b hb => guardE_le (fun j wt t u hgu hj hu => key t (by
    unfold Oper.looksAt
    rw [hgu]
    simp only [gdst_arr, hj]
    simp) u hu) hb
  have ho : ∀ x ∈ o.op.operands, ∀ u, ev ρ x = some u → ev (HL.full n a') x = some u := fun x hx u hu => by
    cases x with
    | tmp t => exact key t (List.mem_append_left _ (List.mem_filterMap.2 ⟨.tmp t, by simpa using hx, rfl⟩)) u hu
    | const c => exact hu
    | global c => exact hu
    | func c => exact hu
  rcases h with ⟨h1, h2⟩ | ⟨h1, h2⟩
  · exact .inl ⟨hg _ h1, fun L hL => (h2 L hL).le ho⟩
  · exact .inr ⟨hg _ h1, h2⟩
theorem HAny.ss : ∀ {f : Nat} {Ss Ss' : List (Nat × Blk)} {l : Array Bool} {ρ : Env} {L : Heap}, (∀ s ∈ Ss', s ∈ Ss) → HAny P n ops Q f Ss l ρ L → HAny P n ops Q f Ss' l ρ L
  | 0, _, _, _, _, _, _, h => h
  | f + 1, Ss, Ss', l, ρ, L, hs, h => ⟨h.1, fun i hi => (h.2 i hi).mono (fun _ _ h => h) fun ρ' L' ⟨h1, h2⟩ => ⟨ssOk_all.2 fun s hm hk => ssOk_all.1 h1 s (hs s hm) hk, HAny.ss (fun s hm => by
      simp only [ssF, List.mem_filter] at hm ⊢
      exact ⟨hs s hm.1, hm.2⟩) h2⟩⟩
/-- what reads may be taken first -/
theorem hany_first {i d : Nat} {oi : Oper} {F : List Blk} {v : Value} (hi : ops.toArray[i]? = some oi) (hd : oi.dst = some d) (hdn : d < n) (hsel : ∀ (j : Nat) (o : Oper) cs b, ops.toArray[j]? = some o → o.op ≠ .select cs b) :
    ∀ (f : Nat) (Ss : List (Nat × Blk)) (l : Array Bool) (ρ : Env) (L : Heap),
      (∀ j oj, ops.toArray[j]? = some oj → j ≠ i → l.getD j true = false → (∀ e ∈ oj.after, Region.binds .any e = true → e.on ≠ i) → oi.apart ops.toArray oj = true) →
      i ∈ Region.ready .any ops.toArray l → QAt P ops oi ρ F v → (∀ p ∈ F, Has L p.1 p.2) → (∀ s ∈ Ss, Has L s.2.1 s.2.2) →
      HAny P n ops Q f (F.map (fun p => (i, p)) ++ Ss) (l.setIfInBounds i true) ((d, v) :: ρ) L → HAny P n ops Q (f + 1) Ss l ρ L := by
  have self : ∀ (Ss : List (Nat × Blk)) (l : Array Bool) (ρ : Env) (L : Heap) (K : Env → Heap → Prop), QAt P ops oi ρ F v → (∀ p ∈ F, Has L p.1 p.2) → K ((d, v) :: ρ) L → HStep P n ops i K ρ L := by
    intro Ss l ρ L K hq hF hK a ha
    unfold KOp
    simp only [hi]
    rcases hq with ⟨hg, hq⟩ | ⟨hg, rfl⟩
    · rw [if_pos (wanted_of_guardE ha hg)]
      refine (hq L hF a.eval (fun x _ u hu => ha.ev hu)).mono fun u L' ⟨e1, e2⟩ => ?_
      rw [e1, e2, hd]
      exact ⟨_, ha.put hdn v, hK⟩
    · rw [if_neg (by rw [wanted_of_guardE ha hg]; simp)]
      rw [hd]
      exact ⟨_, ha.put hdn undef, hK⟩
  intro f
  induction f with
  | zero =>
    intro Ss l ρ L hfree hr hq hF hS H
    refine ⟨fun h => (by rw [h] at hr; cases hr), fun j hj => ?_⟩
    by_cases hji : j = i
    · subst hji
      exact self Ss l ρ L _ hq hF ⟨ssOk_all.2 fun s hs _ => hS s hs, HAny.ss (fun s hm => List.mem_append_right _ (List.mem_filter.1 hm).1) H⟩
    · have := ready_mono hj hji
      rw [H.1] at this
      cases this
  | succ f ih =>
    intro Ss l ρ L hfree hr hq hF hS H
    refine ⟨fun h => (by rw [h] at hr; cases hr), fun j hj => ?_⟩
    by_cases hji : j = i
    · subst hji
      exact self Ss l ρ L _ hq hF ⟨ssOk_all.2 fun s hs _ => hS s hs, HAny.ss (fun s hm => List.mem_append_right _ (List.mem_filter.1 hm).1) H⟩
    · have h1 := H.2 j (ready_mono hj hji)
      obtain ⟨hjun, oj, hoj, hall⟩ := mem_ready.1 hj
      have hnot : ∀ e ∈ oj.after, Region.binds .any e = true → e.on ≠ i := fun e he hb heq => by
        have h1 := hall e he hb
        have h0 := (mem_ready.1 hr).1
        rw [heq] at h1
        rcases Nat.lt_or_ge i l.size with h' | h'
        · simp [h'] at h0 h1; rw [h0] at h1; cases h1
        · simp [Array.getElem?_eq_none h'] at h1
      have hkeep : keepE ops i j = true := by
        unfold keepE
        rw [show ops[j]? = some oj by simpa using hoj]
        simp only [List.all_eq_true, Bool.not_eq_true', Bool.and_eq_false_iff]
        intro e he
        by_cases hb : Region.binds .any e = true
        · refine .inr ?_
          have := hnot e (Array.mem_toList_iff.1 he) hb
          cases hbq : Nat.beq e.on i with
          | false => rfl
          | true => exact absurd (Nat.eq_of_beq_eq_true hbq) this
        · exact .inl (by simpa using hb)
      intro a ha
      have h2 := kop_swap (d := d) (v := v) hoj hd (hfree j oj hoj hji hjun hnot) (fun cs b => hsel j oj cs b hoj) (h1 (a.put (some d) v) (ha.put hdn v))
      refine KOp.mono (fun a' L' h3 => ?_) h2
      obtain ⟨hsame, ρ', ha', hss, hH⟩ := h3
      have hsz : a'.tmps.size = n := by
        have := ha'.size
        simpa [Act.put] using this
      have hfree' : ∀ q oq, ops.toArray[q]? = some oq → q ≠ i → (l.setIfInBounds j true).getD q true = false → (∀ e ∈ oq.after, Region.binds .any e = true → e.on ≠ i) → oi.apart ops.toArray oq = true := fun q oq hq hqi hun hno => by
        refine hfree q oq hq hqi ?_ hno
        by_cases hjk : j = q
        · subst hjk; exact hjun
        · rw [getD_set_ne true hjk] at hun; exact hun
      have hss' := ssOk_all.1 hss
      refine ⟨full n a', agr_full hsz, ssOk_all.2 fun s hm hk => hss' s (List.mem_append_right _ hm) hk, ?_⟩
      refine ih (ssF ops j Ss) (l.setIfInBounds j true) (full n a') L' hfree' (ready_mono hr (Ne.symm hji)) (hq.full ha hsz hsame) (fun p hp => hss' (i, p) (List.mem_append_left _ (List.mem_map_of_mem hp)) hkeep)
        (fun s hm => hss' s (List.mem_append_right _ (List.mem_filter.1 hm).1) (List.mem_filter.1 hm).2) ?_
      rw [Array.setIfInBounds_comm _ _ hji]
      refine HAny.ss (fun s hm => ?_) (HAny.le (fun t u hu => ?_) hH)
      · simp only [ssF, List.mem_filter, List.mem_append, List.mem_map] at hm ⊢
        rcases hm with ⟨p, hp, rfl⟩ | hm
        · exact ⟨.inl ⟨p, hp, rfl⟩, hkeep⟩
        · exact ⟨.inr hm.1, hm.2⟩
      · have hg := ha'.get t u hu
        by_cases e : d = t
        · subst e
          rw [lk_cons_eq]
          have hlt : d < a'.tmps.size := by omega
          simp [Act.put, Array.getElem?_setIfInBounds, hlt] at hg
          exact congrArg some hg
        · rw [lk_cons_ne _ _ e]
          simp [Act.put, Array.getElem?_setIfInBounds, e] at hg
          exact full_get hsz hg
end any
end Go.HL
end

/-! QHLDr -/
section
namespace Go.HL
set_option linter.unusedSectionVars false
variable [Tasks]
open Go
set_option linter.unusedVariables false
set_option linter.unusedSimpArgs false

structure Unl (ops : List Oper) (l : Array Bool) (rem : List (Nat × Oper)) : Prop where
  size : l.size = ops.length
  nodup : (rem.map (·.1)).Nodup
  iff : ∀ j o, (j, o) ∈ rem ↔ (ops[j]? = some o ∧ l.getD j true = false)
def HD (P : Program) (n : Nat) (ops : List Oper) (Q : Exit → Env → Heap → Prop) (Ss : List (Nat × Blk)) (rem : List (Nat × Oper)) (ρ : Env) (L : Heap) : Prop :=
  (∀ s ∈ Ss, Has L s.2.1 s.2.2) → ∀ l, Unl ops l rem → HAny P n ops Q rem.length Ss l ρ L
def pickAt : Nat → List (Nat × Oper) → Option ((Nat × Oper) × List (Nat × Oper))
  | _, [] => none
  | 0, x :: r => some (x, r)
  | k + 1, x :: r => match pickAt k r with
    | some (y, r') => some (y, x :: r')
    | none => none
theorem pickAt_spec : ∀ {k : Nat} {l : List (Nat × Oper)} {x : Nat × Oper} {r : List (Nat × Oper)}, pickAt k l = some (x, r) → ∃ a b, l = a ++ x :: b ∧ r = a ++ b
  | k, [], _, _, h => by cases k <;> simp [pickAt] at h
  | 0, x :: r, _, _, h => by simp [pickAt] at h; obtain ⟨rfl, rfl⟩ := h; exact ⟨[], _, rfl, rfl⟩
  | k + 1, y :: l, x, r, h => by
    simp only [pickAt] at h
    split at h
    · rename_i z r' hz
      simp at h
      obtain ⟨rfl, rfl⟩ := h
      obtain ⟨a, b, rfl, rfl⟩ := pickAt_spec hz
      exact ⟨y :: a, b, rfl, rfl⟩
    · cases h
def isAct (o : Oper) : Bool := match o.op with
  | .alloc _ | .box _ _ | .store _ _ _ | .buildSlice _ _ _ | .makeSlice _ _ _ | .makeMap _ _ | .mapUpdate _ _ _ _ | .insert _ _ _ _ | .makeChan _ _ => true
  | .call ⟨.builtin .append, _, _⟩ => true
  | .call ⟨.builtin .copy, _, _⟩ => true
  | .call ⟨.builtin .clear, _, _⟩ => true
  | _ => false
def isLoud (o : Oper) : Bool := match o.op with
  | .call ⟨.value _, _, _⟩ => true
  | .call ⟨.invoke _ _, _, _⟩ => true
  | _ => isAct o
/-- the first that is loud, or is not -/
def pickK (b : Bool) : List (Nat × Oper) → Option ((Nat × Oper) × List (Nat × Oper))
  | [] => none
  | x :: r => bif (match isLoud x.2, b with | true, true => true | false, false => true | _, _ => false) then some (x, r) else match pickK b r with
    | some (y, r') => some (y, x :: r')
    | none => none
theorem pickK_spec {b : Bool} : ∀ {l : List (Nat × Oper)} {x : Nat × Oper} {r : List (Nat × Oper)}, pickK b l = some (x, r) → ∃ a b, l = a ++ x :: b ∧ r = a ++ b
  | [], _, _, h => by simp [pickK] at h
  | y :: l, x, r, h => by
    simp only [pickK] at h
    cases hc : (match isLoud y.2, b with | true, true => true | false, false => true | _, _ => false) with
    | true =>
      rw [hc] at h
      simp at h
      obtain ⟨rfl, rfl⟩ := h
      exact ⟨[], _, rfl, rfl⟩
    | false =>
      rw [hc] at h
      simp only [cond_false] at h
      split at h
      · rename_i z r' hz
        simp at h
        obtain ⟨rfl, rfl⟩ := h
        obtain ⟨a, b, rfl, rfl⟩ := pickK_spec hz
        exact ⟨y :: a, b, rfl, rfl⟩
      · cases h
/-- 100: the first quiet one; 101: the first loud one; else by its place -/
def pickS (k : Nat) (l : List (Nat × Oper)) : Option ((Nat × Oper) × List (Nat × Oper)) :=
  bif Nat.beq k 100 then pickK false l else bif Nat.beq k 101 then pickK true l else pickAt k l
theorem pickS_spec {k : Nat} {l : List (Nat × Oper)} {x : Nat × Oper} {r : List (Nat × Oper)} (h : pickS k l = some (x, r)) : ∃ a b, l = a ++ x :: b ∧ r = a ++ b := by
  unfold pickS at h
  cases h1 : Nat.beq k 100 with
  | true => rw [h1] at h; exact pickK_spec h
  | false =>
    rw [h1] at h
    cases h2 : Nat.beq k 101 with
    | true => rw [h2] at h; exact pickK_spec h
    | false => rw [h2] at h; exact pickAt_spec h
def readyR (m : Nat) (rem : List (Nat × Oper)) (o : Oper) : Bool := o.after.toList.all fun e => !(Region.binds .any e) || (Nat.blt e.on m && rem.all fun q => !Nat.beq q.1 e.on)
def waitsOn (o : Oper) (i : Nat) : Bool := o.after.toList.any fun e => Region.binds .any e && Nat.beq e.on i
def chkQ (ops : List Oper) (rem : List (Nat × Oper)) (i : Nat) (o : Oper) : Bool :=
  readyR ops.length ((i, o) :: rem) o && (rem.all fun q => waitsOn q.2 i || o.apart ops.toArray q.2) && Region.noSelect ops.toArray
def chkA (ops : List Oper) (rem : List (Nat × Oper)) (i : Nat) (o : Oper) : Bool :=
  readyR ops.length ((i, o) :: rem) o && rem.all fun q => !readyR ops.length ((i, o) :: rem) q.2
section hd
variable {P : Program} {n : Nat} {ops : List Oper} {Q : Exit → Env → Heap → Prop} {Ss : List (Nat × Blk)} {rem rem' : List (Nat × Oper)} {ρ : Env} {L : Heap}
theorem beq_no {a b : Nat} (h : Nat.beq a b = false) : a ≠ b := fun e => by subst e; simp at h
theorem Unl.ready {l : Array Bool} {i : Nat} {o : Oper} (hu : Unl ops l rem) (hm : (i, o) ∈ rem) (hr : readyR ops.length rem o = true) : i ∈ Region.ready .any ops.toArray l := by
  obtain ⟨h1, h2⟩ := (hu.iff i o).1 hm
  refine mem_ready.2 ⟨h2, o, by simpa using h1, fun e he hb => ?_⟩
  have := List.all_eq_true.1 hr e (Array.mem_toList_iff.2 he)
  rw [hb] at this
  simp only [Bool.not_true, Bool.false_or, Bool.and_eq_true] at this
  have hlt : e.on < ops.length := Nat.le_of_ble_eq_true this.1
  have hnot : ∀ q ∈ rem, q.1 ≠ e.on := fun q hq => by
    have h3 := List.all_eq_true.1 this.2 q hq
    exact beq_no (by simpa using h3)
  have hlt' : e.on < l.size := by rw [hu.size]; exact hlt
  cases hv : l.getD e.on true with
  | false => exact absurd rfl (hnot (e.on, ops[e.on]) ((hu.iff _ _).2 ⟨List.getElem?_eq_getElem hlt, hv⟩))
  | true => simpa [Array.getD, hlt'] using hv
theorem Unl.readyR_of {l : Array Bool} {i : Nat} (hu : Unl ops l rem) (hi : i ∈ Region.ready .any ops.toArray l) : ∃ o, (i, o) ∈ rem ∧ readyR ops.length rem o = true := by
  obtain ⟨h1, o, h2, h3⟩ := mem_ready.1 hi
  refine ⟨o, (hu.iff i o).2 ⟨by simpa using h2, h1⟩, List.all_eq_true.2 fun e he => ?_⟩
  cases hb : Region.binds .any e with
  | false => rfl
  | true =>
    have h4 := h3 e (Array.mem_toList_iff.1 he) hb
    have hlt : e.on < l.size := by
      rcases Nat.lt_or_ge e.on l.size with h | h
      · exact h
      · simp [Array.getElem?_eq_none h] at h4
    simp only [Bool.not_true, Bool.false_or, Bool.and_eq_true]
    refine ⟨Nat.ble_eq_true_of_le (by have := hu.size; omega), List.all_eq_true.2 fun q hq => ?_⟩
    have := ((hu.iff q.1 q.2).1 hq).2
    cases hbq : Nat.beq q.1 e.on with
    | false => rfl
    | true =>
      have e1 := Nat.eq_of_beq_eq_true hbq
      rw [e1] at this
      simp [Array.getD, hlt] at h4 this
      rw [h4] at this
      cases this
theorem Unl.drop {l : Array Bool} {i : Nat} {o : Oper} {a b : List (Nat × Oper)} (hu : Unl ops l (a ++ (i, o) :: b)) : Unl ops (l.setIfInBounds i true) (a ++ b) := by
  have hnd := hu.nodup
  simp only [List.map_append, List.map_cons] at hnd
  have hd := List.nodup_append.1 hnd
  have hd2 := List.nodup_cons.1 hd.2.1
  refine ⟨by simp [hu.size], ?_, fun j q => ?_⟩
  · simp only [List.map_append]
    refine List.nodup_append.2 ⟨hd.1, hd2.2, fun x hx y hy => hd.2.2 x hx y (List.mem_cons_of_mem _ hy)⟩
  · by_cases e : i = j
    · subst e
      constructor
      · intro hm
        exfalso
        rcases List.mem_append.1 hm with hm | hm
        · exact hd.2.2 i (List.mem_map_of_mem hm) i (by simp) rfl
        · exact hd2.1 (List.mem_map_of_mem hm)
      · rintro ⟨h1, h2⟩
        have hlt : i < l.size := by rw [hu.size]; exact (List.getElem?_eq_some_iff.1 h1).1
        simp [Array.getD, hlt] at h2
    · rw [getD_set_ne true e, ← hu.iff j q]
      simp only [List.mem_append, List.mem_cons, Prod.mk.injEq]
      constructor
      · rintro (h | h)
        · exact .inl h
        · exact .inr (.inr h)
      · rintro (h | ⟨h, _⟩ | h)
        · exact .inl h
        · exact absurd h.symm e
        · exact .inr h
theorem readyR_perm {m : Nat} {a b : List (Nat × Oper)} {x : Nat × Oper} {o : Oper} : readyR m (x :: (a ++ b)) o = readyR m (a ++ x :: b) o := by
  unfold readyR
  congr 1
  funext e
  congr 2
  simp only [List.all_cons, List.all_append]
  cases (a.all fun q => !Nat.beq q.1 e.on) <;> cases (!Nat.beq x.1 e.on) <;> rfl
theorem waitsOn_of {o : Oper} {i : Nat} (h : ∀ e ∈ o.after, Region.binds .any e = true → e.on ≠ i) : waitsOn o i = false := by
  unfold waitsOn
  rw [List.any_eq_false]
  intro e he
  simp only [Bool.and_eq_true, not_and]
  intro hb hq
  exact h e (Array.mem_toList_iff.1 he) hb (Nat.eq_of_beq_eq_true hq)
theorem hd_nil (h : Q .normal ρ L) : HD P n ops Q Ss [] ρ L := fun hS l hu => by
  refine ⟨?_, fun a ha => ⟨ρ, L, ha, .refl L, h⟩⟩
  cases hr : Region.ready .any ops.toArray l with
  | nil => rfl
  | cons i r =>
    obtain ⟨o, hm, _⟩ := hu.readyR_of (i := i) (by rw [hr]; exact .head _)
    cases hm
theorem hd_q {k i d : Nat} {o : Oper} {F : List Blk} {v : Value} (hp : pickS k rem = some ((i, o), rem')) (hc : chkQ ops rem' i o = true) (hd : o.dst = some d) (hn : Nat.blt d n = true) (hq : QAt P ops o ρ F v) (hF : ∀ p ∈ F, Has L p.1 p.2)
    (hr : HD P n ops Q (F.map (fun p => (i, p)) ++ Ss) rem' ((d, v) :: ρ) L) : HD P n ops Q Ss rem ρ L := fun hS l hu => by
  obtain ⟨a, b, rfl, rfl⟩ := pickS_spec hp
  simp only [chkQ, Bool.and_eq_true] at hc
  obtain ⟨⟨c1, c2⟩, c3⟩ := hc
  rw [readyR_perm] at c1
  have hm : (i, o) ∈ a ++ (i, o) :: b := by simp
  obtain ⟨h1, h2⟩ := (hu.iff i o).1 hm
  have hlen : (a ++ (i, o) :: b).length = (a ++ b).length + 1 := by simp; omega
  rw [hlen]
  refine hany_first (by simpa using h1) hd (Nat.le_of_ble_eq_true hn) (Region.noSelect_spec c3) _ _ _ _ _ (fun j oj hj hji hun hno => ?_) (hu.ready hm c1) hq hF hS (hr (fun s hs => ?_) _ hu.drop)
  · have hmj : (j, oj) ∈ a ++ b := by
      have := (hu.iff j oj).2 ⟨by simpa using hj, hun⟩
      simp only [List.mem_append, List.mem_cons, Prod.mk.injEq] at this ⊢
      rcases this with h | ⟨h, _⟩ | h
      · exact .inl h
      · exact absurd h hji
      · exact .inr h
    have := List.all_eq_true.1 c2 _ hmj
    rw [waitsOn_of hno] at this
    simpa using this
  · rcases List.mem_append.1 hs with hs | hs
    · obtain ⟨p, hp, rfl⟩ := List.mem_map.1 hs
      exact hF p hp
    · exact hS s hs
/-- behind an action -/
def actQ (P : Program) (n : Nat) (ops : List Oper) (Q : Exit → Env → Heap → Prop) (i : Nat) (Ss : List (Nat × Blk)) (rem : List (Nat × Oper)) : Exit → Env → Heap → Prop
  | .normal, ρ, L => ssOk ops i L Ss ∧ HD P n ops Q (ssF ops i Ss) rem ρ L
  | _, _, _ => False
theorem hd_act {k i : Nat} {o : Oper} (hp : pickS k rem = some ((i, o), rem')) (hc : chkA ops rem' i o = true) (h : HO P n ops (actQ P n ops Q i Ss rem') [o] ρ L) : HD P n ops Q Ss rem ρ L := fun hS l hu => by
  obtain ⟨a, b, rfl, rfl⟩ := pickS_spec hp
  simp only [chkA, Bool.and_eq_true] at hc
  obtain ⟨c1, c2⟩ := hc
  rw [readyR_perm] at c1
  have hm : (i, o) ∈ a ++ (i, o) :: b := by simp
  obtain ⟨h1, h2⟩ := (hu.iff i o).1 hm
  have hlen : (a ++ (i, o) :: b).length = (a ++ b).length + 1 := by simp; omega
  rw [hlen]
  have hrd := hu.ready hm c1
  refine ⟨fun h0 => (by rw [h0] at hrd; cases hrd), fun j hj => ?_⟩
  obtain ⟨oj, hmj, hrj⟩ := hu.readyR_of hj
  have hji : j = i := by
    simp only [List.mem_append, List.mem_cons, Prod.mk.injEq] at hmj
    have key : (j, oj) ∈ a ++ b → False := fun hx => by
      have := List.all_eq_true.1 c2 _ hx
      rw [readyR_perm, hrj] at this
      cases this
    rcases hmj with h | ⟨h, _⟩ | h
    · exact (key (List.mem_append.2 (.inl h))).elim
    · exact h
    · exact (key (List.mem_append.2 (.inr h))).elim
  subst hji
  intro ac ha
  have h3 := ho_uncons h ac ha
  have fin : ∀ (a1 : Act) (L1 : Heap), (∃ ρ', Agr n a1 ρ' ∧ HO P n ops (actQ P n ops Q j Ss (a ++ b)) [] ρ' L1) → ∃ ρ', Agr n a1 ρ' ∧ ssOk ops j L1 Ss ∧ HAny P n ops Q (a ++ b).length (ssF ops j Ss) (l.setIfInBounds j true) ρ' L1 := fun a1 L1 hx => by
    obtain ⟨ρ', e1, L2, hw, e3, e4⟩ := hx
    have e5 : ssOk ops j L1 Ss := ssOk_ls hw e3
    refine ⟨ρ', e1, e5, HAny.ls (e4 (fun s hs => ?_) _ hu.drop) hw⟩
    have := List.mem_filter.1 hs
    exact ssOk_all.1 e3 s this.1 this.2
  unfold KOp
  rw [show ops.toArray[j]? = some o by simpa using h1]
  simp only
  split
  · rename_i hw
    rw [if_pos hw] at h3
    exact h3.mono fun v L1 hx => fin _ _ hx
  · rename_i hw
    rw [if_neg hw] at h3
    exact fin _ _ h3
theorem hd_split {t : Nat} {b : Bool} (ht : lk ρ t = some (.bool b)) (h1 : b = true → HD P n ops Q Ss rem ((t, .bool true) :: ρ) L) (h0 : b = false → HD P n ops Q Ss rem ((t, .bool false) :: ρ) L) : HD P n ops Q Ss rem ρ L := fun hS l hu => by
  have key : ∀ c, b = c → ELe ((t, .bool c) :: ρ) ρ := fun c hc x v hx => by
    subst hc
    by_cases e : t = x
    · subst e
      rw [lk_cons_eq] at hx
      rw [ht, hx]
    · rw [lk_cons_ne _ _ e] at hx
      exact hx
  cases hb : b with
  | true => exact (h1 hb hS l hu).le (key _ hb)
  | false => exact (h0 hb hS l hu).le (key _ hb)
def nums : List Nat := [0, 1, 2, 3, 4, 5, 6, 7, 8, 9, 10, 11, 12, 13, 14, 15, 16, 17, 18, 19, 20, 21, 22, 23, 24, 25, 26, 27, 28, 29, 30, 31, 32, 33, 34, 35, 36, 37, 38, 39, 40, 41, 42, 43, 44, 45, 46, 47, 48, 49, 50, 51, 52, 53, 54, 55, 56, 57, 58, 59]
def numE : List Nat → List Oper → (List (Nat × Oper) → Option (List (Nat × Oper))) → Option (List (Nat × Oper))
  | _, [], K => K []
  | k :: ks, o :: r, K => numE ks r fun l => K ((k, o) :: l)
  | [], _ :: _, _ => none
def numN : List Nat → List Oper → Option (List (Nat × Oper))
  | _, [] => some []
  | k :: ks, o :: r => (numN ks r).map ((k, o) :: ·)
  | [], _ :: _ => none
theorem numE_eq : ∀ (ks : List Nat) (l : List Oper) (K : List (Nat × Oper) → Option (List (Nat × Oper))), numE ks l K = (numN ks l).bind K
  | ks, [], K => by cases ks <;> simp [numE, numN]
  | [], _ :: _, K => by simp [numE, numN]
  | k :: ks, o :: r, K => by
    simp only [numE, numN, numE_eq ks r]
    cases numN ks r <;> rfl
theorem numN_spec : ∀ (ks : List Nat) (l : List Oper) (b : Nat) (rem : List (Nat × Oper)), (∀ i k, ks[i]? = some k → k = b + i) → numN ks l = some rem → (rem.map (·.1)).Nodup ∧ ∀ j o, (j, o) ∈ rem ↔ (b ≤ j ∧ l[j - b]? = some o)
  | ks, [], b, rem, _, h => by cases ks <;> (simp [numN] at h; subst h; simp)
  | [], _ :: _, _, _, _, h => by simp [numN] at h
  | k :: ks, o :: r, b, rem, hk, h => by
    simp only [numN, Option.map_eq_some_iff] at h
    obtain ⟨l', hl, rfl⟩ := h
    have hk0 : k = b := by simpa using hk 0 k rfl
    obtain ⟨h1, h2⟩ := numN_spec ks r (b + 1) l' (fun i q hq => by have := hk (i + 1) q (by simpa using hq); omega) hl
    subst hk0
    refine ⟨?_, fun j q => ?_⟩
    · rw [List.map_cons, List.nodup_cons]
      refine ⟨fun hm => ?_, h1⟩
      obtain ⟨p, hp, e⟩ := List.mem_map.1 hm
      have := (h2 p.1 p.2).1 hp
      simp only at e
      omega
    · simp only [List.mem_cons, Prod.mk.injEq, h2]
      constructor
      · rintro (⟨rfl, rfl⟩ | ⟨e1, e2⟩)
        · simp
        · refine ⟨by omega, ?_⟩
          rw [show j - k = (j - (k + 1)) + 1 by omega]
          simpa using e2
      · rintro ⟨e1, e2⟩
        by_cases e : j = k
        · subst e
          simp at e2
          exact .inl ⟨rfl, e2.symm⟩
        · refine .inr ⟨by omega, ?_⟩
          rw [show j - k = (j - (k + 1)) + 1 by omega] at e2
          simpa using e2
theorem numN_len : ∀ (ks : List Nat) (l : List Oper) (rem : List (Nat × Oper)), numN ks l = some rem → rem.length = l.length
  | ks, [], rem, h => by cases ks <;> (simp [numN] at h; subst h; rfl)
  | [], _ :: _, _, h => by simp [numN] at h
  | k :: ks, o :: r, rem, h => by
    simp only [numN, Option.map_eq_some_iff] at h
    obtain ⟨l', hl, rfl⟩ := h
    simp [numN_len ks r l' hl]
/-- a region that draws its order -/
theorem hw_draw {id : Nat} (S : Tab P) (h0 : numE nums ops some = some rem) (h : HD P n ops Q [] rem ρ L) : HW P n (.region id ops.toArray true) Q ρ L := by
  rw [numE_eq] at h0
  have h0' : numN nums ops = some rem := by
    cases hx : numN nums ops with
    | none => rw [hx] at h0; cases h0
    | some r => rw [hx] at h0; exact h0
  obtain ⟨h1, h2⟩ := numN_spec nums ops 0 rem (fun i q hq => by
    have hlt : i < 60 := (List.getElem?_eq_some_iff.1 hq).1
    have : ∀ i, i < 60 → nums[i]? = some i := by decide
    rw [this i hlt] at hq
    cases hq
    omega) h0'
  have hlen := numN_len _ _ _ h0'
  have hu : Unl ops (Array.replicate ops.length false) rem := ⟨by simp, h1, fun j o => by
    rw [h2 j o]
    simp only [Nat.zero_le, true_and, Nat.sub_zero]
    constructor
    · intro hj
      have hlt := (List.getElem?_eq_some_iff.1 hj).1
      exact ⟨hj, by simp [Array.getD, hlt]⟩
    · exact fun h => h.1⟩
  refine hw_any S.mixed fun a ha => ?_
  have hx := HAny.sound _ _ _ _ _ (h (fun s hs => by cases hs) _ hu) a ha
  rw [hlen] at hx
  simpa using hx
end hd
end Go.HL
end

/-! QHLEq -/
section
namespace Go.HL
set_option linter.unusedSectionVars false
variable [Tasks]
open Go
set_option linter.unusedVariables false
set_option linter.unusedSimpArgs false

/-- the parts are the same -/
def eqF : List Nat → List Value → List Value → Option Bool
  | [], [], [] => some true
  | 1 :: t, .bool a :: xs, .bool b :: ys => match eqF t xs ys with
    | some r => some ((a == b) && r)
    | none => none
  | 2 :: t, .int k a :: xs, .int k' b :: ys => bif kEq k k' then (match eqF t xs ys with
    | some r => some (decide (a = b) && r)
    | none => none) else none
  | 3 :: t, .string ⟨⟨a⟩⟩ :: xs, .string ⟨⟨b⟩⟩ :: ys => match eqF t xs ys with
    | some r => some (decide (a = b) && r)
    | none => none
  | _, _, _ => none
theorem eqF_len : ∀ {t : List Nat} {xs ys : List Value} {r : Bool}, eqF t xs ys = some r → xs.length = t.length ∧ ys.length = t.length := by
  intro t
  induction t with
  | nil =>
    intro xs ys r h
    unfold eqF at h
    split at h <;> simp_all
  | cons a t ih =>
    intro xs ys r h
    unfold eqF at h
    split at h
    · rename_i e; cases e
    · rename_i e
      cases e
      split at h
      · rename_i hr; have := ih hr; simp_all
      · cases h
    · rename_i e
      cases e
      obtain ⟨_, h⟩ := bif_some h
      split at h
      · rename_i hr; have := ih hr; simp_all
      · cases h
    · rename_i e
      cases e
      split at h
      · rename_i hr; have := ih hr; simp_all
      · cases h
    · cases h
theorem eqF_append : ∀ {t t2 : List Nat} {xs ys : List Value} {r : Bool}, eqF (t ++ t2) xs ys = some r → ∃ r1 r2, eqF t (xs.take t.length) (ys.take t.length) = some r1 ∧ eqF t2 (xs.drop t.length) (ys.drop t.length) = some r2 ∧ r = (r1 && r2) := by
  intro t
  induction t with
  | nil => intro t2 xs ys r h; exact ⟨true, r, by simp [eqF], by simpa using h, by simp⟩
  | cons a t ih =>
    intro t2 xs ys r h
    rw [List.cons_append] at h
    unfold eqF at h
    split at h
    · rename_i e; cases e
    · rename_i e
      cases e
      split at h
      · rename_i hr
        cases h
        obtain ⟨r1, r2, h1, h2, rfl⟩ := ih hr
        exact ⟨_, r2, by simp [eqF, h1]; rfl, by simpa using h2, by simp [Bool.and_assoc]⟩
      · cases h
    · rename_i e
      cases e
      obtain ⟨hk, h⟩ := bif_some h
      split at h
      · rename_i hr
        cases h
        obtain ⟨r1, r2, h1, h2, rfl⟩ := ih hr
        exact ⟨_, r2, by simp [eqF, h1, hk]; rfl, by simpa using h2, by simp [Bool.and_assoc]⟩
      · cases h
    · rename_i e
      cases e
      split at h
      · rename_i hr
        cases h
        obtain ⟨r1, r2, h1, h2, rfl⟩ := ih hr
        exact ⟨_, r2, by simp [eqF, h1]; rfl, by simpa using h2, by simp [Bool.and_assoc]⟩
      · cases h
    · cases h
section eq
variable {P : Program}
/-- a value of a type, by its cells -/
def ofC (P : Program) (t : Nat) (xs : List Value) (v : Value) : Prop := (isA P t = true ∧ v = .agg ⟨xs⟩) ∨ (isA P t = false ∧ xs = [v])
theorem flat_info {d t : Nat} {l : List Nat} (h : flatT P d t = some l) : ∃ i dsc, P.underlying t = some dsc ∧ P.info? t = some i ∧ (isA P t = true → i.size = l.length) ∧ (isA P t = false → l.length = 1) := by
  cases d with
  | zero => simp [flatT] at h
  | succ d =>
    unfold flatT at h
    unfold isA
    split at h
    · rename_i i hu hi; split at h <;> cases h; exact ⟨i, _, hu, hi, by simp [hu], fun _ => rfl⟩
    · rename_i i hu hi; split at h <;> cases h; exact ⟨i, _, hu, hi, by simp [hu], fun _ => rfl⟩
    · rename_i i hu hi; split at h <;> cases h; exact ⟨i, _, hu, hi, by simp [hu], fun _ => rfl⟩
    · rename_i fs i hu hi
      split at h
      · cases h
      · split at h
        · split at h
          · rename_i hs; cases h; exact ⟨i, _, hu, hi, fun _ => hs, by simp [hu]⟩
          · cases h
        · cases h
    · rename_i n e i hu hi
      split at h
      · split at h
        · rename_i hs; cases h; exact ⟨i, _, hu, hi, fun _ => by simp [hs.1], by simp [hu]⟩
        · cases h
      · cases h
    · cases h
theorem isAgg_run {t : Nat} {dsc : TypeDesc} (h : P.underlying t = some dsc) (w : World) : (isAgg t).run P w = .ok (isA P t) w := by
  unfold isA
  cases dsc <;> simp [isAgg, run_underlying h, h]
theorem part_run {d t off : Nat} {l : List Nat} {XS : List Value} (h : flatT P d t = some l) (hl : off + l.length ≤ XS.length) (w : World) : ∃ v, (part t ⟨XS⟩ off).run P w = .ok v w ∧ ofC P t ((XS.drop off).take l.length) v := by
  obtain ⟨i, dsc, hu, hi, h1, h2⟩ := flat_info h
  have ha := isAgg_run hu w
  cases hA : isA P t with
  | true =>
    rw [hA] at ha
    refine ⟨.agg ⟨(XS.drop off).take l.length⟩, ?_, .inl ⟨hA, rfl⟩⟩
    have hs : (sizeOf t).run P w = .ok l.length w := by simp [sizeOf, typeInfo, hi, h1 hA]
    simp [part, ha, hs, List.take_drop, List.extract_eq_take_drop]
  | false =>
    rw [hA] at ha
    have h3 := h2 hA
    have hlt : off < XS.length := by omega
    refine ⟨XS[off], ?_, .inr ⟨hA, ?_⟩⟩
    · simp [part, ha, hlt]
    · rw [h3, List.drop_eq_getElem_cons hlt]
      rfl
def EqRun (P : Program) (dd d : Nat) : Prop := ∀ (t : Nat) (l : List Nat) (xs ys : List Value) (x y : Value) (r : Bool) (w : World), flatT P d t = some l → ofC P t xs x → ofC P t ys y → eqF l xs ys = some r → (Op.equalIn dd t x y).run P w = .ok r w
theorem eqFields_run {dd d : Nat} (IH : EqRun P dd d) : ∀ (fs : List Field) (off : Nat) (l : List Nat) (XS YS : List Value) (r : Bool) (w : World), flatFs (flatT P d) fs off = some l → eqF l (XS.drop off) (YS.drop off) = some r → (Op.eqFields dd ⟨XS⟩ ⟨YS⟩ fs).run P w = .ok r w
  | [], off, l, XS, YS, r, w, hf, h => by
    simp [flatFs] at hf
    subst hf
    unfold eqF at h
    split at h
    · cases h; simp [Op.eqFields]
    all_goals simp_all
  | f :: fs, off, l, XS, YS, r, w, hf, h => by
    simp only [flatFs] at hf
    split at hf
    · rename_i l1 hl1
      split at hf
      · rename_i hc
        obtain ⟨hn, ho, hz⟩ := hc
        split at hf
        · rename_i m hm
          cases hf
          obtain ⟨r1, r2, e1, e2, rfl⟩ := eqF_append h
          have hlen := eqF_len h
          simp only [List.length_append, List.length_drop] at hlen
          obtain ⟨x, p1, f1⟩ := part_run (XS := XS) (off := off) hl1 (by omega) w
          obtain ⟨y, p2, f2⟩ := part_run (XS := YS) (off := off) hl1 (by omega) w
          have hr := IH f.type l1 _ _ x y r1 w hl1 f1 f2 e1
          have ih := eqFields_run IH fs (off + l1.length) m XS YS r2 w hm (by simpa [List.drop_drop] using e2)
          subst ho
          cases r1 <;> simp [Op.eqFields, hn, p1, p2, hr, ih]
        · cases hf
      · cases hf
    · cases hf
theorem eqItems_run {dd d e : Nat} (IH : EqRun P dd d) {l : List Nat} (hl : flatT P d e = some l) (hz : 0 < l.length) : ∀ (k i0 : Nat) (XS YS : List Value) (r : Bool) (w : World), eqF (List.replicate k l).flatten (XS.drop (i0 * l.length)) (YS.drop (i0 * l.length)) = some r → (Op.eqItems dd e l.length ⟨XS⟩ ⟨YS⟩ ((List.range k).map (· + i0))).run P w = .ok r w
  | 0, i0, XS, YS, r, w, h => by
    simp [eqF] at h
    unfold eqF at h
    split at h
    · cases h; simp [Op.eqItems]
    all_goals simp_all
  | k + 1, i0, XS, YS, r, w, h => by
    rw [List.replicate_succ, List.flatten_cons] at h
    obtain ⟨r1, r2, e1, e2, rfl⟩ := eqF_append h
    have hlen := eqF_len h
    simp only [List.length_append, List.length_drop] at hlen
    obtain ⟨x, p1, f1⟩ := part_run (XS := XS) (off := i0 * l.length) hl (by omega) w
    obtain ⟨y, p2, f2⟩ := part_run (XS := YS) (off := i0 * l.length) hl (by omega) w
    have hr := IH e l _ _ x y r1 w hl f1 f2 e1
    have ih := eqItems_run IH hl hz k (i0 + 1) XS YS r2 w (by simpa [List.drop_drop, Nat.add_mul] using e2)
    rw [List.range_succ_eq_map, List.map_cons, List.map_map]
    have e9 : ((fun x => x + i0) ∘ Nat.succ) = (· + (i0 + 1)) := by funext q; simp; omega
    rw [e9]
    cases r1 <;> simp [Op.eqItems, p1, p2, hr, ih]
theorem eq_leaf1 {t : Nat} {x y : Value} {r : Bool} {w : World} (dd : Nat) (hu : P.underlying t = some .bool) (he : eqF [1] [x] [y] = some r) : (Op.equalIn (dd + 1) t x y).run P w = .ok r w := by
  cases x <;> cases y <;> simp [eqF] at he
  subst he
  exact run_equalIn_bool w dd t _ _ hu
theorem eq_leaf2 {t : Nat} {k : IntKind} {x y : Value} {r : Bool} {w : World} (dd : Nat) (hu : P.underlying t = some (.int k)) (he : eqF [2] [x] [y] = some r) : (Op.equalIn (dd + 1) t x y).run P w = .ok r w := by
  cases x <;> cases y <;> simp [eqF] at he
  rename_i k1 a k2 b
  obtain ⟨hk, he⟩ := bif_some he
  cases he
  cases kEq_eq hk
  exact run_equalIn_int w dd t k1 k a b hu
theorem eq_leaf3 {t : Nat} {x y : Value} {r : Bool} {w : World} (dd : Nat) (hu : P.underlying t = some .string) (he : eqF [3] [x] [y] = some r) : (Op.equalIn (dd + 1) t x y).run P w = .ok r w := by
  cases x <;> cases y <;> try (simp [eqF] at he; done)
  rename_i a b
  obtain ⟨⟨a⟩⟩ := a
  obtain ⟨⟨b⟩⟩ := b
  simp [eqF] at he
  subst he
  rw [run_equalIn_string w dd t _ _ hu, ba_list, ba_list]
  by_cases e : a = b <;> simp [e]
theorem eqRun : ∀ (d q : Nat), EqRun P (q + d) d
  | 0, q => by intro t l xs ys x y r w h; simp [flatT] at h
  | d + 1, q => by
    intro t l xs ys x y r w h hx hy he
    have h0 := h
    unfold flatT at h
    split at h
    · rename_i i hu hi
      split at h
      · cases h
        have hA : isA P t = false := by simp [isA, hu]
        rcases hx with ⟨hx, _⟩ | ⟨_, rfl⟩
        · rw [hA] at hx; cases hx
        · rcases hy with ⟨hy, _⟩ | ⟨_, rfl⟩
          · rw [hA] at hy; cases hy
          · rw [show q + (d + 1) = q + d + 1 by omega]
            exact eq_leaf1 (q + d) hu he
      · cases h
    · rename_i i hu hi
      split at h
      · cases h
        have hA : isA P t = false := by simp [isA, hu]
        rcases hx with ⟨hx, _⟩ | ⟨_, rfl⟩
        · rw [hA] at hx; cases hx
        · rcases hy with ⟨hy, _⟩ | ⟨_, rfl⟩
          · rw [hA] at hy; cases hy
          · rw [show q + (d + 1) = q + d + 1 by omega]
            exact eq_leaf2 (q + d) hu he
      · cases h
    · rename_i i hu hi
      split at h
      · cases h
        have hA : isA P t = false := by simp [isA, hu]
        rcases hx with ⟨hx, _⟩ | ⟨_, rfl⟩
        · rw [hA] at hx; cases hx
        · rcases hy with ⟨hy, _⟩ | ⟨_, rfl⟩
          · rw [hA] at hy; cases hy
          · rw [show q + (d + 1) = q + d + 1 by omega]
            exact eq_leaf3 (q + d) hu he
      · cases h
    · rename_i fs i hu hi
      split at h
      · cases h
      · rename_i hs
        split at h
        · rename_i l' hl
          split at h
          · cases h
            have hA : isA P t = true := by simp [isA, hu]
            rcases hx with ⟨_, rfl⟩ | ⟨hx, _⟩
            · rcases hy with ⟨_, rfl⟩ | ⟨hy, _⟩
              · have hf : P.fieldsOf t = fs := by simp [Program.fieldsOf, hu]
                have := run_equalIn_struct (P := P) w (q + d) t ⟨xs⟩ ⟨ys⟩ (by rw [hf]; exact hu) (by simpa using hs)
                rw [show q + (d + 1) = q + d + 1 by omega, this, hf]
                exact eqFields_run (eqRun d q) fs.toList 0 l xs ys r w hl (by simpa using he)
              · rw [hA] at hy; cases hy
            · rw [hA] at hx; cases hx
          · cases h
        · cases h
    · rename_i n e i hu hi
      split at h
      · rename_i l' hl
        split at h
        · rename_i hc
          cases h
          have hA : isA P t = true := by simp [isA, hu]
          rcases hx with ⟨_, rfl⟩ | ⟨hx, _⟩
          · rcases hy with ⟨_, rfl⟩ | ⟨hy, _⟩
            · obtain ⟨ie, hie, hse⟩ := Option.map_eq_some_iff.1 hc.2.1
              have hce : P.cellsOf e = l'.length := by simp [Program.cellsOf, hie, hse]
              have := run_equalIn_array (P := P) w (q + d) ⟨xs⟩ ⟨ys⟩ hu hie
              rw [show q + (d + 1) = q + d + 1 by omega, this, hce]
              have h9 := eqItems_run (eqRun d q) hl hc.2.2 n 0 xs ys r w (by simpa using he)
              simpa using h9
            · rw [hA] at hy; cases hy
          · rw [hA] at hx; cases hx
        · cases h
      · cases h
    · cases h
theorem eqFs_mem {g : Nat → Option (List Nat)} {XS YS : List Value} : ∀ {fs : List Field} {off : Nat} {l : List Nat} {r : Bool}, flatFs g fs off = some l → eqF l (XS.drop off) (YS.drop off) = some r →
    ∀ f ∈ fs, ∃ l1 r1, g f.type = some l1 ∧ eqF l1 ((XS.drop f.offset).take l1.length) ((YS.drop f.offset).take l1.length) = some r1 ∧ f.offset + l1.length ≤ XS.length ∧ f.offset + l1.length ≤ YS.length
  | [], _, _, _, _, _, f, hf => by cases hf
  | q :: fs, off, l, r, hf, h, f, hm => by
    simp only [flatFs] at hf
    split at hf
    · rename_i l1 hl1
      split at hf
      · rename_i hc
        obtain ⟨hn, ho, hz⟩ := hc
        split at hf
        · rename_i m hmm
          cases hf
          obtain ⟨r1, r2, e1, e2, rfl⟩ := eqF_append h
          have hlen := eqF_len h
          simp only [List.length_append, List.length_drop] at hlen
          rcases List.mem_cons.1 hm with rfl | hm
          · subst ho
            exact ⟨l1, r1, hl1, e1, by omega, by omega⟩
          · exact eqFs_mem hmm (by simpa [List.drop_drop] using e2) f hm
        · cases hf
      · cases hf
    · cases hf
theorem eqIt_mem {l : List Nat} : ∀ (n : Nat) (XS YS : List Value) {r : Bool}, eqF (List.replicate n l).flatten XS YS = some r →
    ∀ i, i < n → ∃ r1, eqF l ((XS.drop (i * l.length)).take l.length) ((YS.drop (i * l.length)).take l.length) = some r1 ∧ i * l.length + l.length ≤ XS.length ∧ i * l.length + l.length ≤ YS.length
  | 0, _, _, _, _, i, hi => by omega
  | n + 1, XS, YS, r, h, i, hi => by
    rw [List.replicate_succ, List.flatten_cons] at h
    obtain ⟨r1, r2, e1, e2, rfl⟩ := eqF_append h
    have hlen := eqF_len h
    simp only [List.length_append] at hlen
    cases i with
    | zero => exact ⟨r1, by simpa using e1, by omega, by omega⟩
    | succ i =>
      obtain ⟨r3, g1, g2, g3⟩ := eqIt_mem n _ _ e2 i (by omega)
      simp only [List.length_drop, List.drop_drop] at g1 g2 g3
      have e : l.length + i * l.length = (i + 1) * l.length := by rw [Nat.add_mul, Nat.one_mul, Nat.add_comm]
      rw [e] at g1
      exact ⟨r3, g1, by rw [Nat.add_mul, Nat.one_mul]; omega, by rw [Nat.add_mul, Nat.one_mul]; omega⟩
theorem pl_forInR {β : Type} {B W : Nat → Prop} {N : Nat} (n : Nat) (b : β) (f : Nat → β → Sem (ForInStep β)) (h : ∀ i, i < n → ∀ b, Plo P B W N (f i b)) : Plo P B W N (forIn [:n] b f) := by
  rw [Std.Legacy.Range.forIn_eq_forIn_range']
  refine pl_forInL _ _ fun i hi b => h i ?_ b
  simp [Std.Legacy.Range.size] at hi
  omega
def EqPl (P : Program) (dd d : Nat) : Prop := ∀ (t : Nat) (l : List Nat) (xs ys : List Value) (x y : Value) (r : Bool), flatT P d t = some l → ofC P t xs x → ofC P t ys y → eqF l xs ys = some r → ∀ B W N, Plo P B W N (Op.equalIn dd t x y)
theorem eqPart {dd d t off : Nat} {l : List Nat} {r : Bool} {XS YS : List Value} {B W : Nat → Prop} {N : Nat} {α : Type} {f : Bool → Sem α} (IH : EqPl P dd d) (h : flatT P d t = some l) (he : eqF l ((XS.drop off).take l.length) ((YS.drop off).take l.length) = some r)
    (h1 : off + l.length ≤ XS.length) (h2 : off + l.length ≤ YS.length) (hf : ∀ b, Plo P B W N (f b)) : Plo P B W N (part t ⟨XS⟩ off >>= fun x => part t ⟨YS⟩ off >>= fun y => Op.equalIn dd t x y >>= f) := by
  obtain ⟨x, p1, f1⟩ := part_run (XS := XS) (off := off) h h1 default
  obtain ⟨y, p2, f2⟩ := part_run (XS := YS) (off := off) h h2 default
  exact (pp_part _ _ _).at p1 ((pp_part _ _ _).at p2 (Plo.bind (IH t l _ _ x y r h f1 f2 he B W N) hf))
theorem eqPl : ∀ (d q : Nat), EqPl P (q + d) d
  | 0, q => by intro t l xs ys x y r h; simp [flatT] at h
  | d + 1, q => by
    intro t l xs ys x y r h hx hy he B W N
    have h0 := h
    rw [show q + (d + 1) = q + d + 1 by omega]
    unfold flatT at h
    unfold Op.equalIn
    split at h
    · rename_i i hu hi
      refine Zc hu ?_
      split <;> first | exact trivial | (rename_i e _ _; cases e; done) | (rename_i e _; cases e; done) | (rename_i e; cases e; done)
    · rename_i k i hu hi
      split at h
      · cases h
        have hA : isA P t = false := by simp [isA, hu]
        rcases hx with ⟨hx, _⟩ | ⟨_, rfl⟩
        · rw [hA] at hx; cases hx
        · rcases hy with ⟨hy, _⟩ | ⟨_, rfl⟩
          · rw [hA] at hy; cases hy
          · refine Zc hu ?_
            cases x <;> cases y <;> simp [eqF] at he
            simp only []
            split <;> exact trivial
      · cases h
    · rename_i i hu hi
      refine Zc hu ?_
      split <;> first | exact trivial | (rename_i e _ _; cases e; done) | (rename_i e _; cases e; done) | (rename_i e; cases e; done)
    · rename_i fs i hu hi
      split at h
      · cases h
      · rename_i hs
        split at h
        · rename_i l' hl
          split at h
          · cases h
            have hA : isA P t = true := by simp [isA, hu]
            rcases hx with ⟨_, rfl⟩ | ⟨hx, _⟩
            · rcases hy with ⟨_, rfl⟩ | ⟨hy, _⟩
              · refine Zc hu ?_
                have hm := eqFs_mem (XS := xs) (YS := ys) hl (by simpa using he)
                dsimp only
                refine Plo.bind pl_program fun p => Plo.ite (Plo.bind (pl_unsup _) fun _ => ?_) ?_
                all_goals
                  refine Plo.bind (pl_forInA _ _ fun f hf b => ?_) fun s => ?_
                  · obtain ⟨l1, r1, g1, g2, g3, g4⟩ := hm f (Array.mem_toList_iff.2 hf)
                    split
                    · exact eqPart (eqPl d q) g1 g2 g3 g4 fun b => by cases b <;> exact trivial
                    · exact trivial
                  · split <;> exact trivial
              · rw [hA] at hy; cases hy
            · rw [hA] at hx; cases hx
          · cases h
        · cases h
    · rename_i n e i hu hi
      split at h
      · rename_i l' hl
        split at h
        · rename_i hc
          cases h
          have hA : isA P t = true := by simp [isA, hu]
          rcases hx with ⟨_, rfl⟩ | ⟨hx, _⟩
          · rcases hy with ⟨_, rfl⟩ | ⟨hy, _⟩
            · refine Zc hu ?_
              dsimp only
              obtain ⟨ie, hie, hse⟩ := Option.map_eq_some_iff.1 hc.2.1
              refine pl_sizeOf_at hie ?_
              rw [hse]
              refine Plo.bind (pl_forInR _ _ _ fun i hi b => ?_) fun s => ?_
              · obtain ⟨r1, g2, g3, g4⟩ := eqIt_mem n xs ys (by simpa using he) i hi
                exact eqPart (eqPl d q) hl g2 g3 g4 fun b => by cases b <;> exact trivial
              · split <;> exact trivial
            · rw [hA] at hy; cases hy
          · rw [hA] at hx; cases hx
        · cases h
      · cases h
    · cases h
theorem pl_guardAgg {op : BinOp} {t : Nat} {x y : Operand} {xs ys : Array Value} {B W : Nat → Prop} {N : Nat} (h : P.eqGuardType P.depth t = false) : Plo P B W N (eqGuard op t x y (.agg xs) (.agg ys)) := by
  have key : Plo P B W N (program >>= fun p => program >>= fun q => if (!p.eqGuardType q.depth t) = true then (pure () : Sem Unit) else Op.eqGuardIn Op.maxDepth t (.agg xs) (.agg ys) >>= fun b => if b = true then unsupported (.noEntry "binop/eql: two nil values of an interface type with methods, in a part of a struct or an array") else pure ()) := by
    refine .inl (.inl ?_)
    show Plo P B W N (if (!P.eqGuardType P.depth t) = true then (pure () : Sem Unit) else _)
    rw [h]
    exact trivial
  cases op <;> first | exact trivial | exact key
/-- of two structs or arrays of plain parts -/
theorem q_eqA {S : Tab P} {ρ : Env} {L : Heap} {d : Option Tmp} {ty : TypeId} {pos : String} {af : Array Edge} {g : Option (Nat × Bool)} {t t' : Nat} {l : List Nat} {x y : Operand} {xs ys : List Value} {r : Bool}
    (hx : ev ρ x = some (.agg ⟨xs⟩)) (hy : ev ρ y = some (.agg ⟨ys⟩)) (ht : lkN S.eq t = some l) (he : eqF l xs ys = some r) : QOp P ⟨d, .binOp .eql t x y t', ty, pos, af, g⟩ ρ L (.bool r) := by
  have h := List.all_eq_true.1 S.eq_ok _ (lkN_mem ht)
  simp only [Bool.and_eq_true, decide_eq_true_eq, Bool.not_eq_true'] at h
  refine q_equal hx hy (fun w => run_eqGuard_agg w .eql t x y ⟨xs⟩ ⟨ys⟩ h.2) (fun w => ?_) (fun B W N => pl_guardAgg h.2) (fun B W N => eqPl 8 9992 t l xs ys _ _ r h.1.1 (.inl ⟨h.1.2, rfl⟩) (.inl ⟨h.1.2, rfl⟩) he B W N) rfl
  exact eqRun 8 9992 t l xs ys _ _ r w h.1.1 (.inl ⟨h.1.2, rfl⟩) (.inl ⟨h.1.2, rfl⟩) he
theorem q_neA {S : Tab P} {ρ : Env} {L : Heap} {d : Option Tmp} {ty : TypeId} {pos : String} {af : Array Edge} {g : Option (Nat × Bool)} {t t' : Nat} {l : List Nat} {x y : Operand} {xs ys : List Value} {r : Bool}
    (hx : ev ρ x = some (.agg ⟨xs⟩)) (hy : ev ρ y = some (.agg ⟨ys⟩)) (ht : lkN S.eq t = some l) (he : eqF l xs ys = some r) : QOp P ⟨d, .binOp .neq t x y t', ty, pos, af, g⟩ ρ L (.bool (!r)) := by
  have h := List.all_eq_true.1 S.eq_ok _ (lkN_mem ht)
  simp only [Bool.and_eq_true, decide_eq_true_eq, Bool.not_eq_true'] at h
  refine q_nequal hx hy (fun w => run_eqGuard_agg w .neq t x y ⟨xs⟩ ⟨ys⟩ h.2) (fun w => ?_) (fun B W N => pl_guardAgg h.2) (fun B W N => eqPl 8 9992 t l xs ys _ _ r h.1.1 (.inl ⟨h.1.2, rfl⟩) (.inl ⟨h.1.2, rfl⟩) he B W N) rfl
  exact eqRun 8 9992 t l xs ys _ _ r w h.1.1 (.inl ⟨h.1.2, rfl⟩) (.inl ⟨h.1.2, rfl⟩) he
end eq
end Go.HL
end

/-! QHLMem -/
section
namespace Go.HL
set_option linter.unusedSectionVars false
variable [Tasks]
open Go
set_option linter.unusedVariables false
set_option linter.unusedSimpArgs false

/-- a byte as9 a cell -/
def uc (b : UInt8) : List Value := [.int .u8 b.toNat]
theorem uc_flat (l : List UInt8) : (l.map uc).flatten = l.map fun b => Value.int .u8 b.toNat := by
  induction l with
  | nil => rfl
  | cons b r ih => simp only [List.map_cons, List.flatten_cons, ih]; rfl
theorem madeCells_one (z : Value) (n : Nat) : madeCells #[z] n = ⟨List.replicate n z⟩ := by
  apply Array.ext'
  simp only [madeCells, Array.toList_map, Array.toList_range]
  apply List.ext_getElem?
  intro i
  by_cases h : i < n
  · simp [h, List.getElem?_replicate, Nat.mod_one]
  · simp [h, List.getElem?_replicate]
section m
variable {P : Program} (S : Tab P) {n : Nat} {ops : List Oper} {Q : Exit → Env → Heap → Prop} {rest : List Oper} {ρ : Env} {L : Heap} {ty : TypeId} {pos : String} {af : Array Edge}
/-- make([]E, c), E of one cell -/
theorem o_makeSlice1 {d t E y0 s0 b0 k1 x1 y1 by1 : Nat} {z zv : Value} {x y : Operand} {kl kc : IntKind} {l c : Int} (hx : ev ρ x = some (.int kl l)) (hy : ev ρ y = some (.int kc c)) (ht : lkN S.ty t = some ⟨5, E, y0, s0, b0⟩) (he : lkN S.ty E = some ⟨k1, x1, y1, 1, by1⟩)
    (hz : lkN S.zr E = some z) (hzs : z.cells = #[zv]) (hn : Nat.blt d n = true) (hc : 0 ≤ l ∧ l ≤ c ∧ (by1 : Int) * c ≤ 281474976710656 ∧ c ≤ 9223372036854775807)
    (h : ∀ b, HO P n ops Q rest ((d, sl b 0 l.toNat c.toNat) :: ρ) ([(b, .cells ⟨List.replicate c.toNat zv⟩ E)] :: L)) : HO P n ops Q (⟨some d, .makeSlice t x y, ty, pos, af, none⟩ :: rest) ρ L := by
  refine ho_run rfl rfl hn fun ρe he' k w hs => ⟨sl w.heap.size 0 l.toNat c.toNat, w.alloc (.cells ⟨List.replicate c.toNat zv⟩ E), _, ?_, hs.new _, h _⟩
  have hdesc := ty_slice (S.tyI ht) rfl
  obtain ⟨de, i, hde, hi, -, hisz, hiby⟩ := ty_desc (S.tyI he)
  simp only at hisz hiby
  have hiz : i.zero = some z := by
    have := S.zeroI hz
    unfold zeroI at this
    simpa [hi] using this
  have hr := run_make (P := P) w t E i z hdesc hi hiz kl kc l c hc.1 hc.2.1 (by rw [hiby]; exact hc.2.2.1) hc.2.2.2
  rw [hisz, hzs, Nat.mul_one, madeCells_one] at hr
  simp [execOp, he' x (by simp [Op.operands]) _ hx, he' y (by simp [Op.operands]) _ hy, hr]
theorem push_all : ∀ (l : List UInt8) (s : List UInt8), (l.map fun b => ((b.toNat : Nat) : Int)).foldl (fun r (n : Int) => r.push (UInt8.ofNat n.toNat)) (ByteArray.mk ⟨s⟩) = ByteArray.mk ⟨s ++ l⟩
  | [], s => by simp
  | b :: r, s => by
    have e : (ByteArray.mk ⟨s⟩).push (UInt8.ofNat (((b.toNat : Nat) : Int)).toNat) = ByteArray.mk ⟨s ++ [b]⟩ := by
      apply ByteArray.ext
      simp [ByteArray.push]
    rw [List.map_cons, List.foldl_cons, e, push_all r (s ++ [b])]
    simp
theorem pl_bytesToString (v : Value) {B W : Nat → Prop} {N : Nat} : Plo P B W N (Conv.bytesToString v) := by
  unfold Conv.bytesToString
  split
  · exact trivial
  · refine Plo.bind (pl_loadCells _ _) fun cs => Plo.bind (pl_forInA _ _ fun c hc b => ?_) fun _ => ?_
    · split <;> exact trivial
    · exact trivial
  · exact trivial
/-- string(b) -/
theorem q_toString {d : Option Tmp} {g : Option (Nat × Bool)} {t t2 E y0 s0 b0 x1 y1 s1 by1 : Nat} {ti : TyI} {x : Operand} {a : Option Addr} {cap : Nat} {l : List UInt8} (hx : ev ρ x = some (.slice a l.length cap)) (ht : lkN S.ty t = some ⟨5, E, y0, s0, b0⟩) (he : lkN S.ty E = some ⟨2, x1, y1, s1, by1⟩) (hu : Nat.beq x1 4 = true)
    (ht2 : lkN S.ty t2 = some ti) (h3 : Nat.beq ti.kind 3 = true) (hR : Rd uc 1 L a l) : QOp P ⟨d, .convert t t2 x, ty, pos, af, g⟩ ρ L (bs l) :=
  q_runp (fun ρe he' N => by
    have hu' := Nat.eq_of_beq_eq_true hu
    have h1 := ty_slice (S.tyI ht) rfl
    have h2 := ty_string (S.tyI ht2) (Nat.eq_of_beq_eq_true h3)
    have h4 : P.underlying E = some (.int .u8) := by
      have := ty_int (S.tyI he) rfl
      simpa [hu', kindOf] using this
    simp only [execOp, he' x (by simp [Op.operands]) _ hx]
    refine Plo.bind ?_ fun _ => trivial
    unfold convert
    refine Zc h1 (Zc h2 ?_)
    dsimp only
    refine Zc h4 ?_
    dsimp only
    exact pl_bytesToString _) fun ρe he' k w hs => by
    have hu' := Nat.eq_of_beq_eq_true hu
    have h1 := ty_slice (S.tyI ht) rfl
    have h2 := ty_string (S.tyI ht2) (Nat.eq_of_beq_eq_true h3)
    have h4 : P.underlying E = some (.int .u8) := by
      have := ty_int (S.tyI he) rfl
      simpa [hu', kindOf] using this
    have hcv : (Conv.bytesToString (.slice a l.length cap)).run P w = .ok (bs l) w := by
      rcases hR with rfl | ⟨b, i, c, E', fr, rfl, hb, hg⟩
      · cases a with
        | none => simp [Conv.bytesToString, Sem.run_pure]; rfl
        | some a =>
          have := run_bytesToString (P := P) w a 0 cap [] (by simp [loadCells, loadCellsFrom])
          exact this
      · have hg2 : Gets c i ((l.map fun b => ((b.toNat : Nat) : Int)).map (Value.int .u8)) := by
          have := gets_flat (enc := uc) (sz := 1) (fun _ => rfl) l i hg
          rw [uc_flat] at this
          rw [List.map_map]
          exact this
        have hld := load_cells (P := P) hs hb hg2
        simp only [List.length_map] at hld
        have := run_bytesToString (P := P) w ⟨b, i, none⟩ l.length cap (l.map fun b => ((b.toNat : Nat) : Int)) (by simpa using hld)
        rw [this]
        have e := push_all l []
        simp only [List.nil_append] at e
        exact congrArg (fun z => Result.ok (Value.string z) w) e
    simp [execOp, he' x (by simp [Op.operands]) _ hx, convert, run_underlying h1, run_underlying h2, run_underlying h4, hcv]
theorem ba_extract (l : List UInt8) (a b : Nat) : (ByteArray.mk ⟨l⟩).extract a b = ByteArray.mk ⟨(l.take b).drop a⟩ := by
  apply ByteArray.ext
  simp [ByteArray.data_extract, List.extract_eq_take_drop, List.drop_take]
/-- s[lo:], s[:hi], s[lo:hi] -/
theorem q_strLo {d : Option Tmp} {g : Option (Nat × Bool)} {t : Nat} {ti : TyI} {x y : Operand} {k : IntKind} {lo : Int} {l : List UInt8} (hx : ev ρ x = some (bs l)) (hy : ev ρ y = some (.int k lo)) (ht : lkN S.ty t = some ti) (hk : Nat.beq ti.kind 3 = true) (h : 0 ≤ lo ∧ lo ≤ l.length) :
    QOp P ⟨d, .slice t x (some y) none none, ty, pos, af, g⟩ ρ L (bs (l.drop lo.toNat)) :=
  q_run fun ρe he k' w hs => by
    have h1 := ty_string (S.tyI ht) (Nat.eq_of_beq_eq_true hk)
    have e : (ByteArray.mk ⟨l⟩).extract lo.toNat l.length = ByteArray.mk ⟨l.drop lo.toNat⟩ := by rw [ba_extract, List.take_length]
    simp [execOp, he x (by simp [Op.operands]) _ hx, he y (by simp [Op.operands]) _ hy, run_sliceAt_string _ _ _ _ _ _ h1, Instr.slice, run_underlying h1, Instr.sliceBounds, run_sliceBound, ba_size, h.1, h.2, e]
theorem q_strHi {d : Option Tmp} {g : Option (Nat × Bool)} {t : Nat} {ti : TyI} {x y : Operand} {k : IntKind} {hi : Int} {l : List UInt8} (hx : ev ρ x = some (bs l)) (hy : ev ρ y = some (.int k hi)) (ht : lkN S.ty t = some ti) (hk : Nat.beq ti.kind 3 = true) (h : 0 ≤ hi ∧ hi ≤ l.length) :
    QOp P ⟨d, .slice t x none (some y) none, ty, pos, af, g⟩ ρ L (bs (l.take hi.toNat)) :=
  q_run fun ρe he k' w hs => by
    have h1 := ty_string (S.tyI ht) (Nat.eq_of_beq_eq_true hk)
    have e : (ByteArray.mk ⟨l⟩).extract 0 hi.toNat = ByteArray.mk ⟨l.take hi.toNat⟩ := by rw [ba_extract, List.drop_zero]
    simp [execOp, he x (by simp [Op.operands]) _ hx, he y (by simp [Op.operands]) _ hy, run_sliceAt_string _ _ _ _ _ _ h1, Instr.slice, run_underlying h1, Instr.sliceBounds, run_sliceBound, ba_size, h.1, h.2, e]
theorem q_strLH {d : Option Tmp} {g : Option (Nat × Bool)} {t : Nat} {ti : TyI} {x y z : Operand} {k k2 : IntKind} {lo hi : Int} {l : List UInt8} (hx : ev ρ x = some (bs l)) (hy : ev ρ y = some (.int k lo)) (hz : ev ρ z = some (.int k2 hi)) (ht : lkN S.ty t = some ti) (hk : Nat.beq ti.kind 3 = true) (h : 0 ≤ lo ∧ lo ≤ hi ∧ hi ≤ l.length) :
    QOp P ⟨d, .slice t x (some y) (some z) none, ty, pos, af, g⟩ ρ L (bs ((l.take hi.toNat).drop lo.toNat)) :=
  q_run fun ρe he k' w hs => by
    have h1 := ty_string (S.tyI ht) (Nat.eq_of_beq_eq_true hk)
    have e := ba_extract l lo.toNat hi.toNat
    have h0 : 0 ≤ hi := by omega
    have eh : (hi.toNat : Int) = hi := Int.toNat_of_nonneg h0
    simp [execOp, he x (by simp [Op.operands]) _ hx, he y (by simp [Op.operands]) _ hy, he z (by simp [Op.operands]) _ hz, run_sliceAt_string _ _ _ _ _ _ h1, Instr.slice, run_underlying h1, Instr.sliceBounds, run_sliceBound, ba_size, h.1, h.2.1, h.2.2, h0, eh, e]

/-! struct literals -/
def cellsL : Value → List Value
  | .agg ⟨vs⟩ => vs
  | v => [v]
theorem cellsL_eq (v : Value) : v.cells = ⟨cellsL v⟩ := by cases v <;> rfl
def putL : List Value → Nat → List Value → List Value
  | cells, _, [] => cells
  | cells, off, v :: r => putL (cells.set off v) (off + 1) r
def fillS (fs : List (Nat × Nat × Nat)) : List Value → List (Nat × Value) → Option (List Value)
  | cells, [] => some cells
  | cells, (i, v) :: r => (fs[i]?).bind fun q => bif Nat.beq (cellsL v).length q.2.1 && Nat.ble (q.1 + (cellsL v).length) cells.length then fillS fs (putL cells q.1 (cellsL v)) r else none
def nfL {α : Type} : List Value → (List Value → Option α) → Option α
  | [], k => k []
  | x :: r, k => nfL r fun r' => k (x :: r')
theorem nfL_eq {α : Type} : ∀ (l : List Value) (k : List Value → Option α), nfL l k = k l
  | [], k => rfl
  | x :: r, k => nfL_eq r _
def evParts (ρ : Env) : List (Nat × Operand) → Option (List (Nat × Value))
  | [] => some []
  | (i, x) :: r => match ev ρ x, evParts ρ r with
    | some v, some vs => some ((i, v) :: vs)
    | _, _ => none
theorem put_eq : ∀ (vs : List Value) (cells : List Value) (off j : Nat), (vs.zipIdx j).foldl (fun (cs : Array Value) (p : Value × Nat) => cs.setIfInBounds (off + p.2) p.1) ⟨cells⟩ = ⟨putL cells (off + j) vs⟩
  | [], cells, off, j => rfl
  | v :: r, cells, off, j => by
    simp only [List.zipIdx_cons, List.foldl_cons, putL]
    rw [show (Array.mk cells).setIfInBounds (off + j) v = ⟨cells.set (off + j) v⟩ by simp, put_eq r _ off (j + 1)]
    rfl
theorem evParts_map {ρ : Env} {ρe : Operand → Value} : ∀ {l : List (Nat × Operand)} {vs : List (Nat × Value)}, (∀ p ∈ l, ∀ u, ev ρ p.2 = some u → ρe p.2 = u) → evParts ρ l = some vs → (l.map fun p => (p.1, ρe p.2)) = vs
  | [], vs, _, h => by simp [evParts] at h; subst h; rfl
  | (i, x) :: r, vs, he, h => by
    simp only [evParts] at h
    cases hx : ev ρ x with
    | none => simp [hx] at h
    | some v =>
      cases hr : evParts ρ r with
      | none => simp [hx, hr] at h
      | some us =>
        simp [hx, hr] at h
        subst h
        rw [List.map_cons, evParts_map (fun p hp => he p (by simp [hp])) hr, he (i, x) (by simp) v hx]
theorem fill_eq {fs : List (Nat × Nat × Nat)} {place : Nat → Option (Nat × Nat)} (hp : ∀ i, place i = (fs[i]?).map fun q => (q.1, q.2.1)) : ∀ (l : List (Nat × Value)) (cells out : List Value), fillS fs cells l = some out → Instr.fill place ⟨cells⟩ l = some ⟨out⟩
  | [], cells, out, h => by simp [fillS] at h; subst h; rfl
  | (i, v) :: r, cells, out, h => by
    simp only [fillS] at h
    obtain ⟨q, hq, h1⟩ := bind_some h
    obtain ⟨hc, h2⟩ := bif_some h1
    simp only [Bool.and_eq_true] at hc
    have e1 := Nat.eq_of_beq_eq_true hc.1
    have e2 := Nat.le_of_ble_eq_true hc.2
    have ih := fill_eq hp r _ out h2
    have e3 := put_eq (cellsL v) cells q.1 0
    simp only [Nat.add_zero] at e3
    unfold Instr.fill
    rw [hp i, hq]
    simp only [Option.map_some, cellsL_eq]
    have hcond : (decide ((Array.mk (cellsL v)).size ≠ q.2.1) || decide (q.1 + (Array.mk (cellsL v)).size > (Array.mk cells).size)) = false := by simp; omega
    rw [hcond]
    simp only [Bool.false_eq_true, if_false]
    have e4 : (Array.zipIdx ⟨cellsL v⟩ 0 : Array (Value × Nat)) = ⟨(cellsL v).zipIdx 0⟩ := by simp
    rw [e4]
    simp only [List.foldl_toArray]
    rw [e3]
    exact ih
theorem run_mapM_list {α β : Type} {f : α → Sem β} {w : World} : ∀ (l : List α) (r : List β), (∀ (i : Nat) (x : α), l[i]? = some x → ∃ y, r[i]? = some y ∧ (f x).run P w = .ok y w) → l.length = r.length → (l.mapM f).run P w = .ok r w
  | [], r, _, hl => by
    have : r = [] := by cases r with | nil => rfl | cons _ _ => simp at hl
    subst this
    simp [Sem.run_pure]
  | x :: l, r, h, hl => by
    cases r with
    | nil => simp at hl
    | cons y r =>
      obtain ⟨y', hy, hf⟩ := h 0 x rfl
      simp at hy
      subst hy
      have ih := run_mapM_list l r (fun i z hz => h (i + 1) z hz) (by simpa using hl)
      simp [List.mapM_cons, Sem.run_bind, hf, ih, Result.andThen, Sem.run_pure]
theorem st_places {t : Nat} {fs : List (Nat × Nat × Nat)} (h : stI P t = some fs) : ∃ fields, P.underlying t = some (.struct fields) ∧ ∀ w, (fields.mapM fun f => do pure (f.offset, ← sizeOf f.type) : Sem (Array (Nat × Nat))).run P w = .ok (fs.map fun q => (q.1, q.2.1)).toArray w := by
  unfold stI at h
  split at h
  · rename_i fields hu
    refine ⟨fields, hu, fun w => ?_⟩
    rw [Array.mapM_eq_mapM_toList]
    have hl : ∀ (l : List Field) (fs : List (Nat × Nat × Nat)), (l.mapM fun f => (P.info? f.type).map fun i => (f.offset, i.size, f.type)) = some fs → l.length = fs.length ∧ ∀ (i : Nat) (x : Field), l[i]? = some x → ∃ y, fs[i]? = some y ∧ ∃ j, P.info? x.type = some j ∧ y = (x.offset, j.size, x.type) := by
      intro l
      induction l with
      | nil => intro fs h; simp at h; subst h; simp
      | cons f l ih =>
        intro fs h
        simp only [List.mapM_cons, bind, Option.bind_eq_some_iff, pure] at h
        obtain ⟨y, hy, r, hr, e⟩ := h
        cases e
        obtain ⟨h1, h2⟩ := ih r hr
        refine ⟨by simp [h1], fun i x hx => ?_⟩
        cases i with
        | zero =>
          simp at hx
          subst hx
          simp only [Option.map_eq_some_iff] at hy
          obtain ⟨j, hj, e⟩ := hy
          exact ⟨y, rfl, j, hj, e.symm⟩
        | succ i => exact h2 i x hx
    obtain ⟨h1, h2⟩ := hl _ _ h
    have hr := run_mapM_list (P := P) (w := w) (f := fun f : Field => (do pure (f.offset, ← sizeOf f.type) : Sem (Nat × Nat))) fields.toList (fs.map fun q => (q.1, q.2.1)) (fun i x hx => by
      obtain ⟨y, hy, j, hj, e⟩ := h2 i x hx
      refine ⟨(y.1, y.2.1), by simp [hy], ?_⟩
      subst e
      simp [sizeOf, typeInfo, hj]) (by simpa using h1)
    simp only [map_eq_pure_bind, Sem.run_bind, hr, Result.andThen, Sem.run_pure]
  · cases h
theorem q_build {d : Option Tmp} {g : Option (Nat × Bool)} {t : Nat} {parts : Array (Nat × Operand)} {zs out : List Value} {vals : List (Nat × Value)} {fs : List (Nat × Nat × Nat)} (hz : lkN S.zr t = some (.agg ⟨zs⟩)) (hs : lkN S.st t = some fs) (hp : evParts ρ parts.toList = some vals)
    (hf : ((fillS fs zs vals).bind fun l => nfL l some) = some out) : QOp P ⟨d, .build t parts, ty, pos, af, g⟩ ρ L (.agg ⟨out⟩) :=
  q_run fun ρe he k w hsat => by
    obtain ⟨l, hl, h1⟩ := bind_some hf
    rw [nfL_eq] at h1
    cases h1
    obtain ⟨fields, hu, hm⟩ := st_places (S.stI hs)
    have hzero := zero_run (S.zeroI hz) w
    have hm2 := hm w
    have e1 : (parts.map fun p => (p.1, ρe p.2)).toList = vals := by
      rw [Array.toList_map]
      exact evParts_map (fun p hp' u hu => he p.2 (by simp [Op.operands]; exact ⟨p.1, by simpa using hp'⟩) u hu) hp
    have hfill := fill_eq (place := fun i => ((fs.map fun q => (q.1, q.2.1)).toArray)[i]?) (fun i => by simp) vals zs out hl
    show (Instr.build t (parts.map fun p => (p.1, ρe p.2)) >>= fun v => pure (Next.value v) : Sem Next).run P w = _
    simp only [Sem.run_bind, Instr.build, hzero, Result.andThen, run_underlying hu, hm2, e1, Value.cells, hfill]
    rfl
end m
end Go.HL
end
