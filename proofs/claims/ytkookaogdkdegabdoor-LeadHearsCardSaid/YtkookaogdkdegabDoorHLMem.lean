/- The heap logic: slices made, bytes as text, text as bytes. No program in sight. Conditions: none. -/
import Derived.Test.YtkookaogdkdegabDoorHLEval
import Derived.Laws.MakeOwn
import Derived.Laws.BytesString
namespace Go.HL
open Go
set_option linter.unusedVariables false
set_option linter.unusedSimpArgs false

/-- a byte as a cell -/
def uc (b : UInt8) : List Value := [.int .u8 b.toNat]
theorem uc_flat (l : List UInt8) : (l.map uc).flatten = l.map fun b => Value.int .u8 b.toNat := by
  induction l with
  | nil => rfl
  | cons b r ih => simp only [List.map_cons, List.flatten_cons, ih]; rfl
theorem madeCells_one (z : Value) (n : Nat) : madeCells #[z] n = ⟨List.replicate n z⟩ := by
  apply Array.ext'
  simp only [madeCells, Array.toList_map, Array.toList_range]
  apply List.ext_getElem?
  intro i
  by_cases h : i < n
  · simp [h, List.getElem?_replicate, Nat.mod_one]
  · simp [h, List.getElem?_replicate]
section m
variable {P : Program} (S : Tab P) {n : Nat} {ops : List Oper} {Q : Exit → Env → Heap → Prop} {rest : List Oper} {ρ : Env} {L : Heap} {ty : TypeId} {pos : String} {af : Array Edge}
/-- make([]E, c), E of one cell -/
theorem o_makeSlice1 {d t E y0 s0 b0 k1 x1 y1 by1 : Nat} {z zv : Value} {x y : Operand} {kl kc : IntKind} {l c : Int} (hx : ev ρ x = some (.int kl l)) (hy : ev ρ y = some (.int kc c)) (ht : lkN S.ty t = some ⟨5, E, y0, s0, b0⟩) (he : lkN S.ty E = some ⟨k1, x1, y1, 1, by1⟩)
    (hz : lkN S.zr E = some z) (hzs : z.cells = #[zv]) (hn : Nat.blt d n = true) (hc : 0 ≤ l ∧ l ≤ c ∧ (by1 : Int) * c ≤ 281474976710656 ∧ c ≤ 9223372036854775807)
    (h : ∀ b, HO P n ops Q rest ((d, sl b 0 l.toNat c.toNat) :: ρ) ([(b, .cells ⟨List.replicate c.toNat zv⟩ E)] :: L)) : HO P n ops Q (⟨some d, .makeSlice t x y, ty, pos, af, none⟩ :: rest) ρ L := by
  refine ho_run rfl rfl hn fun ρe he' k w hs => ⟨sl w.heap.size 0 l.toNat c.toNat, w.alloc (.cells ⟨List.replicate c.toNat zv⟩ E), _, ?_, hs.new _, h _⟩
  have hdesc := ty_slice (S.tyI ht) rfl
  obtain ⟨de, i, hde, hi, -, hisz, hiby⟩ := ty_desc (S.tyI he)
  simp only at hisz hiby
  have hiz : i.zero = some z := by
    have := S.zeroI hz
    unfold zeroI at this
    simpa [hi] using this
  have hr := run_make (P := P) w t E i z hdesc hi hiz kl kc l c hc.1 hc.2.1 (by rw [hiby]; exact hc.2.2.1) hc.2.2.2
  rw [hisz, hzs, Nat.mul_one, madeCells_one] at hr
  simp [execOp, he' x (by simp [Op.operands]) _ hx, he' y (by simp [Op.operands]) _ hy, hr]
theorem push_all : ∀ (l : List UInt8) (s : List UInt8), (l.map fun b => ((b.toNat : Nat) : Int)).foldl (fun r (n : Int) => r.push (UInt8.ofNat n.toNat)) (ByteArray.mk ⟨s⟩) = ByteArray.mk ⟨s ++ l⟩
  | [], s => by simp
  | b :: r, s => by
    have e : (ByteArray.mk ⟨s⟩).push (UInt8.ofNat (((b.toNat : Nat) : Int)).toNat) = ByteArray.mk ⟨s ++ [b]⟩ := by
      apply ByteArray.ext
      simp [ByteArray.push]
    rw [List.map_cons, List.foldl_cons, e, push_all r (s ++ [b])]
    simp
/-- string(b) -/
theorem q_toString {d : Option Tmp} {g : Option (Nat × Bool)} {t t2 E y0 s0 b0 x1 y1 s1 by1 : Nat} {ti : TyI} {x : Operand} {a : Option Addr} {cap : Nat} {l : List UInt8} (hx : ev ρ x = some (.slice a l.length cap)) (ht : lkN S.ty t = some ⟨5, E, y0, s0, b0⟩) (he : lkN S.ty E = some ⟨2, x1, y1, s1, by1⟩) (hu : Nat.beq x1 4 = true)
    (ht2 : lkN S.ty t2 = some ti) (h3 : Nat.beq ti.kind 3 = true) (hR : Rd uc 1 L a l) : QOp P ⟨d, .convert t t2 x, ty, pos, af, g⟩ ρ L (bs l) :=
  q_run fun ρe he' k w hs => by
    have hu' := Nat.eq_of_beq_eq_true hu
    have h1 := ty_slice (S.tyI ht) rfl
    have h2 := ty_string (S.tyI ht2) (Nat.eq_of_beq_eq_true h3)
    have h4 : P.underlying E = some (.int .u8) := by
      have := ty_int (S.tyI he) rfl
      simpa [hu', kindOf] using this
    have hcv : (Conv.bytesToString (.slice a l.length cap)).run P w = .ok (bs l) w := by
      rcases hR with rfl | ⟨b, i, c, E', fr, rfl, hb, hg⟩
      · cases a with
        | none => simp [Conv.bytesToString, Sem.run_pure]; rfl
        | some a =>
          have := run_bytesToString (P := P) w a 0 cap [] (by simp [loadCells, loadCellsFrom])
          exact this
      · have hg2 : Gets c i ((l.map fun b => ((b.toNat : Nat) : Int)).map (Value.int .u8)) := by
          have := gets_flat (enc := uc) (sz := 1) (fun _ => rfl) l i hg
          rw [uc_flat] at this
          rw [List.map_map]
          exact this
        have hld := load_cells (P := P) hs hb hg2
        simp only [List.length_map] at hld
        have := run_bytesToString (P := P) w ⟨b, i, none⟩ l.length cap (l.map fun b => ((b.toNat : Nat) : Int)) (by simpa using hld)
        rw [this]
        have e := push_all l []
        simp only [List.nil_append] at e
        exact congrArg (fun z => Result.ok (Value.string z) w) e
    simp [execOp, he' x (by simp [Op.operands]) _ hx, convert, run_underlying h1, run_underlying h2, run_underlying h4, hcv]
theorem ba_extract (l : List UInt8) (a b : Nat) : (ByteArray.mk ⟨l⟩).extract a b = ByteArray.mk ⟨(l.take b).drop a⟩ := by
  apply ByteArray.ext
  simp [ByteArray.data_extract, List.extract_eq_take_drop, List.drop_take]
/-- s[lo:], s[:hi], s[lo:hi] -/
theorem q_strLo {d : Option Tmp} {g : Option (Nat × Bool)} {t : Nat} {ti : TyI} {x y : Operand} {k : IntKind} {lo : Int} {l : List UInt8} (hx : ev ρ x = some (bs l)) (hy : ev ρ y = some (.int k lo)) (ht : lkN S.ty t = some ti) (hk : Nat.beq ti.kind 3 = true) (h : 0 ≤ lo ∧ lo ≤ l.length) :
    QOp P ⟨d, .slice t x (some y) none none, ty, pos, af, g⟩ ρ L (bs (l.drop lo.toNat)) :=
  q_run fun ρe he k' w hs => by
    have h1 := ty_string (S.tyI ht) (Nat.eq_of_beq_eq_true hk)
    have e : (ByteArray.mk ⟨l⟩).extract lo.toNat l.length = ByteArray.mk ⟨l.drop lo.toNat⟩ := by rw [ba_extract, List.take_length]
    simp [execOp, he x (by simp [Op.operands]) _ hx, he y (by simp [Op.operands]) _ hy, run_sliceAt_string _ _ _ _ _ _ h1, Instr.slice, run_underlying h1, Instr.sliceBounds, run_sliceBound, ba_size, h.1, h.2, e]
theorem q_strHi {d : Option Tmp} {g : Option (Nat × Bool)} {t : Nat} {ti : TyI} {x y : Operand} {k : IntKind} {hi : Int} {l : List UInt8} (hx : ev ρ x = some (bs l)) (hy : ev ρ y = some (.int k hi)) (ht : lkN S.ty t = some ti) (hk : Nat.beq ti.kind 3 = true) (h : 0 ≤ hi ∧ hi ≤ l.length) :
    QOp P ⟨d, .slice t x none (some y) none, ty, pos, af, g⟩ ρ L (bs (l.take hi.toNat)) :=
  q_run fun ρe he k' w hs => by
    have h1 := ty_string (S.tyI ht) (Nat.eq_of_beq_eq_true hk)
    have e : (ByteArray.mk ⟨l⟩).extract 0 hi.toNat = ByteArray.mk ⟨l.take hi.toNat⟩ := by rw [ba_extract, List.drop_zero]
    simp [execOp, he x (by simp [Op.operands]) _ hx, he y (by simp [Op.operands]) _ hy, run_sliceAt_string _ _ _ _ _ _ h1, Instr.slice, run_underlying h1, Instr.sliceBounds, run_sliceBound, ba_size, h.1, h.2, e]
theorem q_strLH {d : Option Tmp} {g : Option (Nat × Bool)} {t : Nat} {ti : TyI} {x y z : Operand} {k k2 : IntKind} {lo hi : Int} {l : List UInt8} (hx : ev ρ x = some (bs l)) (hy : ev ρ y = some (.int k lo)) (hz : ev ρ z = some (.int k2 hi)) (ht : lkN S.ty t = some ti) (hk : Nat.beq ti.kind 3 = true) (h : 0 ≤ lo ∧ lo ≤ hi ∧ hi ≤ l.length) :
    QOp P ⟨d, .slice t x (some y) (some z) none, ty, pos, af, g⟩ ρ L (bs ((l.take hi.toNat).drop lo.toNat)) :=
  q_run fun ρe he k' w hs => by
    have h1 := ty_string (S.tyI ht) (Nat.eq_of_beq_eq_true hk)
    have e := ba_extract l lo.toNat hi.toNat
    have h0 : 0 ≤ hi := by omega
    have eh : (hi.toNat : Int) = hi := Int.toNat_of_nonneg h0
    simp [execOp, he x (by simp [Op.operands]) _ hx, he y (by simp [Op.operands]) _ hy, he z (by simp [Op.operands]) _ hz, run_sliceAt_string _ _ _ _ _ _ h1, Instr.slice, run_underlying h1, Instr.sliceBounds, run_sliceBound, ba_size, h.1, h.2.1, h.2.2, h0, eh, e]

/-! struct literals -/
def cellsL : Value → List Value
  | .agg ⟨vs⟩ => vs
  | v => [v]
theorem cellsL_eq (v : Value) : v.cells = ⟨cellsL v⟩ := by cases v <;> rfl
def putL : List Value → Nat → List Value → List Value
  | cells, _, [] => cells
  | cells, off, v :: r => putL (cells.set off v) (off + 1) r
def fillS (fs : List (Nat × Nat × Nat)) : List Value → List (Nat × Value) → Option (List Value)
  | cells, [] => some cells
  | cells, (i, v) :: r => (fs[i]?).bind fun q => bif Nat.beq (cellsL v).length q.2.1 && Nat.ble (q.1 + (cellsL v).length) cells.length then fillS fs (putL cells q.1 (cellsL v)) r else none
def nfL {α : Type} : List Value → (List Value → Option α) → Option α
  | [], k => k []
  | x :: r, k => nfL r fun r' => k (x :: r')
theorem nfL_eq {α : Type} : ∀ (l : List Value) (k : List Value → Option α), nfL l k = k l
  | [], k => rfl
  | x :: r, k => nfL_eq r _
def evParts (ρ : Env) : List (Nat × Operand) → Option (List (Nat × Value))
  | [] => some []
  | (i, x) :: r => match ev ρ x, evParts ρ r with
    | some v, some vs => some ((i, v) :: vs)
    | _, _ => none
theorem put_eq : ∀ (vs : List Value) (cells : List Value) (off j : Nat), (vs.zipIdx j).foldl (fun (cs : Array Value) (p : Value × Nat) => cs.setIfInBounds (off + p.2) p.1) ⟨cells⟩ = ⟨putL cells (off + j) vs⟩
  | [], cells, off, j => rfl
  | v :: r, cells, off, j => by
    simp only [List.zipIdx_cons, List.foldl_cons, putL]
    rw [show (Array.mk cells).setIfInBounds (off + j) v = ⟨cells.set (off + j) v⟩ by simp, put_eq r _ off (j + 1)]
    rfl
theorem evParts_map {ρ : Env} {ρe : Operand → Value} : ∀ {l : List (Nat × Operand)} {vs : List (Nat × Value)}, (∀ p ∈ l, ∀ u, ev ρ p.2 = some u → ρe p.2 = u) → evParts ρ l = some vs → (l.map fun p => (p.1, ρe p.2)) = vs
  | [], vs, _, h => by simp [evParts] at h; subst h; rfl
  | (i, x) :: r, vs, he, h => by
    simp only [evParts] at h
    cases hx : ev ρ x with
    | none => simp [hx] at h
    | some v =>
      cases hr : evParts ρ r with
      | none => simp [hx, hr] at h
      | some us =>
        simp [hx, hr] at h
        subst h
        rw [List.map_cons, evParts_map (fun p hp => he p (by simp [hp])) hr, he (i, x) (by simp) v hx]
theorem fill_eq {fs : List (Nat × Nat × Nat)} {place : Nat → Option (Nat × Nat)} (hp : ∀ i, place i = (fs[i]?).map fun q => (q.1, q.2.1)) : ∀ (l : List (Nat × Value)) (cells out : List Value), fillS fs cells l = some out → Instr.fill place ⟨cells⟩ l = some ⟨out⟩
  | [], cells, out, h => by simp [fillS] at h; subst h; rfl
  | (i, v) :: r, cells, out, h => by
    simp only [fillS] at h
    obtain ⟨q, hq, h1⟩ := bind_some h
    obtain ⟨hc, h2⟩ := bif_some h1
    simp only [Bool.and_eq_true] at hc
    have e1 := Nat.eq_of_beq_eq_true hc.1
    have e2 := Nat.le_of_ble_eq_true hc.2
    have ih := fill_eq hp r _ out h2
    have e3 := put_eq (cellsL v) cells q.1 0
    simp only [Nat.add_zero] at e3
    unfold Instr.fill
    rw [hp i, hq]
    simp only [Option.map_some, cellsL_eq]
    have hcond : (decide ((Array.mk (cellsL v)).size ≠ q.2.1) || decide (q.1 + (Array.mk (cellsL v)).size > (Array.mk cells).size)) = false := by simp; omega
    rw [hcond]
    simp only [Bool.false_eq_true, if_false]
    have e4 : (Array.zipIdx ⟨cellsL v⟩ 0 : Array (Value × Nat)) = ⟨(cellsL v).zipIdx 0⟩ := by simp
    rw [e4]
    simp only [List.foldl_toArray]
    rw [e3]
    exact ih
theorem run_mapM_list {α β : Type} {f : α → Sem β} {w : World} : ∀ (l : List α) (r : List β), (∀ (i : Nat) (x : α), l[i]? = some x → ∃ y, r[i]? = some y ∧ (f x).run P w = .ok y w) → l.length = r.length → (l.mapM f).run P w = .ok r w
  | [], r, _, hl => by
    have : r = [] := by cases r with | nil => rfl | cons _ _ => simp at hl
    subst this
    simp [Sem.run_pure]
  | x :: l, r, h, hl => by
    cases r with
    | nil => simp at hl
    | cons y r =>
      obtain ⟨y', hy, hf⟩ := h 0 x rfl
      simp at hy
      subst hy
      have ih := run_mapM_list l r (fun i z hz => h (i + 1) z hz) (by simpa using hl)
      simp [List.mapM_cons, Sem.run_bind, hf, ih, Result.andThen, Sem.run_pure]
theorem st_places {t : Nat} {fs : List (Nat × Nat × Nat)} (h : stI P t = some fs) : ∃ fields, P.underlying t = some (.struct fields) ∧ ∀ w, (fields.mapM fun f => do pure (f.offset, ← sizeOf f.type) : Sem (Array (Nat × Nat))).run P w = .ok (fs.map fun q => (q.1, q.2.1)).toArray w := by
  unfold stI at h
  split at h
  · rename_i fields hu
    refine ⟨fields, hu, fun w => ?_⟩
    rw [Array.mapM_eq_mapM_toList]
    have hl : ∀ (l : List Field) (fs : List (Nat × Nat × Nat)), (l.mapM fun f => (P.info? f.type).map fun i => (f.offset, i.size, f.type)) = some fs → l.length = fs.length ∧ ∀ (i : Nat) (x : Field), l[i]? = some x → ∃ y, fs[i]? = some y ∧ ∃ j, P.info? x.type = some j ∧ y = (x.offset, j.size, x.type) := by
      intro l
      induction l with
      | nil => intro fs h; simp at h; subst h; simp
      | cons f l ih =>
        intro fs h
        simp only [List.mapM_cons, bind, Option.bind_eq_some_iff, pure] at h
        obtain ⟨y, hy, r, hr, e⟩ := h
        cases e
        obtain ⟨h1, h2⟩ := ih r hr
        refine ⟨by simp [h1], fun i x hx => ?_⟩
        cases i with
        | zero =>
          simp at hx
          subst hx
          simp only [Option.map_eq_some_iff] at hy
          obtain ⟨j, hj, e⟩ := hy
          exact ⟨y, rfl, j, hj, e.symm⟩
        | succ i => exact h2 i x hx
    obtain ⟨h1, h2⟩ := hl _ _ h
    have hr := run_mapM_list (P := P) (w := w) (f := fun f : Field => (do pure (f.offset, ← sizeOf f.type) : Sem (Nat × Nat))) fields.toList (fs.map fun q => (q.1, q.2.1)) (fun i x hx => by
      obtain ⟨y, hy, j, hj, e⟩ := h2 i x hx
      refine ⟨(y.1, y.2.1), by simp [hy], ?_⟩
      subst e
      simp [sizeOf, typeInfo, hj]) (by simpa using h1)
    simp only [map_eq_pure_bind, Sem.run_bind, hr, Result.andThen, Sem.run_pure]
  · cases h
theorem q_build {d : Option Tmp} {g : Option (Nat × Bool)} {t : Nat} {parts : Array (Nat × Operand)} {zs out : List Value} {vals : List (Nat × Value)} {fs : List (Nat × Nat × Nat)} (hz : lkN S.zr t = some (.agg ⟨zs⟩)) (hs : lkN S.st t = some fs) (hp : evParts ρ parts.toList = some vals)
    (hf : ((fillS fs zs vals).bind fun l => nfL l some) = some out) : QOp P ⟨d, .build t parts, ty, pos, af, g⟩ ρ L (.agg ⟨out⟩) :=
  q_run fun ρe he k w hsat => by
    obtain ⟨l, hl, h1⟩ := bind_some hf
    rw [nfL_eq] at h1
    cases h1
    obtain ⟨fields, hu, hm⟩ := st_places (S.stI hs)
    have hzero := zero_run (S.zeroI hz) w
    have hm2 := hm w
    have e1 : (parts.map fun p => (p.1, ρe p.2)).toList = vals := by
      rw [Array.toList_map]
      exact evParts_map (fun p hp' u hu => he p.2 (by simp [Op.operands]; exact ⟨p.1, by simpa using hp'⟩) u hu) hp
    have hfill := fill_eq (place := fun i => ((fs.map fun q => (q.1, q.2.1)).toArray)[i]?) (fun i => by simp) vals zs out hl
    show (Instr.build t (parts.map fun p => (p.1, ρe p.2)) >>= fun v => pure (Next.value v) : Sem Next).run P w = _
    simp only [Sem.run_bind, Instr.build, hzero, Result.andThen, run_underlying hu, hm2, e1, Value.cells, hfill]
    rfl
end m
end Go.HL
