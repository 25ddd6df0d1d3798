/- The heap logic: literals of arrays, and of slices of structs; a slice of one's own with typed elements. No program in sight. Conditions: none. -/
import Derived.Test.YtkookaogdkdegabDoorHLCp
namespace Go.HL
open Go
set_option linter.unusedVariables false
set_option linter.unusedSimpArgs false
def fillN (sz : Nat) : List Value → List (Nat × Value) → Option (List Value)
  | cells, [] => some cells
  | cells, (i, v) :: r => bif Nat.beq (cellsL v).length sz && Nat.ble (i * sz + (cellsL v).length) cells.length then fillN sz (putL cells (i * sz) (cellsL v)) r else none
theorem fillN_eq {sz : Nat} : ∀ (l : List (Nat × Value)) (cells out : List Value), fillN sz cells l = some out → Instr.fill (fun i => some (i * sz, sz)) ⟨cells⟩ l = some ⟨out⟩
  | [], cells, out, h => by simp [fillN] at h; subst h; rfl
  | (i, v) :: r, cells, out, h => by
    simp only [fillN] at h
    obtain ⟨hc, h2⟩ := bif_some h
    simp only [Bool.and_eq_true] at hc
    have e1 := Nat.eq_of_beq_eq_true hc.1
    have e2 := Nat.le_of_ble_eq_true hc.2
    have ih := fillN_eq r _ out h2
    have e3 := put_eq (cellsL v) cells (i * sz) 0
    simp only [Nat.add_zero] at e3
    unfold Instr.fill
    simp only [cellsL_eq]
    have hcond : (decide ((Array.mk (cellsL v)).size ≠ sz) || decide (i * sz + (Array.mk (cellsL v)).size > (Array.mk cells).size)) = false := by simp; omega
    rw [hcond]
    simp only [Bool.false_eq_true, if_false]
    have e4 : (Array.zipIdx ⟨cellsL v⟩ 0 : Array (Value × Nat)) = ⟨(cellsL v).zipIdx 0⟩ := by simp
    rw [e4]
    simp only [List.foldl_toArray]
    rw [e3]
    exact ih
theorem putL_at : ∀ (vs pre zs : List Value), vs.length ≤ zs.length → putL (pre ++ zs) pre.length vs = pre ++ (vs ++ zs.drop vs.length)
  | [], pre, zs, _ => by simp [putL]
  | v :: r, pre, [], h => by simp at h
  | v :: r, pre, z :: zs, h => by
    have e : (pre ++ z :: zs).set pre.length v = (pre ++ [v]) ++ zs := by simp
    have ih := putL_at r (pre ++ [v]) zs (by simpa using h)
    simp only [putL, e]
    rw [show pre.length + 1 = (pre ++ [v]).length by simp, ih]
    simp
/-- the cells of a literal that names all its parts, in order -/
def allCells (sz : Nat) : Nat → List (Nat × Value) → Option (List Value)
  | _, [] => some []
  | k, (i, v) :: r => bif Nat.beq i k && Nat.beq (cellsL v).length sz then (allCells sz (k + 1) r).bind fun l => some (cellsL v ++ l) else none
theorem fillN_all {sz : Nat} : ∀ (l : List (Nat × Value)) (k : Nat) (pre zs out : List Value), allCells sz k l = some out → pre.length = k * sz → zs.length = out.length → fillN sz (pre ++ zs) l = some (pre ++ out)
  | [], k, pre, zs, out, h, hp, hz => by
    simp [allCells] at h; subst h
    have : zs = [] := List.eq_nil_of_length_eq_zero hz
    subst this
    simp [fillN]
  | (i, v) :: r, k, pre, zs, out, h, hp, hz => by
    simp only [allCells] at h
    obtain ⟨hc, h2⟩ := bif_some h
    simp only [Bool.and_eq_true] at hc
    have e1 := Nat.eq_of_beq_eq_true hc.1
    have e2 := Nat.eq_of_beq_eq_true hc.2
    subst e1
    obtain ⟨l', hl, h3⟩ := bind_some h2
    cases h3
    simp only [List.length_append] at hz
    have hle : (cellsL v).length ≤ zs.length := by omega
    simp only [fillN]
    have hcond : (Nat.beq (cellsL v).length sz && Nat.ble (i * sz + (cellsL v).length) (pre ++ zs).length) = true := by
      rw [Bool.and_eq_true]
      refine ⟨hc.2, Nat.ble_eq_true_of_le ?_⟩
      simp; omega
    rw [hcond, cond_true, ← hp, putL_at _ _ _ hle, ← List.append_assoc]
    have ih := fillN_all r (i + 1) (pre ++ cellsL v) (zs.drop (cellsL v).length) l' hl (by simp [hp, e2, Nat.add_mul]) (by simp; omega)
    rw [ih, List.append_assoc]
section v
variable {P : Program} (S : Tab P) {n : Nat} {ops : List Oper} {Q : Exit → Env → Heap → Prop} {rest : List Oper} {ρ : Env} {L : Heap} {ty : TypeId} {pos : String} {af : Array Edge}
/-- []E{..}, E of any size -/
theorem wSn {d t E y0 s0 b0 k1 x1 y1 sz by1 len : Nat} {z : Value} {zs out : List Value} {vals : List (Nat × Value)} {parts : Array (Nat × Operand)} (h : ∀ b, HO P n ops Q rest ((d, sl b 0 len len) :: ρ) ([(b, .cells ⟨out⟩ E)] :: L)) (h00 : okv ρ = true := by exact rfl) (ht : lkN S.ty t = some ⟨5, E, y0, s0, b0⟩ := by exact rfl) (he : lkN S.ty E = some ⟨k1, x1, y1, sz, by1⟩ := by exact rfl)
    (hz : lkN S.zr E = some z := by exact rfl) (hzs : z.cells = ⟨zs⟩ := by exact rfl) (hzl : Nat.beq zs.length sz = true := by exact rfl) (hp : evParts ρ parts.toList = some vals := by exact rfl) (hf : ((fillN sz (List.replicate len zs).flatten vals).bind fun l => nfL l some) = some out := by exact rfl)
    (hsm : Nat.ble (len * sz) 16777216 = true := by exact rfl) (h1 : Nat.ble 1 (len * sz) = true := by exact rfl) (hn : Nat.blt d n = true := by exact rfl) : HO P n ops Q (⟨some d, .buildSlice t len parts, ty, pos, af, none⟩ :: rest) ρ L := by
  refine ho_run rfl rfl hn fun ρe he' k w hs => ⟨sl w.heap.size 0 len len, w.alloc (.cells ⟨out⟩ E), _, ?_, hs.new _, h _⟩
  have hdesc := ty_slice (S.tyI ht) rfl
  have hsize : (sizeOf E).run P w = .ok sz w := ty_size (S.tyI he) w
  have hzero := zero_run (S.zeroI hz) w
  have hle : len * sz ≤ 16777216 := Nat.le_of_ble_eq_true hsm
  have hge : 1 ≤ len * sz := Nat.le_of_ble_eq_true h1
  obtain ⟨l, hl, h2⟩ := bind_some hf
  rw [nfL_eq] at h2
  cases h2
  have hzl' := Nat.eq_of_beq_eq_true hzl
  have hm : ((Array.range (len * sz)).map fun j => (Array.mk zs)[j % (Array.mk zs).size]!) = ⟨(List.replicate len zs).flatten⟩ := by
    have := madeCells_flat zs len
    rw [hzl'] at this
    exact this
  have e1 : (parts.map fun p => (p.1, ρe p.2)).toList = vals := by
    rw [Array.toList_map]
    exact evParts_map (fun p hp' u hu => he' p.2 (by simp [Op.operands]; exact ⟨p.1, by simpa using hp'⟩) u hu) hp
  have hfill := fillN_eq vals _ out hl
  have hbs : (Instr.buildSlice t len (parts.map fun p => (p.1, ρe p.2))).run P w = .ok (sl w.heap.size 0 len len) (w.alloc (.cells ⟨out⟩ E)) := by
    have hl2 : ¬ (16777216 < len * sz) := by omega
    have hl3 : ¬ (len * sz = 0) := by omega
    have hm2 : ((Array.range (len * sz)).map fun j => (z.cells)[j % z.cells.size]!) = ⟨(List.replicate len zs).flatten⟩ := by rw [hzs]; exact hm
    unfold Instr.buildSlice
    simp only [Sem.run_bind, run_underlying hdesc, Result.andThen_ok, hsize, Nat.reducePow, gt_iff_lt, if_neg hl2, if_neg hl3, Sem.run_pure, hzero, hm2, e1, hfill]
    rfl
  simp only [execOp, Sem.run_bind, hbs, Result.andThen_ok, Sem.run_pure]
theorem wSa {d t E y0 s0 b0 k1 x1 y1 sz by1 len : Nat} {z : Value} {zs out : List Value} {vals : List (Nat × Value)} {parts : Array (Nat × Operand)} (h : ∀ b, HO P n ops Q rest ((d, sl b 0 len len) :: ρ) ([(b, .cells ⟨out⟩ E)] :: L)) (h00 : okv ρ = true := by exact rfl) (ht : lkN S.ty t = some ⟨5, E, y0, s0, b0⟩ := by exact rfl) (he : lkN S.ty E = some ⟨k1, x1, y1, sz, by1⟩ := by exact rfl)
    (hz : lkN S.zr E = some z := by exact rfl) (hzs : z.cells = ⟨zs⟩ := by exact rfl) (hzl : Nat.beq zs.length sz = true := by exact rfl) (hp : evParts ρ parts.toList = some vals := by exact rfl) (hf : ((allCells sz 0 vals).bind fun l => nfL l some) = some out := by exact rfl) (hol : Nat.beq out.length (len * sz) = true := by exact rfl)
    (hsm : Nat.ble (len * sz) 16777216 = true := by exact rfl) (h1 : Nat.ble 1 (len * sz) = true := by exact rfl) (hn : Nat.blt d n = true := by exact rfl) : HO P n ops Q (⟨some d, .buildSlice t len parts, ty, pos, af, none⟩ :: rest) ρ L := by
  obtain ⟨l, hl, h2⟩ := bind_some hf
  rw [nfL_eq] at h2
  cases h2
  have hlen : (List.replicate len zs).flatten.length = out.length := by
    have e1 := Nat.eq_of_beq_eq_true hol
    have e2 := Nat.eq_of_beq_eq_true hzl
    simp [e1, e2]
  have := fillN_all vals 0 [] (List.replicate len zs).flatten out hl (by simp) hlen
  exact wSn S h h00 ht he hz hzs hzl hp (by simp only [List.nil_append] at this; rw [this]; simp [nfL_eq]) hsm h1 hn
/-- [n]E{..} -/
theorem q_buildArr {d : Option Tmp} {g : Option (Nat × Bool)} {t len E s0 b0 k1 x1 y1 sz by1 : Nat} {parts : Array (Nat × Operand)} {zs out : List Value} {vals : List (Nat × Value)} (hz : lkN S.zr t = some (.agg ⟨zs⟩)) (ht : lkN S.ty t = some ⟨6, len, E, s0, b0⟩) (he : lkN S.ty E = some ⟨k1, x1, y1, sz, by1⟩) (hp : evParts ρ parts.toList = some vals)
    (hf : ((fillN sz zs vals).bind fun l => nfL l some) = some out) : QOp P ⟨d, .build t parts, ty, pos, af, g⟩ ρ L (.agg ⟨out⟩) :=
  q_run fun ρe he' k w hsat => by
    obtain ⟨l, hl, h1⟩ := bind_some hf
    rw [nfL_eq] at h1
    cases h1
    have hu := ty_array (S.tyI ht) rfl
    have hsize : (sizeOf E).run P w = .ok sz w := ty_size (S.tyI he) w
    have hzero := zero_run (S.zeroI hz) w
    have e1 : (parts.map fun p => (p.1, ρe p.2)).toList = vals := by
      rw [Array.toList_map]
      exact evParts_map (fun p hp' u hu => he' p.2 (by simp [Op.operands]; exact ⟨p.1, by simpa using hp'⟩) u hu) hp
    have hfill := fillN_eq vals zs out hl
    show (Instr.build t (parts.map fun p => (p.1, ρe p.2)) >>= fun v => pure (Next.value v) : Sem Next).run P w = _
    simp only [Sem.run_bind, Instr.build, hzero, Result.andThen_ok, run_underlying hu, hsize, e1, Value.cells, hfill, Sem.run_pure]
theorem qbA {d : Option Tmp} {g : Option (Nat × Bool)} {t len E s0 b0 k1 x1 y1 sz by1 : Nat} {parts : Array (Nat × Operand)} {zs out : List Value} {vals : List (Nat × Value)} (h00 : okv ρ = true := by exact rfl) (hz : lkN S.zr t = some (.agg ⟨zs⟩) := by exact rfl) (ht : lkN S.ty t = some ⟨6, len, E, s0, b0⟩ := by exact rfl) (he : lkN S.ty E = some ⟨k1, x1, y1, sz, by1⟩ := by exact rfl) (hp : evParts ρ parts.toList = some vals := by exact rfl)
    (hf : ((fillN sz zs vals).bind fun l => nfL l some) = some out := by exact rfl) : QOp P ⟨d, .build t parts, ty, pos, af, g⟩ ρ L (.agg ⟨out⟩) := q_buildArr S hz ht he hp hf

/-! ### a slice of one's own -/
/-- a slice of one's own, its elements xs -/
def Vec {α : Type} (E sz : Nat) (enc : α → List Value) (v : Value) (xs : List α) (c : List Blk) : Prop := Own E sz v xs.length (xs.map enc).flatten c
theorem vec_nil {α : Type} {E sz : Nat} {enc : α → List Value} : Vec E sz enc nilS [] [] := own_nil
theorem Vec.rd {α : Type} {E sz : Nat} {enc : α → List Value} {v : Value} {xs : List α} {c : List Blk} (h : Vec E sz enc v xs c) (hsz : ∀ x, (enc x).length = sz) : ∃ a cap, v = .slice a xs.length cap ∧ xs.length ≤ cap ∧ ∀ L, Rd enc sz (c :: L) a xs := by
  have h' := h
  rcases h with ⟨rfl, h0, hcs, rfl⟩ | ⟨b, cap, sp, rfl, rfl, hcs, hle, hall⟩
  · exact ⟨none, 0, by rw [h0], by omega, fun L => .inl (List.eq_nil_of_length_eq_zero h0)⟩
  · refine ⟨some ⟨b, 0, none⟩, cap, rfl, hle, fun L => .inr ⟨b, 0, _, E, (0, 0), rfl, has_here, fun k x hx => ?_⟩⟩
    have := gets_row hsz xs sp [] k x hx
    simpa using this
theorem gets_self (l : List Value) : Gets l 0 l := fun j v h => by simpa using h
/-- append(s, x) -/
theorem wp1 {α : Type} {enc : α → List Value} {d t E y0 s0 b0 k1 x1 y1 sz by1 b i cap F : Nat} {z v : Value} {zs l : List Value} {fr : Nat × Nat} {c : List Blk} {x y : Operand} {xs : List α} (e : α) (ho : Vec E sz enc v xs c) (hsz : ∀ x, (enc x).length = sz) (hone : ∀ x, (enc x).all Value.oneCell' = true)
    (h : ∀ v' c', Vec E sz enc v' (xs ++ [e]) c' → HO P n ops Q rest ((d, v') :: ρ) (c' :: L)) (h00 : okv ρ = true := by exact rfl)
    (hx : ev ρ x = some v := by exact rfl) (hy : ev ρ y = some (sl b i 1 cap) := by exact rfl) (ht : lkN S.ty t = some ⟨5, E, y0, s0, b0⟩ := by exact rfl) (he : lkN S.ty E = some ⟨k1, x1, y1, sz, by1⟩ := by exact rfl) (hz : lkN S.zr E = some z := by exact rfl) (hzs : z.cells = ⟨zs⟩ := by exact rfl) (hzl : zs.length = sz := by exact rfl)
    (hn : Nat.blt d n = true := by exact rfl) (hb : Has L b (.cells ⟨l⟩ F fr) := by (repeat (first | assumption | exact has_here | exact has_mem (by assumption) | apply has_in | apply has_next))) (hg : Gets l i (enc e) := by first | exact gets_self _ | assumption) (hby : (xs.length + 1) * by1 ≤ 140737488355328 := by omega) (hmax : xs.length + 1 ≤ 9223372036854775807 := by omega) :
    HO P n ops Q (⟨some d, .call { callee := .builtin .append, args := #[x, y], argTypes := #[t, t] }, ty, pos, af, none⟩ :: rest) ρ (c :: L) :=
  o_append S hx hy ht he hz hzs hzl hn ho (src_one (has_next hb) hg (hsz e)) (hone e) hby hmax fun v' c' ho' => h v' c' (by
    unfold Vec
    simp only [List.length_append, List.length_cons, List.length_nil, List.map_append, List.map_cons, List.map_nil, List.flatten_append, List.flatten_cons, List.flatten_nil, List.append_nil]
    exact ho')
/-- append(s, l...) -/
theorem wpA {α : Type} {enc : α → List Value} {d t E y0 s0 b0 k1 x1 y1 sz by1 cap : Nat} {z v : Value} {zs : List Value} {a : Option Addr} {c : List Blk} {x y : Operand} {xs ys : List α} (ho : Vec E sz enc v xs c) (hR : Rd enc sz (c :: L) a ys) (hsz : ∀ x, (enc x).length = sz) (hone : ∀ x, (enc x).all Value.oneCell' = true)
    (h : ∀ v' c', Vec E sz enc v' (xs ++ ys) c' → HO P n ops Q rest ((d, v') :: ρ) (c' :: L)) (h00 : okv ρ = true := by exact rfl)
    (hx : ev ρ x = some v := by exact rfl) (hy : ev ρ y = some (.slice a ys.length cap) := by exact rfl) (ht : lkN S.ty t = some ⟨5, E, y0, s0, b0⟩ := by exact rfl) (he : lkN S.ty E = some ⟨k1, x1, y1, sz, by1⟩ := by exact rfl) (hz : lkN S.zr E = some z := by exact rfl) (hzs : z.cells = ⟨zs⟩ := by exact rfl) (hzl : zs.length = sz := by exact rfl)
    (hn : Nat.blt d n = true := by exact rfl) (hby : (xs.length + ys.length) * by1 ≤ 140737488355328 := by omega) (hmax : xs.length + ys.length ≤ 9223372036854775807 := by omega) :
    HO P n ops Q (⟨some d, .call { callee := .builtin .append, args := #[x, y], argTypes := #[t, t] }, ty, pos, af, none⟩ :: rest) ρ (c :: L) :=
  o_append S hx hy ht he hz hzs hzl hn ho (src_of_rd hsz hR) (cells_flat hone ys) hby hmax fun v' c' ho' => h v' c' (by
    unfold Vec
    simp only [List.length_append, List.map_append, List.flatten_append]
    exact ho')
end v
theorem puts_row {α : Type} {enc : α → List Value} {sz : Nat} (hsz : ∀ x, (enc x).length = sz) : ∀ (xs : List α) (sp pre : List Value) (k i : Nat) (x : α), k < xs.length → i = pre.length + k * sz → Puts (pre ++ (xs.map enc).flatten ++ sp) i (enc x) (pre ++ ((xs.set k x).map enc).flatten ++ sp)
  | [], sp, pre, k, i, x, h, _ => by simp at h
  | y :: r, sp, pre, 0, i, x, h, hi => by
    have hp : Puts ((enc y) ++ ((r.map enc).flatten ++ sp)) 0 (enc x) (enc x ++ ((r.map enc).flatten ++ sp)) := puts_front (by rw [hsz, hsz])
    have key : ∀ (p l vs l' : List Value) (j : Nat), Puts l j vs l' → Puts (p ++ l) (p.length + j) vs (p ++ l') := by
      intro p
      induction p with
      | nil => intro l vs l' j h; simpa using h
      | cons a p ih =>
        intro l vs l' j h
        have := puts_succ (x := a) (ih l vs l' j h)
        simpa [Nat.add_assoc, Nat.add_comm, Nat.add_left_comm] using this
    have := key pre _ _ _ 0 hp
    subst hi
    simpa using this
  | y :: r, sp, pre, k + 1, i, x, h, hi => by
    have := puts_row hsz r sp (pre ++ enc y) k i x (by simpa using h) (by rw [hi]; simp [hsz, Nat.add_mul]; omega)
    simpa using this
/-- a call that changes nothing, and asks for one component -/
theorem hq1 {P : Program} {F : Nat} {args : List Value} {c : List Blk} {L L1 : Heap} {V : Value} (h : ∀ L, HC P F args (c :: L) (fun v L' => v = V ∧ L' = c :: L)) (k0 : Nat) (hp : pickL k0 L = some (c, L1) := by exact rfl) : HC P F args L (fun v L' => v = V ∧ L' = L) :=
  ⟨(h L1).1, fun k w hs => ((h L1).2 k w (hs.perm (pickL_perm hp))).mono fun e w' ⟨v, L', he, hs', hv, hL⟩ => ⟨v, L, he, (hL ▸ hs').perm (pickL_perm hp).symm, hv, rfl⟩⟩
theorem LS.pick {c : List Blk} {A L L1 : Heap} (k0 : Nat) (h : LS A.flatten L1.flatten) (hp : pickL k0 L = some (c, L1) := by exact rfl) : LS (c :: A).flatten L.flatten :=
  LS.trans (LS.k h) (LS.of_perm (pickL_perm hp).symm.flatten)
theorem LS.e {A L : Heap} (h : LS A.flatten L.flatten) : LS (([] : List Blk) :: A).flatten L.flatten := h
theorem LS.p0 {c : List Blk} {A L : Heap} (h : LS A.flatten L.flatten) : LS (c :: A).flatten (c :: L).flatten := LS.k h
theorem LS.p1 {x0 c : List Blk} {A L : Heap} (h : LS A.flatten (x0 :: L).flatten) : LS (c :: A).flatten (x0 :: c :: L).flatten := LS.pick 1 h
theorem LS.p2 {x0 x1 c : List Blk} {A L : Heap} (h : LS A.flatten (x0 :: x1 :: L).flatten) : LS (c :: A).flatten (x0 :: x1 :: c :: L).flatten := LS.pick 2 h
theorem LS.p3 {x0 x1 x2 c : List Blk} {A L : Heap} (h : LS A.flatten (x0 :: x1 :: x2 :: L).flatten) : LS (c :: A).flatten (x0 :: x1 :: x2 :: c :: L).flatten := LS.pick 3 h
theorem LS.p4 {x0 x1 x2 x3 c : List Blk} {A L : Heap} (h : LS A.flatten (x0 :: x1 :: x2 :: x3 :: L).flatten) : LS (c :: A).flatten (x0 :: x1 :: x2 :: x3 :: c :: L).flatten := LS.pick 4 h
theorem LS.p5 {x0 x1 x2 x3 x4 c : List Blk} {A L : Heap} (h : LS A.flatten (x0 :: x1 :: x2 :: x3 :: x4 :: L).flatten) : LS (c :: A).flatten (x0 :: x1 :: x2 :: x3 :: x4 :: c :: L).flatten := LS.pick 5 h
theorem LS.p6 {x0 x1 x2 x3 x4 x5 c : List Blk} {A L : Heap} (h : LS A.flatten (x0 :: x1 :: x2 :: x3 :: x4 :: x5 :: L).flatten) : LS (c :: A).flatten (x0 :: x1 :: x2 :: x3 :: x4 :: x5 :: c :: L).flatten := LS.pick 6 h
theorem LS.p7 {x0 x1 x2 x3 x4 x5 x6 c : List Blk} {A L : Heap} (h : LS A.flatten (x0 :: x1 :: x2 :: x3 :: x4 :: x5 :: x6 :: L).flatten) : LS (c :: A).flatten (x0 :: x1 :: x2 :: x3 :: x4 :: x5 :: x6 :: c :: L).flatten := LS.pick 7 h
theorem LS.p8 {x0 x1 x2 x3 x4 x5 x6 x7 c : List Blk} {A L : Heap} (h : LS A.flatten (x0 :: x1 :: x2 :: x3 :: x4 :: x5 :: x6 :: x7 :: L).flatten) : LS (c :: A).flatten (x0 :: x1 :: x2 :: x3 :: x4 :: x5 :: x6 :: x7 :: c :: L).flatten := LS.pick 8 h
theorem LS.p9 {x0 x1 x2 x3 x4 x5 x6 x7 x8 c : List Blk} {A L : Heap} (h : LS A.flatten (x0 :: x1 :: x2 :: x3 :: x4 :: x5 :: x6 :: x7 :: x8 :: L).flatten) : LS (c :: A).flatten (x0 :: x1 :: x2 :: x3 :: x4 :: x5 :: x6 :: x7 :: x8 :: c :: L).flatten := LS.pick 9 h
theorem LS.p10 {x0 x1 x2 x3 x4 x5 x6 x7 x8 x9 c : List Blk} {A L : Heap} (h : LS A.flatten (x0 :: x1 :: x2 :: x3 :: x4 :: x5 :: x6 :: x7 :: x8 :: x9 :: L).flatten) : LS (c :: A).flatten (x0 :: x1 :: x2 :: x3 :: x4 :: x5 :: x6 :: x7 :: x8 :: x9 :: c :: L).flatten := LS.pick 10 h
theorem LS.p11 {x0 x1 x2 x3 x4 x5 x6 x7 x8 x9 x10 c : List Blk} {A L : Heap} (h : LS A.flatten (x0 :: x1 :: x2 :: x3 :: x4 :: x5 :: x6 :: x7 :: x8 :: x9 :: x10 :: L).flatten) : LS (c :: A).flatten (x0 :: x1 :: x2 :: x3 :: x4 :: x5 :: x6 :: x7 :: x8 :: x9 :: x10 :: c :: L).flatten := LS.pick 11 h
theorem LS.p12 {x0 x1 x2 x3 x4 x5 x6 x7 x8 x9 x10 x11 c : List Blk} {A L : Heap} (h : LS A.flatten (x0 :: x1 :: x2 :: x3 :: x4 :: x5 :: x6 :: x7 :: x8 :: x9 :: x10 :: x11 :: L).flatten) : LS (c :: A).flatten (x0 :: x1 :: x2 :: x3 :: x4 :: x5 :: x6 :: x7 :: x8 :: x9 :: x10 :: x11 :: c :: L).flatten := LS.pick 12 h
/-- what several branches come to, walked once -/
theorem once_w {ι : Type} {P : Program} {n : Nat} {c : Code} {Q : Exit → Env → Heap → Prop} (I : ι → Prop) (ρ : ι → Env) (L : ι → Heap) {R : Prop} (main : (∀ i, I i → HW P n c Q (ρ i) (L i)) → R) (key : ∀ i, I i → HW P n c Q (ρ i) (L i)) : R := main key
theorem once_o {ι : Type} {P : Program} {n : Nat} {ops l : List Oper} {Q : Exit → Env → Heap → Prop} (I : ι → Prop) (ρ : ι → Env) (L : ι → Heap) {R : Prop} (main : (∀ i, I i → HO P n ops Q l (ρ i) (L i)) → R) (key : ∀ i, I i → HO P n ops Q l (ρ i) (L i)) : R := main key
end Go.HL
