/- Texts laid into one, without what the claim does not use. Conditions: none. -/
import Derived.Test.YtkookaogdkdegabDoorMSaA
import Derived.MapKept
import Derived.WideKeyRuns
import Derived.Carry
import Derived.ProofKit
import Derived.OpenShut
import Derived.Deep.Slices
import Derived.Deep.Strs
import Derived.JoinedCond
import Derived.Deep.DeepHandedRow
import Derived.Stop.LaidErr
import Derived.LaidLaws
import Derived.Lay
import Derived.MakeChecks
import Derived.LaidHandle
import Derived.ChangeMaps5
import Derived.LaidEql
import Derived.Stop.Asserts
import Derived.RowKitTokens
import Derived.Leaving
import Derived.Conc.Holds
import Derived.SevenTiedAt
/-! HLCp -/
section
namespace Go.HL
open Go
set_option linter.unusedVariables false
set_option linter.unusedSimpArgs false
def u8 (b : UInt8) : Value := .int .u8 b.toNat
theorem u8_flat (l : List UInt8) : (l.map uc).flatten = l.map u8 := uc_flat l
theorem u8_one (l : List UInt8) : ((l.map u8).all Value.oneCell') = true := by simp [u8, Value.oneCell']
theorem madeCells_flat (zs : List Value) : ∀ n : Nat, madeCells ⟨zs⟩ (n * zs.length) = ⟨(List.replicate n zs).flatten⟩ := by
  intro n
  apply Array.ext'
  simp only [madeCells, Array.toList_map, Array.toList_range]
  induction n with
  | zero => simp
  | succ n ih =>
    rw [Nat.add_mul, Nat.one_mul, Nat.add_comm, List.range_add, List.map_append, List.replicate_succ, List.flatten_cons, ← ih, List.map_map]
    congr 1
    · apply List.ext_getElem?
      intro i
      by_cases h : i < zs.length
      · simp [h, Nat.mod_eq_of_lt h]
      · simp [h]
    · apply List.map_congr_left
      intro i hi
      simp
section o
variable {P : Program} (S : Tab P) {n : Nat} {ops : List Oper} {Q : Exit → Env → Heap → Prop} {rest : List Oper} {ρ : Env} {L : Heap} {ty : TypeId} {pos : String} {af : Array Edge}
/-- copy(b, s), s a text -/
theorem wcs {d t t2 b i E e0 y0 s0 b0 k1 x1 y1 by1 len cap : Nat} {x y : Operand} {src : List UInt8} {l l' : List Value} {L' : Heap} (h : HO P n ops Q rest ((d, iv (Nat.min src.length len)) :: ρ) L') (hp : Puts l i ((src.take (Nat.min src.length len)).map u8) l') (h00 : okv ρ = true := by exact rfl)
    (hx : ev ρ x = some (sl b i len cap) := by exact rfl) (hy : ev ρ y = some (bs src) := by exact rfl) (ht : lkN S.ty t = some ⟨5, e0, y0, s0, b0⟩ := by exact rfl) (he : lkN S.ty e0 = some ⟨k1, x1, y1, 1, by1⟩ := by exact rfl) (hn : Nat.blt d n = true := by exact rfl)
    (hu : Upd L b (.cells ⟨l⟩ E (0, 0)) (.cells ⟨l'⟩ E (0, 0)) L' := by (repeat (first | exact upd_here | apply upd_in | apply upd_next))) :
    HO P n ops Q (⟨some d, .call { callee := .builtin .copy, args := #[x, y], argTypes := #[t, t2] }, ty, pos, af, none⟩ :: rest) ρ L :=
  ho_run rfl rfl hn fun ρe he' k w hs => by
    obtain ⟨hp1, hp2⟩ := hp
    obtain ⟨w', e1, e2, e3, et, e4, e5⟩ := run_stores (P := P) (k := k) ((src.take (Nat.min src.length len)).map u8) i 0 l w (hs.heap hu.has) rfl (by simpa using hp2) (fun v hv => List.all_eq_true.1 (u8_one _) v hv)
    refine ⟨_, w', L', ?_, hs.upd hu e2 e3 et (by rw [e4, hp1, Nat.add_zero]) e5, h⟩
    have hdesc := ty_slice (S.tyI ht) rfl
    have hsize : (sizeOf e0).run P w = .ok 1 w := ty_size (S.tyI he) w
    have a1 := he' x (by simp [Op.operands, Call.operands]) _ hx
    have a2 := he' y (by simp [Op.operands, Call.operands]) _ hy
    have hc : (Array.map (fun b => Value.int .u8 b.toNat) ((ByteArray.mk ⟨src⟩).extract 0 (Nat.min src.length len)).data).toList = (src.take (Nat.min src.length len)).map u8 := by
      rw [ba_extract]
      simp [u8]
      rfl
    have hr : (Builtin.copy_ #[t, t2] ty #[sl b i len cap, bs src]).run P w = .ok (iv (Nat.min src.length len)) w' := by
      simp only [Builtin.copy_]
      simp only [List.getElem?_toArray, List.getElem?_cons_zero, List.getElem?_cons_succ, Sem.run_bind, run_underlying hdesc, Result.andThen_ok, hsize]
      simp only [Builtin.lenOf, Builtin.firstCells, Sem.run_pure, Result.andThen_ok, ba_size]
      rw [hsize]
      simp only [hc, e1, Result.andThen_ok, Sem.run_pure, goInt]
    simp [execOp, resolve, invoke, builtin, a1, a2, hr]
/-- make([]E, c) -/
theorem wM {d t E y0 s0 b0 k1 x1 y1 sz by1 : Nat} {z : Value} {zs : List Value} {x y : Operand} {kl kc : IntKind} {l c : Int} (h : ∀ b, HO P n ops Q rest ((d, sl b 0 l.toNat c.toNat) :: ρ) ([(b, .cells ⟨(List.replicate c.toNat zs).flatten⟩ E)] :: L)) (h00 : okv ρ = true := by exact rfl) (hx : ev ρ x = some (.int kl l) := by exact rfl) (hy : ev ρ y = some (.int kc c) := by exact rfl) (ht : lkN S.ty t = some ⟨5, E, y0, s0, b0⟩ := by exact rfl) (he : lkN S.ty E = some ⟨k1, x1, y1, sz, by1⟩ := by exact rfl)
    (hz : lkN S.zr E = some z := by exact rfl) (hzs : z.cells = ⟨zs⟩ := by exact rfl) (hzl : Nat.beq zs.length sz = true := by exact rfl) (hn : Nat.blt d n = true := by exact rfl) (hc : 0 ≤ l ∧ l ≤ c ∧ (by1 : Int) * c ≤ 281474976710656 ∧ c ≤ 9223372036854775807 := by omega) : HO P n ops Q (⟨some d, .makeSlice t x y, ty, pos, af, none⟩ :: rest) ρ L := by
  refine ho_run rfl rfl hn fun ρe he' k w hs => ⟨sl w.heap.size 0 l.toNat c.toNat, w.alloc (.cells ⟨(List.replicate c.toNat zs).flatten⟩ E), _, ?_, hs.new _, h _⟩
  have hdesc := ty_slice (S.tyI ht) rfl
  obtain ⟨de, i, hde, hi, -, hisz, hiby⟩ := ty_desc (S.tyI he)
  simp only at hisz hiby
  have hiz : i.zero = some z := by
    have := S.zeroI hz
    unfold zeroI at this
    simpa [hi] using this
  have hr := run_make (P := P) w t E i z hdesc hi hiz kl kc l c hc.1 hc.2.1 (by rw [hiby]; exact hc.2.2.1) hc.2.2.2
  have hl := Nat.eq_of_beq_eq_true hzl
  rw [hisz, hzs, ← hl, madeCells_flat] at hr
  simp [execOp, he' x (by simp [Op.operands]) _ hx, he' y (by simp [Op.operands]) _ hy, hr]
end o
end Go.HL
end

/-! HLVec -/
section
namespace Go.HL
open Go
set_option linter.unusedVariables false
set_option linter.unusedSimpArgs false
def fillN (sz : Nat) : List Value → List (Nat × Value) → Option (List Value)
  | cells, [] => some cells
  | cells, (i, v) :: r => bif Nat.beq (cellsL v).length sz && Nat.ble (i * sz + (cellsL v).length) cells.length then fillN sz (putL cells (i * sz) (cellsL v)) r else none
theorem fillN_eq {sz : Nat} : ∀ (l : List (Nat × Value)) (cells out : List Value), fillN sz cells l = some out → Instr.fill (fun i => some (i * sz, sz)) ⟨cells⟩ l = some ⟨out⟩
  | [], cells, out, h => by simp [fillN] at h; subst h; rfl
  | (i, v) :: r, cells, out, h => by
    simp only [fillN] at h
    obtain ⟨hc, h2⟩ := bif_some h
    simp only [Bool.and_eq_true] at hc
    have e1 := Nat.eq_of_beq_eq_true hc.1
    have e2 := Nat.le_of_ble_eq_true hc.2
    have ih := fillN_eq r _ out h2
    have e3 := put_eq (cellsL v) cells (i * sz) 0
    simp only [Nat.add_zero] at e3
    unfold Instr.fill
    simp only [cellsL_eq]
    have hcond : (decide ((Array.mk (cellsL v)).size ≠ sz) || decide (i * sz + (Array.mk (cellsL v)).size > (Array.mk cells).size)) = false := by simp; omega
    rw [hcond]
    simp only [Bool.false_eq_true, if_false]
    have e4 : (Array.zipIdx ⟨cellsL v⟩ 0 : Array (Value × Nat)) = ⟨(cellsL v).zipIdx 0⟩ := by simp
    rw [e4]
    simp only [List.foldl_toArray]
    rw [e3]
    exact ih
theorem putL_at : ∀ (vs pre zs : List Value), vs.length ≤ zs.length → putL (pre ++ zs) pre.length vs = pre ++ (vs ++ zs.drop vs.length)
  | [], pre, zs, _ => by simp [putL]
  | v :: r, pre, [], h => by simp at h
  | v :: r, pre, z :: zs, h => by
    have e : (pre ++ z :: zs).set pre.length v = (pre ++ [v]) ++ zs := by simp
    have ih := putL_at r (pre ++ [v]) zs (by simpa using h)
    simp only [putL, e]
    rw [show pre.length + 1 = (pre ++ [v]).length by simp, ih]
    simp
/-- the cells of a literal that names all its parts, in order -/
def allCells (sz : Nat) : Nat → List (Nat × Value) → Option (List Value)
  | _, [] => some []
  | k, (i, v) :: r => bif Nat.beq i k && Nat.beq (cellsL v).length sz then (allCells sz (k + 1) r).bind fun l => some (cellsL v ++ l) else none
theorem fillN_all {sz : Nat} : ∀ (l : List (Nat × Value)) (k : Nat) (pre zs out : List Value), allCells sz k l = some out → pre.length = k * sz → zs.length = out.length → fillN sz (pre ++ zs) l = some (pre ++ out)
  | [], k, pre, zs, out, h, hp, hz => by
    simp [allCells] at h; subst h
    have : zs = [] := List.eq_nil_of_length_eq_zero hz
    subst this
    simp [fillN]
  | (i, v) :: r, k, pre, zs, out, h, hp, hz => by
    simp only [allCells] at h
    obtain ⟨hc, h2⟩ := bif_some h
    simp only [Bool.and_eq_true] at hc
    have e1 := Nat.eq_of_beq_eq_true hc.1
    have e2 := Nat.eq_of_beq_eq_true hc.2
    subst e1
    obtain ⟨l', hl, h3⟩ := bind_some h2
    cases h3
    simp only [List.length_append] at hz
    have hle : (cellsL v).length ≤ zs.length := by omega
    simp only [fillN]
    have hcond : (Nat.beq (cellsL v).length sz && Nat.ble (i * sz + (cellsL v).length) (pre ++ zs).length) = true := by
      rw [Bool.and_eq_true]
      refine ⟨hc.2, Nat.ble_eq_true_of_le ?_⟩
      simp; omega
    rw [hcond, cond_true, ← hp, putL_at _ _ _ hle, ← List.append_assoc]
    have ih := fillN_all r (i + 1) (pre ++ cellsL v) (zs.drop (cellsL v).length) l' hl (by simp [hp, e2, Nat.add_mul]) (by simp; omega)
    rw [ih, List.append_assoc]
section v
variable {P : Program} (S : Tab P) {n : Nat} {ops : List Oper} {Q : Exit → Env → Heap → Prop} {rest : List Oper} {ρ : Env} {L : Heap} {ty : TypeId} {pos : String} {af : Array Edge}
/-- []E{..}, E of any size -/
theorem wSn {d t E y0 s0 b0 k1 x1 y1 sz by1 len : Nat} {z : Value} {zs out : List Value} {vals : List (Nat × Value)} {parts : Array (Nat × Operand)} (h : ∀ b, HO P n ops Q rest ((d, sl b 0 len len) :: ρ) ([(b, .cells ⟨out⟩ E)] :: L)) (h00 : okv ρ = true := by exact rfl) (ht : lkN S.ty t = some ⟨5, E, y0, s0, b0⟩ := by exact rfl) (he : lkN S.ty E = some ⟨k1, x1, y1, sz, by1⟩ := by exact rfl)
    (hz : lkN S.zr E = some z := by exact rfl) (hzs : z.cells = ⟨zs⟩ := by exact rfl) (hzl : Nat.beq zs.length sz = true := by exact rfl) (hp : evParts ρ parts.toList = some vals := by exact rfl) (hf : ((fillN sz (List.replicate len zs).flatten vals).bind fun l => nfL l some) = some out := by exact rfl)
    (hsm : Nat.ble (len * sz) 16777216 = true := by exact rfl) (h1 : Nat.ble 1 (len * sz) = true := by exact rfl) (hn : Nat.blt d n = true := by exact rfl) : HO P n ops Q (⟨some d, .buildSlice t len parts, ty, pos, af, none⟩ :: rest) ρ L := by
  refine ho_run rfl rfl hn fun ρe he' k w hs => ⟨sl w.heap.size 0 len len, w.alloc (.cells ⟨out⟩ E), _, ?_, hs.new _, h _⟩
  have hdesc := ty_slice (S.tyI ht) rfl
  have hsize : (sizeOf E).run P w = .ok sz w := ty_size (S.tyI he) w
  have hzero := zero_run (S.zeroI hz) w
  have hle : len * sz ≤ 16777216 := Nat.le_of_ble_eq_true hsm
  have hge : 1 ≤ len * sz := Nat.le_of_ble_eq_true h1
  obtain ⟨l, hl, h2⟩ := bind_some hf
  rw [nfL_eq] at h2
  cases h2
  have hzl' := Nat.eq_of_beq_eq_true hzl
  have hm : ((Array.range (len * sz)).map fun j => (Array.mk zs)[j % (Array.mk zs).size]!) = ⟨(List.replicate len zs).flatten⟩ := by
    have := madeCells_flat zs len
    rw [hzl'] at this
    exact this
  have e1 : (parts.map fun p => (p.1, ρe p.2)).toList = vals := by
    rw [Array.toList_map]
    exact evParts_map (fun p hp' u hu => he' p.2 (by simp [Op.operands]; exact ⟨p.1, by simpa using hp'⟩) u hu) hp
  have hfill := fillN_eq vals _ out hl
  have hbs : (Instr.buildSlice t len (parts.map fun p => (p.1, ρe p.2))).run P w = .ok (sl w.heap.size 0 len len) (w.alloc (.cells ⟨out⟩ E)) := by
    have hl2 : ¬ (16777216 < len * sz) := by omega
    have hl3 : ¬ (len * sz = 0) := by omega
    have hm2 : ((Array.range (len * sz)).map fun j => (z.cells)[j % z.cells.size]!) = ⟨(List.replicate len zs).flatten⟩ := by rw [hzs]; exact hm
    unfold Instr.buildSlice
    simp only [Sem.run_bind, run_underlying hdesc, Result.andThen_ok, hsize, Nat.reducePow, gt_iff_lt, if_neg hl2, if_neg hl3, Sem.run_pure, hzero, hm2, e1, hfill]
    rfl
  simp only [execOp, Sem.run_bind, hbs, Result.andThen_ok, Sem.run_pure]
theorem wSa {d t E y0 s0 b0 k1 x1 y1 sz by1 len : Nat} {z : Value} {zs out : List Value} {vals : List (Nat × Value)} {parts : Array (Nat × Operand)} (h : ∀ b, HO P n ops Q rest ((d, sl b 0 len len) :: ρ) ([(b, .cells ⟨out⟩ E)] :: L)) (h00 : okv ρ = true := by exact rfl) (ht : lkN S.ty t = some ⟨5, E, y0, s0, b0⟩ := by exact rfl) (he : lkN S.ty E = some ⟨k1, x1, y1, sz, by1⟩ := by exact rfl)
    (hz : lkN S.zr E = some z := by exact rfl) (hzs : z.cells = ⟨zs⟩ := by exact rfl) (hzl : Nat.beq zs.length sz = true := by exact rfl) (hp : evParts ρ parts.toList = some vals := by exact rfl) (hf : ((allCells sz 0 vals).bind fun l => nfL l some) = some out := by exact rfl) (hol : Nat.beq out.length (len * sz) = true := by exact rfl)
    (hsm : Nat.ble (len * sz) 16777216 = true := by exact rfl) (h1 : Nat.ble 1 (len * sz) = true := by exact rfl) (hn : Nat.blt d n = true := by exact rfl) : HO P n ops Q (⟨some d, .buildSlice t len parts, ty, pos, af, none⟩ :: rest) ρ L := by
  obtain ⟨l, hl, h2⟩ := bind_some hf
  rw [nfL_eq] at h2
  cases h2
  have hlen : (List.replicate len zs).flatten.length = out.length := by
    have e1 := Nat.eq_of_beq_eq_true hol
    have e2 := Nat.eq_of_beq_eq_true hzl
    simp [e1, e2]
  have := fillN_all vals 0 [] (List.replicate len zs).flatten out hl (by simp) hlen
  exact wSn S h h00 ht he hz hzs hzl hp (by simp only [List.nil_append] at this; rw [this]; simp [nfL_eq]) hsm h1 hn
/-- [n]E{..} -/
theorem q_buildArr {d : Option Tmp} {g : Option (Nat × Bool)} {t len E s0 b0 k1 x1 y1 sz by1 : Nat} {parts : Array (Nat × Operand)} {zs out : List Value} {vals : List (Nat × Value)} (hz : lkN S.zr t = some (.agg ⟨zs⟩)) (ht : lkN S.ty t = some ⟨6, len, E, s0, b0⟩) (he : lkN S.ty E = some ⟨k1, x1, y1, sz, by1⟩) (hp : evParts ρ parts.toList = some vals)
    (hf : ((fillN sz zs vals).bind fun l => nfL l some) = some out) : QOp P ⟨d, .build t parts, ty, pos, af, g⟩ ρ L (.agg ⟨out⟩) :=
  q_run fun ρe he' k w hsat => by
    obtain ⟨l, hl, h1⟩ := bind_some hf
    rw [nfL_eq] at h1
    cases h1
    have hu := ty_array (S.tyI ht) rfl
    have hsize : (sizeOf E).run P w = .ok sz w := ty_size (S.tyI he) w
    have hzero := zero_run (S.zeroI hz) w
    have e1 : (parts.map fun p => (p.1, ρe p.2)).toList = vals := by
      rw [Array.toList_map]
      exact evParts_map (fun p hp' u hu => he' p.2 (by simp [Op.operands]; exact ⟨p.1, by simpa using hp'⟩) u hu) hp
    have hfill := fillN_eq vals zs out hl
    show (Instr.build t (parts.map fun p => (p.1, ρe p.2)) >>= fun v => pure (Next.value v) : Sem Next).run P w = _
    simp only [Sem.run_bind, Instr.build, hzero, Result.andThen_ok, run_underlying hu, hsize, e1, Value.cells, hfill, Sem.run_pure]
theorem qbA {d : Option Tmp} {g : Option (Nat × Bool)} {t len E s0 b0 k1 x1 y1 sz by1 : Nat} {parts : Array (Nat × Operand)} {zs out : List Value} {vals : List (Nat × Value)} (h00 : okv ρ = true := by exact rfl) (hz : lkN S.zr t = some (.agg ⟨zs⟩) := by exact rfl) (ht : lkN S.ty t = some ⟨6, len, E, s0, b0⟩ := by exact rfl) (he : lkN S.ty E = some ⟨k1, x1, y1, sz, by1⟩ := by exact rfl) (hp : evParts ρ parts.toList = some vals := by exact rfl)
    (hf : ((fillN sz zs vals).bind fun l => nfL l some) = some out := by exact rfl) : QOp P ⟨d, .build t parts, ty, pos, af, g⟩ ρ L (.agg ⟨out⟩) := q_buildArr S hz ht he hp hf

/-! ### a slice of one's own -/
/-- a slice of one's own, its elements xs -/
def Vec {α : Type} (E sz : Nat) (enc : α → List Value) (v : Value) (xs : List α) (c : List Blk) : Prop := Own E sz v xs.length (xs.map enc).flatten c
theorem vec_nil {α : Type} {E sz : Nat} {enc : α → List Value} : Vec E sz enc nilS [] [] := own_nil
theorem Vec.rd {α : Type} {E sz : Nat} {enc : α → List Value} {v : Value} {xs : List α} {c : List Blk} (h : Vec E sz enc v xs c) (hsz : ∀ x, (enc x).length = sz) : ∃ a cap, v = .slice a xs.length cap ∧ xs.length ≤ cap ∧ ∀ L, Rd enc sz (c :: L) a xs := by
  have h' := h
  rcases h with ⟨rfl, h0, hcs, rfl⟩ | ⟨b, cap, sp, rfl, rfl, hcs, hle, hall⟩
  · exact ⟨none, 0, by rw [h0], by omega, fun L => .inl (List.eq_nil_of_length_eq_zero h0)⟩
  · refine ⟨some ⟨b, 0, none⟩, cap, rfl, hle, fun L => .inr ⟨b, 0, _, E, (0, 0), rfl, has_here, fun k x hx => ?_⟩⟩
    have := gets_row hsz xs sp [] k x hx
    simpa using this
theorem gets_self (l : List Value) : Gets l 0 l := fun j v h => by simpa using h
/-- append(s, x) -/
theorem wp1 {α : Type} {enc : α → List Value} {d t E y0 s0 b0 k1 x1 y1 sz by1 b i cap F : Nat} {z v : Value} {zs l : List Value} {fr : Nat × Nat} {c : List Blk} {x y : Operand} {xs : List α} (e : α) (ho : Vec E sz enc v xs c) (hsz : ∀ x, (enc x).length = sz) (hone : ∀ x, (enc x).all Value.oneCell' = true)
    (h : ∀ v' c', Vec E sz enc v' (xs ++ [e]) c' → HO P n ops Q rest ((d, v') :: ρ) (c' :: L)) (h00 : okv ρ = true := by exact rfl)
    (hx : ev ρ x = some v := by exact rfl) (hy : ev ρ y = some (sl b i 1 cap) := by exact rfl) (ht : lkN S.ty t = some ⟨5, E, y0, s0, b0⟩ := by exact rfl) (he : lkN S.ty E = some ⟨k1, x1, y1, sz, by1⟩ := by exact rfl) (hz : lkN S.zr E = some z := by exact rfl) (hzs : z.cells = ⟨zs⟩ := by exact rfl) (hzl : zs.length = sz := by exact rfl)
    (hn : Nat.blt d n = true := by exact rfl) (hb : Has L b (.cells ⟨l⟩ F fr) := by (repeat (first | assumption | exact has_here | exact has_mem (by assumption) | apply has_in | apply has_next))) (hg : Gets l i (enc e) := by first | exact gets_self _ | assumption) (hby : (xs.length + 1) * by1 ≤ 140737488355328 := by omega) (hmax : xs.length + 1 ≤ 9223372036854775807 := by omega) :
    HO P n ops Q (⟨some d, .call { callee := .builtin .append, args := #[x, y], argTypes := #[t, t] }, ty, pos, af, none⟩ :: rest) ρ (c :: L) :=
  o_append S hx hy ht he hz hzs hzl hn ho (src_one (has_next hb) hg (hsz e)) (hone e) hby hmax fun v' c' ho' => h v' c' (by
    unfold Vec
    simp only [List.length_append, List.length_cons, List.length_nil, List.map_append, List.map_cons, List.map_nil, List.flatten_append, List.flatten_cons, List.flatten_nil, List.append_nil]
    exact ho')
end v
theorem puts_row {α : Type} {enc : α → List Value} {sz : Nat} (hsz : ∀ x, (enc x).length = sz) : ∀ (xs : List α) (sp pre : List Value) (k i : Nat) (x : α), k < xs.length → i = pre.length + k * sz → Puts (pre ++ (xs.map enc).flatten ++ sp) i (enc x) (pre ++ ((xs.set k x).map enc).flatten ++ sp)
  | [], sp, pre, k, i, x, h, _ => by simp at h
  | y :: r, sp, pre, 0, i, x, h, hi => by
    have hp : Puts ((enc y) ++ ((r.map enc).flatten ++ sp)) 0 (enc x) (enc x ++ ((r.map enc).flatten ++ sp)) := puts_front (by rw [hsz, hsz])
    have key : ∀ (p l vs l' : List Value) (j : Nat), Puts l j vs l' → Puts (p ++ l) (p.length + j) vs (p ++ l') := by
      intro p
      induction p with
      | nil => intro l vs l' j h; simpa using h
      | cons a p ih =>
        intro l vs l' j h
        have := puts_succ (x := a) (ih l vs l' j h)
        simpa [Nat.add_assoc, Nat.add_comm, Nat.add_left_comm] using this
    have := key pre _ _ _ 0 hp
    subst hi
    simpa using this
  | y :: r, sp, pre, k + 1, i, x, h, hi => by
    have := puts_row hsz r sp (pre ++ enc y) k i x (by simpa using h) (by rw [hi]; simp [hsz, Nat.add_mul]; omega)
    simpa using this
/-- a call that changes nothing, and asks for one component -/
theorem hq1 {P : Program} {F : Nat} {args : List Value} {c : List Blk} {L L1 : Heap} {V : Value} (h : ∀ L, HC P F args (c :: L) (fun v L' => v = V ∧ L' = c :: L)) (k0 : Nat) (hp : pickL k0 L = some (c, L1) := by exact rfl) : HC P F args L (fun v L' => v = V ∧ L' = L) :=
  ⟨(h L1).1, fun k w hs => ((h L1).2 k w (hs.perm (pickL_perm hp))).mono fun e w' ⟨v, L', he, hs', hv, hL⟩ => ⟨v, L, he, (hL ▸ hs').perm (pickL_perm hp).symm, hv, rfl⟩⟩
theorem LS.pick {c : List Blk} {A L L1 : Heap} (k0 : Nat) (h : LS A.flatten L1.flatten) (hp : pickL k0 L = some (c, L1) := by exact rfl) : LS (c :: A).flatten L.flatten :=
  LS.trans (LS.k h) (LS.of_perm (pickL_perm hp).symm.flatten)
theorem LS.e {A L : Heap} (h : LS A.flatten L.flatten) : LS (([] : List Blk) :: A).flatten L.flatten := h
theorem LS.p0 {c : List Blk} {A L : Heap} (h : LS A.flatten L.flatten) : LS (c :: A).flatten (c :: L).flatten := LS.k h
theorem LS.p1 {x0 c : List Blk} {A L : Heap} (h : LS A.flatten (x0 :: L).flatten) : LS (c :: A).flatten (x0 :: c :: L).flatten := LS.pick 1 h
theorem LS.p2 {x0 x1 c : List Blk} {A L : Heap} (h : LS A.flatten (x0 :: x1 :: L).flatten) : LS (c :: A).flatten (x0 :: x1 :: c :: L).flatten := LS.pick 2 h
theorem LS.p3 {x0 x1 x2 c : List Blk} {A L : Heap} (h : LS A.flatten (x0 :: x1 :: x2 :: L).flatten) : LS (c :: A).flatten (x0 :: x1 :: x2 :: c :: L).flatten := LS.pick 3 h
theorem LS.p4 {x0 x1 x2 x3 c : List Blk} {A L : Heap} (h : LS A.flatten (x0 :: x1 :: x2 :: x3 :: L).flatten) : LS (c :: A).flatten (x0 :: x1 :: x2 :: x3 :: c :: L).flatten := LS.pick 4 h
theorem LS.p5 {x0 x1 x2 x3 x4 c : List Blk} {A L : Heap} (h : LS A.flatten (x0 :: x1 :: x2 :: x3 :: x4 :: L).flatten) : LS (c :: A).flatten (x0 :: x1 :: x2 :: x3 :: x4 :: c :: L).flatten := LS.pick 5 h
theorem LS.p6 {x0 x1 x2 x3 x4 x5 c : List Blk} {A L : Heap} (h : LS A.flatten (x0 :: x1 :: x2 :: x3 :: x4 :: x5 :: L).flatten) : LS (c :: A).flatten (x0 :: x1 :: x2 :: x3 :: x4 :: x5 :: c :: L).flatten := LS.pick 6 h
theorem LS.p7 {x0 x1 x2 x3 x4 x5 x6 c : List Blk} {A L : Heap} (h : LS A.flatten (x0 :: x1 :: x2 :: x3 :: x4 :: x5 :: x6 :: L).flatten) : LS (c :: A).flatten (x0 :: x1 :: x2 :: x3 :: x4 :: x5 :: x6 :: c :: L).flatten := LS.pick 7 h
theorem LS.p8 {x0 x1 x2 x3 x4 x5 x6 x7 c : List Blk} {A L : Heap} (h : LS A.flatten (x0 :: x1 :: x2 :: x3 :: x4 :: x5 :: x6 :: x7 :: L).flatten) : LS (c :: A).flatten (x0 :: x1 :: x2 :: x3 :: x4 :: x5 :: x6 :: x7 :: c :: L).flatten := LS.pick 8 h
theorem LS.p9 {x0 x1 x2 x3 x4 x5 x6 x7 x8 c : List Blk} {A L : Heap} (h : LS A.flatten (x0 :: x1 :: x2 :: x3 :: x4 :: x5 :: x6 :: x7 :: x8 :: L).flatten) : LS (c :: A).flatten (x0 :: x1 :: x2 :: x3 :: x4 :: x5 :: x6 :: x7 :: x8 :: c :: L).flatten := LS.pick 9 h
theorem LS.p10 {x0 x1 x2 x3 x4 x5 x6 x7 x8 x9 c : List Blk} {A L : Heap} (h : LS A.flatten (x0 :: x1 :: x2 :: x3 :: x4 :: x5 :: x6 :: x7 :: x8 :: x9 :: L).flatten) : LS (c :: A).flatten (x0 :: x1 :: x2 :: x3 :: x4 :: x5 :: x6 :: x7 :: x8 :: x9 :: c :: L).flatten := LS.pick 10 h
theorem LS.p11 {x0 x1 x2 x3 x4 x5 x6 x7 x8 x9 x10 c : List Blk} {A L : Heap} (h : LS A.flatten (x0 :: x1 :: x2 :: x3 :: x4 :: x5 :: x6 :: x7 :: x8 :: x9 :: x10 :: L).flatten) : LS (c :: A).flatten (x0 :: x1 :: x2 :: x3 :: x4 :: x5 :: x6 :: x7 :: x8 :: x9 :: x10 :: c :: L).flatten := LS.pick 11 h
theorem LS.p12 {x0 x1 x2 x3 x4 x5 x6 x7 x8 x9 x10 x11 c : List Blk} {A L : Heap} (h : LS A.flatten (x0 :: x1 :: x2 :: x3 :: x4 :: x5 :: x6 :: x7 :: x8 :: x9 :: x10 :: x11 :: L).flatten) : LS (c :: A).flatten (x0 :: x1 :: x2 :: x3 :: x4 :: x5 :: x6 :: x7 :: x8 :: x9 :: x10 :: x11 :: c :: L).flatten := LS.pick 12 h
/-- what several branches come to, walked once -/
theorem once_w {ι : Type} {P : Program} {n : Nat} {c : Code} {Q : Exit → Env → Heap → Prop} (I : ι → Prop) (ρ : ι → Env) (L : ι → Heap) {R : Prop} (main : (∀ i, I i → HW P n c Q (ρ i) (L i)) → R) (key : ∀ i, I i → HW P n c Q (ρ i) (L i)) : R := main key
end Go.HL
end

/-! HLMap -/
section
namespace Go.HL
open Go
set_option linter.unusedVariables false
set_option linter.unusedSimpArgs false
set_option linter.unusedSectionVars false
/-- the entries are these keys and values -/
def Ents {α : Type} (key : α → Value) (es : List MapEntry) (l : List (α × Bool)) : Prop := es.map (fun e => (e.key, e.val)) = l.map fun p => (key p.1, Value.bool p.2)
def findB {α : Type} [DecidableEq α] (a : α) : List (α × Bool) → Nat → Option (Nat × Value)
  | [], _ => none
  | (x, b) :: r, i => if a = x then some (i, .bool b) else findB a r (i + 1)
def lookB {α : Type} [DecidableEq α] (a : α) : List (α × Bool) → Bool
  | [] => false
  | (x, b) :: r => if a = x then b else lookB a r
structure KeyOk {α : Type} [DecidableEq α] (P : Program) (kt : TypeId) (key : α → Value) : Prop where
  chk : ∀ (em : Bool) (w : World) (a : α), (Instr.checkKey em 10000 kt (key a)).run P w = .ok () w
  find : ∀ (w : World) (a : α) (es : List MapEntry) (l : List (α × Bool)), Ents key es l → (Instr.findKey kt (key a) es).run P w = .ok (findB a l 0) w
  stay : ∀ (w : World) (a : α), (Instr.keyThatStays (key a) (key a)).run P w = .ok (key a) w
/-- what a map holds -/
def MapF {α : Type} [DecidableEq α] (key : α → Value) (es : List MapEntry) (f : α → Bool) : Prop := ∃ l : List (α × Bool), Ents key es l ∧ ∀ a, f a = lookB a l
theorem mapF_nil {α : Type} [DecidableEq α] {key : α → Value} : MapF key [] (fun _ => false) := ⟨[], rfl, fun _ => rfl⟩
section k
variable {α : Type} [DecidableEq α]
theorem findB_some {a : α} : ∀ {l : List (α × Bool)} {i j : Nat} {v : Value}, findB a l i = some (j, v) → i ≤ j ∧ ∃ b, v = .bool b ∧ l[j - i]? = some (a, b) ∧ lookB a l = b
  | [], i, j, v, h => by simp [findB] at h
  | (x, b) :: r, i, j, v, h => by
    simp only [findB] at h
    split at h
    · rename_i he
      subst he
      cases h
      exact ⟨Nat.le_refl _, b, rfl, by simp, by simp [lookB]⟩
    · rename_i he
      obtain ⟨h1, b', h2, h3, h4⟩ := findB_some h
      refine ⟨by omega, b', h2, ?_, by simp [lookB, he, h4]⟩
      rw [show j - i = (j - (i + 1)) + 1 by omega]
      simpa using h3
theorem findB_none {a : α} : ∀ {l : List (α × Bool)} {i : Nat}, findB a l i = none → lookB a l = false ∧ ∀ p ∈ l, p.1 ≠ a
  | [], i, h => ⟨rfl, by simp⟩
  | (x, b) :: r, i, h => by
    simp only [findB] at h
    split at h
    · cases h
    · rename_i he
      obtain ⟨h1, h2⟩ := findB_none h
      refine ⟨by simp [lookB, he, h1], fun p hp => ?_⟩
      rcases List.mem_cons.1 hp with rfl | hp
      · exact fun e => he e.symm
      · exact h2 p hp
theorem lookB_set {a : α} {b0 b : Bool} : ∀ {l : List (α × Bool)} {j : Nat}, findB a l 0 = some (j, .bool b0) → ∀ x, lookB x (l.set j (a, b)) = if x = a then b else lookB x l := by
  have key : ∀ (l : List (α × Bool)) (i j : Nat), findB a l i = some (j, .bool b0) → ∀ x, lookB x (l.set (j - i) (a, b)) = if x = a then b else lookB x l := by
    intro l
    induction l with
    | nil => intro i j h; simp [findB] at h
    | cons p r ih =>
      intro i j h x
      obtain ⟨y, c⟩ := p
      simp only [findB] at h
      split at h
      · rename_i he
        subst he
        cases h
        simp only [Nat.sub_self, List.set_cons_zero, lookB]
        split <;> simp_all
      · rename_i he
        have h1 := (findB_some h).1
        have := ih (i + 1) j h x
        rw [show j - i = (j - (i + 1)) + 1 by omega, List.set_cons_succ]
        simp only [lookB]
        rw [this]
        by_cases hxy : x = y
        · subst hxy
          simp [Ne.symm he]
        · simp [hxy]
  intro l j h
  exact key l 0 j h
theorem lookB_push {a : α} {b : Bool} : ∀ {l : List (α × Bool)}, (∀ p ∈ l, p.1 ≠ a) → ∀ x, lookB x (l ++ [(a, b)]) = if x = a then b else lookB x l
  | [], _, x => by simp [lookB]
  | (y, c) :: r, h, x => by
    have h1 : y ≠ a := h (y, c) (List.mem_cons_self)
    have ih := lookB_push (b := b) (fun p hp => h p (List.mem_cons_of_mem _ hp)) x
    simp only [List.cons_append, lookB, ih]
    by_cases hxy : x = y
    · subst hxy
      simp [h1]
    · simp [hxy]
theorem ents_set {key : α → Value} {es : List MapEntry} {l : List (α × Bool)} (h : Ents key es l) {a : α} {b : Bool} {i : Nat} (hi : i < es.length) : Ents key (es.modify i fun e => { e with key := key a, val := .bool b }) (l.set i (a, b)) := by
  unfold Ents at *
  apply List.ext_getElem?
  intro k
  have hk := congrArg (fun z => z[k]?) h
  simp only [List.getElem?_map] at hk
  simp only [List.getElem?_map, List.getElem?_modify, List.getElem?_set]
  by_cases e : i = k
  · subst e
    have hl : i < l.length := by
      have := congrArg List.length h
      simp at this
      omega
    simp [hi, hl]
  · simp only [if_neg e]
    cases hes : es[k]? <;> simp_all
theorem ents_push {key : α → Value} {es : List MapEntry} {l : List (α × Bool)} (h : Ents key es l) {a : α} {b : Bool} {n : Nat} : Ents key (es ++ [{ key := key a, val := .bool b, born := n }]) (l ++ [(a, b)]) := by
  unfold Ents at *
  simp [h]
end k
section r
variable {α : Type} [DecidableEq α] {P : Program} (S : Tab P) {n : Nat} {ops : List Oper} {Q : Exit → Env → Heap → Prop} {rest : List Oper} {ρ : Env} {L : Heap} {ty : TypeId} {pos : String} {af : Array Edge}
/-- m[k] -/
theorem q_mapB {d : Option Tmp} {g : Option (Nat × Bool)} {t kt et s0 b0 r : Nat} {key : α → Value} {x y : Operand} {es : List MapEntry} {ck : Nat} {f : α → Bool} {a : α} (hK : KeyOk P kt key) (hx : ev ρ x = some (.map (some r))) (hy : ev ρ y = some (key a))
    (ht : lkN S.ty t = some ⟨8, kt, et, s0, b0⟩) (hz : lkN S.zr et = some (.bool false)) (hb : Has L r (.map ⟨es⟩ ck)) (hF : MapF key es f) : QOp P ⟨d, .lookup t x y false, ty, pos, af, g⟩ ρ L (.bool (f a)) :=
  q_run fun ρe he k w hs => by
    obtain ⟨l, hE, hf⟩ := hF
    have hm := ty_map (S.tyI ht) rfl
    have hzero := zero_run (S.zeroI hz) w
    have hh := MapKept.run_getObj_map (P := P) (hs.heap hb)
    have hfind := hK.find w a es l hE
    have hl : (Instr.lookup t (.map (some r)) (key a) false).run P w = .ok (.bool (f a)) w := by
      unfold Instr.lookup
      simp only [Sem.run_bind, run_underlying hm, Result.andThen_ok, hh, Sem.run_pure, hK.chk, hfind]
      rw [hf a]
      cases hfb : findB a l 0 with
      | none => simp [hzero, (findB_none hfb).1]
      | some q =>
        obtain ⟨j, v⟩ := q
        obtain ⟨-, b, rfl, -, e⟩ := findB_some hfb
        simp [e]
    simp only [execOp, he x (by simp [Op.operands]) _ hx, he y (by simp [Op.operands]) _ hy, Sem.run_bind, hl, Result.andThen_ok, Sem.run_pure]
/-- make(map[..]bool) -/
theorem wMk {d t : Nat} (h : ∀ b, HO P n ops Q rest ((d, .map (some b)) :: ρ) ([(b, .map #[] 0)] :: L)) (h00 : okv ρ = true := by exact rfl) (hn : Nat.blt d n = true := by exact rfl) : HO P n ops Q (⟨some d, .makeMap t none, ty, pos, af, none⟩ :: rest) ρ L :=
  ho_run rfl rfl hn fun ρe he k w hs => ⟨.map (some w.heap.size), w.alloc (.map #[] 0), _, by simp [execOp, RowKit.run_makeMap], hs.new _, h _⟩
/-- m[k] = b -/
theorem o_mapB {t kt et s0 b0 r ck : Nat} {key : α → Value} {x y z : Operand} {es : List MapEntry} {f : α → Bool} {a : α} {b : Bool} (hK : KeyOk P kt key) (hx : ev ρ x = some (.map (some r))) (hy : ev ρ y = some (key a)) (hzz : ev ρ z = some (.bool b))
    (ht : lkN S.ty t = some ⟨8, kt, et, s0, b0⟩) (hF : MapF key es f) (h : ∀ es' ck', MapF key es' (fun x => if x = a then b else f x) → HO P n ops Q rest ρ ([(r, .map ⟨es'⟩ ck')] :: L)) :
    HO P n ops Q (⟨none, .mapUpdate t x y z, ty, pos, af, none⟩ :: rest) ρ ([(r, .map ⟨es⟩ ck)] :: L) := by
  refine ho_do rfl rfl fun ρe he k w hs => ?_
  obtain ⟨l, hE, hf⟩ := hF
  have hm := ty_map (S.tyI ht) rfl
  have hb0 : w.heap[r]? = some (.map ⟨es⟩ ck) := hs.heap has_here
  have hh := MapKept.run_getObj_map (P := P) hb0
  have hfind := hK.find w a es l hE
  have fin : ∀ (es' : List MapEntry) (ck' : Nat), Sat k { w with heap := w.heap.setIfInBounds r (.map ⟨es'⟩ ck') } ([(r, .map ⟨es'⟩ ck')] :: L) := fun es' ck' => by
    have hs2 := MapKept.heap_set (o' := .map ⟨es'⟩ ck') hb0
    exact hs.upd upd_here rfl rfl rfl hs2.1 (fun j hj => hs2.2 j hj)
  have e1 := he x (by simp [Op.operands]) _ hx
  have e2 := he y (by simp [Op.operands]) _ hy
  have e3 := he z (by simp [Op.operands]) _ hzz
  cases hfb : findB a l 0 with
  | none =>
    obtain ⟨h1, h2⟩ := findB_none hfb
    rw [hfb] at hfind
    refine ⟨_, _, .inl ?_, fin (es ++ [{ key := key a, val := .bool b, born := ck }]) (ck + 1), h _ _ ⟨l ++ [(a, b)], ents_push hE, fun x => ?_⟩⟩
    · have hr : (Instr.mapUpdate t (.map (some r)) (key a) (.bool b)).run P w = .ok () { w with heap := w.heap.setIfInBounds r (.map ⟨es ++ [{ key := key a, val := .bool b, born := ck }]⟩ (ck + 1)) } := by
        unfold Instr.mapUpdate
        simp only [Sem.run_bind, run_underlying hm, Result.andThen_ok, hh, hK.chk, hfind, MapKept.run_setObj_map _ hb0]
        simp
      simp [execOp, e1, e2, e3, hr]
    · show (if x = a then b else f x) = _
      rw [lookB_push h2, hf]
  | some q =>
    obtain ⟨j, v⟩ := q
    obtain ⟨-, b', rfl, hj, hb'⟩ := findB_some hfb
    rw [hfb] at hfind
    have hlen : es.length = l.length := by have := congrArg List.length hE; simpa using this
    have hjl : j < es.length := by rw [hlen]; exact (List.getElem?_eq_some_iff.1 (by simpa using hj)).1
    have hkey : (es[j]).key = key a := by
      have h9 := congrArg (fun z => z[j]?) hE
      simp only [List.getElem?_map, Nat.sub_zero] at h9 hj
      rw [hj, List.getElem?_eq_getElem hjl] at h9
      simp at h9
      exact h9.1
    refine ⟨_, _, .inl ?_, fin (es.modify j fun e => { e with key := key a, val := .bool b }) ck, h _ _ ⟨l.set j (a, b), ents_set hE hjl, fun x => ?_⟩⟩
    · have hr : (Instr.mapUpdate t (.map (some r)) (key a) (.bool b)).run P w = .ok () { w with heap := w.heap.setIfInBounds r (.map ⟨es.modify j fun e => { e with key := key a, val := .bool b }⟩ ck) } := by
        unfold Instr.mapUpdate
        have e9 : ((((Array.mk es)[j]?).map (·.key)).getD (key a)) = key a := by simp [hjl, hkey]
        simp only [Sem.run_bind, run_underlying hm, Result.andThen_ok, hh, hK.chk, hfind, e9, hK.stay, MapKept.run_setObj_map _ hb0]
        simp
      simp [execOp, e1, e2, e3, hr]
    · show (if x = a then b else f x) = _
      rw [lookB_set hfb, hf]
theorem keyOk_int {kt s0 b0 : Nat} (hk : lkN S.ty kt = some ⟨2, 3, 0, s0, b0⟩) : KeyOk (α := Int) P kt iv := by
  have hd : P.underlying kt = some (.int .i64) := ty_int (S.tyI hk) rfl
  have hI : ∀ a : Int, MapKept.IsKey (.int .i64) (iv a) := fun a => by simp [MapKept.IsKey]
  refine ⟨fun em w a => MapKept.run_checkKey hd (hI a) em 9999, fun w a es l hE => ?_, fun w a => MapKept.run_keyThatStays (hI a)⟩
  refine MapKept.run_findKey hd ?_
  have key : ∀ (es : List MapEntry) (l : List (Int × Bool)) (i : Nat), Ents iv es l → Instr.findNow (.int .i64) (iv a) es i = some (findB a l i) := by
    intro es
    induction es with
    | nil =>
      intro l i h
      cases l with
      | nil => rfl
      | cons p r => simp [Ents] at h
    | cons e es ih =>
      intro l i h
      cases l with
      | nil => simp [Ents] at h
      | cons p r =>
        obtain ⟨x, b⟩ := p
        simp only [Ents, List.map_cons, List.cons.injEq, Prod.mk.injEq] at h
        obtain ⟨⟨h1, h2⟩, h3⟩ := h
        simp only [Instr.findNow, h1, Instr.sameNow, if_true, findB]
        by_cases hax : a = x
        · subst hax; simp [h2]
        · have : (a == x) = false := by simp [hax]
          simp [this, hax, ih r (i + 1) h3]
  exact key es l 0 hE
theorem qmI {d : Option Tmp} {g : Option (Nat × Bool)} {t kt et s0 b0 s1 b1 r : Nat} {x y : Operand} {es : List MapEntry} {ck : Nat} {f : Int → Bool} {a : Int} (h00 : okv ρ = true := by exact rfl) (hx : ev ρ x = some (.map (some r)) := by exact rfl) (hy : ev ρ y = some (iv a) := by exact rfl)
    (ht : lkN S.ty t = some ⟨8, kt, et, s0, b0⟩ := by exact rfl) (hk : lkN S.ty kt = some ⟨2, 3, 0, s1, b1⟩ := by exact rfl) (hz : lkN S.zr et = some (.bool false) := by exact rfl) (hb : Has L r (.map ⟨es⟩ ck) := by (repeat (first | assumption | exact has_here | exact has_mem (by assumption) | apply has_in | apply has_next))) (hF : MapF iv es f := by assumption) :
    QOp P ⟨d, .lookup t x y false, ty, pos, af, g⟩ ρ L (.bool (f a)) := q_mapB S (keyOk_int S hk) hx hy ht hz hb hF
theorem wmI {t kt et s0 b0 s1 b1 r ck : Nat} {x y z : Operand} {es : List MapEntry} {f : Int → Bool} {a : Int} {b : Bool} (hF : MapF iv es f) (h : ∀ es' ck', MapF iv es' (fun x => if x = a then b else f x) → HO P n ops Q rest ρ ([(r, .map ⟨es'⟩ ck')] :: L)) (h00 : okv ρ = true := by exact rfl) (hx : ev ρ x = some (.map (some r)) := by exact rfl) (hy : ev ρ y = some (iv a) := by exact rfl) (hzz : ev ρ z = some (.bool b) := by exact rfl)
    (ht : lkN S.ty t = some ⟨8, kt, et, s0, b0⟩ := by exact rfl) (hk : lkN S.ty kt = some ⟨2, 3, 0, s1, b1⟩ := by exact rfl) :
    HO P n ops Q (⟨none, .mapUpdate t x y z, ty, pos, af, none⟩ :: rest) ρ ([(r, .map ⟨es⟩ ck)] :: L) := o_mapB S (keyOk_int S hk) hx hy hzz ht hF h
end r
/-! ### a loop of so many rounds; a call within a region that draws its order -/
def unQ (P : Program) (n : Nat) (c : Code) (Q : Exit → Env → Heap → Prop) : Nat → Exit → Env → Heap → Prop
  | 0, .normal, ρ, L => False
  | k + 1, .normal, ρ, L => HW P n c (unQ P n c Q k) ρ L
  | _, e, ρ, L => Q e ρ L
theorem unQ_succ {P : Program} {n k : Nat} {c : Code} {Q : Exit → Env → Heap → Prop} {ρ : Env} {L : Heap} (h : HW P n c (unQ P n c Q k) ρ L) : unQ P n c Q (k + 1) .normal ρ L := h
theorem unQ_ret {P : Program} {n k : Nat} {c : Code} {Q : Exit → Env → Heap → Prop} {ρ : Env} {L : Heap} (h : Q .ret ρ L) : unQ P n c Q k .ret ρ L := by cases k <;> exact h
theorem unQ_exit {P : Program} {n k i : Nat} {c : Code} {Q : Exit → Env → Heap → Prop} {ρ : Env} {L : Heap} (h : Q (.exit i) ρ L) : unQ P n c Q k (.exit i) ρ L := by cases k <;> exact h
theorem hw_rounds {P : Program} {n : Nat} {c : Code} {Q : Exit → Env → Heap → Prop} {ρ : Env} {L : Heap} (m : Nat) (h : HW P n c (unQ P n c Q m) ρ L) : HW P n (.loop c) Q ρ L := by
  intro k w a hs ha b kk cs
  have key : ∀ m ρ L, HW P n c (unQ P n c Q m) ρ L → ∀ a w, Sat k w L → Agr n a ρ →
      ∃ e a' w', post k n Q e a' w' ∧ Arrives P (lone (b.at a (.code c :: .inLoop c :: kk)) cs w) b kk cs e a' w' := by
    intro m
    induction m with
    | zero =>
      intro ρ L h a w hs ha
      obtain ⟨e, a₁, w₁, ⟨ρ₁, L₁, ha₁, hs₁, hq⟩, harr⟩ := h k w a hs ha b (.inLoop c :: kk) cs
      cases e with
      | normal => exact hq.elim
      | exit id => exact ⟨_, a₁, w₁, ⟨ρ₁, L₁, ha₁, hs₁, hq⟩, .pass (x := .inLoop c) rfl (fun _ _ => .inl (by simp)) harr⟩
      | goto l => exact ⟨_, a₁, w₁, ⟨ρ₁, L₁, ha₁, hs₁, hq⟩, .pass (x := .inLoop c) rfl (fun _ _ => .inl (by simp)) harr⟩
      | ret => exact ⟨_, a₁, w₁, ⟨ρ₁, L₁, ha₁, hs₁, hq⟩, .pass (x := .inLoop c) rfl (fun _ _ => .inl (by simp)) harr⟩
      | panic ch => exact ⟨_, a₁, w₁, ⟨ρ₁, L₁, ha₁, hs₁, hq⟩, .pass (x := .inLoop c) rfl (fun _ _ => .inl (by simp)) harr⟩
      | outgrown => exact ⟨_, a₁, w₁, ⟨ρ₁, L₁, ha₁, hs₁, hq⟩, .pass (x := .inLoop c) rfl (fun _ _ => .inl (by simp)) harr⟩
    | succ m ih =>
      intro ρ L h a w hs ha
      obtain ⟨e, a₁, w₁, ⟨ρ₁, L₁, ha₁, hs₁, hq⟩, harr⟩ := h k w a hs ha b (.inLoop c :: kk) cs
      cases e with
      | normal =>
        obtain ⟨e₂, a₂, w₂, hq₂, harr₂⟩ := ih ρ₁ L₁ hq a₁ w₁ hs₁ ha₁
        exact ⟨e₂, a₂, w₂, hq₂, .of_steps (Steps.trans harr (.one step_inLoop)) harr₂⟩
      | exit id => exact ⟨_, a₁, w₁, ⟨ρ₁, L₁, ha₁, hs₁, hq⟩, .pass (x := .inLoop c) rfl (fun _ _ => .inl (by simp)) harr⟩
      | goto l => exact ⟨_, a₁, w₁, ⟨ρ₁, L₁, ha₁, hs₁, hq⟩, .pass (x := .inLoop c) rfl (fun _ _ => .inl (by simp)) harr⟩
      | ret => exact ⟨_, a₁, w₁, ⟨ρ₁, L₁, ha₁, hs₁, hq⟩, .pass (x := .inLoop c) rfl (fun _ _ => .inl (by simp)) harr⟩
      | panic ch => exact ⟨_, a₁, w₁, ⟨ρ₁, L₁, ha₁, hs₁, hq⟩, .pass (x := .inLoop c) rfl (fun _ _ => .inl (by simp)) harr⟩
      | outgrown => exact ⟨_, a₁, w₁, ⟨ρ₁, L₁, ha₁, hs₁, hq⟩, .pass (x := .inLoop c) rfl (fun _ _ => .inl (by simp)) harr⟩
  obtain ⟨e, a', w', hq, harr⟩ := key m ρ L h a w hs ha
  exact ⟨e, a', w', hq, .of_steps (.one step_loop) harr⟩
section df
variable {P : Program} {n : Nat} {ops : List Oper} {Q : Exit → Env → Heap → Prop} {Ss : List (Nat × Blk)} {rem rem' : List (Nat × Oper)} {ρ : Env} {L : Heap} {ty : TypeId} {pos : String} {af : Array Edge} {g : Option (Nat × Bool)} {d i : Nat}
/-- a call that changes nothing, and asks for these blocks -/
theorem dcF {f : Operand} {as9 : Array Operand} {ts : Array TypeId} {Fn : Nat} {cap args args' : List Value} {v : Value} (k : Nat) (F : List Blk) (h : ∀ L, (∀ p ∈ F, Has L p.1 p.2) → HC P Fn args' L (fun u L' => u = v ∧ L' = L)) (hF : ∀ p ∈ F, Has L p.1 p.2)
    (hr : HD P n ops Q (F.map (fun p => (i, p)) ++ Ss) rem' ((d, v) :: ρ) L) (h00 : okv ρ = true := by exact rfl) (hp : pickS k rem = some ((i, ⟨some d, .call { callee := .value f, args := as9, argTypes := ts }, ty, pos, af, g⟩), rem') := by exact rfl) (hg : guardE ops ρ g = some true := by exact rfl) (hn : Nat.blt d n = true := by exact rfl)
    (hf : ev ρ f = some (.func (.func Fn) #[] ⟨cap⟩) := by exact rfl) (ha : evs ρ as9.toList = some args := by exact rfl) (he : args ++ cap = args' := by exact rfl) (hc : chkQ ops rem' i ⟨some d, .call { callee := .value f, args := as9, argTypes := ts }, ty, pos, af, g⟩ = true := by decide +kernel) : HD P n ops Q Ss rem ρ L :=
  hd_q (F := F) hp hc rfl hn (.inl ⟨hg, fun L hL => q_call hf ha (he ▸ h L hL)⟩) hF hr
end df
/-- one block asked for, wherever it lies -/
theorem hcHas {P : Program} {F : Nat} {args : List Value} {b : Nat} {o : Obj} {V : Value} (h : ∀ L, HC P F args ([(b, o)] :: L) (fun v L' => v = V ∧ L' = [(b, o)] :: L)) {L : Heap} (hb : Has L b o) : HC P F args L (fun v L' => v = V ∧ L' = L) := by
  obtain ⟨l1, l2, e⟩ := List.append_of_mem hb
  have hp : List.Perm L.flatten ([(b, o)] :: [l1 ++ l2]).flatten := by
    rw [e]
    simp only [List.flatten_cons, List.flatten_nil, List.append_nil, List.cons_append, List.nil_append]
    exact List.perm_middle
  have hp2 : ∀ {k : Ctx} {w : World}, Sat k w ([(b, o)] :: [l1 ++ l2]) → Sat k w L := fun hs => hs.sp (LS.of_perm hp)
  exact ⟨(h []).1, fun k w hs => ((h [l1 ++ l2]).2 k w (hs.sp (LS.of_perm hp.symm))).mono fun e w' ⟨v, L', he, hs', hv, hL⟩ => ⟨v, L, he, hp2 (hL ▸ hs'), hv, rfl⟩⟩
theorem hq2 {P : Program} {F : Nat} {args : List Value} {c1 c2 : List Blk} {L L1 L2 : Heap} {V : Value} (h : ∀ L, HC P F args (c1 :: c2 :: L) (fun v L' => v = V ∧ L' = c1 :: c2 :: L)) (k1 k2 : Nat) (hp1 : pickL k1 L = some (c1, L1) := by exact rfl) (hp2 : pickL k2 L1 = some (c2, L2) := by exact rfl) : HC P F args L (fun v L' => v = V ∧ L' = L) :=
  have hp : List.Perm L (c1 :: c2 :: L2) := (pickL_perm hp1).trans ((pickL_perm hp2).cons c1)
  ⟨(h L2).1, fun k w hs => ((h L2).2 k w (hs.perm hp)).mono fun e w' ⟨v, L', he, hs', hv, hL⟩ => ⟨v, L, he, (hL ▸ hs').perm hp.symm, hv, rfl⟩⟩
end Go.HL
end

/-! HLTop -/
section
namespace Go.HL
open Go Go.ChangeShapes Go.WideShapes Go.ChangeAt Go.RowKit
set_option linter.unusedVariables false
set_option linter.unusedSimpArgs false

/-- all blocks of a world -/
def blks (w : World) : List Blk := (List.range w.heap.size).map fun i => (i, w.heap.getD i default)
def ctx (w : World) : Ctx := (w.os, w.output, w.tape)
theorem mem_blks {w : World} {b : Nat} {o : Obj} (h : w.heap[b]? = some o) : (b, o) ∈ blks w := by
  obtain ⟨hlt, he⟩ := Array.getElem?_eq_some_iff.1 h
  refine List.mem_map.2 ⟨b, List.mem_range.2 hlt, ?_⟩
  simp [h]
theorem sat_init (w : World) : Sat (ctx w) w [blks w] := by
  refine ⟨rfl, rfl, rfl, fun p hp => ?_, ?_⟩
  · simp only [List.flatten_cons, List.flatten_nil, List.append_nil] at hp
    obtain ⟨i, hi, rfl⟩ := List.mem_map.1 hp
    have hlt := List.mem_range.1 hi
    simp [hlt]
  · simp only [List.flatten_cons, List.flatten_nil, List.append_nil, blks, List.map_map]
    have : ((fun x : Blk => x.1) ∘ fun i => (i, w.heap.getD i default)) = id := rfl
    rw [this, List.map_id]
    exact List.nodup_range
theorem below_of_sat {w w' : World} (h : Sat (ctx w) w' [blks w]) : Below w.heap.size w w' := by
  have hb : ∀ k, k < w.heap.size → w'.heap[k]? = w.heap[k]? := fun k hk => by
    have := h.has (k, w.heap[k]) (by simp only [List.flatten_cons, List.flatten_nil, List.append_nil]; exact mem_blks (Array.getElem?_eq_getElem hk))
    rw [this, Array.getElem?_eq_getElem hk]
  refine ⟨h.os, h.tape, h.out, ?_, hb⟩
  cases hz : w.heap.size with
  | zero => omega
  | succ m =>
    have h1 := hb m (by omega)
    have h2 : ∃ o, w'.heap[m]? = some o := ⟨_, h1.trans (Array.getElem?_eq_getElem (by omega))⟩
    obtain ⟨o, h3⟩ := h2
    obtain ⟨h4, _⟩ := Array.getElem?_eq_some_iff.1 h3
    omega
/-- a law's walk, as9 the row wants it -/
theorem calls_law {P : Program} {f : Nat} {args : List Value} {w : World} (h : HC P f args [blks w] (fun v L' => v = .bool true ∧ L' = [blks w])) :
    Calls P f ⟨args⟩ w fun e w' => e = .returned (.bool true) ∧ Below w.heap.size w w' :=
  (h.2 (ctx w) w (sat_init w)).mono fun e w' ⟨v, L', h1, h2, h3, h4⟩ => by subst h3; subst h4; exact ⟨h1, below_of_sat h2⟩

theorem trodAll_stays {H : Type} {enc : TypeId × Value → H} {P : Program} (hl : laidOutB P = true) {W W' : World} (hb : Below W.heap.size W W') :
    ∀ (ts : List TypeId) (vs : List Value) (ds : List (DataW H)) (ps : List MemPlace), (∀ t ∈ ts, P.readableRec t = true ∧ t < P.types.size) → DataW.TrodAll enc P W 0 (fun _ => true) true ts vs ds ps →
      (∀ x ∈ ps, x.block < W.heap.size) → DataW.TrodAll enc P W' 0 (fun b => decide (b < W.heap.size)) true ts vs ds ps
  | [], [], [], ps, _, h, _ => h
  | t :: ts, v :: vs, d :: ds, ps, hr, h, hlt => by
    obtain ⟨p, q, h1, h2, rfl⟩ := h
    exact ⟨p, q, Below.trod hl (hr t (by simp)).1 (hr t (by simp)).2 h1 hb (fun x hx => hlt x (by simp [hx])),
      trodAll_stays hl hb ts vs ds q (fun t ht => hr t (by simp [ht])) h2 (fun x hx => hlt x (by simp [hx])), rfl⟩
  | [], _ :: _, _, _, _, h, _ => by simp [DataW.TrodAll] at h
  | [], [], _ :: _, _, _, h, _ => by simp [DataW.TrodAll] at h
  | _ :: _, [], _, _, _, h, _ => by simp [DataW.TrodAll] at h
  | _ :: _, _ :: _, [], _, _, h, _ => by simp [DataW.TrodAll] at h

/-- the end of a law: true comes back, the arguments read as9 they did -/
theorem post_law {H : Type} {enc : TypeId × Value → H} {P : Program} {f : Func} {s : ChangeSpec} {apart fresh handsOn : Bool} {W W' : World} {args : Array Value} {ds gs : List (DataW H)} {before : List MemPlace} {tb : TypeId}
    (hl : laidOutB P = true) (hr : ∀ t ∈ f.params.toList, P.readableRec t = true ∧ t < P.types.size) (hW : DataW.Whole enc P f.params.toList s.vars apart W args.toList ds gs before) (hb : Below W.heap.size W W')
    (hv : s.vars = []) (hfn : s.fn H (ds ++ gs) = { results := [.lit (.bool true)], args := ds }) (hrt : f.resultTypes = #[tb]) (hbool : P.underlying tb = some .bool) :
    s.post enc P f apart fresh handsOn false W args (.bool true) W' := by
  have hlt := hW.lt
  have hW' := hW
  obtain ⟨p, q, hA, hV, rfl, hfz, hnd⟩ := hW
  rw [hv] at hV
  obtain ⟨rfl, rfl⟩ := trodVars_none hV
  refine ⟨ds, [], p ++ [], [], p, [], hW', ?_, ?_, ?_, hb.frame _, fun h => by cases h⟩
  · rw [hfn, hrt]
    exact trodAll_mk1 (shut_bool hbool _)
  · rw [hfn]
    exact trodAll_stays hl hb _ _ _ _ hr hA (fun x hx => hlt x (by simp [hx]))
  · rw [hv, hfn]
    rfl

theorem cell_of_cells {W : World} {b off i : Nat} {c : Array Value} {E : Nat} {fr : Nat × Nat} (hb : W.heap[b]? = some (.cells c E fr)) : W.cell? (Addr.add ⟨b, off, none⟩ i) = c[off + i]? := by
  unfold Addr.add
  by_cases h0 : i = 0
  · subst h0; simp [World.cell?, hb]
  · simp [World.cell?, hb, h0]
theorem has_blks {W : World} {b : Nat} {o : Obj} (h : W.heap[b]? = some o) : Has [blks W] b o := by
  simp only [Has, List.flatten_cons, List.flatten_nil, List.append_nil]
  exact mem_blks h
/-- a slice that is read: of its cells, from the reading -/
theorem open_rd {H : Type} {enc : TypeId × Value → H} {P : Program} {W : World} {base : Nat} {r : Reach} {spare : Nat → Bool} {held : Bool} {t e : TypeId} {α : Type} {encV : α → List Value} {sz : Nat} {v : Value} {d : DataW H} {ps : List MemPlace}
    (ht : P.underlying t = some (.slice e)) (hsz : P.cellsOf e = sz) (hpos : 0 < sz) (hval : Value.okWide P W r base t v) (hd : DataW.Trod enc P W 0 spare held t v d ps)
    (good : α → Prop) (one : ∀ n cs x, DataW.trod enc P W 0 spare held n e cs = some x → ∃ s, cs = encV s ∧ good s) :
    ∃ a cap, ∃ xs : List α, v = .slice a xs.length cap ∧ Rd encV sz [blks W] a xs ∧ (∀ x ∈ xs, good x) ∧ xs.length ≤ cap := by
  obtain ⟨a, len, cap, rfl⟩ := okWide_slice ht hval
  obtain ⟨fuel, hf⟩ := hd
  rcases Deep.open_slice ht hf with ⟨h1, -⟩ | ⟨a', len', cap', m, n, D, Pl, h1, -, hl, -, hm, -, hx⟩
  · simp [Value.cells] at h1
    obtain ⟨rfl, rfl, rfl⟩ := h1
    exact ⟨none, 0, [], rfl, Rd.nil, by simp, by simp⟩
  · simp [Value.cells] at h1
    obtain ⟨rfl, rfl, rfl⟩ := h1
    have hlm : len ≤ m := by rw [hm]; split <;> omega
    have : ∀ i, i < len → ∃ s, W.cells? 0 (a'.add (i * sz)) sz = some (encV s) ∧ good s := fun i hi => by
      obtain ⟨cs, h1, h2⟩ := hx i (by omega)
      obtain ⟨s, rfl, hg⟩ := one _ _ _ h2
      rw [hsz] at h1
      exact ⟨s, h1, hg⟩
    by_cases h0 : len = 0
    · subst h0
      exact ⟨some a', cap, [], rfl, Rd.nil, by simp, by simp⟩
    · have : ∃ V : _root_.Fin len → α, ∀ i, W.cells? 0 (a'.add (i.1 * sz)) sz = some (encV (V i)) ∧ good (V i) := ⟨fun i => (this i.1 i.2).choose, fun i => (this i.1 i.2).choose_spec⟩
      obtain ⟨V, hV⟩ := this
      obtain ⟨-, -, hc⟩ := World.cells?_some (hV ⟨0, by omega⟩).1
      have hlen := (World.cells?_some (hV ⟨0, by omega⟩).1).2.1
      have h00 := hc 0 hpos
      have hs : ∃ x, W.cell? a' = some x := by
        simp [Addr.add] at h00
        exact ⟨_, h00.trans (List.getElem?_eq_getElem (by omega))⟩
      obtain ⟨x, hx0⟩ := hs
      obtain ⟨b, off, spot⟩ := a'
      have hblk : ∃ c E fr, W.heap[b]? = some (.cells c E fr) ∧ spot = none := by
        unfold World.cell? at hx0
        simp only at hx0
        split at hx0
        · rename_i c E fr he
          refine ⟨c, E, fr, he, ?_⟩
          cases spot with
          | none => rfl
          | some k => simp at hx0
        · cases hx0
      obtain ⟨c, E, fr, he, rfl⟩ := hblk
      refine ⟨some ⟨b, off, none⟩, cap, List.ofFn V, by simp, .inr ⟨b, off, c.toList, E, fr, rfl, has_blks (by simpa using he), fun k x hk => ?_⟩, ?_, by simpa using hl⟩
      · have hkl : k < len := by
          have := (List.getElem?_eq_some_iff.1 hk).1
          simpa using this
        have hx : V ⟨k, hkl⟩ = x := by
          rw [List.getElem?_ofFn] at hk
          simpa [hkl] using hk
        obtain ⟨-, hl2, hc2⟩ := World.cells?_some (hV ⟨k, hkl⟩).1
        rw [hx] at hl2 hc2
        intro j v hj
        have hjl := (List.getElem?_eq_some_iff.1 hj).1
        have := hc2 j (by omega)
        rw [hj] at this
        rw [← this]
        have e : (Addr.add ⟨b, off, none⟩ (k * sz)) = ⟨b, off + k * sz, none⟩ := by
          unfold Addr.add; split
          · rename_i h; simp [h]
          · rfl
        show c.toList[off + k * sz + j]? = _
        simp only [e]
        rw [cell_of_cells he]
        simp
      · intro x hx
        obtain ⟨i, rfl⟩ := List.mem_ofFn.1 hx
        exact (hV i).2
end Go.HL
end

/-! Seat -/
section
namespace Go.HL
open Go
abbrev Er (T : Nat) (E : Nat → Addr) (cs : List Nat) (L : Heap) : Prop := Errs errTab T E cs L
def ic (x : Int) : List Value := [iv x]
/-- a state; a frame -/
structure St where
  ph : Int
  pr : Int
  att : Int
  deriving DecidableEq
def sc (s : St) : List Value := [iv s.ph, iv s.pr, iv s.att]
structure Fr where
  fr : Int
  to : Int
  dl : Int
  kd : Int
  att : Int
  yes : Bool
  s : St
  deriving DecidableEq
def fc (f : Fr) : List Value := [iv f.fr, iv f.to, iv f.dl, iv f.kd, iv f.att, .bool f.yes, iv f.s.ph, iv f.s.pr, iv f.s.att]
def zeroS : St := ⟨0, 0, 0⟩
end Go.HL
end

/-! LayA -/
section
namespace Go.HL
open Go Go.Proofs Go.ChangeShapes Go.WideShapes Go.ChangeAt Go.RowKit
set_option linter.unusedVariables false
theorem gl_of_var {P : Program} {W : World} {n : String} {g : Nat} {v : Value} (hg : P.globalNamed n = some g) (h : W.var? P n = some #[v]) : Gl [blks W] g v := by
  unfold World.var? at h
  simp only [hg, Option.bind_some] at h
  split at h
  · rename_i c E fr hh
    cases h
    exact ⟨[v], E, fr, has_blks hh, rfl⟩
  · cases h
theorem star_es : "*" ++ "errors.errorString" = "*errors.errorString" := by decide
theorem row_es (u : TypeId) (h : Tryd.prog.typeName? 3 u = some "*errors.errorString") : u = 267 :=
  typeName_ptr_named (nm := "errors.errorString") (by rw [star_es]; kernel_rfl) (by kernel_rfl) (by decide) u (by rw [star_es]; exact h)
def nameOf : Nat → String
  | 1 => "threefold/api.ErrText"
  | 2 => "threefold/api.ErrBound"
  | 3 => "threefold/api.ErrShape"
  | 4 => "threefold/api.ErrNone"
  | 5 => "threefold/api.ErrFull"
  | 6 => "threefold/api.ErrOff"
  | 7 => "threefold/api.ErrSum"
  | 8 => "threefold/api.ErrHeld"
  | _ => "threefold/api.ErrSplit"
def word3 : List UInt8 := [116, 104, 114, 101, 101, 102, 111, 108, 100, 58, 32]
def textOf : Nat → List UInt8
  | 1 => word3 ++ [116, 101, 120, 116]
  | 2 => word3 ++ [98, 111, 117, 110, 100]
  | 3 => word3 ++ [115, 104, 97, 112, 101]
  | 4 => word3 ++ [110, 111, 110, 101]
  | 5 => word3 ++ [102, 117, 108, 108]
  | 6 => word3 ++ [111, 102, 102]
  | 7 => word3 ++ [115, 117, 109]
  | 8 => word3 ++ [104, 101, 108, 100]
  | _ => word3 ++ [115, 112, 108, 105, 116]
def sentL (cs : List Nat) : List (String × DataW Unit) := cs.map fun c => (nameOf c, .iface "*errors.errorString" (.ptr (.agg [.lit (.string (textOf c))])))
theorem laid_sent0 {P : Program} {n nm : String} {text : List UInt8} {r : List (String × DataW Unit)} {W : World} {g : Nat} {ti tp te ts : TypeId} {ms : Array (String × TypeId)} {f : Field}
    (h : laidMet P ((n, .iface nm (.ptr (.agg [.lit (.string text)]))) :: r) W)
    (hg : P.globalNamed n = some g) (ht : (P.globals[g]?).map (·.type) = some ti) (hi : P.underlying ti = some (.interface ms)) (hrow : ∀ u, P.typeName? 3 u = some nm → u = tp)
    (hp : P.underlying tp = some (.pointer te)) (he : P.underlying te = some (.struct #[f])) (hft : f.type = ts) (hfo : f.offset = 0) (hs : P.underlying ts = some .string) (hc : P.cellsOf te = 1) (hcs : P.cellsOf ts = 1) :
    ∃ (a : Addr) (c : Array Value) (t : TypeId), Gl [blks W] g (.iface tp (.pointer (some a))) ∧ W.cell? a = some (bs text) ∧ Has [blks W] a.block (.cells c t (0, 0)) := by
  obtain ⟨ps, ⟨g0, t0, cs0, f0, p0, q0, hg0, ht0, hv0, hd0, _, e0⟩, _, hrows⟩ := h
  obtain rfl := Option.some.inj (hg.symm.trans hg0)
  obtain rfl := Option.some.inj (ht.symm.trans ht0)
  subst e0
  obtain ⟨l0⟩ := cs0
  have ok0 : ∀ u v, l0 = [.iface u v] → Value.okWide P W .any 0 u v := fun u v e => by
    subst e
    exact (hrows g 0 (by simp [MemPlace.row])).2 u v (by simpa using World.var?_cell hg0 hv0 0)
  obtain ⟨a0, s0, rfl, hc0, hs0, hz0, rfl⟩ := errorString_of_trod hi hrow hp he hft hfo hs hc hcs hd0 ok0
  obtain ⟨c0, t0, hb0⟩ := (hrows a0.block a0.off (by simp [MemPlace.row])).1
  refine ⟨a0, c0, t0, gl_of_var hg hv0, ?_, has_blks hb0⟩
  rw [hc0]
  obtain ⟨⟨s0⟩⟩ := s0
  simp only at hs0
  subst hs0
  rfl
theorem laid_sent1 {n : String} {text : List UInt8} {r : List (String × DataW Unit)} {W : World} {g : Nat}
    (h : laidMet Tryd.prog ((n, .iface "*errors.errorString" (.ptr (.agg [.lit (.string text)]))) :: r) W) (hg : Tryd.prog.globalNamed n = some g) (ht : (Tryd.prog.globals[g]?).map (·.type) = some 37) :
    ∃ (a : Addr) (c : Array Value) (t : TypeId), Gl [blks W] g (.iface 267 (.pointer (some a))) ∧ W.cell? a = some (bs text) ∧ Has [blks W] a.block (.cells c t (0, 0)) :=
  laid_sent0 h hg ht Tryd.underlying37 row_es Tryd.underlying267 Tryd.underlying286 rfl rfl Tryd.underlying9 (by kernel_rfl) (by kernel_rfl)
def SentAt (W : World) (c : Nat) (a : Addr) : Prop := (∀ g, Tryd.prog.globalNamed (nameOf c) = some g → Gl [blks W] g (.iface 267 (.pointer (some a)))) ∧ W.cell? a = some (bs (textOf c)) ∧ ∃ l t, Has [blks W] a.block (.cells l t (0, 0))
theorem sents {W : World} : ∀ (cs : List Nat), laidMet Tryd.prog (sentL cs) W → (∀ c ∈ cs, ∃ g, Tryd.prog.globalNamed (nameOf c) = some g ∧ (Tryd.prog.globals[g]?).map (·.type) = some 37) → ∀ c ∈ cs, ∃ a, SentAt W c a
  | [], _, _, c, hc => by cases hc
  | x :: cs, h, hn, c, hc => by
    rcases List.mem_cons.1 hc with rfl | hc
    · obtain ⟨g, hg, ht⟩ := hn c (by simp)
      obtain ⟨a, l, t, h1, h2, h3⟩ := laid_sent1 h hg ht
      refine ⟨a, fun g' hg' => ?_, h2, l, t, h3⟩
      obtain rfl := Option.some.inj (hg.symm.trans hg')
      exact h1
    · exact sents cs h.tail (fun y hy => hn y (by simp [hy])) c hc
theorem errTab_ok : (errTab.all fun p => decide (Tryd.prog.globalNamed (nameOf p.2) = some p.1) && decide ((Tryd.prog.globals[p.1]?).map (·.type) = some 37)) = true := by kernel_rfl
theorem errs_of {W : World} {cs : List Nat} (h : laidMet Tryd.prog (sentL cs) W) (hm : (cs.all fun c => errTab.any fun p => Nat.beq p.2 c) = true := by rfl) :
    ∃ E, Er 267 E cs [blks W] ∧ ∀ c ∈ cs, SentAt W c (E c) := by
  have h1 := sents cs h (fun c hc => by
    obtain ⟨p, hp, he⟩ := List.any_eq_true.1 (List.all_eq_true.1 hm c hc)
    have h2 := List.all_eq_true.1 errTab_ok p hp
    simp only [Bool.and_eq_true, decide_eq_true_eq] at h2
    rw [Nat.eq_of_beq_eq_true he] at h2
    exact ⟨p.1, h2.1, h2.2⟩)
  have h2 : ∀ c, ∃ a, c ∈ cs → SentAt W c a := fun c => by
    by_cases hc : c ∈ cs
    · obtain ⟨a, ha⟩ := h1 c hc
      exact ⟨a, fun _ => ha⟩
    · exact ⟨⟨0, 0, none⟩, fun h => absurd h hc⟩
  refine ⟨fun c => Classical.choose (h2 c), fun g c hg hc => ?_, fun c hc => Classical.choose_spec (h2 c) hc⟩
  have hcm : c ∈ cs := List.elem_iff.1 hc
  have h3 := Classical.choose_spec (h2 c) hcm
  have h4 := List.all_eq_true.1 errTab_ok (g, c) (lkN_mem hg)
  simp only [Bool.and_eq_true, decide_eq_true_eq] at h4
  exact h3.1 g h4.1
end Go.HL
end

/-! HLOpen -/
section
namespace Go.HL
open Go Go.ChangeShapes Go.WideShapes Go.ChangeAt Go.RowKit
set_option linter.unusedVariables false
set_option linter.unusedSimpArgs false

/-- the plain parts of a type: 0 to 7 an integer's kind, 8 bool, 9 text -/
def kFs (P : Program) (g : Nat → Option (List Nat)) : List Field → Nat → Option (List Nat)
  | [], _ => some []
  | f :: r, off => match g f.type with
    | some l => if f.offset = off ∧ P.cellsOf f.type = l.length then (match kFs P g r (off + l.length) with
      | some m => some (l ++ m)
      | none => none) else none
    | none => none
def kT (P : Program) : Nat → Nat → Option (List Nat)
  | 0, _ => none
  | d + 1, t => match P.underlying t with
    | some .bool => some [8]
    | some (.int k) => some [kindNo k]
    | some .string => some [9]
    | some (.struct fs) => (match kFs P (kT P d) fs.toList 0 with
      | some l => if P.cellsOf t = l.length then some l else none
      | none => none)
    | _ => none
def fitV : Nat → Value → Prop
  | 8, .bool _ => True
  | 9, .string s => s.size ≤ 9223372036854775807
  | k, .int k' n => kindNo k' = k ∧ loE k' ≤ n ∧ n ≤ hiE k'
  | _, _ => False
def FitK : List Nat → List Value → Prop
  | [], [] => True
  | k :: l, v :: cs => fitV k v ∧ FitK l cs
  | _, _ => False
theorem FitK.append : ∀ {a b : List Nat} {cs : List Value}, FitK a (cs.take a.length) → FitK b (cs.drop a.length) → FitK (a ++ b) cs
  | [], b, cs, _, h => by simpa using h
  | k :: a, b, [], h, _ => by simp [FitK] at h
  | k :: a, b, v :: cs, h, h2 => ⟨h.1, FitK.append h.2 (by simpa using h2)⟩
theorem lit_wf {k : IntKind} {n : Int} (h : (Lit.int k n).wf = true) : loE k ≤ n ∧ n ≤ hiE k := by
  cases k <;> simpa [Lit.wf, IntKind.min, IntKind.max, IntKind.signed, IntKind.bits, loE, hiE] using h
theorem open_kt {H : Type} {enc : TypeId × Value → H} {P : Program} {W : World} {base : Nat} {spare : Nat → Bool} {held : Bool} : ∀ (d t : Nat) (l : List Nat) (n : Nat) (cs : List Value) (x : DataW H × List MemPlace), kT P d t = some l → DataW.trod enc P W base spare held n t cs = some x → FitK l cs
  | 0, t, l, n, cs, x, h, _ => by simp [kT] at h
  | d + 1, t, l, n, cs, x, h, hx => by
    unfold kT at h
    split at h
    · rename_i hu
      cases h
      obtain ⟨b, rfl, -⟩ := DataW.trod_bool hu hx
      simp [FitK, fitV]
    · rename_i k hu
      cases h
      obtain ⟨z, rfl, -, hw⟩ := DataW.trod_int hu hx
      have := lit_wf hw
      refine ⟨?_, trivial⟩
      cases k <;> simp [fitV, kindNo, loE, hiE] at this ⊢ <;> exact this
    · rename_i hu
      cases h
      obtain ⟨s, rfl, -, hs⟩ := DataW.trod_string hu hx
      exact ⟨Nat.le_trans hs (by decide), trivial⟩
    · rename_i fs hu
      split at h
      · rename_i l' hl
        split at h
        · rename_i hc
          cases h
          obtain ⟨xs, m, -, -, hlen, hxl, hf⟩ := DataW.trod_struct hu hx
          rw [hc] at hlen
          have key : ∀ (fl : List Field) (j off : Nat) (l2 : List Nat), (∀ i f, fl[i]? = some f → fs[j + i]? = some f) → kFs P (kT P d) fl off = some l2 → off + l2.length = cs.length → FitK l2 (cs.drop off) := by
            intro fl
            induction fl with
            | nil =>
              intro j off l2 _ h2 ho
              simp [kFs] at h2
              subst h2
              simp at ho
              rw [List.drop_of_length_le (by omega)]
              trivial
            | cons f fl ih =>
              intro j off l2 hi h2 ho
              simp only [kFs] at h2
              split at h2
              · rename_i lf hlf
                split at h2
                · rename_i hco
                  split at h2
                  · rename_i lr hlr
                    cases h2
                    obtain ⟨e1, e2⟩ := hco
                    have h0 := hi 0 f rfl
                    have hxs : ∃ y, xs[j]? = some y := by
                      have : j < fs.size := (Array.getElem?_eq_some_iff.1 (by simpa using h0)).1
                      exact ⟨_, List.getElem?_eq_getElem (by omega)⟩
                    obtain ⟨y, hy⟩ := hxs
                    have h3 := hf j f (by simpa using h0)
                    rw [hy, e2] at h3
                    subst e1
                    have h4 := open_kt d f.type lf m _ _ hlf h3
                    refine FitK.append (by simpa using h4) ?_
                    rw [List.drop_drop]
                    exact ih (j + 1) _ lr (fun i g hg => by have := hi (i + 1) g (by simpa using hg); rwa [show j + 1 + i = j + (i + 1) by omega]) hlr (by simp at ho; omega)
                  · cases h2
                · cases h2
              · cases h2
          have := key fs.toList 0 0 l (fun i f hif => by simpa using hif) hl (by omega)
          simpa using this
        · cases h
      · cases h
    · cases h
theorem kindNo_lt (k : IntKind) : kindNo k < 8 := by cases k <;> decide
theorem fitI {k : Nat} {l : List Nat} {cs : List Value} (h : FitK (k :: l) cs) (hk : Nat.blt k 8 = true) : ∃ n r, cs = .int (kindOf k) n :: r ∧ (loE (kindOf k) ≤ n ∧ n ≤ hiE (kindOf k)) ∧ FitK l r := by
  have hk := Nat.le_of_ble_eq_true hk
  match cs with
  | [] => simp [FitK] at h
  | v :: r =>
    obtain ⟨h1, h2⟩ := h
    unfold fitV at h1
    split at h1
    · omega
    · omega
    · rename_i k' n
      obtain ⟨rfl, h3⟩ := h1
      exact ⟨n, r, by rw [kindOf_no], by rw [kindOf_no]; exact h3, h2⟩
    · exact h1.elim
theorem fitI64 {l : List Nat} {cs : List Value} (h : FitK (3 :: l) cs) : ∃ n r, cs = iv n :: r ∧ (-9223372036854775808 ≤ n ∧ n ≤ 9223372036854775807) ∧ FitK l r := fitI h rfl
theorem fitB {l : List Nat} {cs : List Value} (h : FitK (8 :: l) cs) : ∃ b r, cs = .bool b :: r ∧ FitK l r := by
  match cs with
  | [] => simp [FitK] at h
  | v :: r =>
    obtain ⟨h1, h2⟩ := h
    cases v <;> simp [fitV] at h1
    · exact ⟨_, r, rfl, h2⟩
    · rename_i k n; have := kindNo_lt k; omega
theorem fitT {l : List Nat} {cs : List Value} (h : FitK (9 :: l) cs) : ∃ s r, cs = bs s :: r ∧ s.length ≤ 9223372036854775807 ∧ FitK l r := by
  match cs with
  | [] => simp [FitK] at h
  | v :: r =>
    obtain ⟨h1, h2⟩ := h
    cases v <;> simp [fitV] at h1
    · rename_i k n; have := kindNo_lt k; omega
    rename_i s
    obtain ⟨⟨s⟩⟩ := s
    exact ⟨s, r, rfl, by simpa [ByteArray.size] using h1, h2⟩
theorem fit0 {cs : List Value} (h : FitK [] cs) : cs = [] := by
  match cs with
  | [] => rfl
  | v :: r => simp [FitK] at h
end Go.HL
end

/-! CdFr -/
section
namespace Go.HL
open Go Go.Proofs Go.ChangeShapes Go.WideShapes Go.ChangeAt Go.RowKit
def okI (z : Int) : Prop := -9223372036854775808 ≤ z ∧ z ≤ 9223372036854775807
def FrI (f : Fr) : Prop := okI f.fr ∧ okI f.to ∧ okI f.dl ∧ okI f.kd ∧ okI f.att ∧ okI f.s.ph ∧ okI f.s.pr ∧ okI f.s.att
theorem fit_fr {l : List Nat} {cs : List Value} (h : FitK (3 :: 3 :: 3 :: 3 :: 3 :: 8 :: 3 :: 3 :: 3 :: l) cs) : ∃ (f : Fr) (r : List Value), cs = fc f ++ r ∧ FrI f ∧ FitK l r := by
  obtain ⟨a, r, rfl, ha, h1⟩ := fitI64 h
  obtain ⟨b, r, rfl, hb, h2⟩ := fitI64 h1
  obtain ⟨c, r, rfl, hc, h3⟩ := fitI64 h2
  obtain ⟨d, r, rfl, hd, h4⟩ := fitI64 h3
  obtain ⟨e, r, rfl, he, h5⟩ := fitI64 h4
  obtain ⟨f, r, rfl, h6⟩ := fitB h5
  obtain ⟨g, r, rfl, hg, h7⟩ := fitI64 h6
  obtain ⟨i, r, rfl, hi, h8⟩ := fitI64 h7
  obtain ⟨j, r, rfl, hj, h9⟩ := fitI64 h8
  exact ⟨⟨a, b, c, d, e, f, ⟨g, i, j⟩⟩, r, rfl, ⟨ha, hb, hc, hd, he, hg, hi, hj⟩, h9⟩
end Go.HL
end

/-! CdTx -/
section
namespace Go.HL
open Go Go.Proofs Go.ChangeShapes Go.WideShapes Go.ChangeAt Go.RowKit
theorem open_tx {H : Type} {enc : TypeId × Value → H} {P : Program} {W : World} {base : Nat} {spare : Nat → Bool} {held : Bool} {r : Reach} {b0 : Nat} {t : TypeId} {v : Value} {d : DataW H} {ps : List MemPlace} (ht : P.underlying t = some .string) (hval : Value.okWide P W r b0 t v) (hd : DataW.Trod enc P W base spare held t v d ps) :
    ∃ s : List UInt8, v = bs s ∧ s.length ≤ 9223372036854775807 := by
  obtain ⟨s, rfl, -, -, h⟩ := Go.ChangeMaps.open_string ht hval hd
  obtain ⟨⟨s⟩⟩ := s
  exact ⟨s, rfl, by simpa [ByteArray.size, maxLen] using h⟩
end Go.HL
end

/-! ErA -/
section
namespace Go.HL
open Go Go.Proofs Go.RowKit Go.Extern.Stop Go.Stop Go.Extern
set_option linter.unusedVariables false
set_option linter.unusedSimpArgs false

def cmpE : Array Value → Sem Value := ReflectliteType.method fun t => do Rtype.noPackHeld "Comparable" t; pure (.bool (← typeInfo t).comparable)
theorem is_typeOf (v : Value) (w : World) : (Extern.ReflectliteType.typeOf #[.iface 267 v]).run Tryd.prog w = .ok (.iface 241 (.agg #[.pointer (some ⟨10, 267, none⟩)])) w := by kernel_rfl
theorem is_comparable (w : World) : (cmpE #[.agg #[.pointer (some ⟨10, 267, none⟩)]]).run Tryd.prog w = .ok (.bool true) w := by kernel_rfl
theorem is_mComparable (v : Value) (w : World) : (Go.method 398 241 v "Comparable").run Tryd.prog w = .ok (206, v) w := by kernel_rfl
theorem is_comp : (Tryd.prog.info? 267).map (·.comparable) = some true := by kernel_rfl
theorem is_size : (Tryd.prog.info? 286).map (·.size) = some 1 := by kernel_rfl
theorem is_noIsE (v : Value) (xT : TypeId) (w : World) : (Instr.typeAssert (.iface 267 v) xT 252 true).run Tryd.prog w = .ok (.tuple #[.nilIface, .bool false]) w := run_typeAssert_lacksB Tryd.underlying252 (by kernel_rfl) (by kernel_rfl) v xT w
theorem is_noUnwrapE (v : Value) (xT : TypeId) (w : World) : (Instr.typeAssert (.iface 267 v) xT 248 true).run Tryd.prog w = .ok (.tuple #[.nilIface, .bool false]) w := run_typeAssert_lacksB Tryd.underlying248 (by kernel_rfl) (by kernel_rfl) v xT w
theorem is_noUnwrapsE (v : Value) (xT : TypeId) (w : World) : (Instr.typeAssert (.iface 267 v) xT 250 true).run Tryd.prog w = .ok (.tuple #[.nilIface, .bool false]) w := run_typeAssert_lacksB Tryd.underlying250 (by kernel_rfl) (by kernel_rfl) v xT w
/-- errors.Is(x, x) -/
theorem is_same (a : Addr) (w : World) :
    Calls Tryd.prog 130 #[.iface 267 (.pointer (some a)), .iface 267 (.pointer (some a))] w fun e w' => e = .returned (.bool true) ∧ w' = w := by
  obtain ⟨i, hi, hcmp⟩ := Option.map_eq_some_iff.1 is_comp
  obtain ⟨j, hj, hjs⟩ := Option.map_eq_some_iff.1 is_size
  have h8 := @run_callFunc_extern Tryd.prog 149 _ Extern.ReflectliteType.typeOf Tryd.func149 (by kernel_rfl) (by kernel_rfl) (by kernel_rfl) (by kernel_rfl)
  have h32 := @run_callFunc_extern Tryd.prog 206 _ cmpE Tryd.func206 (by kernel_rfl) (by kernel_rfl) (by kernel_rfl) (by kernel_rfl)
  have tT := is_typeOf
  have cT := is_comparable
  have mR := is_mComparable
  have heq := run_eql_iface_ptr_same (P := Tryd.prog) w a Tryd.underlying37 Tryd.underlying267 hi hcmp hj
  go_enter Tryd.func130, Tryd.ntmps130
  go_wp2
  refine wp_loop_rounds 1 ?_
  rw [rounds_succ]
  go_wp2
  go_ret
  exact ⟨rfl, rfl⟩
/-- errors.Is(x, y), two errors of errors.New's make -/
theorem is_other (a b : Addr) (ca cb : Array Value) (ta tb : TypeId) (w : World) (hne : a ≠ b) (ha : w.heap[a.block]? = some (.cells ca ta (0, 0))) (hb : w.heap[b.block]? = some (.cells cb tb (0, 0))) :
    Calls Tryd.prog 130 #[.iface 267 (.pointer (some a)), .iface 267 (.pointer (some b))] w fun e w' => e = .returned (.bool false) ∧ w' = w := by
  obtain ⟨i, hi, hcmp⟩ := Option.map_eq_some_iff.1 is_comp
  obtain ⟨j, hj, hjs⟩ := Option.map_eq_some_iff.1 is_size
  have h8 := @run_callFunc_extern Tryd.prog 149 _ Extern.ReflectliteType.typeOf Tryd.func149 (by kernel_rfl) (by kernel_rfl) (by kernel_rfl) (by kernel_rfl)
  have h32 := @run_callFunc_extern Tryd.prog 206 _ cmpE Tryd.func206 (by kernel_rfl) (by kernel_rfl) (by kernel_rfl) (by kernel_rfl)
  have tT := is_typeOf
  have cT := is_comparable
  have mR := is_mComparable
  have nE := is_noIsE
  have uE := is_noUnwrapE
  have vE := is_noUnwrapsE
  have heq := run_eql_iface_ptr_other (P := Tryd.prog) w Tryd.underlying37 Tryd.underlying267 hi hcmp hj (by rw [hjs]; decide) hne ha hb
  go_enter Tryd.func130, Tryd.ntmps130
  go_wp2
  refine wp_loop_rounds 1 ?_
  rw [rounds_succ]
  go_wp2
  go_ret
  exact ⟨rfl, rfl⟩
end Go.HL
end

/-! ErB -/
section
namespace Go.HL
open Go Go.Proofs Go.RowKit Go.Extern.Stop Go.Stop Go.Extern
set_option linter.unusedVariables false
set_option linter.unusedSimpArgs false

def valE : Array Value → Sem Value := fun args => ReflectliteValue.unpack (args.getD 0 (.tuple #[]))
def typE : Array Value → Sem Value := ReflectliteValue.methodAny (ReflectliteValue.valueError "reflectlite.Value.Type" 0) fun t _ _ _ => ReflectliteType.toType t
def rnlE : Array Value → Sem Value := ReflectliteValue.method (ReflectliteValue.valueError "reflectlite.Value.IsNil" 0) ReflectliteValue.isNil
def elmE : Array Value → Sem Value := ReflectliteValue.method (ReflectliteValue.valueError "reflectlite.Value.Elem" 0) ReflectliteValue.elem
def setE : Array Value → Sem Value := ReflectliteValue.set
def kndE : Array Value → Sem Value := ReflectliteType.abiMethod fun t => do pure (.int .u8 (← Rtype.kind t))
def telE : Array Value → Sem Value := ReflectliteType.method ReflectliteType.elem
def impE : Array Value → Sem Value := ReflectliteType.relation "Implements" ReflectliteType.implements_
def asgE : Array Value → Sem Value := ReflectliteType.relation "AssignableTo" ReflectliteType.assignableTo
def hT (t : Nat) : Value := .pointer (some ⟨10, t, none⟩)
theorem as_vF (t : Addr) (w : World) : (valE #[.iface 192 (.pointer (some t))]).run Tryd.prog w = .ok (.agg #[.pointer (some ⟨10, 192, none⟩), .pointer (some ⟨w.heap.size, 0, none⟩), .int .u64 150]) (w.alloc (.cells #[.pointer (some t)] 192)) := by kernel_rfl
theorem as_tF (a : Addr) (w : World) : (typE #[.agg #[.pointer (some ⟨10, 192, none⟩), .pointer (some a), .int .u64 150]]).run Tryd.prog w = .ok (.iface 241 (.agg #[.pointer (some ⟨10, 192, none⟩)])) w := by kernel_rfl
theorem as_mKind (h : Value) (w : World) : (Go.method 398 241 (.agg #[h]) "Kind").run Tryd.prog w = .ok (195, h) w := by kernel_rfl
theorem as_kFF (w : World) : (kndE #[.pointer (some ⟨10, 192, none⟩)]).run Tryd.prog w = .ok (.int .u8 22) w := by kernel_rfl
theorem as_kF (w : World) : (kndE #[.pointer (some ⟨10, 144, none⟩)]).run Tryd.prog w = .ok (.int .u8 22) w := by kernel_rfl
theorem rlm (z : Sem Value) (f : TypeId → Addr → Nat → Nat → Sem Value) (v : Value) :
    ReflectliteValue.method z f #[v] = (do match ← ReflectliteValue.parts v with | none => z | some (t, a, fl) => f t a fl (fl % 32)) := rfl
theorem as_pFF (a : Addr) (w : World) : (ReflectliteValue.parts (.agg #[.pointer (some ⟨10, 192, none⟩), .pointer (some a), .int .u64 150])).run Tryd.prog w = .ok (some (192, a, 150)) w := by kernel_rfl
theorem as_isNil (a p : Addr) (W : World) (ha : W.cell? a = some (.pointer (some p))) :
    (rnlE #[.agg #[.pointer (some ⟨10, 192, none⟩), .pointer (some a), .int .u64 150]]).run Tryd.prog W = .ok (.bool false) W := by
  unfold rnlE
  rw [rlm]
  simp only [Sem.run_bind, as_pFF, Result.andThen]
  simp [ReflectliteValue.isNil, loadVar, isAgg, underlying, Tryd.underlying192, ha, Result.andThen]
theorem as_mElem (h : Value) (w : World) : (Go.method 398 241 (.agg #[h]) "Elem").run Tryd.prog w = .ok (207, .agg #[h]) w := by kernel_rfl
theorem as_mImpl (h : Value) (w : World) : (Go.method 398 241 (.agg #[h]) "Implements").run Tryd.prog w = .ok (208, .agg #[h]) w := by kernel_rfl
theorem as_mAsgn (h : Value) (w : World) : (Go.method 398 241 (.agg #[h]) "AssignableTo").run Tryd.prog w = .ok (205, .agg #[h]) w := by kernel_rfl
theorem as_elem (w : World) : (telE #[.agg #[.pointer (some ⟨10, 192, none⟩)]]).run Tryd.prog w = .ok (.iface 241 (.agg #[.pointer (some ⟨10, 144, none⟩)])) w := by kernel_rfl
theorem as_impl (w : World) : (impE #[.agg #[.pointer (some ⟨10, 144, none⟩)], .iface 241 (.agg #[.pointer (some ⟨10, 37, none⟩)])]).run Tryd.prog w = .ok (.bool true) w := by kernel_rfl
theorem as_typeF (v : Value) (w : World) : (ReflectliteType.typeOf #[.iface 144 v]).run Tryd.prog w = .ok (.iface 241 (.agg #[.pointer (some ⟨10, 144, none⟩)])) w := by kernel_rfl
theorem as_asgnF (w : World) : (asgE #[.agg #[.pointer (some ⟨10, 144, none⟩)], .iface 241 (.agg #[.pointer (some ⟨10, 144, none⟩)])]).run Tryd.prog w = .ok (.bool true) w := by kernel_rfl
theorem as_asgnE (w : World) : (asgE #[.agg #[.pointer (some ⟨10, 267, none⟩)], .iface 241 (.agg #[.pointer (some ⟨10, 144, none⟩)])]).run Tryd.prog w = .ok (.bool false) w := by kernel_rfl
theorem as_valF (e : Addr) (w : World) : (valE #[.iface 144 (.pointer (some e))]).run Tryd.prog w
    = .ok (.agg #[.pointer (some ⟨10, 144, none⟩), .pointer (some ⟨w.heap.size, 0, none⟩), .int .u64 150]) (w.alloc (.cells #[.pointer (some e)] 144)) := by kernel_rfl
theorem as_noAsE (v : Value) (xT : TypeId) (w : World) : (Instr.typeAssert (.iface 267 v) xT 245 true).run Tryd.prog w = .ok (.tuple #[.nilIface, .bool false]) w := run_typeAssert_lacksB Tryd.underlying245 (by kernel_rfl) (by kernel_rfl) v xT w
abbrev asV (w : World) (t : Addr) : World := (w.alloc (.cells #[.pointer (some t)] 192)).alloc (.cells #[.pointer (some ⟨10, 192, none⟩), .pointer (some ⟨w.heap.size, 0, none⟩), .int .u64 150] 219)

set_option maxHeartbeats 4000000 in
theorem as_miss (e t : Addr) (w : World) (hg : w.cell? ⟨9, 0, none⟩ = some (.iface 241 (.agg #[.pointer (some ⟨10, 37, none⟩)]))) :
    Calls Tryd.prog 129 #[.iface 267 (.pointer (some e)), .iface 192 (.pointer (some t))] w fun ev w' => ev = .returned (.bool false) ∧ w' = (asV w t).alloc (.cells #[.pointer (some ⟨10, 192, none⟩), .pointer (some ⟨w.heap.size, 0, none⟩), .int .u64 150] 219) := by
  have x0 := @run_callFunc_extern Tryd.prog 145 _ valE Tryd.func145 (by kernel_rfl) (by kernel_rfl) (by kernel_rfl) (by kernel_rfl)
  have x1 := @run_callFunc_extern Tryd.prog 146 _ typE Tryd.func146 (by kernel_rfl) (by kernel_rfl) (by kernel_rfl) (by kernel_rfl)
  have x2 := @run_callFunc_extern Tryd.prog 147 _ rnlE Tryd.func147 (by kernel_rfl) (by kernel_rfl) (by kernel_rfl) (by kernel_rfl)
  have x3 := @run_callFunc_extern Tryd.prog 195 _ kndE Tryd.func195 (by kernel_rfl) (by kernel_rfl) (by kernel_rfl) (by kernel_rfl)
  have x4 := @run_callFunc_extern Tryd.prog 207 _ telE Tryd.func207 (by kernel_rfl) (by kernel_rfl) (by kernel_rfl) (by kernel_rfl)
  have x5 := @run_callFunc_extern Tryd.prog 208 _ impE Tryd.func208 (by kernel_rfl) (by kernel_rfl) (by kernel_rfl) (by kernel_rfl)
  have x6 := @run_callFunc_extern Tryd.prog 149 _ ReflectliteType.typeOf Tryd.func149 (by kernel_rfl) (by kernel_rfl) (by kernel_rfl) (by kernel_rfl)
  have x7 := @run_callFunc_extern Tryd.prog 205 _ asgE Tryd.func205 (by kernel_rfl) (by kernel_rfl) (by kernel_rfl) (by kernel_rfl)
  have x8 := @run_callFunc_extern Tryd.prog 166 _ elmE Tryd.func166 (by kernel_rfl) (by kernel_rfl) (by kernel_rfl) (by kernel_rfl)
  have x9 := @run_callFunc_extern Tryd.prog 167 _ setE Tryd.func167 (by kernel_rfl) (by kernel_rfl) (by kernel_rfl) (by kernel_rfl)
  have f_as_vF := as_vF
  have f_as_tF := as_tF
  have f_as_mKind := as_mKind
  have f_as_kFF := as_kFF
  have f_as_kF := as_kF
  have f_as_mElem := as_mElem
  have f_as_mImpl := as_mImpl
  have f_as_mAsgn := as_mAsgn
  have f_as_elem := as_elem
  have f_as_impl := as_impl
  have f_as_typeF := as_typeF
  have f_as_asgnF := as_asgnF
  have f_as_asgnE := as_asgnE
  have f_as_valF := as_valF
  have f_is_typeOf := is_typeOf
  have f_as_noAsE := as_noAsE
  have f_is_noUnwrapE := is_noUnwrapE
  have f_is_noUnwrapsE := is_noUnwrapsE
  have n8 := as_isNil ⟨w.heap.size, 0, none⟩ t (asV w t) (by simp [asV])
  have hlt : 9 < w.heap.size := by
    rcases Nat.lt_or_ge 9 w.heap.size with h | h
    · exact h
    · simp [World.cell?, Array.getElem?_eq_none h] at hg
  have hg2 : (asV w t).cell? ⟨9, 0, none⟩ = some (.iface 241 (.agg #[.pointer (some ⟨10, 37, none⟩)])) := by
    unfold asV
    rw [World.cell?_alloc_lt _ _ ⟨9, 0, none⟩ (by simp; omega), World.cell?_alloc_lt _ _ ⟨9, 0, none⟩ hlt]; exact hg
  go_enter Tryd.func129, Tryd.ntmps129
  go_wp2
  refine wp_loop_rounds 1 ?_
  rw [rounds_succ]
  go_wp2
  go_ret
  exact ⟨rfl, rfl⟩
end Go.HL
end

/-! ErC -/
section
namespace Go.HL
open Go Go.Proofs
set_option linter.unusedVariables false
set_option linter.unusedSimpArgs false
def all9 : List Nat := [1, 2, 3, 4, 5, 6, 7, 8, 9]
/-- the nine errors: their variables, their blocks; no two are one -/
structure Ez (T : Nat) (E : Nat → Addr) (L : Heap) : Prop where
  ty : T = 267
  errs : Er T E all9 L
  blk : ∀ c, List.elem c all9 = true → ∃ ca ta, Has L (E c).block (.cells ca ta (0, 0))
  one : ∀ c c', List.elem c all9 = true → List.elem c' all9 = true → E c = E c' → c = c'
  et : Gl L 9 (.iface 241 (.agg #[.pointer (some ⟨10, 37, none⟩)]))
theorem Ez.cons {T : Nat} {E : Nat → Addr} {L : Heap} (h : Ez T E L) (c : List Blk) : Ez T E (c :: L) :=
  ⟨h.ty, h.errs.cons c, fun k hk => let ⟨ca, ta, hb⟩ := h.blk k hk; ⟨ca, ta, has_next hb⟩, h.one, h.et.cons⟩
theorem Ez.mono {T : Nat} {E : Nat → Addr} {L L' : Heap} (h : Ez T E L) (hl : ∀ b o, Has L b o → Has L' b o) : Ez T E L' :=
  ⟨h.ty, h.errs.mono hl, fun k hk => let ⟨ca, ta, hb⟩ := h.blk k hk; ⟨ca, ta, hl _ _ hb⟩, h.one, h.et.mono hl⟩
theorem Ez.er {T : Nat} {E : Nat → Addr} {L : Heap} (h : Ez T E L) (cs : List Nat) (hm : (cs.all fun g => all9.elem g) = true := by rfl) : Er T E cs L := h.errs.sub hm
/-- an error: an errorString at an address; or a fault around one -/
theorem is_calls (a b : Addr) (L : Heap) (h : a = b ∨ (a ≠ b ∧ (∃ ca ta, Has L a.block (.cells ca ta (0, 0))) ∧ ∃ cb tb, Has L b.block (.cells cb tb (0, 0)))) :
    HC Tryd.prog 130 [.iface 267 (.pointer (some a)), .iface 267 (.pointer (some b))] L (fun v L' => v = .bool (decide (a = b)) ∧ L' = L) := by
  refine ⟨fun args w => Tryd.call130 args w, fun k w hs => ?_⟩
  rcases h with rfl | ⟨hne, ⟨ca, ta, ha⟩, cb, tb, hb⟩
  · exact (is_same a w).mono fun e w' ⟨he, hw⟩ => ⟨_, L, he, hw ▸ hs, by simp, rfl⟩
  · exact (is_other a b ca cb ta tb w hne (hs.heap ha) (hs.heap hb)).mono fun e w' ⟨he, hw⟩ => ⟨_, L, he, hw ▸ hs, by simp [hne], rfl⟩
theorem Sat.news {k : Ctx} {w : World} {L : Heap} (h : Sat k w L) (o : Obj) : Sat k (w.alloc o) L := (h.new o).sub ((List.Sublist.refl _).cons _)
theorem Gl.cell {k : Ctx} {w : World} {L : Heap} {g : Nat} {v : Value} (hs : Sat k w L) (h : Gl L g v) : w.cell? ⟨g, 0, none⟩ = some v := by
  obtain ⟨l, E, fr, h1, h2⟩ := h
  rw [hs.cell h1]; exact h2
theorem as_miss_calls (e : Addr) (t : Addr) (L : Heap) (hg : Gl L 9 (.iface 241 (.agg #[.pointer (some ⟨10, 37, none⟩)]))) :
    HC Tryd.prog 129 [.iface 267 (.pointer (some e)), .iface 192 (.pointer (some t))] L (fun v L' => v = .bool false ∧ L' = L) := by
  refine ⟨fun args w => Tryd.call129 args w, fun k w hs => ?_⟩
  refine (as_miss e t w (hg.cell hs)).mono fun ev w' ⟨he, hw⟩ => ⟨_, L, he, ?_, rfl, rfl⟩
  rw [hw]
  exact ((hs.news _).news _).news _
attribute [local irreducible] HW HO HQ HD HC QOp Has Upd Puts Gets seqQ blkQ loopQ fnQ actQ nextP unQ MapF
theorem code_nil (L : Heap) : HC Tryd.prog 86 [.nilIface] L (fun v L' => v = .tuple ⟨[iv 0, iv (-1)]⟩ ∧ L' = L) := by
  refine hc_enter (fun _ _ => Tryd.call86 _ _) Tryd.func86 rfl Tryd.ntmps86 (Nat.le_of_ble_eq_true rfl) ?_; simp only [args0, Nat.reduceAdd]
  repeat' (first | (show HW _ _ _ _ _ _; first | apply hw_seq | apply hw_region | apply hw_block | apply hw_exit | refine g_t ?_ | refine g_f ?_ | (refine g_b (fun h => ?_) (fun h => ?_) <;> ((try simp only [Bool.not_eq_eq_eq_not, Bool.not_true, Bool.not_false, decide_eq_true_eq, decide_eq_false_iff_not, Decidable.not_not, ne_eq, Bool.and_eq_true, beq_iff_eq, and_true, true_and, eq_self, decide_true, Bool.and_true, Bool.true_and, reduceCtorEq, not_true_eq_false, not_false_eq_true] at h); (try (exfalso; first | omega | with_reducible exact h (by assumption) | with_reducible exact absurd h (by assumption))))) | apply hw_skip | apply hw_ret) | (show HO _ _ _ _ _ _ _; first | apply ho_nil | refine g_q (qe S) ?_ | refine g_q (qg S) ?_ | refine g_q (ql S) ?_ | refine wa S (fun b => ?_) | refine wS S (fun b => ?_) | refine wSa S (fun b => ?_) | refine wSn S (fun b => ?_)) | apply seqQ_normal | apply seqQ_ret | apply seqQ_exit | apply blkQ_here | refine g_bx ?_ | apply blkQ_ret | apply blkQ_normal | apply loopQ_ret | apply loopQ_exit | apply unQ_ret | apply unQ_exit | apply unQ_succ)
  exact sp2 (LS.refl _) ⟨rfl, rfl⟩
def eL (T : Nat) (E : Nat → Addr) : List Value := all9.map fun c => eV T E (some c)
theorem eL_get {T : Nat} {E : Nat → Addr} {i : Nat} (h : i < 9) : (eL T E)[0 + (i : Int).toNat]? = some (errV T E (i + 1)) := by
  have : ∀ i, i < 9 → (all9.map fun c => eV T E (some c))[i]? = some (errV T E (i + 1)) := by
    intro i h
    match i, h with
    | 0, _ => rfl
    | 1, _ => rfl
    | 2, _ => rfl
    | 3, _ => rfl
    | 4, _ => rfl
    | 5, _ => rfl
    | 6, _ => rfl
    | 7, _ => rfl
    | 8, _ => rfl
  simpa [eL] using this i h
theorem elem9 {i : Nat} (h : i < 9) : List.elem (i + 1) all9 = true := by
  have : ∀ i, i < 9 → List.elem (i + 1) all9 = true := by decide
  exact this i h
theorem code_calls (T : Nat) (E : Nat → Addr) (c : Nat) (L : Heap) (hE : Ez T E L) (hc : List.elem c all9 = true) : HC Tryd.prog 86 [eV T E (some c)] L (fun v L' => v = .tuple ⟨[iv c, iv (-1)]⟩ ∧ L' = L) := by
  have hT := hE.ty
  have hG := hE.errs
  have hA := as_miss_calls (E c)
  have hI : ∀ i L', Ez T E L' → i < 9 → HC Tryd.prog 130 [eV T E (some c), errV T E (i + 1)] L' (fun v L2 => v = .bool (decide (E c = E (i + 1))) ∧ L2 = L') := fun i L' h9 hi => by
    subst hT
    refine is_calls (E c) (E (i + 1)) L' ?_
    by_cases he : E c = E (i + 1)
    · exact .inl he
    · exact .inr ⟨he, h9.blk c hc, h9.blk (i + 1) (elem9 hi)⟩
  subst hT
  refine hc_enter (fun _ _ => Tryd.call86 _ _) Tryd.func86 rfl Tryd.ntmps86 (Nat.le_of_ble_eq_true rfl) ?_; simp only [args0, Nat.reduceAdd]
  repeat' (first | (show HW _ _ _ _ _ _; first | apply hw_seq | apply hw_region | apply hw_block | apply hw_exit | refine g_t ?_ | refine g_f ?_ | (refine g_b (fun h => ?_) (fun h => ?_) <;> ((try simp only [Bool.not_eq_eq_eq_not, Bool.not_true, Bool.not_false, decide_eq_true_eq, decide_eq_false_iff_not, Decidable.not_not, ne_eq, Bool.and_eq_true, beq_iff_eq, and_true, true_and, eq_self, decide_true, Bool.and_true, Bool.true_and, reduceCtorEq, not_true_eq_false, not_false_eq_true] at h); (try (exfalso; first | omega | with_reducible exact h (by assumption) | with_reducible exact absurd h (by assumption))))) | apply hw_skip | apply hw_ret) | (show HO _ _ _ _ _ _ _; first | apply ho_nil | refine g_q (qe S) ?_ | refine g_q (qg S) ?_ | refine g_q (ql S) ?_ | refine wa S (fun b => ?_) | refine wS S (fun b => ?_) | refine wSa S (fun b => ?_) | refine wSn S (fun b => ?_)) | apply seqQ_normal | apply seqQ_ret | apply seqQ_exit | apply blkQ_here | refine g_bx ?_ | apply blkQ_ret | apply blkQ_normal | apply loopQ_ret | apply loopQ_exit | apply unQ_ret | apply unQ_exit | apply unQ_succ)
  refine gc (hA ⟨b, 0, none⟩ _ hE.et.cons) ?_
  rintro v L' ⟨rfl, rfl⟩
  have hG2 := hG.cons [(b, .cells ⟨[.pointer none]⟩ 144)]
  repeat' (first | (show HW _ _ _ _ _ _; first | apply hw_seq | apply hw_region | apply hw_block | apply hw_exit | refine g_t ?_ | refine g_f ?_ | (refine g_b (fun h => ?_) (fun h => ?_) <;> ((try simp only [Bool.not_eq_eq_eq_not, Bool.not_true, Bool.not_false, decide_eq_true_eq, decide_eq_false_iff_not, Decidable.not_not, ne_eq, Bool.and_eq_true, beq_iff_eq, and_true, true_and, eq_self, decide_true, Bool.and_true, Bool.true_and, reduceCtorEq, not_true_eq_false, not_false_eq_true] at h); (try (exfalso; first | omega | with_reducible exact h (by assumption) | with_reducible exact absurd h (by assumption))))) | apply hw_skip | apply hw_ret) | (show HO _ _ _ _ _ _ _; first | apply ho_nil | refine g_q (qe S) ?_ | refine g_q (qg S) ?_ | refine g_q (ql S) ?_ | refine wa S (fun b => ?_) | refine wS S (fun b => ?_) | refine wSa S (fun b => ?_) | refine wSn S (fun b => ?_)) | apply seqQ_normal | apply seqQ_ret | apply seqQ_exit | apply blkQ_here | refine g_bx ?_ | apply blkQ_ret | apply blkQ_normal | apply loopQ_ret | apply loopQ_exit | apply unQ_ret | apply unQ_exit | apply unQ_succ)
  rename_i b0
  refine hw_loop (σ := Nat) (fun i => [(0, eV 267 E (some c)), (3, iv (-1)), (25, sl b 0 9 9), (26, iv 9), (27, iv i)]) (fun _ => [(b, .cells ⟨eL 267 E⟩ 37)] :: [(b0, .cells ⟨[.pointer none]⟩ 144)] :: L) (fun i => i ≤ 8 ∧ i < c) (fun i => 9 - i) 0 (by repeat (first | exact trivial | refine ⟨rfl, ?_⟩)) (List.Sublist.refl _) ⟨by omega, ?_⟩ ?_
  · cases c with
    | zero => exact absurd hc (by decide)
    | succ c => omega
  rintro i ⟨h8, hlt⟩
  have g := eL_get (T := 267) (E := E) (show i < 9 by omega)
  have hz := hI i _ ((hE.cons [(b0, .cells ⟨[.pointer none]⟩ 144)]).cons [(b, .cells ⟨eL 267 E⟩ 37)]) (by omega)
  repeat' (first | (show HW _ _ _ _ _ _; first | apply hw_seq | apply hw_region | apply hw_block | apply hw_exit | refine g_t ?_ | refine g_f ?_ | (refine g_b (fun h => ?_) (fun h => ?_) <;> ((try simp only [Bool.not_eq_eq_eq_not, Bool.not_true, Bool.not_false, decide_eq_true_eq, decide_eq_false_iff_not, Decidable.not_not, ne_eq, Bool.and_eq_true, beq_iff_eq, and_true, true_and, eq_self, decide_true, Bool.and_true, Bool.true_and, reduceCtorEq, not_true_eq_false, not_false_eq_true] at h); (try (exfalso; first | omega | with_reducible exact h (by assumption) | with_reducible exact absurd h (by assumption))))) | apply hw_skip | apply hw_ret) | (show HO _ _ _ _ _ _ _; first | apply ho_nil | refine g_q (qe S) ?_ | refine g_q (qg S) ?_ | refine g_q (ql S) ?_ | refine g_q (qC (hz)) ?_ | refine wa S (fun b => ?_) | refine wS S (fun b => ?_) | refine wSa S (fun b => ?_) | refine wSn S (fun b => ?_)) | apply seqQ_normal | apply seqQ_ret | apply seqQ_exit | apply blkQ_here | refine g_bx ?_ | apply blkQ_ret | apply blkQ_normal | apply loopQ_ret | apply loopQ_exit | apply unQ_ret | apply unQ_exit | apply unQ_succ)
  · obtain rfl := hE.one c (i + 1) hc (elem9 (by omega)) h
    exact sp2 (by repeat (first | exact LS.refl _ | apply LS.k | apply LS.c)) ⟨rfl, rfl⟩
  · have hne : c ≠ i + 1 := fun e => h (congrArg E e)
    have h10 : c < 10 := by
      have := List.elem_iff.1 hc
      simp [all9] at this
      omega
    exact loopQ_normal (i + 1) (by repeat (first | exact trivial | refine ⟨rfl, ?_⟩)) (List.Sublist.refl _) ⟨by omega, by omega⟩ (by omega)
/-- an error's number: 0, or its code -/
def cdN : Option Nat → Int
  | none => 0
  | some c => c
def okE : Option Nat → Prop
  | none => True
  | some c => List.elem c all9 = true
theorem code_all (T : Nat) (E : Nat → Addr) (e : Option Nat) (L : Heap) (hE : Ez T E L) (he : okE e) : HC Tryd.prog 86 [eV T E e] L (fun v L' => v = .tuple ⟨[iv (cdN e), iv (-1)]⟩ ∧ L' = L) := by
  cases e with
  | none => exact code_nil L
  | some c => exact code_calls T E c L hE he
end Go.HL
end

/-! LayB -/
section
namespace Go.HL
open Go Go.Proofs Go.ChangeShapes Go.WideShapes Go.ChangeAt Go.RowKit
set_option linter.unusedVariables false
def handL : List (String × DataW Unit) := [("errors.errorType", .iface "internal/reflectlite.rtype" (.agg [.ptr (.lit (.string [101, 114, 114, 111, 114]))]))]
theorem hd_et : Tryd.prog.globalNamed "errors.errorType" = some 9 := by kernel_rfl
theorem hd_rt : (Tryd.prog.cutTypes.find? (·.1 == "internal/reflectlite.rtype")).map (·.2) = some 241 := by kernel_rfl
theorem hd_row : ((List.range 298).filter fun t => Tryd.prog.rowNamed t [101, 114, 114, 111, 114]) = [37] := by kernel_rfl
theorem hd_size : Tryd.prog.types.size = 298 := by kernel_rfl
theorem hd_handle : typeHandle Tryd.prog 37 = .pointer (some ⟨10, 37, none⟩) := by kernel_rfl
theorem handle_of {W : World} (h : handlesMet Tryd.prog handL W) : Gl [blks W] 9 (.iface 241 (.agg #[.pointer (some ⟨10, 37, none⟩)])) := by
  obtain ⟨name, u, ty, e1, e2, e3, e4, e5⟩ := h _ (List.mem_singleton.2 rfl)
  have en : name = [101, 114, 114, 111, 114] := (Option.some.inj e1).symm
  subst en
  obtain rfl := Option.some.inj (hd_rt.symm.trans e2)
  have hm : ty ∈ (List.range 298).filter fun t => Tryd.prog.rowNamed t [101, 114, 114, 111, 114] := List.mem_filter.2 ⟨List.mem_range.2 (by rw [← hd_size]; exact e3), e4⟩
  rw [hd_row] at hm
  obtain rfl := List.mem_singleton.1 hm
  rw [hd_handle] at e5
  exact gl_of_var hd_et e5
theorem text_inj {c c' : Nat} (h : List.elem c all9 = true) (h' : List.elem c' all9 = true) (e : textOf c = textOf c') : c = c' := by
  have key : (all9.all fun c => all9.all fun c' => decide (textOf c = textOf c' → c = c')) = true := by decide +kernel
  have h1 := List.all_eq_true.1 (List.all_eq_true.1 key c (List.elem_iff.1 h)) c' (List.elem_iff.1 h')
  exact of_decide_eq_true h1 e
theorem ez_of {W : World} {l : List Nat} (hs : laidMet Tryd.prog (sentL l) W) (hh : handlesMet Tryd.prog handL W) (hl : (all9.all fun c => l.elem c) = true := by rfl) (hm : (l.all fun c => errTab.any fun p => Nat.beq p.2 c) = true := by rfl) : ∃ E, Ez 267 E [blks W] := by
  obtain ⟨E, hG, hE⟩ := errs_of hs hm
  have hmem : ∀ c, List.elem c all9 = true → c ∈ l := fun c hc => List.elem_iff.1 (List.all_eq_true.1 hl c (List.elem_iff.1 hc))
  refine ⟨E, rfl, hG.sub hl, fun c hc => (hE c (hmem c hc)).2.2, fun c c' hc hc' e => ?_, handle_of hh⟩
  have h1 := (hE c (hmem c hc)).2.1
  have h2 := (hE c' (hmem c' hc')).2.1
  rw [e, h2] at h1
  have h3 : textOf c' = textOf c := by
    have := Option.some.inj h1
    simp only [Value.string.injEq, ByteArray.mk.injEq, Array.mk.injEq] at this
    exact this
  exact text_inj hc hc' h3.symm
/-- the witness's world -/
theorem laidMet_lay0 {P : Program} {w0 : World} {laid : List (String × DataW Unit)} (args : Array Value) (hf : w0.layFits P laid [] = true) (hi : w0.layIfaces P laid (w0.layVars P laid) = true) :
    laidMet P laid ((w0.layVars P laid).forCall (fun _ _ => 0) ⟨#[], args, []⟩).memory := by
  have e1 : (laid.filter fun x => (laid.map (·.1)).contains x.1) = laid := List.filter_eq_self.2 fun x hx => List.contains_iff_mem.2 (List.mem_map.2 ⟨x, hx, rfl⟩)
  have e2 : (laid.filter fun x => !(laid.map (·.1)).contains x.1) = [] := List.filter_eq_nil_iff.2 fun x hx => by rw [List.contains_iff_mem.2 (List.mem_map.2 ⟨x, hx, rfl⟩)]; simp
  have h : laidMet P laid (w0.layVars P laid) := laidMet_layVars (w0 := w0) (laid.map (·.1)) [] (by rw [e1]) (by rw [e1]; exact hf) (by rw [e1]; exact hi) (by rw [e2]; exact LaidIn.none)
  exact h.of_heap (by simp [World.memory, World.forCall, Input.heap])
noncomputable def w0H (os : Os) : World :=
  let w := World.holding Tryd.prog os ⟨#[], #[], []⟩
  { w with heap := w.heap.modify 9 fun
      | .cells _ t frozen => .cells #[.iface 241 (.agg #[.pointer (some ⟨10, 37, none⟩)])] t frozen
      | o => o }
noncomputable def layH (os : Os) (l : List Nat) : World := (w0H os).layVars Tryd.prog (sentL l)
theorem layH_os (os : Os) (l : List Nat) : (layH os l).os = os := World.layVars_os _ _ _
end Go.HL
end

/-! CdLv -/
section
namespace Go.HL
open Go
theorem leaving_of_handed {a : Assume} {C : Checked} {os : Os} {f : FuncId} {r : Reach} {Pre : World → Array Value → Prop} {Post : World → Array Value → Value → World → Prop} (h : ReturnsInHanded a C os f r Pre Post) : ReturnsInLeavingWide a C os f r Pre Post := fun enter => by
  obtain ⟨h0, h1, h2, h3, h4⟩ := h enter
  refine ⟨h0, h1, h2, h3, fun w tape i hi => ?_⟩
  obtain ⟨n, v, w', e1, e2, e3, e4, ⟨j, last, e5, e6, e7, e8, e9⟩, e10⟩ := h4 w tape i hi
  exact ⟨n, v, w', e1, e2, e3, e4, ⟨j, last, e5, e6, e8, onlyLeaving_of_quiet e7, e9⟩, e10⟩
theorem holds_tied_goes (Lk : Looks) {p : Pinned} {s : OpenSpec} {c : OpenClaim} (al : List (List PathCond)) (kinds : List LaidKind) (tests : Bool) (har : Bool × String) (lk : Bool) (g : Bool)
    (hc : c.holds p s) (hal : ∀ D ∈ al, (c.withDomain D).holds p s) (hw : c.wfByText s = true) (hwal : ∀ D ∈ al, (c.withDomain D).wfByText s = true)
    (htie : c.laidByTextAt Lk p kinds tests)
    (hst : c.start = .entering) (hnb : c.noBlocks = false ∧ c.again = false) (hm : p.checked.prog.mainIs = some (har.1, har.2.toList)) (hn : (!har.1 && har.2.isEmpty && !lk) = false)
    (hl : ∀ f fn, p.checked.prog.funcNamed c.func = some f → p.checked.prog.funcs[f]? = some fn → lk = p.checked.prog.looks [] ∧ ∀ (j : Nat) t, fn.params[j]? = some t → p.checked.prog.wantsStandIn t = false)
    (hg : g = c.goesBy p.checked.prog) :
    Claim7.holds p (.plain s) { stood := { row := c, standIns := [], harness := har, looks := lk }, kinds := [], alts := al, laidByText := true, laidKinds := kinds, laidTests := tests, laidLooks := Lk, goes := g } := by
  have h6 : ∀ r : OpenClaim, Claim7.isSixth { stood := { row := r, standIns := [], harness := har, looks := lk }, kinds := [] } = false := fun r => by simpa [Claim7.isSixth] using hn
  refine ⟨Claim7.tied_new_at Lk kinds tests (Claim7.new_of_sixth hc har lk hst hnb hm (h6 c) hl) hw, fun D hD => ?_, htie, (fun h => by cases h), hg⟩
  exact Claim7.tied_new_at Lk kinds tests (Claim7.new_of_sixth (hal D hD) har lk hst hnb hm (h6 _) hl) (hwal D hD)
end Go.HL
end

/-! CdFa -/
section
namespace Go.HL
set_option maxRecDepth 100000
open Go Go.Proofs Go.ChangeShapes Go.WideShapes Go.ChangeAt Go.RowKit
end Go.HL
end

/-! PlA -/
section
namespace Go.HL
open Go Go.Proofs
set_option linter.unusedVariables false
set_option linter.unusedSimpArgs false

structure Pl where
  b : List UInt8
  off : Bool
  cut : Int
def plC (bp ba : Nat) (m : Pl) : List Blk := [(bp, .cells ⟨[sl ba 0 m.b.length m.b.length, .bool m.off, iv m.cut]⟩ 155), (ba, .cells ⟨m.b.map u8⟩ 5)]
def zeros (n : Nat) : List UInt8 := List.replicate n 0
def newP (n : Int) : Option Pl := if 0 ≤ n ∧ n ≤ 512 then some ⟨zeros n.toNat, false, -1⟩ else none
theorem u8_zeros (n : Nat) : (zeros n).map u8 = List.replicate n (.int .u8 0) := by simp [zeros, u8]
theorem rd_plate (bp ba : Nat) (m : Pl) (L : Heap) : Rd uc 1 (plC bp ba m :: L) (some ⟨ba, 0, none⟩) m.b := by
  refine .inr ⟨ba, 0, m.b.map u8, 5, (0, 0), rfl, has_in has_here, fun k x hx => ?_⟩
  have := gets_row (enc := uc) (sz := 1) (fun _ => rfl) m.b [] [] k x hx
  simpa [u8_flat] using this
def lookM (m : Pl) (at_ n : Int) : Option Nat := if at_ < 0 ∨ n < 0 ∨ at_ > m.b.length ∨ n > m.b.length - at_ then some 2 else if m.off then some 6 else none
attribute [local irreducible] HW HO HQ HD HC QOp Has Upd Puts Gets seqQ blkQ loopQ fnQ actQ nextP unQ MapF
theorem new_calls (T : Nat) (E : Nat → Addr) (n : Int) (L : Heap) (hG : Er T E [2] L) : HC Tryd.prog 48 [iv n] L (fun v L' => match newP n with
    | some m => ∃ bp ba, v = .tuple ⟨[pt bp 0, .nilIface]⟩ ∧ L' = plC bp ba m :: L
    | none => v = .tuple ⟨[.pointer none, eV T E (some 2)]⟩ ∧ L' = L) := by
  refine hc_enter (fun _ _ => Tryd.call48 _ _) Tryd.func48 rfl Tryd.ntmps48 (Nat.le_of_ble_eq_true rfl) ?_; simp only [args0, Nat.reduceAdd]
  repeat' (first | (show HW _ _ _ _ _ _; first | apply hw_seq | apply hw_region | refine g_t ?_ | refine g_f ?_ | (refine g_b (fun h => ?_) (fun h => ?_) <;> ((try simp only [Bool.not_eq_eq_eq_not, Bool.not_true, Bool.not_false, decide_eq_true_eq, decide_eq_false_iff_not, Decidable.not_not, ne_eq, Bool.and_eq_true, beq_iff_eq, and_true, true_and, eq_self, decide_true, Bool.and_true, Bool.true_and, reduceCtorEq, not_true_eq_false, not_false_eq_true] at h); (try (exfalso; first | omega | with_reducible exact h (by assumption) | with_reducible exact absurd h (by assumption))))) | apply hw_skip | apply hw_ret | refine g_k S ?_) | (show HO _ _ _ _ _ _ _; first | apply ho_nil | refine g_q (qe S) ?_ | refine g_q (qg S) ?_ | refine g_q (qb S) ?_ | refine g_q (qbA S) ?_ | refine g_n ?_ | refine g_on ?_ | (refine g_s (fun h => ?_) (fun h => ?_) <;> ((try simp only [Bool.not_eq_eq_eq_not, Bool.not_true, Bool.not_false, decide_eq_true_eq, decide_eq_false_iff_not, Decidable.not_not, ne_eq, Bool.and_eq_true, beq_iff_eq, and_true, true_and, eq_self, decide_true, Bool.and_true, Bool.true_and, reduceCtorEq, not_true_eq_false, not_false_eq_true] at h); (try (exfalso; first | omega | with_reducible exact h (by assumption) | with_reducible exact absurd h (by assumption))))) | refine wb (fun b => ?_) | refine wm S (fun b => ?_) | refine wM S (fun b => ?_)) | (show HQ _ _ _ _ _ _ _; first | apply hq_nil | refine k_q (qe S) ?_ | refine k_q (qg S) ?_ | refine k_q (qb S) ?_ | refine k_q (qbA S) ?_ | refine k_n ?_ | (refine k_s (fun h => ?_) (fun h => ?_) <;> ((try simp only [Bool.not_eq_eq_eq_not, Bool.not_true, Bool.not_false, decide_eq_true_eq, decide_eq_false_iff_not, Decidable.not_not, ne_eq, Bool.and_eq_true, beq_iff_eq, and_true, true_and, eq_self, decide_true, Bool.and_true, Bool.true_and, reduceCtorEq, not_true_eq_false, not_false_eq_true] at h); (try (exfalso; first | omega | with_reducible exact h (by assumption) | with_reducible exact absurd h (by assumption)))))) | apply seqQ_normal | apply seqQ_ret)
  · refine fn_ret2 rfl rfl rfl (List.Sublist.refl _) ?_
    rw [show newP n = none from if_neg (by omega)]
    exact ⟨rfl, rfl⟩
  · refine fn_ret2 rfl rfl rfl (List.Sublist.refl _) ?_
    rw [show newP n = none from if_neg (by omega)]
    exact ⟨rfl, rfl⟩
  · rename_i b1
    refine er2 (L' := plC b b1 ⟨zeros n.toNat, false, -1⟩ :: L) ?_ ?_
    · simp [plC, u8_zeros]
      simp [zeros]
    · rw [show newP n = some ⟨zeros n.toNat, false, -1⟩ from if_pos (by omega)]
      exact ⟨_, _, rfl, rfl⟩
theorem look_calls (T : Nat) (E : Nat → Addr) (bp ba : Nat) (m : Pl) (at_ n : Int) (L : Heap) (hG : Er T E [2, 6] L) (hl : m.b.length ≤ 1000000) : HC Tryd.prog 134 [pt bp 0, iv at_, iv n] (plC bp ba m :: L) (fun v L' => v = eV T E (lookM m at_ n) ∧ L' = plC bp ba m :: L) := by
  have hG' := hG.cons (plC bp ba m)
  refine hc_enter (fun _ _ => Tryd.call134 _ _) Tryd.func134 rfl Tryd.ntmps134 (Nat.le_of_ble_eq_true rfl) ?_; simp only [args0, Nat.reduceAdd]
  unfold lookM
  repeat' (first | (show HW _ _ _ _ _ _; first | apply hw_seq | apply hw_region | refine g_t ?_ | refine g_f ?_ | (refine g_b (fun h => ?_) (fun h => ?_) <;> ((try simp only [Bool.not_eq_eq_eq_not, Bool.not_true, Bool.not_false, decide_eq_true_eq, decide_eq_false_iff_not, Decidable.not_not, ne_eq, Bool.and_eq_true, beq_iff_eq, and_true, true_and, eq_self, decide_true, Bool.and_true, Bool.true_and, reduceCtorEq, not_true_eq_false, not_false_eq_true] at h); (try (exfalso; first | omega | with_reducible exact h (by assumption) | with_reducible exact absurd h (by assumption))))) | apply hw_skip | apply hw_ret) | (show HO _ _ _ _ _ _ _; first | apply ho_nil | refine g_q (qe S) ?_ | refine g_q (qg S) ?_ | refine g_q (ql S) ?_ | refine g_n ?_ | refine g_on ?_ | (refine g_s (fun h => ?_) (fun h => ?_) <;> ((try simp only [Bool.not_eq_eq_eq_not, Bool.not_true, Bool.not_false, decide_eq_true_eq, decide_eq_false_iff_not, Decidable.not_not, ne_eq, Bool.and_eq_true, beq_iff_eq, and_true, true_and, eq_self, decide_true, Bool.and_true, Bool.true_and, reduceCtorEq, not_true_eq_false, not_false_eq_true] at h); (try (exfalso; first | omega | with_reducible exact h (by assumption) | with_reducible exact absurd h (by assumption)))))) | apply seqQ_normal | apply seqQ_ret)
  all_goals (refine fn_ret1 rfl rfl ?_ ⟨?_, rfl⟩; (next => (repeat (first | exact List.Sublist.refl _ | apply List.Sublist.cons))))
  all_goals first | (rw [if_pos (by omega)]; rfl) | (rw [if_neg (by omega), if_pos (by assumption)]; rfl) | (rw [if_neg (by omega), if_neg (by simp_all)]; rfl)
theorem bytes_calls (bp ba : Nat) (m : Pl) (L : Heap) : HC Tryd.prog 56 [pt bp 0] (plC bp ba m :: L) (fun v L' => v = bs m.b ∧ L' = plC bp ba m :: L) := by
  have hR := rd_plate bp ba m L
  refine hc_enter (fun _ _ => Tryd.call56 _ _) Tryd.func56 rfl Tryd.ntmps56 (Nat.le_of_ble_eq_true rfl) ?_; simp only [args0, Nat.reduceAdd]
  repeat' (first | (show HW _ _ _ _ _ _; first | apply hw_seq | apply hw_region | apply hw_ret) | (show HO _ _ _ _ _ _ _; first | apply ho_nil | refine g_q (qe S) ?_ | refine g_q (ql S) ?_ | refine g_q (qt S) ?_ | refine g_q (qc8 S) ?_ | refine g_q (qc32 S) ?_) | apply seqQ_normal | apply seqQ_ret)
  (refine fn_ret1 rfl rfl ?_ ⟨?_, rfl⟩; (next => (repeat (first | exact List.Sublist.refl _ | apply List.Sublist.cons))))
  rfl
theorem power_calls (bp ba : Nat) (m : Pl) (L : Heap) : HC Tryd.prog 102 [pt bp 0] (plC bp ba m :: L) (fun v L' => v = .bool (!m.off) ∧ L' = plC bp ba m :: L) := by
  refine hc_enter (fun _ _ => Tryd.call102 _ _) Tryd.func102 rfl Tryd.ntmps102 (Nat.le_of_ble_eq_true rfl) ?_; simp only [args0, Nat.reduceAdd]
  repeat' (first | (show HW _ _ _ _ _ _; first | apply hw_seq | apply hw_region | apply hw_ret) | (show HO _ _ _ _ _ _ _; first | apply ho_nil | refine g_q (qe S) ?_ | refine g_q (ql S) ?_ | refine g_q (qn S) ?_) | apply seqQ_normal | apply seqQ_ret)
  all_goals (refine fn_ret1 rfl rfl ?_ ⟨?_, rfl⟩; (next => (repeat (first | exact List.Sublist.refl _ | apply List.Sublist.cons))))
  all_goals rfl
/-- the bytes from at on are s -/
def splice (b : List UInt8) (at_ : Nat) (s : List UInt8) : List UInt8 := b.take at_ ++ s ++ b.drop (at_ + s.length)
theorem splice_len {b : List UInt8} {at_ : Nat} {s : List UInt8} (h : at_ + s.length ≤ b.length) : (splice b at_ s).length = b.length := by
  simp [splice]; omega
theorem splice_nil (b : List UInt8) (at_ : Nat) : splice b at_ [] = b := by simp [splice]
theorem splice_snoc {b : List UInt8} {at_ : Nat} {s : List UInt8} {x : UInt8} (h : at_ + s.length < b.length) : splice b at_ (s ++ [x]) = (splice b at_ s).set (at_ + s.length) x := by
  have h1 : (b.take at_ ++ s).length = at_ + s.length := by simp; omega
  have h2 : b.drop (at_ + s.length) = b[at_ + s.length] :: b.drop (at_ + s.length + 1) := List.drop_eq_getElem_cons h
  simp only [splice, List.length_append, List.length_cons, List.length_nil, Nat.zero_add]
  rw [h2, List.set_append_right _ _ (by omega), h1, Nat.sub_self, List.set_cons_zero]
  simp [Nat.add_assoc]
def readM (m : Pl) (at_ n : Int) : List UInt8 × Option Nat := match lookM m at_ n with
  | some e => ([], some e)
  | none => ((m.b.drop at_.toNat).take n.toNat, none)
def kM (m : Pl) (n : Nat) : Nat := if m.cut = -1 then n else min n m.cut.toNat
def wrOk (m : Pl) (at_ : Nat) (s : List UInt8) : Pl × Option Nat :=
  (⟨splice m.b at_ (s.take (kM m s.length)), m.off || decide (kM m s.length < s.length), if m.cut = -1 then -1 else m.cut - kM m s.length⟩, if kM m s.length < s.length then some 6 else none)
def writeM (m : Pl) (at_ : Int) (s : List UInt8) : Pl × Option Nat := match lookM m at_ s.length with
  | some e => (m, some e)
  | none => wrOk m at_.toNat s
theorem read_calls (T : Nat) (E : Nat → Addr) (bp ba : Nat) (m : Pl) (at_ n : Int) (L : Heap) (hG : Er T E [2, 6] L) (hl : m.b.length ≤ 1000000) : HC Tryd.prog 103 [pt bp 0, iv at_, iv n] (plC bp ba m :: L) (fun v L' => v = .tuple ⟨[bs (readM m at_ n).1, eV T E (readM m at_ n).2]⟩ ∧ L' = plC bp ba m :: L) := by
  have hR := rd_plate bp ba m L
  have hk := look_calls T E bp ba m at_ n L hG hl
  refine hc_enter (fun _ _ => Tryd.call103 _ _) Tryd.func103 rfl Tryd.ntmps103 (Nat.le_of_ble_eq_true rfl) ?_; simp only [args0, Nat.reduceAdd]
  unfold readM
  cases hm : lookM m at_ n with
  | some e =>
    rw [hm] at hk
    repeat' (first | (show HW _ _ _ _ _ _; first | apply hw_seq | apply hw_region | refine g_t ?_ | refine g_f ?_ | (refine g_b (fun h => ?_) (fun h => ?_) <;> ((try simp only [Bool.not_eq_eq_eq_not, Bool.not_true, Bool.not_false, decide_eq_true_eq, decide_eq_false_iff_not, Decidable.not_not, ne_eq, Bool.and_eq_true, beq_iff_eq, and_true, true_and, eq_self, decide_true, Bool.and_true, Bool.true_and, reduceCtorEq, not_true_eq_false, not_false_eq_true] at h); (try (exfalso; first | omega | with_reducible exact h (by assumption) | with_reducible exact absurd h (by assumption))))) | apply hw_skip | apply hw_ret) | (show HO _ _ _ _ _ _ _; first | apply ho_nil | refine g_q (qe S) ?_ | refine g_q (ql S) ?_ | refine g_q (qt S) ?_ | refine g_q (qc8 S) ?_ | refine g_q (qc32 S) ?_ | refine g_q (qSl S) ?_ | refine g_q (qSh S) ?_ | refine g_q (qSb S) ?_ | refine g_q (qC (hk)) ?_) | apply seqQ_normal | apply seqQ_ret)
    (refine fn_ret2 rfl rfl rfl ?_ ⟨?_, rfl⟩; (next => (repeat (first | exact List.Sublist.refl _ | apply List.Sublist.cons))))
    rfl
  | none =>
    rw [hm] at hk
    have h0 : 0 ≤ at_ ∧ 0 ≤ n ∧ at_ + n ≤ m.b.length := by
      unfold lookM at hm
      split at hm
      · cases hm
      · omega
    repeat' (first | (show HW _ _ _ _ _ _; first | apply hw_seq | apply hw_region | refine g_t ?_ | refine g_f ?_ | (refine g_b (fun h => ?_) (fun h => ?_) <;> ((try simp only [Bool.not_eq_eq_eq_not, Bool.not_true, Bool.not_false, decide_eq_true_eq, decide_eq_false_iff_not, Decidable.not_not, ne_eq, Bool.and_eq_true, beq_iff_eq, and_true, true_and, eq_self, decide_true, Bool.and_true, Bool.true_and, reduceCtorEq, not_true_eq_false, not_false_eq_true] at h); (try (exfalso; first | omega | with_reducible exact h (by assumption) | with_reducible exact absurd h (by assumption))))) | apply hw_skip | apply hw_ret) | (show HO _ _ _ _ _ _ _; first | apply ho_nil | refine g_q (qe S) ?_ | refine g_q (ql S) ?_ | refine g_q (qt S) ?_ | refine g_q (qc8 S) ?_ | refine g_q (qc32 S) ?_ | refine g_q (qSl S) ?_ | refine g_q (qSh S) ?_ | refine g_q (qSb S) ?_ | refine g_q (qC (hk)) ?_) | apply seqQ_normal | apply seqQ_ret)
    refine g_q (qtx S (l := (m.b.drop at_.toNat).take n.toNat) (Rd.take (hR.drop (Nat.le_refl _))) ?_) ?_
    · simp; omega
    repeat' (first | (show HW _ _ _ _ _ _; first | apply hw_seq | apply hw_region | refine g_t ?_ | refine g_f ?_ | (refine g_b (fun h => ?_) (fun h => ?_) <;> ((try simp only [Bool.not_eq_eq_eq_not, Bool.not_true, Bool.not_false, decide_eq_true_eq, decide_eq_false_iff_not, Decidable.not_not, ne_eq, Bool.and_eq_true, beq_iff_eq, and_true, true_and, eq_self, decide_true, Bool.and_true, Bool.true_and, reduceCtorEq, not_true_eq_false, not_false_eq_true] at h); (try (exfalso; first | omega | with_reducible exact h (by assumption) | with_reducible exact absurd h (by assumption))))) | apply hw_skip | apply hw_ret) | (show HO _ _ _ _ _ _ _; first | apply ho_nil | refine g_q (qe S) ?_ | refine g_q (ql S) ?_ | refine g_q (qt S) ?_ | refine g_q (qc8 S) ?_ | refine g_q (qc32 S) ?_ | refine g_q (qSl S) ?_ | refine g_q (qSh S) ?_ | refine g_q (qSb S) ?_) | apply seqQ_normal | apply seqQ_ret)
    (refine fn_ret2 rfl rfl rfl ?_ ⟨?_, rfl⟩; (next => (repeat (first | exact List.Sublist.refl _ | apply List.Sublist.cons))))
    rfl
theorem cut_calls (T : Nat) (E : Nat → Addr) (bp ba : Nat) (m : Pl) (n : Int) (L : Heap) (hG : Er T E [2, 6] L) : HC Tryd.prog 50 [pt bp 0, iv n] (plC bp ba m :: L)
    (fun v L' => if n < 0 then v = eV T E (some 2) ∧ L' = plC bp ba m :: L else if m.off then v = eV T E (some 6) ∧ L' = plC bp ba m :: L else v = .nilIface ∧ L' = plC bp ba { m with cut := n } :: L) := by
  have hG' := hG.cons (plC bp ba m)
  refine hc_enter (fun _ _ => Tryd.call50 _ _) Tryd.func50 rfl Tryd.ntmps50 (Nat.le_of_ble_eq_true rfl) ?_; simp only [args0, Nat.reduceAdd]
  repeat' (first | (show HW _ _ _ _ _ _; first | apply hw_seq | apply hw_region | refine g_t ?_ | refine g_f ?_ | (refine g_b (fun h => ?_) (fun h => ?_) <;> ((try simp only [Bool.not_eq_eq_eq_not, Bool.not_true, Bool.not_false, decide_eq_true_eq, decide_eq_false_iff_not, Decidable.not_not, ne_eq, Bool.and_eq_true, beq_iff_eq, and_true, true_and, eq_self, decide_true, Bool.and_true, Bool.true_and, reduceCtorEq, not_true_eq_false, not_false_eq_true] at h); (try (exfalso; first | omega | with_reducible exact h (by assumption) | with_reducible exact absurd h (by assumption))))) | apply hw_skip | apply hw_ret) | (show HO _ _ _ _ _ _ _; first | apply ho_nil | refine g_q (qe S) ?_ | refine g_q (qg S) ?_ | refine g_q (ql S) ?_ | refine ws S ?_) | apply seqQ_normal | apply seqQ_ret)
  · refine er1 (L' := plC bp ba m :: L) rfl ?_
    simp [h, eV]
  · rename_i h1
    refine er1 (L' := plC bp ba m :: L) rfl ?_
    simp [h, h1, eV]
  · rename_i h1
    refine er1 (L' := plC bp ba { m with cut := n } :: L) rfl ?_
    simp [h, h1]
theorem on_calls (bp ba : Nat) (m : Pl) (L : Heap) : HC Tryd.prog 52 [pt bp 0] (plC bp ba m :: L) (fun v L' => v = .tuple #[] ∧ L' = plC bp ba { m with off := false, cut := -1 } :: L) := by
  refine hc_enter (fun _ _ => Tryd.call52 _ _) Tryd.func52 rfl Tryd.ntmps52 (Nat.le_of_ble_eq_true rfl) ?_; simp only [args0, Nat.reduceAdd]
  repeat' (first | (show HW _ _ _ _ _ _; first | apply hw_seq | apply hw_region | apply hw_ret) | (show HO _ _ _ _ _ _ _; first | apply ho_nil | refine g_q (qe S) ?_ | refine ws S ?_) | apply seqQ_normal | apply seqQ_ret)
  exact ee0 rfl ⟨rfl, rfl⟩
theorem from_calls (T : Nat) (E : Nat → Addr) (s : List UInt8) (L : Heap) (hG : Er T E [2] L) (hl : s.length ≤ 1000000) : HC Tryd.prog 54 [bs s] L (fun v L' => if s.length ≤ 512
    then ∃ bp ba, v = .tuple ⟨[pt bp 0, .nilIface]⟩ ∧ L' = plC bp ba ⟨s, false, -1⟩ :: L else v = .tuple ⟨[.pointer none, eV T E (some 2)]⟩ ∧ L' = L) := by
  have hk := new_calls T E s.length L hG
  by_cases h : s.length ≤ 512
  · rw [show newP s.length = some ⟨zeros s.length, false, -1⟩ from by unfold newP; rw [if_pos (by omega)]; simp] at hk
    simp only [if_pos h]
    refine hc_enter (fun _ _ => Tryd.call54 _ _) Tryd.func54 rfl Tryd.ntmps54 (Nat.le_of_ble_eq_true rfl) ?_; simp only [args0, Nat.reduceAdd]
    repeat' (first | (show HW _ _ _ _ _ _; first | apply hw_seq | apply hw_region | refine g_t ?_ | refine g_f ?_ | (refine g_b (fun h => ?_) (fun h => ?_) <;> ((try simp only [Bool.not_eq_eq_eq_not, Bool.not_true, Bool.not_false, decide_eq_true_eq, decide_eq_false_iff_not, Decidable.not_not, ne_eq, Bool.and_eq_true, beq_iff_eq, and_true, true_and, eq_self, decide_true, Bool.and_true, Bool.true_and, reduceCtorEq, not_true_eq_false, not_false_eq_true] at h); (try (exfalso; first | omega | with_reducible exact h (by assumption) | with_reducible exact absurd h (by assumption))))) | apply hw_skip | apply hw_ret) | (show HO _ _ _ _ _ _ _; first | apply ho_nil | refine g_q (qe S) ?_ | refine g_q (ql S) ?_) | apply seqQ_normal | apply seqQ_ret)
    refine gc hk ?_
    rintro v L' ⟨bp, ba, rfl, rfl⟩
    repeat' (first | (show HW _ _ _ _ _ _; first | apply hw_seq | apply hw_region | refine g_t ?_ | refine g_f ?_ | (refine g_b (fun h => ?_) (fun h => ?_) <;> ((try simp only [Bool.not_eq_eq_eq_not, Bool.not_true, Bool.not_false, decide_eq_true_eq, decide_eq_false_iff_not, Decidable.not_not, ne_eq, Bool.and_eq_true, beq_iff_eq, and_true, true_and, eq_self, decide_true, Bool.and_true, Bool.true_and, reduceCtorEq, not_true_eq_false, not_false_eq_true] at h); (try (exfalso; first | omega | with_reducible exact h (by assumption) | with_reducible exact absurd h (by assumption))))) | apply hw_skip | apply hw_ret) | (show HO _ _ _ _ _ _ _; first | apply ho_nil | refine g_q (qe S) ?_ | refine g_q (ql S) ?_) | apply seqQ_normal | apply seqQ_ret)
    refine wcs S (l' := s.map u8) (i := 0) ?_ ?_
    · repeat' (first | (show HW _ _ _ _ _ _; first | apply hw_seq | apply hw_region | refine g_t ?_ | refine g_f ?_ | (refine g_b (fun h => ?_) (fun h => ?_) <;> ((try simp only [Bool.not_eq_eq_eq_not, Bool.not_true, Bool.not_false, decide_eq_true_eq, decide_eq_false_iff_not, Decidable.not_not, ne_eq, Bool.and_eq_true, beq_iff_eq, and_true, true_and, eq_self, decide_true, Bool.and_true, Bool.true_and, reduceCtorEq, not_true_eq_false, not_false_eq_true] at h); (try (exfalso; first | omega | with_reducible exact h (by assumption) | with_reducible exact absurd h (by assumption))))) | apply hw_skip | apply hw_ret) | (show HO _ _ _ _ _ _ _; first | apply ho_nil | refine g_q (qe S) ?_ | refine g_q (ql S) ?_) | apply seqQ_normal | apply seqQ_ret)
      refine er2 (L' := plC bp ba ⟨s, false, -1⟩ :: L) ?_ ⟨bp, ba, rfl, rfl⟩
      simp [plC, zeros]
    · have e : s.take (Nat.min s.length (zeros s.length).length) = s := by simp [zeros]
      rw [e]
      exact puts_all (by simp [zeros])
  · rw [show newP s.length = none from if_neg (by omega)] at hk
    simp only [if_neg h]
    refine hc_enter (fun _ _ => Tryd.call54 _ _) Tryd.func54 rfl Tryd.ntmps54 (Nat.le_of_ble_eq_true rfl) ?_; simp only [args0, Nat.reduceAdd]
    repeat' (first | (show HW _ _ _ _ _ _; first | apply hw_seq | apply hw_region | refine g_t ?_ | refine g_f ?_ | (refine g_b (fun h => ?_) (fun h => ?_) <;> ((try simp only [Bool.not_eq_eq_eq_not, Bool.not_true, Bool.not_false, decide_eq_true_eq, decide_eq_false_iff_not, Decidable.not_not, ne_eq, Bool.and_eq_true, beq_iff_eq, and_true, true_and, eq_self, decide_true, Bool.and_true, Bool.true_and, reduceCtorEq, not_true_eq_false, not_false_eq_true] at h); (try (exfalso; first | omega | with_reducible exact h (by assumption) | with_reducible exact absurd h (by assumption))))) | apply hw_skip | apply hw_ret) | (show HO _ _ _ _ _ _ _; first | apply ho_nil | refine g_q (qe S) ?_ | refine g_q (ql S) ?_) | apply seqQ_normal | apply seqQ_ret)
    refine gc hk ?_
    rintro v L' ⟨rfl, rfl⟩
    repeat' (first | (show HW _ _ _ _ _ _; first | apply hw_seq | apply hw_region | refine g_t ?_ | refine g_f ?_ | (refine g_b (fun h => ?_) (fun h => ?_) <;> ((try simp only [Bool.not_eq_eq_eq_not, Bool.not_true, Bool.not_false, decide_eq_true_eq, decide_eq_false_iff_not, Decidable.not_not, ne_eq, Bool.and_eq_true, beq_iff_eq, and_true, true_and, eq_self, decide_true, Bool.and_true, Bool.true_and, reduceCtorEq, not_true_eq_false, not_false_eq_true] at h); (try (exfalso; first | omega | with_reducible exact h (by assumption) | with_reducible exact absurd h (by assumption))))) | apply hw_skip | apply hw_ret) | (show HO _ _ _ _ _ _ _; first | apply ho_nil | refine g_q (qe S) ?_ | refine g_q (ql S) ?_) | apply seqQ_normal | apply seqQ_ret)
    exact er2 rfl ⟨rfl, rfl⟩
end Go.HL
end

/-! PlB -/
section
namespace Go.HL
open Go Go.Proofs
set_option linter.unusedVariables false
set_option linter.unusedSimpArgs false

def wrAt (m : Pl) (a : Nat) (s : List UInt8) (i : Nat) : Pl := ⟨splice m.b a (s.take i), false, if m.cut = -1 then -1 else m.cut - i⟩
theorem wrAt_succ {m : Pl} {a : Nat} {s : List UInt8} {i : Nat} (ha : a + s.length ≤ m.b.length) (hi : i < s.length) : (wrAt m a s (i + 1)).b = (wrAt m a s i).b.set (a + i) (s.getD i 0) := by
  show splice m.b a (s.take (i + 1)) = (splice m.b a (s.take i)).set (a + i) (s.getD i 0)
  rw [List.take_succ_eq_append_getElem hi, splice_snoc (by simp; omega)]
  simp [List.getD, hi, Nat.min_eq_left (Nat.le_of_lt hi)]
theorem wrAt_len {m : Pl} {a : Nat} {s : List UInt8} {i : Nat} (ha : a + s.length ≤ m.b.length) : (wrAt m a s i).b.length = m.b.length := splice_len (by simp; omega)
attribute [local irreducible] HW HO HQ HD HC QOp Has Upd Puts Gets seqQ blkQ loopQ fnQ actQ nextP unQ MapF
theorem write_calls (T : Nat) (E : Nat → Addr) (bp ba : Nat) (m : Pl) (at_ : Int) (s : List UInt8) (L : Heap) (hG : Er T E [2, 6] L) (hl : m.b.length ≤ 1000000) (hs : s.length ≤ 1000000) (hc : -1 ≤ m.cut ∧ m.cut ≤ 9223372036854775807) :
    HC Tryd.prog 136 [pt bp 0, iv at_, bs s] (plC bp ba m :: L) (fun v L' => v = eV T E (writeM m at_ s).2 ∧ L' = plC bp ba (writeM m at_ s).1 :: L) := by
  have hk := look_calls T E bp ba m at_ s.length L hG hl
  have hG' : ∀ m', Er T E [2, 6] (plC bp ba m' :: L) := fun m' => hG.cons _
  refine hc_enter (fun _ _ => Tryd.call136 _ _) Tryd.func136 rfl Tryd.ntmps136 (Nat.le_of_ble_eq_true rfl) ?_; simp only [args0, Nat.reduceAdd]
  unfold writeM
  cases hm : lookM m at_ s.length with
  | some e =>
    rw [hm] at hk
    repeat' (first | (show HW _ _ _ _ _ _; first | apply hw_seq | apply hw_region | apply hw_block | apply hw_exit | refine g_t ?_ | refine g_f ?_ | (refine g_b (fun h => ?_) (fun h => ?_) <;> ((try simp only [Bool.not_eq_eq_eq_not, Bool.not_true, Bool.not_false, decide_eq_true_eq, decide_eq_false_iff_not, Decidable.not_not, ne_eq, Bool.and_eq_true, beq_iff_eq, and_true, true_and, eq_self, decide_true, Bool.and_true, Bool.true_and, reduceCtorEq, not_true_eq_false, not_false_eq_true] at h); (try (exfalso; first | omega | with_reducible exact h (by assumption) | with_reducible exact absurd h (by assumption))))) | apply hw_skip | apply hw_ret | refine g_k S ?_ | refine g_w S ?_) | (show HO _ _ _ _ _ _ _; first | apply ho_nil | refine g_q (qe S) ?_ | refine g_q (qg S) ?_ | refine g_q (ql S) ?_ | refine g_q (qC (hk)) ?_ | refine ws S ?_) | (show HQ _ _ _ _ _ _ _; first | apply hq_nil | refine k_q (qe S) ?_ | refine k_q (qg S) ?_ | refine k_q (ql S) ?_ | refine k_q (qC (hk)) ?_) | (show HD _ _ _ _ _ _ _ _; first | apply hd_nil | refine d_q 100 (by exact rfl) (fun _ => qe S) ?_ | refine dl S 100 ?_ | refine dg S 100 (fun _ _ => ?_) | refine d_q 0 (by exact rfl) (fun _ => qC (hk)) ?_ | refine d_q 1 (by exact rfl) (fun _ => qC (hk)) ?_ | refine d_q 2 (by exact rfl) (fun _ => qC (hk)) ?_ | refine d_q 3 (by exact rfl) (fun _ => qC (hk)) ?_ | refine da 101 ?_) | refine dx ?_ | apply dx0 | refine dxd ?_ | refine dxk ?_ | apply seqQ_normal | apply seqQ_ret | apply seqQ_exit | apply blkQ_here | refine g_bx ?_ | apply blkQ_ret | apply blkQ_normal | apply loopQ_ret | apply loopQ_exit | apply unQ_ret | apply unQ_exit | apply unQ_succ)
    exact er1 rfl ⟨rfl, rfl⟩
  | none =>
    rw [hm] at hk
    have h0 : 0 ≤ at_ ∧ at_ + s.length ≤ m.b.length ∧ m.off = false := by
      unfold lookM at hm
      split at hm
      · cases hm
      · split at hm
        · cases hm
        · exact ⟨by omega, by omega, by simp_all⟩
    obtain ⟨a, rfl⟩ := Int.eq_ofNat_of_zero_le h0.1
    obtain ⟨-, h1, hoff⟩ := h0
    have h2 : a + s.length ≤ m.b.length := by omega
    clear hm
    repeat' (first | (show HW _ _ _ _ _ _; first | apply hw_seq | apply hw_region | apply hw_block | apply hw_exit | refine g_t ?_ | refine g_f ?_ | (refine g_b (fun h => ?_) (fun h => ?_) <;> ((try simp only [Bool.not_eq_eq_eq_not, Bool.not_true, Bool.not_false, decide_eq_true_eq, decide_eq_false_iff_not, Decidable.not_not, ne_eq, Bool.and_eq_true, beq_iff_eq, and_true, true_and, eq_self, decide_true, Bool.and_true, Bool.true_and, reduceCtorEq, not_true_eq_false, not_false_eq_true] at h); (try (exfalso; first | omega | with_reducible exact h (by assumption) | with_reducible exact absurd h (by assumption))))) | apply hw_skip | apply hw_ret | refine g_k S ?_ | refine g_w S ?_) | (show HO _ _ _ _ _ _ _; first | apply ho_nil | refine g_q (qe S) ?_ | refine g_q (qg S) ?_ | refine g_q (ql S) ?_ | refine g_q (qC (hk)) ?_ | refine ws S ?_) | (show HQ _ _ _ _ _ _ _; first | apply hq_nil | refine k_q (qe S) ?_ | refine k_q (qg S) ?_ | refine k_q (ql S) ?_ | refine k_q (qC (hk)) ?_) | (show HD _ _ _ _ _ _ _ _; first | apply hd_nil | refine d_q 100 (by exact rfl) (fun _ => qe S) ?_ | refine dl S 100 ?_ | refine dg S 100 (fun _ _ => ?_) | refine d_q 0 (by exact rfl) (fun _ => qC (hk)) ?_ | refine d_q 1 (by exact rfl) (fun _ => qC (hk)) ?_ | refine d_q 2 (by exact rfl) (fun _ => qC (hk)) ?_ | refine d_q 3 (by exact rfl) (fun _ => qC (hk)) ?_ | refine da 101 ?_) | refine dx ?_ | apply dx0 | refine dxd ?_ | refine dxk ?_ | apply seqQ_normal | apply seqQ_ret | apply seqQ_exit | apply blkQ_here | refine g_bx ?_ | apply blkQ_ret | apply blkQ_normal | apply loopQ_ret | apply loopQ_exit | apply unQ_ret | apply unQ_exit | apply unQ_succ)
    have hst : plC bp ba m = plC bp ba (wrAt m a s 0) := by
      obtain ⟨mb, mo, mc⟩ := m
      simp only at hoff
      subst hoff
      simp only [wrAt, List.take_zero, splice_nil]
      by_cases h : mc = -1 <;> simp [h, plC]
    rw [hst]
    refine hw_loop (σ := Nat) (fun i => [(0, pt bp 0), (1, iv a), (2, bs s), (18, iv s.length), (19, iv i)]) (fun i => plC bp ba (wrAt m a s i) :: L) (fun i => i ≤ s.length ∧ (m.cut = -1 ∨ (i : Int) ≤ m.cut)) (fun i => s.length - i) 0 (by repeat (first | exact trivial | refine ⟨rfl, ?_⟩)) (List.Sublist.refl _) ⟨by omega, by omega⟩ ?_
    rintro i ⟨i1, i2⟩
    have hG2 := hG' (wrAt m a s i)
    have hlen := wrAt_len (i := i) h2
    have hcut : (m.cut = -1 ∧ (wrAt m a s i).cut = -1) ∨ (m.cut ≠ -1 ∧ (wrAt m a s i).cut = m.cut - i) := by
      unfold wrAt
      by_cases h : m.cut = -1
      · exact .inl ⟨h, by simp [h]⟩
      · exact .inr ⟨h, by simp [h]⟩
    by_cases hlt : i < s.length
    · have hP : Puts ((wrAt m a s i).b.map u8) (0 + ((a : Int) + (i : Int)).toNat) [.int .u8 (((s.getD (i : Int).toNat 0).toNat : Nat) : Int)] ((wrAt m a s (i + 1)).b.map u8) := by
        rw [wrAt_succ h2 hlt, List.map_set]
        have e : 0 + ((a : Int) + (i : Int)).toNat = a + i := by omega
        rw [e]
        exact puts_set (by simp; omega)
      have hnext : plC bp ba (wrAt m a s (i + 1)) = [(bp, .cells ⟨[sl ba 0 (wrAt m a s i).b.length (wrAt m a s i).b.length, .bool (wrAt m a s i).off, iv (max (-1) ((wrAt m a s i).cut - 1))]⟩ 155), (ba, .cells ⟨(wrAt m a s (i + 1)).b.map u8⟩ 5)] := by
        have e1 : (wrAt m a s (i + 1)).b.length = (wrAt m a s i).b.length := by rw [wrAt_len h2, wrAt_len h2]
        have e2 : (wrAt m a s (i + 1)).cut = max (-1) ((wrAt m a s i).cut - 1) := by
          have e3 : (wrAt m a s (i + 1)).cut = if m.cut = -1 then -1 else m.cut - ((i + 1 : Nat) : Int) := rfl
          rw [e3]
          rcases hcut with hcut | hcut
          · rw [if_pos hcut.1]; omega
          · rw [if_neg hcut.1]; omega
        have e4 : (wrAt m a s (i + 1)).off = (wrAt m a s i).off := rfl
        unfold plC
        rw [e1, e2, e4]
      repeat' (first | (show HW _ _ _ _ _ _; first | apply hw_seq | apply hw_region | apply hw_block | apply hw_exit | refine g_t ?_ | refine g_f ?_ | (refine g_b (fun h => ?_) (fun h => ?_) <;> ((try simp only [Bool.not_eq_eq_eq_not, Bool.not_true, Bool.not_false, decide_eq_true_eq, decide_eq_false_iff_not, Decidable.not_not, ne_eq, Bool.and_eq_true, beq_iff_eq, and_true, true_and, eq_self, decide_true, Bool.and_true, Bool.true_and, reduceCtorEq, not_true_eq_false, not_false_eq_true] at h); (try (exfalso; first | omega | with_reducible exact h (by assumption) | with_reducible exact absurd h (by assumption))))) | apply hw_skip | apply hw_ret | refine g_k S ?_ | refine g_w S ?_) | (show HO _ _ _ _ _ _ _; first | apply ho_nil | refine g_q (qe S) ?_ | refine g_q (qg S) ?_ | refine g_q (ql S) ?_ | refine ws S ?_) | (show HQ _ _ _ _ _ _ _; first | apply hq_nil | refine k_q (qe S) ?_ | refine k_q (qg S) ?_ | refine k_q (ql S) ?_) | (show HD _ _ _ _ _ _ _ _; first | apply hd_nil | refine d_q 100 (by exact rfl) (fun _ => qe S) ?_ | refine dl S 100 ?_ | refine dg S 100 (fun _ _ => ?_) | refine da 101 ?_) | refine dx ?_ | apply dx0 | refine dxd ?_ | refine dxk ?_ | apply seqQ_normal | apply seqQ_ret | apply seqQ_exit | apply blkQ_here | refine g_bx ?_ | apply blkQ_ret | apply blkQ_normal | apply loopQ_ret | apply loopQ_exit | apply unQ_ret | apply unQ_exit | apply unQ_succ)
      · have hk0 : kM m s.length = i := by
          unfold kM
          rcases hcut with hcut | hcut
          · omega
          · rw [if_neg hcut.1]
            omega
        refine er1 (L' := plC bp ba (wrOk m a s).1 :: L) ?_ ?_
        · simp only [wrOk, hk0, hoff, decide_eq_true hlt, Bool.or_true, List.flatten_cons]
          have e : plC bp ba (wrAt m a s i) = plC bp ba ⟨splice m.b a (s.take i), false, if m.cut = -1 then -1 else m.cut - i⟩ := rfl
          simp [plC, wrAt]
        · simp [wrOk, hk0, hlt, eV]
      · refine loopQ_normal (i + 1) (by repeat (first | exact trivial | refine ⟨rfl, ?_⟩)) ?_ ⟨by omega, by omega⟩ (by omega)
        rw [hnext]
        exact List.Sublist.refl _
    · repeat' (first | (show HW _ _ _ _ _ _; first | apply hw_seq | apply hw_region | apply hw_block | apply hw_exit | refine g_t ?_ | refine g_f ?_ | (refine g_b (fun h => ?_) (fun h => ?_) <;> ((try simp only [Bool.not_eq_eq_eq_not, Bool.not_true, Bool.not_false, decide_eq_true_eq, decide_eq_false_iff_not, Decidable.not_not, ne_eq, Bool.and_eq_true, beq_iff_eq, and_true, true_and, eq_self, decide_true, Bool.and_true, Bool.true_and, reduceCtorEq, not_true_eq_false, not_false_eq_true] at h); (try (exfalso; first | omega | with_reducible exact h (by assumption) | with_reducible exact absurd h (by assumption))))) | apply hw_skip | apply hw_ret | refine g_k S ?_ | refine g_w S ?_) | (show HO _ _ _ _ _ _ _; first | apply ho_nil | refine g_q (qe S) ?_ | refine g_q (qg S) ?_ | refine g_q (ql S) ?_ | refine ws S ?_) | (show HQ _ _ _ _ _ _ _; first | apply hq_nil | refine k_q (qe S) ?_ | refine k_q (qg S) ?_ | refine k_q (ql S) ?_) | (show HD _ _ _ _ _ _ _ _; first | apply hd_nil | refine d_q 100 (by exact rfl) (fun _ => qe S) ?_ | refine dl S 100 ?_ | refine dg S 100 (fun _ _ => ?_) | refine da 101 ?_) | refine dx ?_ | apply dx0 | refine dxd ?_ | refine dxk ?_ | apply seqQ_normal | apply seqQ_ret | apply seqQ_exit | apply blkQ_here | refine g_bx ?_ | apply blkQ_ret | apply blkQ_normal | apply loopQ_ret | apply loopQ_exit | apply unQ_ret | apply unQ_exit | apply unQ_succ)
      have hi : i = s.length := by omega
      subst hi
      have hk0 : kM m s.length = s.length := by
        unfold kM
        split
        · rfl
        · omega
      refine er1 (L' := plC bp ba (wrOk m a s).1 :: L) ?_ ?_
      · simp [plC, wrAt, wrOk, hk0, hoff]
      · simp [wrOk, hk0, eV]
end Go.HL
end

/-! JnA -/
section
namespace Go.HL
open Go Go.Proofs
set_option linter.unusedVariables false
set_option linter.unusedSimpArgs false

theorem snoc_ind {α : Type} {p : List α → Prop} (h0 : p []) (h1 : ∀ l a, p l → p (l ++ [a])) (l : List α) : p l := by
  have h : ∀ l : List α, p l.reverse := fun l => by
    induction l with
    | nil => exact h0
    | cons a l ih => rw [List.reverse_cons]; exact h1 _ _ ih
  have := h l.reverse
  rwa [List.reverse_reverse] at this
/-- a byte of a number -/
def bt (n : Int) (k : Nat) : UInt8 := UInt8.ofNat (n / 2 ^ (8 * k) % 256).toNat
theorem bt_val (n : Int) (k : Nat) : ((bt n k).toNat : Int) = n / 2 ^ (8 * k) % 256 := by
  unfold bt
  have h1 : 0 ≤ n / 2 ^ (8 * k) % 256 := Int.emod_nonneg _ (by decide)
  have h2 : n / 2 ^ (8 * k) % 256 < 256 := Int.emod_lt_of_pos _ (by decide)
  rw [UInt8.toNat_ofNat', Nat.mod_eq_of_lt (by omega)]
  omega
/-- the lowest bytes, the highest first -/
def numB (n : Int) : Nat → List UInt8
  | 0 => []
  | k + 1 => bt n k :: numB n k
theorem numB_len (n : Int) (k : Nat) : (numB n k).length = k := by
  induction k with
  | zero => rfl
  | succ k ih => simp [numB, ih]
def rdN (s : List UInt8) : Nat := s.foldl (fun n b => n * 256 + b.toNat) 0
theorem rdN_snoc (s : List UInt8) (b : UInt8) : rdN (s ++ [b]) = rdN s * 256 + b.toNat := by simp [rdN]
theorem rdN_lt (s : List UInt8) : rdN s < 256 ^ s.length := by
  refine snoc_ind (p := fun s => rdN s < 256 ^ s.length) (by simp [rdN]) (fun s b ih => ?_) s
  · rw [rdN_snoc]
    have := b.toNat_lt
    simp only [List.length_append, List.length_cons, List.length_nil, Nat.zero_add, Nat.pow_succ]
    omega
def crc1 (c : Nat) : Nat := (c / 2) ^^^ (3988292384 * (c % 2))
def crcN : Nat → Nat → Nat
  | 0, c => c
  | k + 1, c => crcN k (crc1 c)
theorem crcN_succ (k c : Nat) : crcN (k + 1) c = crc1 (crcN k c) := by
  induction k generalizing c with
  | zero => rfl
  | succ k ih => exact ih (crc1 c)
def crcB (c : Nat) (b : UInt8) : Nat := crcN 8 (c ^^^ b.toNat)
def crcR (s : List UInt8) : Nat := s.foldl crcB 4294967295
def crc (s : List UInt8) : Nat := 4294967295 - crcR s
theorem crc1_lt {c : Nat} (h : c < 4294967296) : crc1 c < 4294967296 := by
  unfold crc1
  exact Nat.xor_lt_two_pow (n := 32) (by omega) (by omega)
theorem crcN_lt {k c : Nat} (h : c < 4294967296) : crcN k c < 4294967296 := by
  induction k generalizing c with
  | zero => exact h
  | succ k ih => exact ih (crc1_lt h)
theorem xor_byte {c : Nat} (b : UInt8) (h : c < 4294967296) : c ^^^ b.toNat < 4294967296 := Nat.xor_lt_two_pow (n := 32) h (by have := b.toNat_lt; omega)
theorem crcB_lt {c : Nat} {b : UInt8} (h : c < 4294967296) : crcB c b < 4294967296 := crcN_lt (xor_byte b h)
theorem crcR_lt (s : List UInt8) : crcR s < 4294967296 := by
  refine snoc_ind (p := fun s => crcR s < 4294967296) (by decide) (fun s b ih => ?_) s
  rw [show crcR (s ++ [b]) = crcB (crcR s) b by simp [crcR]]; exact crcB_lt ih
theorem crc_val (c : Nat) (h : c < 4294967296) : ((((c : Int) / 2 ^ (1 : Int).toNat).toNat ^^^ ((3988292384 * (((c : Int).toNat &&& (1 : Int).toNat : Nat) : Int)) % 4294967296).toNat : Nat) : Int) = ((crc1 c : Nat) : Int) := by
  have e1 : ((c : Int) / 2 ^ (1 : Int).toNat).toNat = c / 2 := by simp; omega
  have e2 : ((c : Int).toNat &&& (1 : Int).toNat : Nat) = c % 2 := by simp [Nat.and_one_is_mod]
  have e3 : ((3988292384 * ((c % 2 : Nat) : Int)) % 4294967296).toNat = 3988292384 * (c % 2) := by omega
  rw [e1, e2, e3]
  rfl
attribute [local irreducible] HW HO HQ HD HC QOp Has Upd Puts Gets seqQ blkQ loopQ fnQ actQ nextP unQ MapF
theorem jsum_calls (s : List UInt8) (L : Heap) (hs : s.length ≤ 1000000) : HC Tryd.prog 92 [bs s] L (fun v L' => v = iv (crc s) ∧ L' = L) := by
  refine hc_enter (fun _ _ => Tryd.call92 _ _) Tryd.func92 rfl Tryd.ntmps92 (Nat.le_of_ble_eq_true rfl) ?_; simp only [args0, Nat.reduceAdd]
  repeat' (first | (show HW _ _ _ _ _ _; first | apply hw_seq | apply hw_region | apply hw_block | apply hw_exit | refine g_t ?_ | refine g_f ?_ | (refine g_b (fun h => ?_) (fun h => ?_) <;> ((try simp only [Bool.not_eq_eq_eq_not, Bool.not_true, Bool.not_false, decide_eq_true_eq, decide_eq_false_iff_not, Decidable.not_not, ne_eq, Bool.and_eq_true, beq_iff_eq, and_true, true_and, eq_self, decide_true, Bool.and_true, Bool.true_and, reduceCtorEq, not_true_eq_false, not_false_eq_true] at h); (try (exfalso; first | omega | with_reducible exact h (by assumption) | with_reducible exact absurd h (by assumption))))) | apply hw_skip | apply hw_ret) | (show HO _ _ _ _ _ _ _; first | apply ho_nil | refine g_q (qe S) ?_ | refine g_q (qt S) ?_ | refine g_q (qc8 S) ?_ | refine g_q (qc32 S) ?_ | refine g_q (qx32 S) ?_) | apply seqQ_normal | apply seqQ_ret | apply seqQ_exit | apply blkQ_here | refine g_bx ?_ | apply blkQ_ret | apply blkQ_normal | apply loopQ_ret | apply loopQ_exit | apply unQ_ret | apply unQ_exit | apply unQ_succ)
  refine hw_loop (σ := Nat) (fun i => [(0, bs s), (6, iv s.length), (7, iv i), (3, .int .u32 (crcR (s.take i)))]) (fun _ => L) (fun i => i ≤ s.length) (fun i => s.length - i) 0 (by repeat (first | exact trivial | refine ⟨rfl, ?_⟩)) (List.Sublist.refl _) (by omega) ?_
  intro i i1
  have hc := crcR_lt (s.take i)
  by_cases hlt : i < s.length
  · have hb := (s.getD (i : Int).toNat 0).toNat_lt
    repeat' (first | (show HW _ _ _ _ _ _; first | apply hw_seq | apply hw_region | apply hw_block | apply hw_exit | refine g_t ?_ | refine g_f ?_ | (refine g_b (fun h => ?_) (fun h => ?_) <;> ((try simp only [Bool.not_eq_eq_eq_not, Bool.not_true, Bool.not_false, decide_eq_true_eq, decide_eq_false_iff_not, Decidable.not_not, ne_eq, Bool.and_eq_true, beq_iff_eq, and_true, true_and, eq_self, decide_true, Bool.and_true, Bool.true_and, reduceCtorEq, not_true_eq_false, not_false_eq_true] at h); (try (exfalso; first | omega | with_reducible exact h (by assumption) | with_reducible exact absurd h (by assumption))))) | apply hw_skip | apply hw_ret) | (show HO _ _ _ _ _ _ _; first | apply ho_nil | refine g_q (qe S) ?_ | refine g_q (qt S) ?_ | refine g_q (qc8 S) ?_ | refine g_q (qc32 S) ?_ | refine g_q (qx32 S) ?_) | apply seqQ_normal | apply seqQ_ret | apply seqQ_exit | apply blkQ_here | refine g_bx ?_ | apply blkQ_ret | apply blkQ_normal | apply loopQ_ret | apply loopQ_exit | apply unQ_ret | apply unQ_exit | apply unQ_succ)
    have e0 : (((crcR (s.take i) : Nat) : Int).toNat ^^^ (((s.getD (i : Int).toNat 0).toNat : Nat) : Int).toNat : Nat) = crcR (s.take i) ^^^ (s.getD i 0).toNat := by simp
    rw [e0]
    have hx := xor_byte (s.getD i 0) hc
    refine hw_loop (σ := Nat) (fun j => [(0, bs s), (6, iv s.length), (7, iv i), (16, iv j), (3, .int .u32 (crcN j (crcR (s.take i) ^^^ (s.getD i 0).toNat)))]) (fun _ => L) (fun j => j ≤ 8) (fun j => 8 - j) 0 (by repeat (first | exact trivial | refine ⟨rfl, ?_⟩)) (List.Sublist.refl _) (by omega) ?_
    intro j j1
    have hcj := crcN_lt (k := j) hx
    by_cases hlt2 : j < 8
    · repeat' (first | (show HW _ _ _ _ _ _; first | apply hw_seq | apply hw_region | apply hw_block | apply hw_exit | refine g_t ?_ | refine g_f ?_ | (refine g_b (fun h => ?_) (fun h => ?_) <;> ((try simp only [Bool.not_eq_eq_eq_not, Bool.not_true, Bool.not_false, decide_eq_true_eq, decide_eq_false_iff_not, Decidable.not_not, ne_eq, Bool.and_eq_true, beq_iff_eq, and_true, true_and, eq_self, decide_true, Bool.and_true, Bool.true_and, reduceCtorEq, not_true_eq_false, not_false_eq_true] at h); (try (exfalso; first | omega | with_reducible exact h (by assumption) | with_reducible exact absurd h (by assumption))))) | apply hw_skip | apply hw_ret) | (show HO _ _ _ _ _ _ _; first | apply ho_nil | refine g_q (qe S) ?_ | refine g_q (qt S) ?_ | refine g_q (qc8 S) ?_ | refine g_q (qc32 S) ?_ | refine g_q (qx32 S) ?_) | apply seqQ_normal | apply seqQ_ret | apply seqQ_exit | apply blkQ_here | refine g_bx ?_ | apply blkQ_ret | apply blkQ_normal | apply loopQ_ret | apply loopQ_exit | apply unQ_ret | apply unQ_exit | apply unQ_succ)
      refine loopQ_normal (j + 1) ?_ (List.Sublist.refl _) (by omega) (by omega)
      rw [crcN_succ, ← crc_val _ hcj]
      repeat (first | exact trivial | refine ⟨rfl, ?_⟩)
    · have hj : j = 8 := by omega
      subst hj
      repeat' (first | (show HW _ _ _ _ _ _; first | apply hw_seq | apply hw_region | apply hw_block | apply hw_exit | refine g_t ?_ | refine g_f ?_ | (refine g_b (fun h => ?_) (fun h => ?_) <;> ((try simp only [Bool.not_eq_eq_eq_not, Bool.not_true, Bool.not_false, decide_eq_true_eq, decide_eq_false_iff_not, Decidable.not_not, ne_eq, Bool.and_eq_true, beq_iff_eq, and_true, true_and, eq_self, decide_true, Bool.and_true, Bool.true_and, reduceCtorEq, not_true_eq_false, not_false_eq_true] at h); (try (exfalso; first | omega | with_reducible exact h (by assumption) | with_reducible exact absurd h (by assumption))))) | apply hw_skip | apply hw_ret) | (show HO _ _ _ _ _ _ _; first | apply ho_nil | refine g_q (qe S) ?_ | refine g_q (qt S) ?_ | refine g_q (qc8 S) ?_ | refine g_q (qc32 S) ?_ | refine g_q (qx32 S) ?_) | apply seqQ_normal | apply seqQ_ret | apply seqQ_exit | apply blkQ_here | refine g_bx ?_ | apply blkQ_ret | apply blkQ_normal | apply loopQ_ret | apply loopQ_exit | apply unQ_ret | apply unQ_exit | apply unQ_succ)
      refine loopQ_normal (i + 1) ?_ (List.Sublist.refl _) (by omega) (by omega)
      have e : crcR (s.take (i + 1)) = crcN 8 (crcR (s.take i) ^^^ (s.getD i 0).toNat) := by
        rw [List.take_succ_eq_append_getElem hlt]
        rw [show ∀ l b, crcR (l ++ [b]) = crcB (crcR l) b from fun l b => by simp [crcR]]
        simp [crcB, List.getD, hlt]
      rw [e]
      repeat (first | exact trivial | refine ⟨rfl, ?_⟩)
  · repeat' (first | (show HW _ _ _ _ _ _; first | apply hw_seq | apply hw_region | apply hw_block | apply hw_exit | refine g_t ?_ | refine g_f ?_ | (refine g_b (fun h => ?_) (fun h => ?_) <;> ((try simp only [Bool.not_eq_eq_eq_not, Bool.not_true, Bool.not_false, decide_eq_true_eq, decide_eq_false_iff_not, Decidable.not_not, ne_eq, Bool.and_eq_true, beq_iff_eq, and_true, true_and, eq_self, decide_true, Bool.and_true, Bool.true_and, reduceCtorEq, not_true_eq_false, not_false_eq_true] at h); (try (exfalso; first | omega | with_reducible exact h (by assumption) | with_reducible exact absurd h (by assumption))))) | apply hw_skip | apply hw_ret) | (show HO _ _ _ _ _ _ _; first | apply ho_nil | refine g_q (qe S) ?_ | refine g_q (qt S) ?_ | refine g_q (qc8 S) ?_ | refine g_q (qc32 S) ?_ | refine g_q (qx32 S) ?_) | apply seqQ_normal | apply seqQ_ret | apply seqQ_exit | apply blkQ_here | refine g_bx ?_ | apply blkQ_ret | apply blkQ_normal | apply loopQ_ret | apply loopQ_exit | apply unQ_ret | apply unQ_exit | apply unQ_succ)
    have hi : i = s.length := by omega
    subst hi
    (refine fn_ret1 rfl rfl ?_ ⟨?_, rfl⟩; (next => (repeat (first | exact List.Sublist.refl _ | apply List.Sublist.cons))))
    rw [List.take_length] at hc ⊢
    exact congrArg iv (by unfold crc; omega)
end Go.HL
end

/-! JnB -/
section
namespace Go.HL
open Go Go.Proofs
set_option linter.unusedVariables false
set_option linter.unusedSimpArgs false

theorem rd_bytes (b E : Nat) (l : List UInt8) (L : Heap) : Rd uc 1 ([(b, .cells ⟨l.map u8⟩ E)] :: L) (some ⟨b, 0, none⟩) l := by
  refine .inr ⟨b, 0, l.map u8, E, (0, 0), rfl, has_here, fun k x hx => ?_⟩
  have := gets_row (enc := uc) (sz := 1) (fun _ => rfl) l [] [] k x hx
  simpa [u8_flat] using this
theorem zeros_set (n i : Nat) (x : Int) (h : i < n) : (zeros (n - i) ++ numB x i).set (n - 1 - i) (bt x i) = zeros (n - (i + 1)) ++ numB x (i + 1) := by
  have e : zeros (n - i) = zeros (n - (i + 1)) ++ [0] := by
    rw [show n - i = (n - (i + 1)) + 1 by omega]
    simp [zeros, List.replicate_succ']
  rw [e, List.append_assoc, List.set_append_right _ _ (by simp [zeros]; omega)]
  simp [zeros, numB, show n - 1 - i - (n - (i + 1)) = 0 by omega]
structure Ent where
  n : Int
  s : St
def enL (e : Ent) : List Value := [iv e.n, iv e.s.ph, iv e.s.pr, iv e.s.att]
def head (e : Ent) : List UInt8 := numB e.n 4 ++ numB e.s.ph 1 ++ numB e.s.pr 4 ++ numB e.s.att 4
def bodyM (e : Ent) : List UInt8 := head e ++ numB (crc (head e)) 4
attribute [local irreducible] HW HO HQ HD HC QOp Has Upd Puts Gets seqQ blkQ loopQ fnQ actQ nextP unQ MapF
theorem number_calls (n : Int) (many : Nat) (L : Heap) (hm : many ≤ 8) : HC Tryd.prog 90 [iv n, iv many] L (fun v L' => v = bs (numB n many) ∧ L' = L) := by
  refine hc_enter (fun _ _ => Tryd.call90 _ _) Tryd.func90 rfl Tryd.ntmps90 (Nat.le_of_ble_eq_true rfl) ?_; simp only [args0, Nat.reduceAdd]
  repeat' (first | (show HW _ _ _ _ _ _; first | apply hw_seq | apply hw_region | apply hw_block | apply hw_exit | refine g_t ?_ | refine g_f ?_ | (refine g_b (fun h => ?_) (fun h => ?_) <;> ((try simp only [Bool.not_eq_eq_eq_not, Bool.not_true, Bool.not_false, decide_eq_true_eq, decide_eq_false_iff_not, Decidable.not_not, ne_eq, Bool.and_eq_true, beq_iff_eq, and_true, true_and, eq_self, decide_true, Bool.and_true, Bool.true_and, reduceCtorEq, not_true_eq_false, not_false_eq_true] at h); (try (exfalso; first | omega | with_reducible exact h (by assumption) | with_reducible exact absurd h (by assumption))))) | apply hw_skip | apply hw_ret) | (show HO _ _ _ _ _ _ _; first | apply ho_nil | refine g_q (qe S) ?_ | refine g_q (qt S) ?_ | refine g_q (qc8 S) ?_ | refine g_q (qc32 S) ?_ | refine ws S ?_ | refine wm S (fun b => ?_) | refine wM S (fun b => ?_)) | apply seqQ_normal | apply seqQ_ret | apply seqQ_exit | apply blkQ_here | refine g_bx ?_ | apply blkQ_ret | apply blkQ_normal | apply loopQ_ret | apply loopQ_exit | apply unQ_ret | apply unQ_exit | apply unQ_succ)
  refine hw_loop (σ := Nat) (fun i => [(0, iv n), (1, iv many), (5, sl b 0 many many), (9, iv many), (10, iv i)]) (fun i => [(b, .cells ⟨(zeros (many - i) ++ numB n i).map u8⟩ 5)] :: L) (fun i => i ≤ many) (fun i => many - i) 0 (by repeat (first | exact trivial | refine ⟨rfl, ?_⟩)) ?_ (by omega) ?_
  · simp [numB, u8_zeros, zeros, u8]
  · intro i i1
    by_cases hlt : i < many
    · have hP : Puts ((zeros (many - i) ++ numB n i).map u8) (0 + ((many : Int) - 1 - (i : Int)).toNat) [.int .u8 (n / 2 ^ (8 * (i : Int)).toNat % 256)] ((zeros (many - (i + 1)) ++ numB n (i + 1)).map u8) := by
        rw [← zeros_set many i n hlt, List.map_set]
        have e : 0 + ((many : Int) - 1 - (i : Int)).toNat = many - 1 - i := by omega
        have e2 : (8 * (i : Int)).toNat = 8 * i := by omega
        have e3 : Value.int .u8 (n / 2 ^ (8 * (i : Int)).toNat % 256) = u8 (bt n i) := by unfold u8; rw [bt_val, e2]
        rw [e, e3]
        exact puts_set (by simp [zeros, numB_len]; omega)
      repeat' (first | (show HW _ _ _ _ _ _; first | apply hw_seq | apply hw_region | apply hw_block | apply hw_exit | refine g_t ?_ | refine g_f ?_ | (refine g_b (fun h => ?_) (fun h => ?_) <;> ((try simp only [Bool.not_eq_eq_eq_not, Bool.not_true, Bool.not_false, decide_eq_true_eq, decide_eq_false_iff_not, Decidable.not_not, ne_eq, Bool.and_eq_true, beq_iff_eq, and_true, true_and, eq_self, decide_true, Bool.and_true, Bool.true_and, reduceCtorEq, not_true_eq_false, not_false_eq_true] at h); (try (exfalso; first | omega | with_reducible exact h (by assumption) | with_reducible exact absurd h (by assumption))))) | apply hw_skip | apply hw_ret) | (show HO _ _ _ _ _ _ _; first | apply ho_nil | refine g_q (qe S) ?_ | refine g_q (qt S) ?_ | refine g_q (qc8 S) ?_ | refine g_q (qc32 S) ?_ | refine ws S ?_ | refine wm S (fun b => ?_) | refine wM S (fun b => ?_)) | apply seqQ_normal | apply seqQ_ret | apply seqQ_exit | apply blkQ_here | refine g_bx ?_ | apply blkQ_ret | apply blkQ_normal | apply loopQ_ret | apply loopQ_exit | apply unQ_ret | apply unQ_exit | apply unQ_succ)
      refine loopQ_normal (i + 1) (by repeat (first | exact trivial | refine ⟨rfl, ?_⟩)) (List.Sublist.refl _) (by omega) (by omega)
    · have hi : i = many := by omega
      subst hi
      repeat' (first | (show HW _ _ _ _ _ _; first | apply hw_seq | apply hw_region | apply hw_block | apply hw_exit | refine g_t ?_ | refine g_f ?_ | (refine g_b (fun h => ?_) (fun h => ?_) <;> ((try simp only [Bool.not_eq_eq_eq_not, Bool.not_true, Bool.not_false, decide_eq_true_eq, decide_eq_false_iff_not, Decidable.not_not, ne_eq, Bool.and_eq_true, beq_iff_eq, and_true, true_and, eq_self, decide_true, Bool.and_true, Bool.true_and, reduceCtorEq, not_true_eq_false, not_false_eq_true] at h); (try (exfalso; first | omega | with_reducible exact h (by assumption) | with_reducible exact absurd h (by assumption))))) | apply hw_skip | apply hw_ret) | (show HO _ _ _ _ _ _ _; first | apply ho_nil | refine g_q (qe S) ?_ | refine g_q (qt S) ?_ | refine g_q (qc8 S) ?_ | refine g_q (qc32 S) ?_ | refine ws S ?_ | refine wm S (fun b => ?_) | refine wM S (fun b => ?_)) | apply seqQ_normal | apply seqQ_ret | apply seqQ_exit | apply blkQ_here | refine g_bx ?_ | apply blkQ_ret | apply blkQ_normal | apply loopQ_ret | apply loopQ_exit | apply unQ_ret | apply unQ_exit | apply unQ_succ)
      refine g_q (qtx S (rd_bytes _ _ _ _) ?_) ?_
      · simp [zeros, numB_len]
      · repeat' (first | (show HW _ _ _ _ _ _; first | apply hw_seq | apply hw_region | apply hw_block | apply hw_exit | refine g_t ?_ | refine g_f ?_ | (refine g_b (fun h => ?_) (fun h => ?_) <;> ((try simp only [Bool.not_eq_eq_eq_not, Bool.not_true, Bool.not_false, decide_eq_true_eq, decide_eq_false_iff_not, Decidable.not_not, ne_eq, Bool.and_eq_true, beq_iff_eq, and_true, true_and, eq_self, decide_true, Bool.and_true, Bool.true_and, reduceCtorEq, not_true_eq_false, not_false_eq_true] at h); (try (exfalso; first | omega | with_reducible exact h (by assumption) | with_reducible exact absurd h (by assumption))))) | apply hw_skip | apply hw_ret) | (show HO _ _ _ _ _ _ _; first | apply ho_nil | refine g_q (qe S) ?_ | refine g_q (qt S) ?_ | refine g_q (qc8 S) ?_ | refine g_q (qc32 S) ?_ | refine ws S ?_ | refine wm S (fun b => ?_) | refine wM S (fun b => ?_)) | apply seqQ_normal | apply seqQ_ret | apply seqQ_exit | apply blkQ_here | refine g_bx ?_ | apply blkQ_ret | apply blkQ_normal | apply loopQ_ret | apply loopQ_exit | apply unQ_ret | apply unQ_exit | apply unQ_succ)
        refine fn_ret1 rfl rfl (List.sublist_cons_self _ _) ⟨?_, rfl⟩
        simp [zeros]
theorem jread_calls (s : List UInt8) (L : Heap) (hs : s.length ≤ 7) : HC Tryd.prog 94 [bs s] L (fun v L' => v = iv (rdN s) ∧ L' = L) := by
  refine hc_enter (fun _ _ => Tryd.call94 _ _) Tryd.func94 rfl Tryd.ntmps94 (Nat.le_of_ble_eq_true rfl) ?_; simp only [args0, Nat.reduceAdd]
  repeat' (first | (show HW _ _ _ _ _ _; first | apply hw_seq | apply hw_region | apply hw_block | apply hw_exit | refine g_t ?_ | refine g_f ?_ | (refine g_b (fun h => ?_) (fun h => ?_) <;> ((try simp only [Bool.not_eq_eq_eq_not, Bool.not_true, Bool.not_false, decide_eq_true_eq, decide_eq_false_iff_not, Decidable.not_not, ne_eq, Bool.and_eq_true, beq_iff_eq, and_true, true_and, eq_self, decide_true, Bool.and_true, Bool.true_and, reduceCtorEq, not_true_eq_false, not_false_eq_true] at h); (try (exfalso; first | omega | with_reducible exact h (by assumption) | with_reducible exact absurd h (by assumption))))) | apply hw_skip | apply hw_ret) | (show HO _ _ _ _ _ _ _; first | apply ho_nil | refine g_q (qe S) ?_ | refine g_q (qt S) ?_ | refine g_q (qc8 S) ?_ | refine g_q (qc32 S) ?_) | apply seqQ_normal | apply seqQ_ret | apply seqQ_exit | apply blkQ_here | refine g_bx ?_ | apply blkQ_ret | apply blkQ_normal | apply loopQ_ret | apply loopQ_exit | apply unQ_ret | apply unQ_exit | apply unQ_succ)
  refine hw_loop (σ := Nat) (fun i => [(0, bs s), (6, iv s.length), (7, iv i), (3, iv (rdN (s.take i)))]) (fun _ => L) (fun i => i ≤ s.length) (fun i => s.length - i) 0 (by repeat (first | exact trivial | refine ⟨rfl, ?_⟩)) (List.Sublist.refl _) (by omega) ?_
  intro i i1
  by_cases hlt : i < s.length
  · have hb := (s.getD (i : Int).toNat 0).toNat_lt
    have hr := rdN_lt (s.take i)
    have hr2 : rdN (s.take i) < 281474976710656 := by
      have : 256 ^ (s.take i).length ≤ 256 ^ 6 := Nat.pow_le_pow_right (by decide) (by simp; omega)
      omega
    repeat' (first | (show HW _ _ _ _ _ _; first | apply hw_seq | apply hw_region | apply hw_block | apply hw_exit | refine g_t ?_ | refine g_f ?_ | (refine g_b (fun h => ?_) (fun h => ?_) <;> ((try simp only [Bool.not_eq_eq_eq_not, Bool.not_true, Bool.not_false, decide_eq_true_eq, decide_eq_false_iff_not, Decidable.not_not, ne_eq, Bool.and_eq_true, beq_iff_eq, and_true, true_and, eq_self, decide_true, Bool.and_true, Bool.true_and, reduceCtorEq, not_true_eq_false, not_false_eq_true] at h); (try (exfalso; first | omega | with_reducible exact h (by assumption) | with_reducible exact absurd h (by assumption))))) | apply hw_skip | apply hw_ret) | (show HO _ _ _ _ _ _ _; first | apply ho_nil | refine g_q (qe S) ?_ | refine g_q (qt S) ?_ | refine g_q (qc8 S) ?_ | refine g_q (qc32 S) ?_) | apply seqQ_normal | apply seqQ_ret | apply seqQ_exit | apply blkQ_here | refine g_bx ?_ | apply blkQ_ret | apply blkQ_normal | apply loopQ_ret | apply loopQ_exit | apply unQ_ret | apply unQ_exit | apply unQ_succ)
    refine loopQ_normal (i + 1) ?_ (List.Sublist.refl _) (by omega) (by omega)
    have e : ((((rdN (s.take i) : Nat) : Int) * 2 ^ Int.toNat 8).toNat ||| (((s.getD (i : Int).toNat 0).toNat : Nat) : Int).toNat : Nat) = rdN (s.take (i + 1)) := by
      rw [List.take_succ_eq_append_getElem hlt, rdN_snoc]
      have e1 : (((rdN (s.take i) : Nat) : Int) * 2 ^ Int.toNat 8).toNat = (rdN (s.take i)) <<< 8 := by rw [Nat.shiftLeft_eq]; simp; omega
      have e2 : (((s.getD (i : Int).toNat 0).toNat : Nat) : Int).toNat = (s[i]).toNat := by simp [List.getD, hlt]
      rw [e1, e2, ← Nat.shiftLeft_add_eq_or_of_lt (s[i]).toNat_lt, Nat.shiftLeft_eq]
    rw [← e]
    repeat (first | exact trivial | refine ⟨rfl, ?_⟩)
  · repeat' (first | (show HW _ _ _ _ _ _; first | apply hw_seq | apply hw_region | apply hw_block | apply hw_exit | refine g_t ?_ | refine g_f ?_ | (refine g_b (fun h => ?_) (fun h => ?_) <;> ((try simp only [Bool.not_eq_eq_eq_not, Bool.not_true, Bool.not_false, decide_eq_true_eq, decide_eq_false_iff_not, Decidable.not_not, ne_eq, Bool.and_eq_true, beq_iff_eq, and_true, true_and, eq_self, decide_true, Bool.and_true, Bool.true_and, reduceCtorEq, not_true_eq_false, not_false_eq_true] at h); (try (exfalso; first | omega | with_reducible exact h (by assumption) | with_reducible exact absurd h (by assumption))))) | apply hw_skip | apply hw_ret) | (show HO _ _ _ _ _ _ _; first | apply ho_nil | refine g_q (qe S) ?_ | refine g_q (qt S) ?_ | refine g_q (qc8 S) ?_ | refine g_q (qc32 S) ?_) | apply seqQ_normal | apply seqQ_ret | apply seqQ_exit | apply blkQ_here | refine g_bx ?_ | apply blkQ_ret | apply blkQ_normal | apply loopQ_ret | apply loopQ_exit | apply unQ_ret | apply unQ_exit | apply unQ_succ)
    have hi : i = s.length := by omega
    subst hi
    (refine fn_ret1 rfl rfl ?_ ⟨?_, rfl⟩; (next => (repeat (first | exact List.Sublist.refl _ | apply List.Sublist.cons))))
    rw [List.take_length]
theorem body_calls (e : Ent) (L : Heap) : HC Tryd.prog 135 [.agg ⟨enL e⟩] L (fun v L' => v = bs (bodyM e) ∧ L' = L) := by
  have k1 : ∀ L, HC Tryd.prog 90 [iv e.n, iv 4] L (fun v L' => v = bs (numB e.n 4) ∧ L' = L) := fun L => number_calls e.n 4 L (by decide)
  have k2 : ∀ L, HC Tryd.prog 90 [iv e.s.ph, iv 1] L (fun v L' => v = bs (numB e.s.ph 1) ∧ L' = L) := fun L => number_calls e.s.ph 1 L (by decide)
  have k3 : ∀ L, HC Tryd.prog 90 [iv e.s.pr, iv 4] L (fun v L' => v = bs (numB e.s.pr 4) ∧ L' = L) := fun L => number_calls e.s.pr 4 L (by decide)
  have k4 : ∀ L, HC Tryd.prog 90 [iv e.s.att, iv 4] L (fun v L' => v = bs (numB e.s.att 4) ∧ L' = L) := fun L => number_calls e.s.att 4 L (by decide)
  have k5 : ∀ L, HC Tryd.prog 90 [iv (crc (head e)), iv 4] L (fun v L' => v = bs (numB (crc (head e)) 4) ∧ L' = L) := fun L => number_calls _ 4 L (by decide)
  have k6 : ∀ L, HC Tryd.prog 92 [bs (head e)] L (fun v L' => v = iv (crc (head e)) ∧ L' = L) := fun L => jsum_calls _ L (by simp [head, numB_len])
  have n1 := numB_len e.n 4
  have n2 := numB_len e.s.ph 1
  have n3 := numB_len e.s.pr 4
  have n4 := numB_len e.s.att 4
  have n5 := numB_len (crc (head e)) 4
  refine hc_enter (fun _ _ => Tryd.call135 _ _) Tryd.func135 rfl Tryd.ntmps135 (Nat.le_of_ble_eq_true rfl) ?_; simp only [args0, Nat.reduceAdd]
  repeat' (first | (show HW _ _ _ _ _ _; first | apply hw_seq | apply hw_region | apply hw_ret | refine g_k S ?_) | (show HO _ _ _ _ _ _ _; first | apply ho_nil | refine g_q (qe S) ?_ | refine g_q (ql S) ?_ | refine g_q (qC (k1 _)) ?_ | refine g_q (qC (k2 _)) ?_ | refine g_q (qC (k3 _)) ?_ | refine g_q (qC (k4 _)) ?_ | refine g_q (qC (k5 _)) ?_ | refine g_q (qC (k6 _)) ?_ | refine wb (fun b => ?_)) | (show HQ _ _ _ _ _ _ _; first | apply hq_nil | refine k_q (qe S) ?_ | refine k_q (ql S) ?_ | refine k_q (qC (k1 _)) ?_ | refine k_q (qC (k2 _)) ?_ | refine k_q (qC (k3 _)) ?_ | refine k_q (qC (k4 _)) ?_ | refine k_q (qC (k5 _)) ?_ | refine k_q (qC (k6 _)) ?_) | apply seqQ_normal | apply seqQ_ret)
  refine fn_ret1 rfl rfl (List.sublist_cons_self _ _) ⟨?_, rfl⟩
  simp [bodyM, head]
def commitB : List UInt8 := [165]
def heldM (k : Int) (s : List UInt8) : Ent :=
  let e : Ent := ⟨rdN (s.take 4), rdN ((s.take 5).drop 4), rdN ((s.take 9).drop 5), rdN ((s.take 13).drop 9)⟩
  if e.n < 1 ∨ e.n % 2 ≠ k ∨ bodyM e ++ commitB ≠ s then ⟨0, 0, 0, 0⟩ else e
def parse (s : List UInt8) : Ent := ⟨rdN (s.take 4), rdN ((s.take 5).drop 4), rdN ((s.take 9).drop 5), rdN ((s.take 13).drop 9)⟩
theorem heldM_eq (k : Int) (s : List UInt8) : heldM k s = if (parse s).n < 1 ∨ (parse s).n % 2 ≠ k ∨ bodyM (parse s) ++ commitB ≠ s then ⟨0, 0, 0, 0⟩ else parse s := rfl
theorem held_calls (k : Int) (s : List UInt8) (L : Heap) (hs : s.length = 18) : HC Tryd.prog 104 [iv k, bs s] L (fun v L' => v = .agg ⟨enL (heldM k s)⟩ ∧ L' = L) := by
  have k1 : ∀ L, HC Tryd.prog 94 [bs (s.take 4)] L (fun v L' => v = iv (rdN (s.take 4)) ∧ L' = L) := fun L => jread_calls _ L (by simp; omega)
  have k2 : ∀ L, HC Tryd.prog 94 [bs ((s.take 5).drop 4)] L (fun v L' => v = iv (rdN ((s.take 5).drop 4)) ∧ L' = L) := fun L => jread_calls _ L (by simp; omega)
  have k3 : ∀ L, HC Tryd.prog 94 [bs ((s.take 9).drop 5)] L (fun v L' => v = iv (rdN ((s.take 9).drop 5)) ∧ L' = L) := fun L => jread_calls _ L (by simp; omega)
  have k4 : ∀ L, HC Tryd.prog 94 [bs ((s.take 13).drop 9)] L (fun v L' => v = iv (rdN ((s.take 13).drop 9)) ∧ L' = L) := fun L => jread_calls _ L (by simp; omega)
  have k5 : ∀ L, HC Tryd.prog 135 [.agg ⟨[iv (rdN (s.take 4)), iv (rdN ((s.take 5).drop 4)), iv (rdN ((s.take 9).drop 5)), iv (rdN ((s.take 13).drop 9))]⟩] L (fun v L' => v = bs (bodyM (parse s)) ∧ L' = L) := fun L => body_calls (parse s) L
  have hn : rdN (s.take 4) < 4294967296 := by
    have := rdN_lt (s.take 4)
    rwa [show (s.take 4).length = 4 by simp; omega] at this
  have hb : (bodyM (parse s)).length = 17 := by simp [bodyM, head, numB_len]
  rw [heldM_eq]
  refine hc_enter (fun _ _ => Tryd.call104 _ _) Tryd.func104 rfl Tryd.ntmps104 (Nat.le_of_ble_eq_true rfl) ?_; simp only [args0, Nat.reduceAdd]
  repeat' (first | (show HW _ _ _ _ _ _; first | apply hw_seq | apply hw_region | refine g_t ?_ | refine g_f ?_ | (refine g_b (fun h => ?_) (fun h => ?_) <;> ((try simp only [Bool.not_eq_eq_eq_not, Bool.not_true, Bool.not_false, decide_eq_true_eq, decide_eq_false_iff_not, Decidable.not_not, ne_eq, Bool.and_eq_true, beq_iff_eq, and_true, true_and, eq_self, decide_true, Bool.and_true, Bool.true_and, reduceCtorEq, not_true_eq_false, not_false_eq_true] at h); (try (exfalso; first | omega | with_reducible exact h (by assumption) | with_reducible exact absurd h (by assumption))))) | apply hw_skip | apply hw_ret | refine g_k S ?_ | refine g_w S ?_) | (show HO _ _ _ _ _ _ _; first | apply ho_nil | refine g_q (qe S) ?_ | refine g_q (ql S) ?_ | refine g_q (qs S) ?_ | refine g_q (qb S) ?_ | refine g_q (qbA S) ?_ | refine g_q (qSl S) ?_ | refine g_q (qSh S) ?_ | refine g_q (qSb S) ?_ | refine g_q (qC (k1 _)) ?_ | refine g_q (qC (k2 _)) ?_ | refine g_q (qC (k3 _)) ?_ | refine g_q (qC (k4 _)) ?_ | refine g_q (qC (k5 _)) ?_ | refine g_n ?_ | refine g_on ?_ | (refine g_s (fun h => ?_) (fun h => ?_) <;> ((try simp only [Bool.not_eq_eq_eq_not, Bool.not_true, Bool.not_false, decide_eq_true_eq, decide_eq_false_iff_not, Decidable.not_not, ne_eq, Bool.and_eq_true, beq_iff_eq, and_true, true_and, eq_self, decide_true, Bool.and_true, Bool.true_and, reduceCtorEq, not_true_eq_false, not_false_eq_true] at h); (try (exfalso; first | omega | with_reducible exact h (by assumption) | with_reducible exact absurd h (by assumption))))) | refine wa S (fun b => ?_) | refine ws S ?_) | (show HQ _ _ _ _ _ _ _; first | apply hq_nil | refine k_q (qe S) ?_ | refine k_q (ql S) ?_ | refine k_q (qs S) ?_ | refine k_q (qb S) ?_ | refine k_q (qbA S) ?_ | refine k_q (qSl S) ?_ | refine k_q (qSh S) ?_ | refine k_q (qSb S) ?_ | refine k_q (qC (k1 _)) ?_ | refine k_q (qC (k2 _)) ?_ | refine k_q (qC (k3 _)) ?_ | refine k_q (qC (k4 _)) ?_ | refine k_q (qC (k5 _)) ?_ | refine k_n ?_ | (refine k_s (fun h => ?_) (fun h => ?_) <;> ((try simp only [Bool.not_eq_eq_eq_not, Bool.not_true, Bool.not_false, decide_eq_true_eq, decide_eq_false_iff_not, Decidable.not_not, ne_eq, Bool.and_eq_true, beq_iff_eq, and_true, true_and, eq_self, decide_true, Bool.and_true, Bool.true_and, reduceCtorEq, not_true_eq_false, not_false_eq_true] at h); (try (exfalso; first | omega | with_reducible exact h (by assumption) | with_reducible exact absurd h (by assumption)))))) | (show HD _ _ _ _ _ _ _ _; first | apply hd_nil | refine d_q 100 (by exact rfl) (fun _ => qe S) ?_ | refine d_q 100 (by exact rfl) (fun _ => qb S) ?_ | refine d_q 100 (by exact rfl) (fun _ => qbA S) ?_ | refine d_q 100 (by exact rfl) (fun _ => qSl S) ?_ | refine d_q 100 (by exact rfl) (fun _ => qSh S) ?_ | refine d_q 100 (by exact rfl) (fun _ => qSb S) ?_ | refine dl S 100 ?_ | refine ds S 100 ?_ | refine d_n 100 ?_ | (refine d_sp 100 (fun h => ?_) (fun h => ?_) <;> ((try simp only [Bool.not_eq_eq_eq_not, Bool.not_true, Bool.not_false, decide_eq_true_eq, decide_eq_false_iff_not, Decidable.not_not, ne_eq, Bool.and_eq_true, beq_iff_eq, and_true, true_and, eq_self, decide_true, Bool.and_true, Bool.true_and, reduceCtorEq, not_true_eq_false, not_false_eq_true] at h); (try (exfalso; first | omega | with_reducible exact h (by assumption) | with_reducible exact absurd h (by assumption))))) | refine d_q 0 (by exact rfl) (fun _ => qC (k1 _)) ?_ | refine d_q 1 (by exact rfl) (fun _ => qC (k1 _)) ?_ | refine d_q 2 (by exact rfl) (fun _ => qC (k1 _)) ?_ | refine d_q 3 (by exact rfl) (fun _ => qC (k1 _)) ?_ | refine d_q 0 (by exact rfl) (fun _ => qC (k2 _)) ?_ | refine d_q 1 (by exact rfl) (fun _ => qC (k2 _)) ?_ | refine d_q 2 (by exact rfl) (fun _ => qC (k2 _)) ?_ | refine d_q 3 (by exact rfl) (fun _ => qC (k2 _)) ?_ | refine d_q 0 (by exact rfl) (fun _ => qC (k3 _)) ?_ | refine d_q 1 (by exact rfl) (fun _ => qC (k3 _)) ?_ | refine d_q 2 (by exact rfl) (fun _ => qC (k3 _)) ?_ | refine d_q 3 (by exact rfl) (fun _ => qC (k3 _)) ?_ | refine d_q 0 (by exact rfl) (fun _ => qC (k4 _)) ?_ | refine d_q 1 (by exact rfl) (fun _ => qC (k4 _)) ?_ | refine d_q 2 (by exact rfl) (fun _ => qC (k4 _)) ?_ | refine d_q 3 (by exact rfl) (fun _ => qC (k4 _)) ?_ | refine d_q 0 (by exact rfl) (fun _ => qC (k5 _)) ?_ | refine d_q 1 (by exact rfl) (fun _ => qC (k5 _)) ?_ | refine d_q 2 (by exact rfl) (fun _ => qC (k5 _)) ?_ | refine d_q 3 (by exact rfl) (fun _ => qC (k5 _)) ?_ | refine da 101 ?_) | refine dx ?_ | apply dx0 | refine dxd ?_ | refine dxk ?_ | apply seqQ_normal | apply seqQ_ret)
  all_goals refine sp1 (LS.skip _ (LS.skip _ (LS.refl _))) ⟨?_, rfl⟩ (hv := rcell S (hg := gets_cons rfl (gets_cons rfl (gets_cons rfl (gets_cons rfl gets_nil)))))
  · rw [if_pos (.inl h)]; rfl
  · rw [if_pos (.inr (.inl h))]; rfl
  · rw [if_pos (.inr (.inr h))]; rfl
  · rename_i h1 h2
    rw [if_neg (fun h0 => h0.elim h1 (fun h0 => h0.elim (fun h0 => h0 h2) (fun h0 => h0 h)))]; rfl
end Go.HL
end

/-! JnC -/
section
namespace Go.HL
open Go Go.Proofs
set_option linter.unusedVariables false
set_option linter.unusedSimpArgs false

structure Jn where
  l : List Ent
  dead : Bool
def jcells (bp : Nat) (j : Jn) : List Value := [pt bp 0] ++ (j.l.map enL).flatten ++ [.bool j.dead]
def jC (bj bp : Nat) (j : Jn) : List Blk := [(bj, .cells ⟨jcells bp j⟩ 160)]
def zeroE : Ent := ⟨0, 0, 0, 0⟩
def updE (e0 e : Ent) : Ent := if e0.n < e.n then e else e0
def slot (b : List UInt8) (i : Nat) : List UInt8 := (b.drop (i * 18)).take 18
def partE (b : List UInt8) (d : Nat) : Nat → Ent
  | 0 => zeroE
  | k + 1 => updE (partE b d k) (heldM k (slot b (2 * d + k)))
def dealM (b : List UInt8) (d : Nat) : Ent := partE b d 2
def openM (b : List UInt8) : List Ent := (List.range 6).map (dealM b)
def lAt (b : List UInt8) (d k : Nat) : List Ent := (List.range d).map (dealM b) ++ partE b d k :: List.replicate (5 - d) zeroE
theorem lAt_len (b : List UInt8) (d k : Nat) (h : d ≤ 5) : (lAt b d k).length = 6 := by simp [lAt]; omega
theorem lAt_get (b : List UInt8) (d k : Nat) : (lAt b d k)[d]? = some (partE b d k) := by
  rw [lAt, List.getElem?_append_right (by simp)]
  simp
theorem lAt_set (b : List UInt8) (d k : Nat) (e : Ent) (h : e = partE b d (k + 1)) : (lAt b d k).set d e = lAt b d (k + 1) := by
  subst h
  rw [lAt, List.set_append_right _ _ (by simp)]
  simp [lAt]
theorem lAt_next (b : List UInt8) (d : Nat) (h : d < 5) : lAt b d 2 = lAt b (d + 1) 0 := by
  simp only [lAt, List.range_succ, List.map_append, List.map_cons, List.map_nil, List.append_assoc, List.cons_append, List.nil_append, partE]
  rw [show 5 - d = (5 - (d + 1)) + 1 by omega, List.replicate_succ]
  rfl
theorem lAt_last (b : List UInt8) : lAt b 5 2 = openM b := by
  simp [lAt, openM, List.range_succ, dealM]
theorem enL_len (e : Ent) : (enL e).length = 4 := rfl
theorem jgets {bp : Nat} {j : Jn} {d : Nat} {e : Ent} (h : j.l[d]? = some e) : Gets (jcells bp j) (0 + 1 + (d : Int).toNat * 4) (enL e) := by
  have := gets_row (enc := enL) (sz := 4) enL_len j.l [.bool j.dead] [pt bp 0] d e h
  simpa [jcells] using this
theorem jgetsS {bp : Nat} {j : Jn} {d : Nat} {e : Ent} (h : j.l[d]? = some e) : Gets (jcells bp j) (0 + 1 + (d : Int).toNat * 4 + 1) (sc e.s) := fun k v hk => by
  have := jgets (bp := bp) h (k + 1) v (by simpa [enL, sc] using hk)
  rw [show 0 + 1 + (d : Int).toNat * 4 + 1 + k = 0 + 1 + (d : Int).toNat * 4 + (k + 1) by omega]
  exact this
theorem jputs {bp : Nat} {j : Jn} {d : Nat} (e : Ent) (h : d < j.l.length) : Puts (jcells bp j) (0 + 1 + (d : Int).toNat * 4) (enL e) (jcells bp ⟨j.l.set d e, j.dead⟩) := by
  have := puts_row (enc := enL) (sz := 4) enL_len j.l [.bool j.dead] [pt bp 0] d (0 + 1 + (d : Int).toNat * 4) e h (by simp)
  exact this
theorem jdead {bp : Nat} {j : Jn} (h : j.l.length = 6) : (jcells bp j)[0 + 25]? = some (.bool j.dead) := by
  unfold jcells
  rw [List.getElem?_append_right (by simp [flat_length enL_len, h])]
  simp [flat_length enL_len, h]
theorem jputsD {bp : Nat} {j : Jn} (h : j.l.length = 6) (b : Bool) : Puts (jcells bp j) (0 + 25) [.bool b] (jcells bp ⟨j.l, b⟩) := by
  have e : jcells bp ⟨j.l, b⟩ = (jcells bp j).set (0 + 25) (.bool b) := by
    unfold jcells
    rw [List.set_append_right _ _ (by simp [flat_length enL_len, h])]
    simp [flat_length enL_len, h]
  rw [e]
  exact puts_set (by simp [jcells, flat_length enL_len, h])
attribute [local irreducible] HW HO HQ HD HC QOp Has Upd Puts Gets seqQ blkQ loopQ fnQ actQ nextP unQ MapF
attribute [local irreducible] jcells
theorem get_calls (T : Nat) (E : Nat → Addr) (bj bp : Nat) (j : Jn) (d : Int) (L : Heap) (hG : Er T E [2] L) (hl : j.l.length = 6) : HC Tryd.prog 53 [pt bj 0, iv d] (jC bj bp j :: L) (fun v L' => L' = jC bj bp j :: L ∧
    if d < 0 ∨ 6 ≤ d then v = .tuple ⟨[.agg ⟨[iv 0, iv 0, iv 0]⟩, eV T E (some 2)]⟩ else v = .tuple ⟨[.agg ⟨sc (j.l.getD d.toNat zeroE).s⟩, .nilIface]⟩) := by
  by_cases h0 : d < 0 ∨ 6 ≤ d
  · simp only [if_pos h0]
    refine hc_enter (fun _ _ => Tryd.call53 _ _) Tryd.func53 rfl Tryd.ntmps53 (Nat.le_of_ble_eq_true rfl) ?_; simp only [args0, Nat.reduceAdd]
    repeat' (first | (show HW _ _ _ _ _ _; first | apply hw_seq | apply hw_region | refine g_t ?_ | refine g_f ?_ | (refine g_b (fun h => ?_) (fun h => ?_) <;> ((try simp only [Bool.not_eq_eq_eq_not, Bool.not_true, Bool.not_false, decide_eq_true_eq, decide_eq_false_iff_not, Decidable.not_not, ne_eq, Bool.and_eq_true, beq_iff_eq, and_true, true_and, eq_self, decide_true, Bool.and_true, Bool.true_and, reduceCtorEq, not_true_eq_false, not_false_eq_true] at h); (try (exfalso; first | omega | with_reducible exact h (by assumption) | with_reducible exact absurd h (by assumption))))) | apply hw_skip | apply hw_ret | refine g_k S ?_ | refine g_w S ?_) | (show HO _ _ _ _ _ _ _; first | apply ho_nil | refine g_q (qe S) ?_ | refine g_q (qg S) ?_ | refine g_q (qs S) ?_ | refine g_q (qb S) ?_ | refine g_q (qbA S) ?_ | refine g_n ?_ | refine g_on ?_ | (refine g_s (fun h => ?_) (fun h => ?_) <;> ((try simp only [Bool.not_eq_eq_eq_not, Bool.not_true, Bool.not_false, decide_eq_true_eq, decide_eq_false_iff_not, Decidable.not_not, ne_eq, Bool.and_eq_true, beq_iff_eq, and_true, true_and, eq_self, decide_true, Bool.and_true, Bool.true_and, reduceCtorEq, not_true_eq_false, not_false_eq_true] at h); (try (exfalso; first | omega | with_reducible exact h (by assumption) | with_reducible exact absurd h (by assumption))))) | refine wa S (fun b => ?_) | refine ws S ?_) | (show HQ _ _ _ _ _ _ _; first | apply hq_nil | refine k_q (qe S) ?_ | refine k_q (qg S) ?_ | refine k_q (qs S) ?_ | refine k_q (qb S) ?_ | refine k_q (qbA S) ?_ | refine k_n ?_ | (refine k_s (fun h => ?_) (fun h => ?_) <;> ((try simp only [Bool.not_eq_eq_eq_not, Bool.not_true, Bool.not_false, decide_eq_true_eq, decide_eq_false_iff_not, Decidable.not_not, ne_eq, Bool.and_eq_true, beq_iff_eq, and_true, true_and, eq_self, decide_true, Bool.and_true, Bool.true_and, reduceCtorEq, not_true_eq_false, not_false_eq_true] at h); (try (exfalso; first | omega | with_reducible exact h (by assumption) | with_reducible exact absurd h (by assumption)))))) | (show HD _ _ _ _ _ _ _ _; first | apply hd_nil | refine d_q 100 (by exact rfl) (fun _ => qe S) ?_ | refine d_q 100 (by exact rfl) (fun _ => qb S) ?_ | refine d_q 100 (by exact rfl) (fun _ => qbA S) ?_ | refine ds S 100 ?_ | refine dg S 100 (fun _ _ => ?_) | refine d_n 100 ?_ | (refine d_sp 100 (fun h => ?_) (fun h => ?_) <;> ((try simp only [Bool.not_eq_eq_eq_not, Bool.not_true, Bool.not_false, decide_eq_true_eq, decide_eq_false_iff_not, Decidable.not_not, ne_eq, Bool.and_eq_true, beq_iff_eq, and_true, true_and, eq_self, decide_true, Bool.and_true, Bool.true_and, reduceCtorEq, not_true_eq_false, not_false_eq_true] at h); (try (exfalso; first | omega | with_reducible exact h (by assumption) | with_reducible exact absurd h (by assumption))))) | refine da 101 ?_) | refine dx ?_ | apply dx0 | refine dxd ?_ | refine dxk ?_ | apply seqQ_normal | apply seqQ_ret)
    · exact sp2 (LS.skip _ (LS.refl _)) ⟨rfl, rfl⟩ (hx := rcell S (hg := gets_cons rfl (gets_cons rfl (gets_cons rfl gets_nil))))
    · exact sp2 (LS.skip _ (LS.refl _)) ⟨rfl, rfl⟩ (hx := rcell S (hg := gets_cons rfl (gets_cons rfl (gets_cons rfl gets_nil))))
  · simp only [if_neg h0]
    obtain ⟨d, rfl⟩ := Int.eq_ofNat_of_zero_le (show 0 ≤ d by omega)
    have he : j.l[d]? = some (j.l.getD d zeroE) := by
      rw [List.getD, List.getElem?_eq_getElem (by omega)]; rfl
    have g1 := jgets (bp := bp) he
    have g2 := jgetsS (bp := bp) he
    refine hc_enter (fun _ _ => Tryd.call53 _ _) Tryd.func53 rfl Tryd.ntmps53 (Nat.le_of_ble_eq_true rfl) ?_; simp only [args0, Nat.reduceAdd]
    repeat' (first | (show HW _ _ _ _ _ _; first | apply hw_seq | apply hw_region | refine g_t ?_ | refine g_f ?_ | (refine g_b (fun h => ?_) (fun h => ?_) <;> ((try simp only [Bool.not_eq_eq_eq_not, Bool.not_true, Bool.not_false, decide_eq_true_eq, decide_eq_false_iff_not, Decidable.not_not, ne_eq, Bool.and_eq_true, beq_iff_eq, and_true, true_and, eq_self, decide_true, Bool.and_true, Bool.true_and, reduceCtorEq, not_true_eq_false, not_false_eq_true] at h); (try (exfalso; first | omega | with_reducible exact h (by assumption) | with_reducible exact absurd h (by assumption))))) | apply hw_skip | apply hw_ret | refine g_k S ?_ | refine g_w S ?_) | (show HO _ _ _ _ _ _ _; first | apply ho_nil | refine g_q (qe S) ?_ | refine g_q (qg S) ?_ | refine g_q (qs S) ?_ | refine g_q (qb S) ?_ | refine g_q (qbA S) ?_ | refine g_n ?_ | refine g_on ?_ | (refine g_s (fun h => ?_) (fun h => ?_) <;> ((try simp only [Bool.not_eq_eq_eq_not, Bool.not_true, Bool.not_false, decide_eq_true_eq, decide_eq_false_iff_not, Decidable.not_not, ne_eq, Bool.and_eq_true, beq_iff_eq, and_true, true_and, eq_self, decide_true, Bool.and_true, Bool.true_and, reduceCtorEq, not_true_eq_false, not_false_eq_true] at h); (try (exfalso; first | omega | with_reducible exact h (by assumption) | with_reducible exact absurd h (by assumption))))) | refine wa S (fun b => ?_) | refine ws S ?_) | (show HQ _ _ _ _ _ _ _; first | apply hq_nil | refine k_q (qe S) ?_ | refine k_q (qg S) ?_ | refine k_q (qs S) ?_ | refine k_q (qb S) ?_ | refine k_q (qbA S) ?_ | refine k_n ?_ | (refine k_s (fun h => ?_) (fun h => ?_) <;> ((try simp only [Bool.not_eq_eq_eq_not, Bool.not_true, Bool.not_false, decide_eq_true_eq, decide_eq_false_iff_not, Decidable.not_not, ne_eq, Bool.and_eq_true, beq_iff_eq, and_true, true_and, eq_self, decide_true, Bool.and_true, Bool.true_and, reduceCtorEq, not_true_eq_false, not_false_eq_true] at h); (try (exfalso; first | omega | with_reducible exact h (by assumption) | with_reducible exact absurd h (by assumption)))))) | (show HD _ _ _ _ _ _ _ _; first | apply hd_nil | refine d_q 100 (by exact rfl) (fun _ => qe S) ?_ | refine d_q 100 (by exact rfl) (fun _ => qb S) ?_ | refine d_q 100 (by exact rfl) (fun _ => qbA S) ?_ | refine ds S 100 ?_ | refine dg S 100 (fun _ _ => ?_) | refine d_n 100 ?_ | (refine d_sp 100 (fun h => ?_) (fun h => ?_) <;> ((try simp only [Bool.not_eq_eq_eq_not, Bool.not_true, Bool.not_false, decide_eq_true_eq, decide_eq_false_iff_not, Decidable.not_not, ne_eq, Bool.and_eq_true, beq_iff_eq, and_true, true_and, eq_self, decide_true, Bool.and_true, Bool.true_and, reduceCtorEq, not_true_eq_false, not_false_eq_true] at h); (try (exfalso; first | omega | with_reducible exact h (by assumption) | with_reducible exact absurd h (by assumption))))) | refine da 101 ?_) | refine dx ?_ | apply dx0 | refine dxd ?_ | refine dxk ?_ | apply seqQ_normal | apply seqQ_ret)
    refine sp2 (LS.skip _ (LS.refl _)) ⟨rfl, ?_⟩ (hx := rcell S (hg := gets_cons rfl (gets_cons rfl (gets_cons rfl gets_nil))))
    simp [sc]
end Go.HL
end

/-! JnD -/
section
namespace Go.HL
open Go Go.Proofs
set_option linter.unusedVariables false
set_option linter.unusedSimpArgs false

theorem read_slot (m : Pl) (d k : Nat) (hd : d < 6) (hk : k < 2) (hl : 216 ≤ m.b.length) (ho : m.off = false) : readM m ((2 * (d : Int) + (k : Int)) * 18) 18 = (slot m.b (2 * d + k), none) := by
  have h : lookM m ((2 * (d : Int) + (k : Int)) * 18) 18 = none := by
    unfold lookM
    rw [if_neg (by omega), if_neg (by simp [ho])]
  unfold readM slot
  rw [h]
  have e : ((2 * (d : Int) + (k : Int)) * 18).toNat = (2 * d + k) * 18 := by omega
  simp [e]
theorem slot_len (b : List UInt8) (i : Nat) (h : i < 12) (hl : 216 ≤ b.length) : (slot b i).length = 18 := by simp [slot]; omega
def lO (b : List UInt8) (d : Nat) : List Ent := if d < 6 then lAt b d 0 else openM b
theorem lO_next (b : List UInt8) (d : Nat) (h : d < 6) : lAt b d 2 = lO b (d + 1) := by
  unfold lO
  split
  · exact lAt_next b d (by omega)
  · rw [show d = 5 by omega, lAt_last]
theorem lAt_upd (b : List UInt8) (d k : Nat) (h : (partE b d k).n < (heldM k (slot b (2 * d + k))).n) : (lAt b d k).set d (heldM k (slot b (2 * d + k))) = lAt b d (k + 1) :=
  lAt_set b d k _ (by simp [partE, updE, h])
theorem lAt_same (b : List UInt8) (d k : Nat) (h : ¬ (partE b d k).n < (heldM k (slot b (2 * d + k))).n) : lAt b d k = lAt b d (k + 1) := by
  simp [lAt, partE, updE, h]
theorem jC_new (bj bp : Nat) (b : List UInt8) : jC bj bp ⟨lO b 0, false⟩ = [(bj, .cells ⟨[pt bp 0, iv 0, iv 0, iv 0, iv 0, iv 0, iv 0, iv 0, iv 0, iv 0, iv 0, iv 0, iv 0, iv 0, iv 0, iv 0, iv 0, iv 0, iv 0, iv 0, iv 0, iv 0, iv 0, iv 0, iv 0, .bool false]⟩ 160)] := rfl
attribute [local irreducible] HW HO HQ HD HC QOp Has Upd Puts Gets seqQ blkQ loopQ fnQ actQ nextP unQ MapF
attribute [local irreducible] jcells plC
theorem open_calls (T : Nat) (E : Nat → Addr) (bp ba : Nat) (m : Pl) (L : Heap) (hG : Er T E [2, 6] L) (hl : m.b.length ≤ 1000000) : HC Tryd.prog 49 [pt bp 0] (plC bp ba m :: L) (fun v L' =>
    if m.b.length < 216 then v = .tuple ⟨[.pointer none, eV T E (some 2)]⟩ ∧ L' = plC bp ba m :: L else if m.off then v = .tuple ⟨[.pointer none, eV T E (some 6)]⟩ ∧ L' = plC bp ba m :: L
    else ∃ bj, v = .tuple ⟨[pt bj 0, .nilIface]⟩ ∧ L' = jC bj bp ⟨openM m.b, false⟩ :: plC bp ba m :: L) := by
  have kb := bytes_calls bp ba m L
  have kp := power_calls bp ba m L
  by_cases h1 : m.b.length < 216
  · simp only [if_pos h1]
    refine hc_enter (fun _ _ => Tryd.call49 _ _) Tryd.func49 rfl Tryd.ntmps49 (Nat.le_of_ble_eq_true rfl) ?_; simp only [args0, Nat.reduceAdd]
    repeat' (first | (show HW _ _ _ _ _ _; first | apply hw_seq | apply hw_region | apply hw_block | apply hw_exit | refine g_t ?_ | refine g_f ?_ | (refine g_b (fun h => ?_) (fun h => ?_) <;> ((try simp only [Bool.not_eq_eq_eq_not, Bool.not_true, Bool.not_false, decide_eq_true_eq, decide_eq_false_iff_not, Decidable.not_not, ne_eq, Bool.and_eq_true, beq_iff_eq, and_true, true_and, eq_self, decide_true, Bool.and_true, Bool.true_and, reduceCtorEq, not_true_eq_false, not_false_eq_true] at h); (try (exfalso; first | omega | with_reducible exact h (by assumption) | with_reducible exact absurd h (by assumption))))) | apply hw_skip | apply hw_ret | refine g_k S ?_ | refine g_w S ?_) | (show HO _ _ _ _ _ _ _; first | apply ho_nil | refine g_q (qe S) ?_ | refine g_q (qg S) ?_ | refine g_q (ql S) ?_ | refine g_q (qs S) ?_ | refine g_q (qn S) ?_ | refine g_q (qb S) ?_ | refine g_q (qbA S) ?_ | refine g_q (qC (kb)) ?_ | refine wa S (fun b => ?_) | refine wb (fun b => ?_) | refine ws S ?_) | (show HQ _ _ _ _ _ _ _; first | apply hq_nil | refine k_q (qe S) ?_ | refine k_q (qg S) ?_ | refine k_q (ql S) ?_ | refine k_q (qs S) ?_ | refine k_q (qn S) ?_ | refine k_q (qb S) ?_ | refine k_q (qbA S) ?_ | refine k_q (qC (kb)) ?_) | (show HD _ _ _ _ _ _ _ _; first | apply hd_nil | refine d_q 100 (by exact rfl) (fun _ => qe S) ?_ | refine d_q 100 (by exact rfl) (fun _ => qn S) ?_ | refine d_q 100 (by exact rfl) (fun _ => qb S) ?_ | refine d_q 100 (by exact rfl) (fun _ => qbA S) ?_ | refine dl S 100 ?_ | refine ds S 100 ?_ | refine dg S 100 (fun _ _ => ?_) | refine d_q 0 (by exact rfl) (fun _ => qC (kb)) ?_ | refine d_q 1 (by exact rfl) (fun _ => qC (kb)) ?_ | refine d_q 2 (by exact rfl) (fun _ => qC (kb)) ?_ | refine d_q 3 (by exact rfl) (fun _ => qC (kb)) ?_ | refine da 101 ?_) | refine dx ?_ | apply dx0 | refine dxd ?_ | refine dxk ?_ | apply seqQ_normal | apply seqQ_ret | apply seqQ_exit | apply blkQ_here | refine g_bx ?_ | apply blkQ_ret | apply blkQ_normal | apply loopQ_ret | apply loopQ_exit | apply unQ_ret | apply unQ_exit | apply unQ_succ)
    exact er2 rfl ⟨rfl, rfl⟩
  · simp only [if_neg h1]
    cases h2 : m.off with
    | true =>
      rw [h2] at kp
      simp only [if_true]
      refine hc_enter (fun _ _ => Tryd.call49 _ _) Tryd.func49 rfl Tryd.ntmps49 (Nat.le_of_ble_eq_true rfl) ?_; simp only [args0, Nat.reduceAdd]
      repeat' (first | (show HW _ _ _ _ _ _; first | apply hw_seq | apply hw_region | apply hw_block | apply hw_exit | refine g_t ?_ | refine g_f ?_ | (refine g_b (fun h => ?_) (fun h => ?_) <;> ((try simp only [Bool.not_eq_eq_eq_not, Bool.not_true, Bool.not_false, decide_eq_true_eq, decide_eq_false_iff_not, Decidable.not_not, ne_eq, Bool.and_eq_true, beq_iff_eq, and_true, true_and, eq_self, decide_true, Bool.and_true, Bool.true_and, reduceCtorEq, not_true_eq_false, not_false_eq_true] at h); (try (exfalso; first | omega | with_reducible exact h (by assumption) | with_reducible exact absurd h (by assumption))))) | apply hw_skip | apply hw_ret | refine g_k S ?_ | refine g_w S ?_) | (show HO _ _ _ _ _ _ _; first | apply ho_nil | refine g_q (qe S) ?_ | refine g_q (qg S) ?_ | refine g_q (ql S) ?_ | refine g_q (qs S) ?_ | refine g_q (qn S) ?_ | refine g_q (qb S) ?_ | refine g_q (qbA S) ?_ | refine g_q (qC (kb)) ?_ | refine g_q (qC (kp)) ?_ | refine wa S (fun b => ?_) | refine wb (fun b => ?_) | refine ws S ?_) | (show HQ _ _ _ _ _ _ _; first | apply hq_nil | refine k_q (qe S) ?_ | refine k_q (qg S) ?_ | refine k_q (ql S) ?_ | refine k_q (qs S) ?_ | refine k_q (qn S) ?_ | refine k_q (qb S) ?_ | refine k_q (qbA S) ?_ | refine k_q (qC (kb)) ?_ | refine k_q (qC (kp)) ?_) | (show HD _ _ _ _ _ _ _ _; first | apply hd_nil | refine d_q 100 (by exact rfl) (fun _ => qe S) ?_ | refine d_q 100 (by exact rfl) (fun _ => qn S) ?_ | refine d_q 100 (by exact rfl) (fun _ => qb S) ?_ | refine d_q 100 (by exact rfl) (fun _ => qbA S) ?_ | refine dl S 100 ?_ | refine ds S 100 ?_ | refine dg S 100 (fun _ _ => ?_) | refine d_q 0 (by exact rfl) (fun _ => qC (kb)) ?_ | refine d_q 1 (by exact rfl) (fun _ => qC (kb)) ?_ | refine d_q 2 (by exact rfl) (fun _ => qC (kb)) ?_ | refine d_q 3 (by exact rfl) (fun _ => qC (kb)) ?_ | refine d_q 0 (by exact rfl) (fun _ => qC (kp)) ?_ | refine d_q 1 (by exact rfl) (fun _ => qC (kp)) ?_ | refine d_q 2 (by exact rfl) (fun _ => qC (kp)) ?_ | refine d_q 3 (by exact rfl) (fun _ => qC (kp)) ?_ | refine da 101 ?_) | refine dx ?_ | apply dx0 | refine dxd ?_ | refine dxk ?_ | apply seqQ_normal | apply seqQ_ret | apply seqQ_exit | apply blkQ_here | refine g_bx ?_ | apply blkQ_ret | apply blkQ_normal | apply loopQ_ret | apply loopQ_exit | apply unQ_ret | apply unQ_exit | apply unQ_succ)
      exact er2 rfl ⟨rfl, rfl⟩
    | false =>
      rw [h2] at kp
      simp only [Bool.false_eq_true, if_false]
      refine hc_enter (fun _ _ => Tryd.call49 _ _) Tryd.func49 rfl Tryd.ntmps49 (Nat.le_of_ble_eq_true rfl) ?_; simp only [args0, Nat.reduceAdd]
      repeat' (first | (show HW _ _ _ _ _ _; first | apply hw_seq | apply hw_region | apply hw_block | apply hw_exit | refine g_t ?_ | refine g_f ?_ | (refine g_b (fun h => ?_) (fun h => ?_) <;> ((try simp only [Bool.not_eq_eq_eq_not, Bool.not_true, Bool.not_false, decide_eq_true_eq, decide_eq_false_iff_not, Decidable.not_not, ne_eq, Bool.and_eq_true, beq_iff_eq, and_true, true_and, eq_self, decide_true, Bool.and_true, Bool.true_and, reduceCtorEq, not_true_eq_false, not_false_eq_true] at h); (try (exfalso; first | omega | with_reducible exact h (by assumption) | with_reducible exact absurd h (by assumption))))) | apply hw_skip | apply hw_ret | refine g_k S ?_ | refine g_w S ?_) | (show HO _ _ _ _ _ _ _; first | apply ho_nil | refine g_q (qe S) ?_ | refine g_q (qg S) ?_ | refine g_q (ql S) ?_ | refine g_q (qs S) ?_ | refine g_q (qn S) ?_ | refine g_q (qb S) ?_ | refine g_q (qbA S) ?_ | refine g_q (qC (kb)) ?_ | refine g_q (qC (kp)) ?_ | refine wa S (fun b => ?_) | refine wb (fun b => ?_) | refine ws S ?_) | (show HQ _ _ _ _ _ _ _; first | apply hq_nil | refine k_q (qe S) ?_ | refine k_q (qg S) ?_ | refine k_q (ql S) ?_ | refine k_q (qs S) ?_ | refine k_q (qn S) ?_ | refine k_q (qb S) ?_ | refine k_q (qbA S) ?_ | refine k_q (qC (kb)) ?_ | refine k_q (qC (kp)) ?_) | (show HD _ _ _ _ _ _ _ _; first | apply hd_nil | refine d_q 100 (by exact rfl) (fun _ => qe S) ?_ | refine d_q 100 (by exact rfl) (fun _ => qn S) ?_ | refine d_q 100 (by exact rfl) (fun _ => qb S) ?_ | refine d_q 100 (by exact rfl) (fun _ => qbA S) ?_ | refine dl S 100 ?_ | refine ds S 100 ?_ | refine dg S 100 (fun _ _ => ?_) | refine d_q 0 (by exact rfl) (fun _ => qC (kb)) ?_ | refine d_q 1 (by exact rfl) (fun _ => qC (kb)) ?_ | refine d_q 2 (by exact rfl) (fun _ => qC (kb)) ?_ | refine d_q 3 (by exact rfl) (fun _ => qC (kb)) ?_ | refine d_q 0 (by exact rfl) (fun _ => qC (kp)) ?_ | refine d_q 1 (by exact rfl) (fun _ => qC (kp)) ?_ | refine d_q 2 (by exact rfl) (fun _ => qC (kp)) ?_ | refine d_q 3 (by exact rfl) (fun _ => qC (kp)) ?_ | refine da 101 ?_) | refine dx ?_ | apply dx0 | refine dxd ?_ | refine dxk ?_ | apply seqQ_normal | apply seqQ_ret | apply seqQ_exit | apply blkQ_here | refine g_bx ?_ | apply blkQ_ret | apply blkQ_normal | apply loopQ_ret | apply loopQ_exit | apply unQ_ret | apply unQ_exit | apply unQ_succ)
      refine fw 1 ?_
      refine hw_loop (σ := Nat) (fun d => [(0, pt bp 0), (4, pt b 0), (28, iv d)]) (fun d => plC bp ba m :: jC b bp ⟨lO m.b d, false⟩ :: L) (fun d => d ≤ 6) (fun d => 6 - d) 0 (by repeat (first | exact trivial | refine ⟨rfl, ?_⟩)) ?_ (by omega) ?_
      · rw [jC_new]; exact List.Sublist.refl _
      intro d d1
      by_cases hd : d < 6
      · rw [show lO m.b d = lAt m.b d 0 from if_pos hd]
        repeat' (first | (show HW _ _ _ _ _ _; first | apply hw_seq | apply hw_region | apply hw_block | apply hw_exit | refine g_t ?_ | refine g_f ?_ | (refine g_b (fun h => ?_) (fun h => ?_) <;> ((try simp only [Bool.not_eq_eq_eq_not, Bool.not_true, Bool.not_false, decide_eq_true_eq, decide_eq_false_iff_not, Decidable.not_not, ne_eq, Bool.and_eq_true, beq_iff_eq, and_true, true_and, eq_self, decide_true, Bool.and_true, Bool.true_and, reduceCtorEq, not_true_eq_false, not_false_eq_true] at h); (try (exfalso; first | omega | with_reducible exact h (by assumption) | with_reducible exact absurd h (by assumption))))) | apply hw_skip | apply hw_ret | refine g_k S ?_ | refine g_w S ?_) | (show HO _ _ _ _ _ _ _; first | apply ho_nil | refine g_q (qe S) ?_ | refine g_q (qg S) ?_ | refine g_q (ql S) ?_ | refine g_q (qs S) ?_ | refine g_q (qn S) ?_ | refine g_q (qb S) ?_ | refine g_q (qbA S) ?_ | refine wa S (fun b => ?_) | refine wb (fun b => ?_) | refine ws S ?_) | (show HQ _ _ _ _ _ _ _; first | apply hq_nil | refine k_q (qe S) ?_ | refine k_q (qg S) ?_ | refine k_q (ql S) ?_ | refine k_q (qs S) ?_ | refine k_q (qn S) ?_ | refine k_q (qb S) ?_ | refine k_q (qbA S) ?_) | (show HD _ _ _ _ _ _ _ _; first | apply hd_nil | refine d_q 100 (by exact rfl) (fun _ => qe S) ?_ | refine d_q 100 (by exact rfl) (fun _ => qn S) ?_ | refine d_q 100 (by exact rfl) (fun _ => qb S) ?_ | refine d_q 100 (by exact rfl) (fun _ => qbA S) ?_ | refine dl S 100 ?_ | refine ds S 100 ?_ | refine dg S 100 (fun _ _ => ?_) | refine da 101 ?_) | refine dx ?_ | apply dx0 | refine dxd ?_ | refine dxk ?_ | apply seqQ_normal | apply seqQ_ret | apply seqQ_exit | apply blkQ_here | refine g_bx ?_ | apply blkQ_ret | apply blkQ_normal | apply loopQ_ret | apply loopQ_exit | apply unQ_ret | apply unQ_exit | apply unQ_succ)
        refine hw_loop (σ := Nat) (fun k => [(0, pt bp 0), (4, pt b 0), (28, iv d), (5, iv d), (31, iv k)]) (fun k => plC bp ba m :: jC b bp ⟨lAt m.b d k, false⟩ :: L) (fun k => k ≤ 2) (fun k => 2 - k) 0 (by repeat (first | exact trivial | refine ⟨rfl, ?_⟩)) (List.Sublist.refl _) (by omega) ?_
        intro k k1
        by_cases hk : k < 2
        · have kr := read_calls T E bp ba m ((2 * (d : Int) + (k : Int)) * 18) 18 (jC b bp ⟨lAt m.b d k, false⟩ :: L) (hG.cons _) hl
          rw [read_slot m d k hd hk (by omega) h2] at kr
          have kh : ∀ L, HC Tryd.prog 104 [iv k, bs (slot m.b (2 * d + k))] L (fun v L' => v = .agg ⟨enL (heldM k (slot m.b (2 * d + k)))⟩ ∧ L' = L) := fun L => held_calls _ _ L (slot_len _ _ (by omega) (by omega))
          have g1 := jgets (bp := bp) (j := ⟨lAt m.b d k, false⟩) (lAt_get m.b d k)
          have p1 := jputs (bp := bp) (j := ⟨lAt m.b d k, false⟩) (d := d) (heldM k (slot m.b (2 * d + k))) (by simp [lAt_len m.b d k (by omega)]; omega)
          repeat' (first | (show HW _ _ _ _ _ _; first | apply hw_seq | apply hw_region | apply hw_block | apply hw_exit | refine g_t ?_ | refine g_f ?_ | (refine g_b (fun h => ?_) (fun h => ?_) <;> ((try simp only [Bool.not_eq_eq_eq_not, Bool.not_true, Bool.not_false, decide_eq_true_eq, decide_eq_false_iff_not, Decidable.not_not, ne_eq, Bool.and_eq_true, beq_iff_eq, and_true, true_and, eq_self, decide_true, Bool.and_true, Bool.true_and, reduceCtorEq, not_true_eq_false, not_false_eq_true] at h); (try (exfalso; first | omega | with_reducible exact h (by assumption) | with_reducible exact absurd h (by assumption))))) | apply hw_skip | apply hw_ret | refine g_k S ?_ | refine g_w S ?_) | (show HO _ _ _ _ _ _ _; first | apply ho_nil | refine g_q (qe S) ?_ | refine g_q (qg S) ?_ | refine g_q (ql S) ?_ | refine g_q (qs S) ?_ | refine g_q (qn S) ?_ | refine g_q (qb S) ?_ | refine g_q (qbA S) ?_ | refine g_q (qC (kr)) ?_ | refine g_q (qC (kh _)) ?_ | refine wa S (fun b => ?_) | refine wb (fun b => ?_) | refine ws S ?_) | (show HQ _ _ _ _ _ _ _; first | apply hq_nil | refine k_q (qe S) ?_ | refine k_q (qg S) ?_ | refine k_q (ql S) ?_ | refine k_q (qs S) ?_ | refine k_q (qn S) ?_ | refine k_q (qb S) ?_ | refine k_q (qbA S) ?_ | refine k_q (qC (kr)) ?_ | refine k_q (qC (kh _)) ?_) | (show HD _ _ _ _ _ _ _ _; first | apply hd_nil | refine d_q 100 (by exact rfl) (fun _ => qe S) ?_ | refine d_q 100 (by exact rfl) (fun _ => qn S) ?_ | refine d_q 100 (by exact rfl) (fun _ => qb S) ?_ | refine d_q 100 (by exact rfl) (fun _ => qbA S) ?_ | refine dl S 100 ?_ | refine ds S 100 ?_ | refine dg S 100 (fun _ _ => ?_) | refine d_q 0 (by exact rfl) (fun _ => qC (kr)) ?_ | refine d_q 1 (by exact rfl) (fun _ => qC (kr)) ?_ | refine d_q 2 (by exact rfl) (fun _ => qC (kr)) ?_ | refine d_q 3 (by exact rfl) (fun _ => qC (kr)) ?_ | refine d_q 0 (by exact rfl) (fun _ => qC (kh _)) ?_ | refine d_q 1 (by exact rfl) (fun _ => qC (kh _)) ?_ | refine d_q 2 (by exact rfl) (fun _ => qC (kh _)) ?_ | refine d_q 3 (by exact rfl) (fun _ => qC (kh _)) ?_ | refine da 101 ?_) | refine dx ?_ | apply dx0 | refine dxd ?_ | refine dxk ?_ | apply seqQ_normal | apply seqQ_ret | apply seqQ_exit | apply blkQ_here | refine g_bx ?_ | apply blkQ_ret | apply blkQ_normal | apply loopQ_ret | apply loopQ_exit | apply unQ_ret | apply unQ_exit | apply unQ_succ)
          · refine loopQ_normal (k + 1) (by repeat (first | exact trivial | refine ⟨rfl, ?_⟩)) ?_ (by omega) (by omega)
            rw [← lAt_upd _ _ _ h]
            exact (List.Sublist.refl _).cons _
          · refine loopQ_normal (k + 1) (by repeat (first | exact trivial | refine ⟨rfl, ?_⟩)) ?_ (by omega) (by omega)
            rw [← lAt_same _ _ _ h]
            exact (List.Sublist.refl _).cons _
        · rw [show k = 2 by omega]
          repeat' (first | (show HW _ _ _ _ _ _; first | apply hw_seq | apply hw_region | apply hw_block | apply hw_exit | refine g_t ?_ | refine g_f ?_ | (refine g_b (fun h => ?_) (fun h => ?_) <;> ((try simp only [Bool.not_eq_eq_eq_not, Bool.not_true, Bool.not_false, decide_eq_true_eq, decide_eq_false_iff_not, Decidable.not_not, ne_eq, Bool.and_eq_true, beq_iff_eq, and_true, true_and, eq_self, decide_true, Bool.and_true, Bool.true_and, reduceCtorEq, not_true_eq_false, not_false_eq_true] at h); (try (exfalso; first | omega | with_reducible exact h (by assumption) | with_reducible exact absurd h (by assumption))))) | apply hw_skip | apply hw_ret | refine g_k S ?_ | refine g_w S ?_) | (show HO _ _ _ _ _ _ _; first | apply ho_nil | refine g_q (qe S) ?_ | refine g_q (qg S) ?_ | refine g_q (ql S) ?_ | refine g_q (qs S) ?_ | refine g_q (qn S) ?_ | refine g_q (qb S) ?_ | refine g_q (qbA S) ?_ | refine wa S (fun b => ?_) | refine wb (fun b => ?_) | refine ws S ?_) | (show HQ _ _ _ _ _ _ _; first | apply hq_nil | refine k_q (qe S) ?_ | refine k_q (qg S) ?_ | refine k_q (ql S) ?_ | refine k_q (qs S) ?_ | refine k_q (qn S) ?_ | refine k_q (qb S) ?_ | refine k_q (qbA S) ?_) | (show HD _ _ _ _ _ _ _ _; first | apply hd_nil | refine d_q 100 (by exact rfl) (fun _ => qe S) ?_ | refine d_q 100 (by exact rfl) (fun _ => qn S) ?_ | refine d_q 100 (by exact rfl) (fun _ => qb S) ?_ | refine d_q 100 (by exact rfl) (fun _ => qbA S) ?_ | refine dl S 100 ?_ | refine ds S 100 ?_ | refine dg S 100 (fun _ _ => ?_) | refine da 101 ?_) | refine dx ?_ | apply dx0 | refine dxd ?_ | refine dxk ?_ | apply seqQ_normal | apply seqQ_ret | apply seqQ_exit | apply blkQ_here | refine g_bx ?_ | apply blkQ_ret | apply blkQ_normal | apply loopQ_ret | apply loopQ_exit | apply unQ_ret | apply unQ_exit | apply unQ_succ)
          refine loopQ_normal (d + 1) (by repeat (first | exact trivial | refine ⟨rfl, ?_⟩)) ?_ (by omega) (by omega)
          rw [lO_next _ _ hd]
          exact List.Sublist.refl _
      · rw [show d = 6 by omega]
        repeat' (first | (show HW _ _ _ _ _ _; first | apply hw_seq | apply hw_region | apply hw_block | apply hw_exit | refine g_t ?_ | refine g_f ?_ | (refine g_b (fun h => ?_) (fun h => ?_) <;> ((try simp only [Bool.not_eq_eq_eq_not, Bool.not_true, Bool.not_false, decide_eq_true_eq, decide_eq_false_iff_not, Decidable.not_not, ne_eq, Bool.and_eq_true, beq_iff_eq, and_true, true_and, eq_self, decide_true, Bool.and_true, Bool.true_and, reduceCtorEq, not_true_eq_false, not_false_eq_true] at h); (try (exfalso; first | omega | with_reducible exact h (by assumption) | with_reducible exact absurd h (by assumption))))) | apply hw_skip | apply hw_ret | refine g_k S ?_ | refine g_w S ?_) | (show HO _ _ _ _ _ _ _; first | apply ho_nil | refine g_q (qe S) ?_ | refine g_q (qg S) ?_ | refine g_q (ql S) ?_ | refine g_q (qs S) ?_ | refine g_q (qn S) ?_ | refine g_q (qb S) ?_ | refine g_q (qbA S) ?_ | refine wa S (fun b => ?_) | refine wb (fun b => ?_) | refine ws S ?_) | (show HQ _ _ _ _ _ _ _; first | apply hq_nil | refine k_q (qe S) ?_ | refine k_q (qg S) ?_ | refine k_q (ql S) ?_ | refine k_q (qs S) ?_ | refine k_q (qn S) ?_ | refine k_q (qb S) ?_ | refine k_q (qbA S) ?_) | (show HD _ _ _ _ _ _ _ _; first | apply hd_nil | refine d_q 100 (by exact rfl) (fun _ => qe S) ?_ | refine d_q 100 (by exact rfl) (fun _ => qn S) ?_ | refine d_q 100 (by exact rfl) (fun _ => qb S) ?_ | refine d_q 100 (by exact rfl) (fun _ => qbA S) ?_ | refine dl S 100 ?_ | refine ds S 100 ?_ | refine dg S 100 (fun _ _ => ?_) | refine da 101 ?_) | refine dx ?_ | apply dx0 | refine dxd ?_ | refine dxk ?_ | apply seqQ_normal | apply seqQ_ret | apply seqQ_exit | apply blkQ_here | refine g_bx ?_ | apply blkQ_ret | apply blkQ_normal | apply loopQ_ret | apply loopQ_exit | apply unQ_ret | apply unQ_exit | apply unQ_succ)
        refine sp2 (L' := jC b bp ⟨openM m.b, false⟩ :: plC bp ba m :: L) ?_ ⟨b, rfl, rfl⟩
        rw [show lO m.b 6 = openM m.b from rfl]
        exact LS.of_perm (by simp only [List.flatten_cons, ← List.append_assoc]; exact (List.perm_append_comm.append_right _))
end Go.HL
end

/-! JnE -/
section
namespace Go.HL
open Go Go.Proofs
set_option linter.unusedVariables false
set_option linter.unusedSimpArgs false

structure PlOk (m : Pl) : Prop where
  len : m.b.length ≤ 1000000
  lo : -1 ≤ m.cut
  hi : m.cut ≤ 9223372036854775807
theorem lookM_none {m : Pl} {a n : Int} (h : lookM m a n = none) : 0 ≤ a ∧ 0 ≤ n ∧ a + n ≤ m.b.length ∧ m.off = false := by
  unfold lookM at h
  split at h
  · cases h
  · split at h
    · cases h
    · exact ⟨by omega, by omega, by omega, by simp_all⟩
theorem writeM_len (m : Pl) (a : Int) (s : List UInt8) : (writeM m a s).1.b.length = m.b.length := by
  unfold writeM
  cases h : lookM m a s.length with
  | some e => rfl
  | none =>
    obtain ⟨h1, h2, h3, h4⟩ := lookM_none h
    exact splice_len (by simp; omega)
theorem writeM_ok {m : Pl} (h : PlOk m) (a : Int) (s : List UInt8) : PlOk (writeM m a s).1 := by
  refine ⟨by rw [writeM_len]; exact h.len, ?_, ?_⟩
  all_goals
    have h1 := h.lo
    have h2 := h.hi
    unfold writeM
    cases hm : lookM m a s.length with
    | some e => assumption
    | none =>
      simp only [wrOk]
      split
      · omega
      · have : kM m s.length ≤ m.cut.toNat := by unfold kM; rw [if_neg (by assumption)]; omega
        omega
def jAt (deal : Int) (e : Ent) : Int := (2 * deal + e.n % 2) * 18
def jw1 (m : Pl) (deal : Int) (e : Ent) : Pl × Option Nat := match (readM m (jAt deal e + 18 - 1) 1).2 with
  | some x => (m, some x)
  | none => if (readM m (jAt deal e + 18 - 1) 1).1 = [0] then (m, none) else writeM m (jAt deal e + 18 - 1) [0]
def jw2 (m : Pl) (deal : Int) (e : Ent) : Pl × Option Nat := match (jw1 m deal e).2 with
  | some x => ((jw1 m deal e).1, some x)
  | none => writeM (jw1 m deal e).1 (jAt deal e) (bodyM e)
def jwM (m : Pl) (deal : Int) (e : Ent) : Pl × Option Nat := match (jw2 m deal e).2 with
  | some x => ((jw2 m deal e).1, some x)
  | none => writeM (jw2 m deal e).1 (jAt deal e + 18 - 1) commitB
theorem jw1_ok {m : Pl} (h : PlOk m) (deal : Int) (e : Ent) : PlOk (jw1 m deal e).1 := by
  unfold jw1
  split
  · exact h
  · split
    · exact h
    · exact writeM_ok h _ _
theorem jw2_ok {m : Pl} (h : PlOk m) (deal : Int) (e : Ent) : PlOk (jw2 m deal e).1 := by
  unfold jw2
  split
  · exact jw1_ok h _ _
  · exact writeM_ok (jw1_ok h _ _) _ _
theorem jwM_ok {m : Pl} (h : PlOk m) (deal : Int) (e : Ent) : PlOk (jwM m deal e).1 := by
  unfold jwM
  split
  · exact jw2_ok h _ _
  · exact writeM_ok (jw2_ok h _ _) _ _
theorem bodyM_len (e : Ent) : (bodyM e).length = 17 := by simp [bodyM, head, numB_len]
theorem j0 (bp : Nat) (j : Jn) : (jcells bp j)[0 + 0]? = some (pt bp 0) := rfl
attribute [local irreducible] HW HO HQ HD HC QOp Has Upd Puts Gets seqQ blkQ loopQ fnQ actQ nextP unQ MapF
attribute [local irreducible] jcells plC
theorem jwrite_calls (T : Nat) (E : Nat → Addr) (bj bp ba : Nat) (m : Pl) (j : Jn) (deal : Int) (e : Ent) (L : Heap) (hG : Er T E [2, 6] L) (hm : PlOk m) (hd : 0 ≤ deal ∧ deal < 6) (he : 0 ≤ e.n ∧ e.n ≤ 4294967296) :
    HC Tryd.prog 105 [pt bj 0, iv deal, .agg ⟨enL e⟩] (plC bp ba m :: jC bj bp j :: L) (fun v L' => v = eV T E (jwM m deal e).2 ∧ L' = plC bp ba (jwM m deal e).1 :: jC bj bp j :: L) := by
  have k1 : ∀ L, Er T E [2, 6] L → HC Tryd.prog 103 [pt bp 0, iv ((2 * deal + e.n % 2) * 18 + 18 - 1), iv 1] (plC bp ba m :: L) (fun v L' => v = .tuple ⟨[bs (readM m (jAt deal e + 18 - 1) 1).1, eV T E (readM m (jAt deal e + 18 - 1) 1).2]⟩ ∧ L' = plC bp ba m :: L) := fun L hg => read_calls T E bp ba m (jAt deal e + 18 - 1) 1 L hg hm.len
  have g0 := j0 bp j
  have kb : ∀ L, HC Tryd.prog 135 [.agg ⟨enL e⟩] L (fun v L' => v = bs (bodyM e) ∧ L' = L) := fun L => body_calls e L
  have lb := bodyM_len e
  have o1 := jw1_ok hm deal e
  have o2 := jw2_ok hm deal e
  have w1 : ∀ L, Er T E [2, 6] L → HC Tryd.prog 136 [pt bp 0, iv ((2 * deal + e.n % 2) * 18 + 18 - 1), bs [0]] (plC bp ba m :: L) (fun v L' => v = eV T E (writeM m (jAt deal e + 18 - 1) [0]).2 ∧ L' = plC bp ba (writeM m (jAt deal e + 18 - 1) [0]).1 :: L) := fun L hg => write_calls T E bp ba m (jAt deal e + 18 - 1) [0] L hg hm.len (by simp) ⟨hm.lo, hm.hi⟩
  have w2 : ∀ L, Er T E [2, 6] L → HC Tryd.prog 136 [pt bp 0, iv ((2 * deal + e.n % 2) * 18), bs (bodyM e)] (plC bp ba (jw1 m deal e).1 :: L) (fun v L' => v = eV T E (writeM (jw1 m deal e).1 (jAt deal e) (bodyM e)).2 ∧ L' = plC bp ba (writeM (jw1 m deal e).1 (jAt deal e) (bodyM e)).1 :: L) := fun L hg => write_calls T E bp ba (jw1 m deal e).1 (jAt deal e) (bodyM e) L hg o1.len (by omega) ⟨o1.lo, o1.hi⟩
  have w3 : ∀ L, Er T E [2, 6] L → HC Tryd.prog 136 [pt bp 0, iv ((2 * deal + e.n % 2) * 18 + 18 - 1), bs [165]] (plC bp ba (jw2 m deal e).1 :: L) (fun v L' => v = eV T E (writeM (jw2 m deal e).1 (jAt deal e + 18 - 1) [165]).2 ∧ L' = plC bp ba (writeM (jw2 m deal e).1 (jAt deal e + 18 - 1) [165]).1 :: L) := fun L hg => write_calls T E bp ba (jw2 m deal e).1 (jAt deal e + 18 - 1) commitB L hg o2.len (by simp [commitB]) ⟨o2.lo, o2.hi⟩
  refine hc_enter (fun _ _ => Tryd.call105 _ _) Tryd.func105 rfl Tryd.ntmps105 (Nat.le_of_ble_eq_true rfl) ?_; simp only [args0, Nat.reduceAdd]
  repeat' (first | (show HW _ _ _ _ _ _; first | apply hw_seq | apply hw_region | refine g_t ?_ | refine g_f ?_ | (refine g_b (fun h => ?_) (fun h => ?_) <;> ((try simp only [Bool.not_eq_eq_eq_not, Bool.not_true, Bool.not_false, decide_eq_true_eq, decide_eq_false_iff_not, Decidable.not_not, ne_eq, Bool.and_eq_true, beq_iff_eq, and_true, true_and, eq_self, decide_true, Bool.and_true, Bool.true_and, reduceCtorEq, not_true_eq_false, not_false_eq_true] at h); (try (exfalso; first | omega | with_reducible exact h (by assumption) | with_reducible exact absurd h (by assumption))))) | apply hw_skip | apply hw_ret | refine g_k S ?_) | (show HO _ _ _ _ _ _ _; first | apply ho_nil | refine g_q (qe S) ?_ | refine g_q (ql S) ?_ | refine g_q (qs S) ?_ | refine g_n ?_ | refine g_on ?_ | (refine g_s (fun h => ?_) (fun h => ?_) <;> ((try simp only [Bool.not_eq_eq_eq_not, Bool.not_true, Bool.not_false, decide_eq_true_eq, decide_eq_false_iff_not, Decidable.not_not, ne_eq, Bool.and_eq_true, beq_iff_eq, and_true, true_and, eq_self, decide_true, Bool.and_true, Bool.true_and, reduceCtorEq, not_true_eq_false, not_false_eq_true] at h); (try (exfalso; first | omega | with_reducible exact h (by assumption) | with_reducible exact absurd h (by assumption))))) | refine wb (fun b => ?_)) | (show HQ _ _ _ _ _ _ _; first | apply hq_nil | refine k_q (qe S) ?_ | refine k_q (ql S) ?_ | refine k_q (qs S) ?_ | refine k_n ?_ | (refine k_s (fun h => ?_) (fun h => ?_) <;> ((try simp only [Bool.not_eq_eq_eq_not, Bool.not_true, Bool.not_false, decide_eq_true_eq, decide_eq_false_iff_not, Decidable.not_not, ne_eq, Bool.and_eq_true, beq_iff_eq, and_true, true_and, eq_self, decide_true, Bool.and_true, Bool.true_and, reduceCtorEq, not_true_eq_false, not_false_eq_true] at h); (try (exfalso; first | omega | with_reducible exact h (by assumption) | with_reducible exact absurd h (by assumption)))))) | apply seqQ_normal | apply seqQ_ret)
  refine fo 1 ?_
  have fin : ∀ (b : Nat) (o : Obj) (m' : Pl), LS (plC bp ba m' :: jC bj bp j :: L).flatten (plC bp ba m' :: [(b, o)] :: jC bj bp j :: L).flatten := fun b o m' => LS.boths _ (LS.skip _ (LS.refl _))
  cases h1 : (readM m (jAt deal e + 18 - 1) 1).2 with
  | some x =>
    have e1 : jwM m deal e = (m, some x) := by simp [jwM, jw2, jw1, h1]
    rw [h1] at k1
    refine gc (k1 _ ((hG.cons _).cons _)) ?_
    rintro v L' ⟨rfl, rfl⟩
    repeat' (first | (show HW _ _ _ _ _ _; first | apply hw_seq | apply hw_region | refine g_t ?_ | refine g_f ?_ | (refine g_b (fun h => ?_) (fun h => ?_) <;> ((try simp only [Bool.not_eq_eq_eq_not, Bool.not_true, Bool.not_false, decide_eq_true_eq, decide_eq_false_iff_not, Decidable.not_not, ne_eq, Bool.and_eq_true, beq_iff_eq, and_true, true_and, eq_self, decide_true, Bool.and_true, Bool.true_and, reduceCtorEq, not_true_eq_false, not_false_eq_true] at h); (try (exfalso; first | omega | with_reducible exact h (by assumption) | with_reducible exact absurd h (by assumption))))) | apply hw_skip | apply hw_ret | refine g_k S ?_) | (show HO _ _ _ _ _ _ _; first | apply ho_nil | refine g_q (qe S) ?_ | refine g_q (ql S) ?_ | refine g_q (qs S) ?_ | refine g_n ?_ | refine g_on ?_ | (refine g_s (fun h => ?_) (fun h => ?_) <;> ((try simp only [Bool.not_eq_eq_eq_not, Bool.not_true, Bool.not_false, decide_eq_true_eq, decide_eq_false_iff_not, Decidable.not_not, ne_eq, Bool.and_eq_true, beq_iff_eq, and_true, true_and, eq_self, decide_true, Bool.and_true, Bool.true_and, reduceCtorEq, not_true_eq_false, not_false_eq_true] at h); (try (exfalso; first | omega | with_reducible exact h (by assumption) | with_reducible exact absurd h (by assumption))))) | refine wb (fun b => ?_)) | (show HQ _ _ _ _ _ _ _; first | apply hq_nil | refine k_q (qe S) ?_ | refine k_q (ql S) ?_ | refine k_q (qs S) ?_ | refine k_n ?_ | (refine k_s (fun h => ?_) (fun h => ?_) <;> ((try simp only [Bool.not_eq_eq_eq_not, Bool.not_true, Bool.not_false, decide_eq_true_eq, decide_eq_false_iff_not, Decidable.not_not, ne_eq, Bool.and_eq_true, beq_iff_eq, and_true, true_and, eq_self, decide_true, Bool.and_true, Bool.true_and, reduceCtorEq, not_true_eq_false, not_false_eq_true] at h); (try (exfalso; first | omega | with_reducible exact h (by assumption) | with_reducible exact absurd h (by assumption)))))) | apply seqQ_normal | apply seqQ_ret)
    rw [e1]
    exact sp1 (fin _ _ _) ⟨rfl, rfl⟩
  | none =>
    rw [h1] at k1
    refine gc (k1 _ ((hG.cons _).cons _)) ?_
    rintro v L' ⟨rfl, rfl⟩
    by_cases h0 : (readM m (jAt deal e + 18 - 1) 1).1 = [0]
    · have e1 : jw1 m deal e = (m, none) := by simp [jw1, h1, h0]
      rw [e1] at w2
      repeat' (first | (show HW _ _ _ _ _ _; first | apply hw_seq | apply hw_region | refine g_t ?_ | refine g_f ?_ | (refine g_b (fun h => ?_) (fun h => ?_) <;> ((try simp only [Bool.not_eq_eq_eq_not, Bool.not_true, Bool.not_false, decide_eq_true_eq, decide_eq_false_iff_not, Decidable.not_not, ne_eq, Bool.and_eq_true, beq_iff_eq, and_true, true_and, eq_self, decide_true, Bool.and_true, Bool.true_and, reduceCtorEq, not_true_eq_false, not_false_eq_true] at h); (try (exfalso; first | omega | with_reducible exact h (by assumption) | with_reducible exact absurd h (by assumption))))) | apply hw_skip | apply hw_ret | refine g_d S ?_) | (show HO _ _ _ _ _ _ _; first | apply ho_nil | refine g_q (qe S) ?_ | refine g_q (ql S) ?_ | refine g_q (qs S) ?_ | refine g_q (qC (kb _)) ?_ | refine g_n ?_ | refine g_on ?_ | (refine g_s (fun h => ?_) (fun h => ?_) <;> ((try simp only [Bool.not_eq_eq_eq_not, Bool.not_true, Bool.not_false, decide_eq_true_eq, decide_eq_false_iff_not, Decidable.not_not, ne_eq, Bool.and_eq_true, beq_iff_eq, and_true, true_and, eq_self, decide_true, Bool.and_true, Bool.true_and, reduceCtorEq, not_true_eq_false, not_false_eq_true] at h); (try (exfalso; first | omega | with_reducible exact h (by assumption) | with_reducible exact absurd h (by assumption))))) | refine wb (fun b => ?_)) | (show HD _ _ _ _ _ _ _ _; first | apply hd_nil | refine d_q 100 (by exact rfl) (fun _ => qe S) ?_ | refine dl S 100 ?_ | refine ds S 100 ?_ | refine d_n 100 ?_ | (refine d_sp 100 (fun h => ?_) (fun h => ?_) <;> ((try simp only [Bool.not_eq_eq_eq_not, Bool.not_true, Bool.not_false, decide_eq_true_eq, decide_eq_false_iff_not, Decidable.not_not, ne_eq, Bool.and_eq_true, beq_iff_eq, and_true, true_and, eq_self, decide_true, Bool.and_true, Bool.true_and, reduceCtorEq, not_true_eq_false, not_false_eq_true] at h); (try (exfalso; first | omega | with_reducible exact h (by assumption) | with_reducible exact absurd h (by assumption))))) | refine d_q 0 (by exact rfl) (fun _ => qC (kb _)) ?_ | refine d_q 1 (by exact rfl) (fun _ => qC (kb _)) ?_ | refine d_q 2 (by exact rfl) (fun _ => qC (kb _)) ?_ | refine d_q 3 (by exact rfl) (fun _ => qC (kb _)) ?_ | refine da 101 ?_) | refine dx ?_ | apply dx0 | refine dxd ?_ | refine dxk ?_ | apply seqQ_normal | apply seqQ_ret)
      all_goals try exact absurd h0 h
      refine gc (w2 _ ((hG.cons _).cons _)) ?_
      rintro v L' ⟨rfl, rfl⟩
      have e2 : jw2 m deal e = writeM m (jAt deal e) (bodyM e) := by simp [jw2, e1]
      rw [← e2]
      cases h2 : (jw2 m deal e).2 with
      | some x =>
        have e3 : jwM m deal e = ((jw2 m deal e).1, some x) := by simp [jwM, h2]
        repeat' (first | (show HW _ _ _ _ _ _; first | apply hw_seq | apply hw_region | refine g_t ?_ | refine g_f ?_ | (refine g_b (fun h => ?_) (fun h => ?_) <;> ((try simp only [Bool.not_eq_eq_eq_not, Bool.not_true, Bool.not_false, decide_eq_true_eq, decide_eq_false_iff_not, Decidable.not_not, ne_eq, Bool.and_eq_true, beq_iff_eq, and_true, true_and, eq_self, decide_true, Bool.and_true, Bool.true_and, reduceCtorEq, not_true_eq_false, not_false_eq_true] at h); (try (exfalso; first | omega | with_reducible exact h (by assumption) | with_reducible exact absurd h (by assumption))))) | apply hw_skip | apply hw_ret | refine g_d S ?_) | (show HO _ _ _ _ _ _ _; first | apply ho_nil | refine g_q (qe S) ?_ | refine g_q (ql S) ?_ | refine g_q (qs S) ?_ | refine g_q (qC (kb _)) ?_ | refine g_n ?_ | refine g_on ?_ | (refine g_s (fun h => ?_) (fun h => ?_) <;> ((try simp only [Bool.not_eq_eq_eq_not, Bool.not_true, Bool.not_false, decide_eq_true_eq, decide_eq_false_iff_not, Decidable.not_not, ne_eq, Bool.and_eq_true, beq_iff_eq, and_true, true_and, eq_self, decide_true, Bool.and_true, Bool.true_and, reduceCtorEq, not_true_eq_false, not_false_eq_true] at h); (try (exfalso; first | omega | with_reducible exact h (by assumption) | with_reducible exact absurd h (by assumption))))) | refine wb (fun b => ?_)) | (show HD _ _ _ _ _ _ _ _; first | apply hd_nil | refine d_q 100 (by exact rfl) (fun _ => qe S) ?_ | refine dl S 100 ?_ | refine ds S 100 ?_ | refine d_n 100 ?_ | (refine d_sp 100 (fun h => ?_) (fun h => ?_) <;> ((try simp only [Bool.not_eq_eq_eq_not, Bool.not_true, Bool.not_false, decide_eq_true_eq, decide_eq_false_iff_not, Decidable.not_not, ne_eq, Bool.and_eq_true, beq_iff_eq, and_true, true_and, eq_self, decide_true, Bool.and_true, Bool.true_and, reduceCtorEq, not_true_eq_false, not_false_eq_true] at h); (try (exfalso; first | omega | with_reducible exact h (by assumption) | with_reducible exact absurd h (by assumption))))) | refine d_q 0 (by exact rfl) (fun _ => qC (kb _)) ?_ | refine d_q 1 (by exact rfl) (fun _ => qC (kb _)) ?_ | refine d_q 2 (by exact rfl) (fun _ => qC (kb _)) ?_ | refine d_q 3 (by exact rfl) (fun _ => qC (kb _)) ?_ | refine da 101 ?_) | refine dx ?_ | apply dx0 | refine dxd ?_ | refine dxk ?_ | apply seqQ_normal | apply seqQ_ret)
        rw [e3]
        exact sp1 (fin _ _ _) ⟨rfl, rfl⟩
      | none =>
        have e3 : jwM m deal e = writeM (jw2 m deal e).1 (jAt deal e + 18 - 1) [165] := by simp [jwM, h2, commitB]
        rw [← e3] at w3
        repeat' (first | (show HW _ _ _ _ _ _; first | apply hw_seq | apply hw_region | refine g_t ?_ | refine g_f ?_ | (refine g_b (fun h => ?_) (fun h => ?_) <;> ((try simp only [Bool.not_eq_eq_eq_not, Bool.not_true, Bool.not_false, decide_eq_true_eq, decide_eq_false_iff_not, Decidable.not_not, ne_eq, Bool.and_eq_true, beq_iff_eq, and_true, true_and, eq_self, decide_true, Bool.and_true, Bool.true_and, reduceCtorEq, not_true_eq_false, not_false_eq_true] at h); (try (exfalso; first | omega | with_reducible exact h (by assumption) | with_reducible exact absurd h (by assumption))))) | apply hw_skip | apply hw_ret | refine g_d S ?_) | (show HO _ _ _ _ _ _ _; first | apply ho_nil | refine g_q (qe S) ?_ | refine g_q (ql S) ?_ | refine g_q (qs S) ?_ | refine g_q (qC (kb _)) ?_ | refine g_n ?_ | refine g_on ?_ | (refine g_s (fun h => ?_) (fun h => ?_) <;> ((try simp only [Bool.not_eq_eq_eq_not, Bool.not_true, Bool.not_false, decide_eq_true_eq, decide_eq_false_iff_not, Decidable.not_not, ne_eq, Bool.and_eq_true, beq_iff_eq, and_true, true_and, eq_self, decide_true, Bool.and_true, Bool.true_and, reduceCtorEq, not_true_eq_false, not_false_eq_true] at h); (try (exfalso; first | omega | with_reducible exact h (by assumption) | with_reducible exact absurd h (by assumption))))) | refine wb (fun b => ?_)) | (show HD _ _ _ _ _ _ _ _; first | apply hd_nil | refine d_q 100 (by exact rfl) (fun _ => qe S) ?_ | refine dl S 100 ?_ | refine ds S 100 ?_ | refine d_n 100 ?_ | (refine d_sp 100 (fun h => ?_) (fun h => ?_) <;> ((try simp only [Bool.not_eq_eq_eq_not, Bool.not_true, Bool.not_false, decide_eq_true_eq, decide_eq_false_iff_not, Decidable.not_not, ne_eq, Bool.and_eq_true, beq_iff_eq, and_true, true_and, eq_self, decide_true, Bool.and_true, Bool.true_and, reduceCtorEq, not_true_eq_false, not_false_eq_true] at h); (try (exfalso; first | omega | with_reducible exact h (by assumption) | with_reducible exact absurd h (by assumption))))) | refine d_q 0 (by exact rfl) (fun _ => qC (kb _)) ?_ | refine d_q 1 (by exact rfl) (fun _ => qC (kb _)) ?_ | refine d_q 2 (by exact rfl) (fun _ => qC (kb _)) ?_ | refine d_q 3 (by exact rfl) (fun _ => qC (kb _)) ?_ | refine da 101 ?_) | refine dx ?_ | apply dx0 | refine dxd ?_ | refine dxk ?_ | apply seqQ_normal | apply seqQ_ret)
        refine gc (w3 _ ((hG.cons _).cons _)) ?_
        rintro v L' ⟨rfl, rfl⟩
        repeat' (first | (show HW _ _ _ _ _ _; first | apply hw_seq | apply hw_region | refine g_t ?_ | refine g_f ?_ | (refine g_b (fun h => ?_) (fun h => ?_) <;> ((try simp only [Bool.not_eq_eq_eq_not, Bool.not_true, Bool.not_false, decide_eq_true_eq, decide_eq_false_iff_not, Decidable.not_not, ne_eq, Bool.and_eq_true, beq_iff_eq, and_true, true_and, eq_self, decide_true, Bool.and_true, Bool.true_and, reduceCtorEq, not_true_eq_false, not_false_eq_true] at h); (try (exfalso; first | omega | with_reducible exact h (by assumption) | with_reducible exact absurd h (by assumption))))) | apply hw_skip | apply hw_ret | refine g_d S ?_) | (show HO _ _ _ _ _ _ _; first | apply ho_nil | refine g_q (qe S) ?_ | refine g_q (ql S) ?_ | refine g_q (qs S) ?_ | refine g_q (qC (kb _)) ?_ | refine g_n ?_ | refine g_on ?_ | (refine g_s (fun h => ?_) (fun h => ?_) <;> ((try simp only [Bool.not_eq_eq_eq_not, Bool.not_true, Bool.not_false, decide_eq_true_eq, decide_eq_false_iff_not, Decidable.not_not, ne_eq, Bool.and_eq_true, beq_iff_eq, and_true, true_and, eq_self, decide_true, Bool.and_true, Bool.true_and, reduceCtorEq, not_true_eq_false, not_false_eq_true] at h); (try (exfalso; first | omega | with_reducible exact h (by assumption) | with_reducible exact absurd h (by assumption))))) | refine wb (fun b => ?_)) | (show HD _ _ _ _ _ _ _ _; first | apply hd_nil | refine d_q 100 (by exact rfl) (fun _ => qe S) ?_ | refine dl S 100 ?_ | refine ds S 100 ?_ | refine d_n 100 ?_ | (refine d_sp 100 (fun h => ?_) (fun h => ?_) <;> ((try simp only [Bool.not_eq_eq_eq_not, Bool.not_true, Bool.not_false, decide_eq_true_eq, decide_eq_false_iff_not, Decidable.not_not, ne_eq, Bool.and_eq_true, beq_iff_eq, and_true, true_and, eq_self, decide_true, Bool.and_true, Bool.true_and, reduceCtorEq, not_true_eq_false, not_false_eq_true] at h); (try (exfalso; first | omega | with_reducible exact h (by assumption) | with_reducible exact absurd h (by assumption))))) | refine d_q 0 (by exact rfl) (fun _ => qC (kb _)) ?_ | refine d_q 1 (by exact rfl) (fun _ => qC (kb _)) ?_ | refine d_q 2 (by exact rfl) (fun _ => qC (kb _)) ?_ | refine d_q 3 (by exact rfl) (fun _ => qC (kb _)) ?_ | refine da 101 ?_) | refine dx ?_ | apply dx0 | refine dxd ?_ | refine dxk ?_ | apply seqQ_normal | apply seqQ_ret)
        exact sp1 (fin _ _ _) ⟨rfl, rfl⟩
    · have e1 : jw1 m deal e = writeM m (jAt deal e + 18 - 1) [0] := by simp [jw1, h1, h0]
      rw [← e1] at w1
      repeat' (first | (show HW _ _ _ _ _ _; first | apply hw_seq | apply hw_region | refine g_t ?_ | refine g_f ?_ | (refine g_b (fun h => ?_) (fun h => ?_) <;> ((try simp only [Bool.not_eq_eq_eq_not, Bool.not_true, Bool.not_false, decide_eq_true_eq, decide_eq_false_iff_not, Decidable.not_not, ne_eq, Bool.and_eq_true, beq_iff_eq, and_true, true_and, eq_self, decide_true, Bool.and_true, Bool.true_and, reduceCtorEq, not_true_eq_false, not_false_eq_true] at h); (try (exfalso; first | omega | with_reducible exact h (by assumption) | with_reducible exact absurd h (by assumption))))) | apply hw_skip | apply hw_ret | refine g_d S ?_) | (show HO _ _ _ _ _ _ _; first | apply ho_nil | refine g_q (qe S) ?_ | refine g_q (ql S) ?_ | refine g_q (qs S) ?_ | refine g_q (qC (kb _)) ?_ | refine g_n ?_ | refine g_on ?_ | (refine g_s (fun h => ?_) (fun h => ?_) <;> ((try simp only [Bool.not_eq_eq_eq_not, Bool.not_true, Bool.not_false, decide_eq_true_eq, decide_eq_false_iff_not, Decidable.not_not, ne_eq, Bool.and_eq_true, beq_iff_eq, and_true, true_and, eq_self, decide_true, Bool.and_true, Bool.true_and, reduceCtorEq, not_true_eq_false, not_false_eq_true] at h); (try (exfalso; first | omega | with_reducible exact h (by assumption) | with_reducible exact absurd h (by assumption))))) | refine wb (fun b => ?_)) | (show HD _ _ _ _ _ _ _ _; first | apply hd_nil | refine d_q 100 (by exact rfl) (fun _ => qe S) ?_ | refine dl S 100 ?_ | refine ds S 100 ?_ | refine d_n 100 ?_ | (refine d_sp 100 (fun h => ?_) (fun h => ?_) <;> ((try simp only [Bool.not_eq_eq_eq_not, Bool.not_true, Bool.not_false, decide_eq_true_eq, decide_eq_false_iff_not, Decidable.not_not, ne_eq, Bool.and_eq_true, beq_iff_eq, and_true, true_and, eq_self, decide_true, Bool.and_true, Bool.true_and, reduceCtorEq, not_true_eq_false, not_false_eq_true] at h); (try (exfalso; first | omega | with_reducible exact h (by assumption) | with_reducible exact absurd h (by assumption))))) | refine d_q 0 (by exact rfl) (fun _ => qC (kb _)) ?_ | refine d_q 1 (by exact rfl) (fun _ => qC (kb _)) ?_ | refine d_q 2 (by exact rfl) (fun _ => qC (kb _)) ?_ | refine d_q 3 (by exact rfl) (fun _ => qC (kb _)) ?_ | refine da 101 ?_) | refine dx ?_ | apply dx0 | refine dxd ?_ | refine dxk ?_ | apply seqQ_normal | apply seqQ_ret)
      all_goals try exact absurd h h0
      refine gc (w1 _ ((hG.cons _).cons _)) ?_
      rintro v L' ⟨rfl, rfl⟩
      cases h4 : (jw1 m deal e).2 with
      | some x =>
        have e3 : jwM m deal e = ((jw1 m deal e).1, some x) := by simp [jwM, jw2, h4]
        repeat' (first | (show HW _ _ _ _ _ _; first | apply hw_seq | apply hw_region | refine g_t ?_ | refine g_f ?_ | (refine g_b (fun h => ?_) (fun h => ?_) <;> ((try simp only [Bool.not_eq_eq_eq_not, Bool.not_true, Bool.not_false, decide_eq_true_eq, decide_eq_false_iff_not, Decidable.not_not, ne_eq, Bool.and_eq_true, beq_iff_eq, and_true, true_and, eq_self, decide_true, Bool.and_true, Bool.true_and, reduceCtorEq, not_true_eq_false, not_false_eq_true] at h); (try (exfalso; first | omega | with_reducible exact h (by assumption) | with_reducible exact absurd h (by assumption))))) | apply hw_skip | apply hw_ret | refine g_d S ?_) | (show HO _ _ _ _ _ _ _; first | apply ho_nil | refine g_q (qe S) ?_ | refine g_q (ql S) ?_ | refine g_q (qs S) ?_ | refine g_q (qC (kb _)) ?_ | refine g_n ?_ | refine g_on ?_ | (refine g_s (fun h => ?_) (fun h => ?_) <;> ((try simp only [Bool.not_eq_eq_eq_not, Bool.not_true, Bool.not_false, decide_eq_true_eq, decide_eq_false_iff_not, Decidable.not_not, ne_eq, Bool.and_eq_true, beq_iff_eq, and_true, true_and, eq_self, decide_true, Bool.and_true, Bool.true_and, reduceCtorEq, not_true_eq_false, not_false_eq_true] at h); (try (exfalso; first | omega | with_reducible exact h (by assumption) | with_reducible exact absurd h (by assumption))))) | refine wb (fun b => ?_)) | (show HD _ _ _ _ _ _ _ _; first | apply hd_nil | refine d_q 100 (by exact rfl) (fun _ => qe S) ?_ | refine dl S 100 ?_ | refine ds S 100 ?_ | refine d_n 100 ?_ | (refine d_sp 100 (fun h => ?_) (fun h => ?_) <;> ((try simp only [Bool.not_eq_eq_eq_not, Bool.not_true, Bool.not_false, decide_eq_true_eq, decide_eq_false_iff_not, Decidable.not_not, ne_eq, Bool.and_eq_true, beq_iff_eq, and_true, true_and, eq_self, decide_true, Bool.and_true, Bool.true_and, reduceCtorEq, not_true_eq_false, not_false_eq_true] at h); (try (exfalso; first | omega | with_reducible exact h (by assumption) | with_reducible exact absurd h (by assumption))))) | refine d_q 0 (by exact rfl) (fun _ => qC (kb _)) ?_ | refine d_q 1 (by exact rfl) (fun _ => qC (kb _)) ?_ | refine d_q 2 (by exact rfl) (fun _ => qC (kb _)) ?_ | refine d_q 3 (by exact rfl) (fun _ => qC (kb _)) ?_ | refine da 101 ?_) | refine dx ?_ | apply dx0 | refine dxd ?_ | refine dxk ?_ | apply seqQ_normal | apply seqQ_ret)
        rw [e3]
        exact sp1 (fin _ _ _) ⟨rfl, rfl⟩
      | none =>
        have e2 : jw2 m deal e = writeM (jw1 m deal e).1 (jAt deal e) (bodyM e) := by simp [jw2, h4]
        rw [← e2] at w2
        repeat' (first | (show HW _ _ _ _ _ _; first | apply hw_seq | apply hw_region | refine g_t ?_ | refine g_f ?_ | (refine g_b (fun h => ?_) (fun h => ?_) <;> ((try simp only [Bool.not_eq_eq_eq_not, Bool.not_true, Bool.not_false, decide_eq_true_eq, decide_eq_false_iff_not, Decidable.not_not, ne_eq, Bool.and_eq_true, beq_iff_eq, and_true, true_and, eq_self, decide_true, Bool.and_true, Bool.true_and, reduceCtorEq, not_true_eq_false, not_false_eq_true] at h); (try (exfalso; first | omega | with_reducible exact h (by assumption) | with_reducible exact absurd h (by assumption))))) | apply hw_skip | apply hw_ret | refine g_d S ?_) | (show HO _ _ _ _ _ _ _; first | apply ho_nil | refine g_q (qe S) ?_ | refine g_q (ql S) ?_ | refine g_q (qs S) ?_ | refine g_q (qC (kb _)) ?_ | refine g_n ?_ | refine g_on ?_ | (refine g_s (fun h => ?_) (fun h => ?_) <;> ((try simp only [Bool.not_eq_eq_eq_not, Bool.not_true, Bool.not_false, decide_eq_true_eq, decide_eq_false_iff_not, Decidable.not_not, ne_eq, Bool.and_eq_true, beq_iff_eq, and_true, true_and, eq_self, decide_true, Bool.and_true, Bool.true_and, reduceCtorEq, not_true_eq_false, not_false_eq_true] at h); (try (exfalso; first | omega | with_reducible exact h (by assumption) | with_reducible exact absurd h (by assumption))))) | refine wb (fun b => ?_)) | (show HD _ _ _ _ _ _ _ _; first | apply hd_nil | refine d_q 100 (by exact rfl) (fun _ => qe S) ?_ | refine dl S 100 ?_ | refine ds S 100 ?_ | refine d_n 100 ?_ | (refine d_sp 100 (fun h => ?_) (fun h => ?_) <;> ((try simp only [Bool.not_eq_eq_eq_not, Bool.not_true, Bool.not_false, decide_eq_true_eq, decide_eq_false_iff_not, Decidable.not_not, ne_eq, Bool.and_eq_true, beq_iff_eq, and_true, true_and, eq_self, decide_true, Bool.and_true, Bool.true_and, reduceCtorEq, not_true_eq_false, not_false_eq_true] at h); (try (exfalso; first | omega | with_reducible exact h (by assumption) | with_reducible exact absurd h (by assumption))))) | refine d_q 0 (by exact rfl) (fun _ => qC (kb _)) ?_ | refine d_q 1 (by exact rfl) (fun _ => qC (kb _)) ?_ | refine d_q 2 (by exact rfl) (fun _ => qC (kb _)) ?_ | refine d_q 3 (by exact rfl) (fun _ => qC (kb _)) ?_ | refine da 101 ?_) | refine dx ?_ | apply dx0 | refine dxd ?_ | refine dxk ?_ | apply seqQ_normal | apply seqQ_ret)
        refine gc (w2 _ ((hG.cons _).cons _)) ?_
        rintro v L' ⟨rfl, rfl⟩
        cases h2 : (jw2 m deal e).2 with
        | some x =>
          have e3 : jwM m deal e = ((jw2 m deal e).1, some x) := by simp [jwM, h2]
          repeat' (first | (show HW _ _ _ _ _ _; first | apply hw_seq | apply hw_region | refine g_t ?_ | refine g_f ?_ | (refine g_b (fun h => ?_) (fun h => ?_) <;> ((try simp only [Bool.not_eq_eq_eq_not, Bool.not_true, Bool.not_false, decide_eq_true_eq, decide_eq_false_iff_not, Decidable.not_not, ne_eq, Bool.and_eq_true, beq_iff_eq, and_true, true_and, eq_self, decide_true, Bool.and_true, Bool.true_and, reduceCtorEq, not_true_eq_false, not_false_eq_true] at h); (try (exfalso; first | omega | with_reducible exact h (by assumption) | with_reducible exact absurd h (by assumption))))) | apply hw_skip | apply hw_ret | refine g_d S ?_) | (show HO _ _ _ _ _ _ _; first | apply ho_nil | refine g_q (qe S) ?_ | refine g_q (ql S) ?_ | refine g_q (qs S) ?_ | refine g_q (qC (kb _)) ?_ | refine g_n ?_ | refine g_on ?_ | (refine g_s (fun h => ?_) (fun h => ?_) <;> ((try simp only [Bool.not_eq_eq_eq_not, Bool.not_true, Bool.not_false, decide_eq_true_eq, decide_eq_false_iff_not, Decidable.not_not, ne_eq, Bool.and_eq_true, beq_iff_eq, and_true, true_and, eq_self, decide_true, Bool.and_true, Bool.true_and, reduceCtorEq, not_true_eq_false, not_false_eq_true] at h); (try (exfalso; first | omega | with_reducible exact h (by assumption) | with_reducible exact absurd h (by assumption))))) | refine wb (fun b => ?_)) | (show HD _ _ _ _ _ _ _ _; first | apply hd_nil | refine d_q 100 (by exact rfl) (fun _ => qe S) ?_ | refine dl S 100 ?_ | refine ds S 100 ?_ | refine d_n 100 ?_ | (refine d_sp 100 (fun h => ?_) (fun h => ?_) <;> ((try simp only [Bool.not_eq_eq_eq_not, Bool.not_true, Bool.not_false, decide_eq_true_eq, decide_eq_false_iff_not, Decidable.not_not, ne_eq, Bool.and_eq_true, beq_iff_eq, and_true, true_and, eq_self, decide_true, Bool.and_true, Bool.true_and, reduceCtorEq, not_true_eq_false, not_false_eq_true] at h); (try (exfalso; first | omega | with_reducible exact h (by assumption) | with_reducible exact absurd h (by assumption))))) | refine d_q 0 (by exact rfl) (fun _ => qC (kb _)) ?_ | refine d_q 1 (by exact rfl) (fun _ => qC (kb _)) ?_ | refine d_q 2 (by exact rfl) (fun _ => qC (kb _)) ?_ | refine d_q 3 (by exact rfl) (fun _ => qC (kb _)) ?_ | refine da 101 ?_) | refine dx ?_ | apply dx0 | refine dxd ?_ | refine dxk ?_ | apply seqQ_normal | apply seqQ_ret)
          rw [e3]
          exact sp1 (fin _ _ _) ⟨rfl, rfl⟩
        | none =>
          have e3 : jwM m deal e = writeM (jw2 m deal e).1 (jAt deal e + 18 - 1) [165] := by simp [jwM, h2, commitB]
          rw [← e3] at w3
          repeat' (first | (show HW _ _ _ _ _ _; first | apply hw_seq | apply hw_region | refine g_t ?_ | refine g_f ?_ | (refine g_b (fun h => ?_) (fun h => ?_) <;> ((try simp only [Bool.not_eq_eq_eq_not, Bool.not_true, Bool.not_false, decide_eq_true_eq, decide_eq_false_iff_not, Decidable.not_not, ne_eq, Bool.and_eq_true, beq_iff_eq, and_true, true_and, eq_self, decide_true, Bool.and_true, Bool.true_and, reduceCtorEq, not_true_eq_false, not_false_eq_true] at h); (try (exfalso; first | omega | with_reducible exact h (by assumption) | with_reducible exact absurd h (by assumption))))) | apply hw_skip | apply hw_ret | refine g_d S ?_) | (show HO _ _ _ _ _ _ _; first | apply ho_nil | refine g_q (qe S) ?_ | refine g_q (ql S) ?_ | refine g_q (qs S) ?_ | refine g_q (qC (kb _)) ?_ | refine g_n ?_ | refine g_on ?_ | (refine g_s (fun h => ?_) (fun h => ?_) <;> ((try simp only [Bool.not_eq_eq_eq_not, Bool.not_true, Bool.not_false, decide_eq_true_eq, decide_eq_false_iff_not, Decidable.not_not, ne_eq, Bool.and_eq_true, beq_iff_eq, and_true, true_and, eq_self, decide_true, Bool.and_true, Bool.true_and, reduceCtorEq, not_true_eq_false, not_false_eq_true] at h); (try (exfalso; first | omega | with_reducible exact h (by assumption) | with_reducible exact absurd h (by assumption))))) | refine wb (fun b => ?_)) | (show HD _ _ _ _ _ _ _ _; first | apply hd_nil | refine d_q 100 (by exact rfl) (fun _ => qe S) ?_ | refine dl S 100 ?_ | refine ds S 100 ?_ | refine d_n 100 ?_ | (refine d_sp 100 (fun h => ?_) (fun h => ?_) <;> ((try simp only [Bool.not_eq_eq_eq_not, Bool.not_true, Bool.not_false, decide_eq_true_eq, decide_eq_false_iff_not, Decidable.not_not, ne_eq, Bool.and_eq_true, beq_iff_eq, and_true, true_and, eq_self, decide_true, Bool.and_true, Bool.true_and, reduceCtorEq, not_true_eq_false, not_false_eq_true] at h); (try (exfalso; first | omega | with_reducible exact h (by assumption) | with_reducible exact absurd h (by assumption))))) | refine d_q 0 (by exact rfl) (fun _ => qC (kb _)) ?_ | refine d_q 1 (by exact rfl) (fun _ => qC (kb _)) ?_ | refine d_q 2 (by exact rfl) (fun _ => qC (kb _)) ?_ | refine d_q 3 (by exact rfl) (fun _ => qC (kb _)) ?_ | refine da 101 ?_) | refine dx ?_ | apply dx0 | refine dxd ?_ | refine dxk ?_ | apply seqQ_normal | apply seqQ_ret)
          refine gc (w3 _ ((hG.cons _).cons _)) ?_
          rintro v L' ⟨rfl, rfl⟩
          repeat' (first | (show HW _ _ _ _ _ _; first | apply hw_seq | apply hw_region | refine g_t ?_ | refine g_f ?_ | (refine g_b (fun h => ?_) (fun h => ?_) <;> ((try simp only [Bool.not_eq_eq_eq_not, Bool.not_true, Bool.not_false, decide_eq_true_eq, decide_eq_false_iff_not, Decidable.not_not, ne_eq, Bool.and_eq_true, beq_iff_eq, and_true, true_and, eq_self, decide_true, Bool.and_true, Bool.true_and, reduceCtorEq, not_true_eq_false, not_false_eq_true] at h); (try (exfalso; first | omega | with_reducible exact h (by assumption) | with_reducible exact absurd h (by assumption))))) | apply hw_skip | apply hw_ret | refine g_d S ?_) | (show HO _ _ _ _ _ _ _; first | apply ho_nil | refine g_q (qe S) ?_ | refine g_q (ql S) ?_ | refine g_q (qs S) ?_ | refine g_q (qC (kb _)) ?_ | refine g_n ?_ | refine g_on ?_ | (refine g_s (fun h => ?_) (fun h => ?_) <;> ((try simp only [Bool.not_eq_eq_eq_not, Bool.not_true, Bool.not_false, decide_eq_true_eq, decide_eq_false_iff_not, Decidable.not_not, ne_eq, Bool.and_eq_true, beq_iff_eq, and_true, true_and, eq_self, decide_true, Bool.and_true, Bool.true_and, reduceCtorEq, not_true_eq_false, not_false_eq_true] at h); (try (exfalso; first | omega | with_reducible exact h (by assumption) | with_reducible exact absurd h (by assumption))))) | refine wb (fun b => ?_)) | (show HD _ _ _ _ _ _ _ _; first | apply hd_nil | refine d_q 100 (by exact rfl) (fun _ => qe S) ?_ | refine dl S 100 ?_ | refine ds S 100 ?_ | refine d_n 100 ?_ | (refine d_sp 100 (fun h => ?_) (fun h => ?_) <;> ((try simp only [Bool.not_eq_eq_eq_not, Bool.not_true, Bool.not_false, decide_eq_true_eq, decide_eq_false_iff_not, Decidable.not_not, ne_eq, Bool.and_eq_true, beq_iff_eq, and_true, true_and, eq_self, decide_true, Bool.and_true, Bool.true_and, reduceCtorEq, not_true_eq_false, not_false_eq_true] at h); (try (exfalso; first | omega | with_reducible exact h (by assumption) | with_reducible exact absurd h (by assumption))))) | refine d_q 0 (by exact rfl) (fun _ => qC (kb _)) ?_ | refine d_q 1 (by exact rfl) (fun _ => qC (kb _)) ?_ | refine d_q 2 (by exact rfl) (fun _ => qC (kb _)) ?_ | refine d_q 3 (by exact rfl) (fun _ => qC (kb _)) ?_ | refine da 101 ?_) | refine dx ?_ | apply dx0 | refine dxd ?_ | refine dxk ?_ | apply seqQ_normal | apply seqQ_ret)
          exact sp1 (fin _ _ _) ⟨rfl, rfl⟩
end Go.HL
end

/-! JnF -/
section
namespace Go.HL
open Go Go.Proofs
set_option linter.unusedVariables false
set_option linter.unusedSimpArgs false

def badPut (deal : Int) (s : St) : Prop := deal < 0 ∨ 6 ≤ deal ∨ s.ph < 0 ∨ 255 < s.ph ∨ s.pr < 0 ∨ s.att < 0 ∨ 1048576 < max s.pr s.att
instance (deal : Int) (s : St) : Decidable (badPut deal s) := by unfold badPut; infer_instance
instance : DecidableEq St := fun a b => decidable_of_iff (a.ph = b.ph ∧ a.pr = b.pr ∧ a.att = b.att) (by
  obtain ⟨a1, a2, a3⟩ := a
  obtain ⟨b1, b2, b3⟩ := b
  simp)
theorem St.ext3 {a b : St} (h : a.ph = b.ph ∧ a.pr = b.pr ∧ a.att = b.att) : a = b := by
  obtain ⟨a1, a2, a3⟩ := a
  obtain ⟨b1, b2, b3⟩ := b
  simp_all
def putM (m : Pl) (j : Jn) (deal : Int) (s : St) : Pl × Jn × Option Nat :=
  if j.dead = true then (m, j, some 6) else if badPut deal s then (m, j, some 2) else
  if (j.l.getD deal.toNat zeroE).s = s then (m, j, none) else
  if 4294967296 ≤ (j.l.getD deal.toNat zeroE).n + 1 then (m, j, some 5) else
  match (jwM m deal ⟨(j.l.getD deal.toNat zeroE).n + 1, s⟩).2 with
  | some x => ((jwM m deal ⟨(j.l.getD deal.toNat zeroE).n + 1, s⟩).1, ⟨j.l, true⟩, some x)
  | none => ((jwM m deal ⟨(j.l.getD deal.toNat zeroE).n + 1, s⟩).1, ⟨j.l.set deal.toNat ⟨(j.l.getD deal.toNat zeroE).n + 1, s⟩, j.dead⟩, none)
structure JnOk (j : Jn) : Prop where
  len : j.l.length = 6
  n0 : ∀ d, 0 ≤ (j.l.getD d zeroE).n
  n1 : ∀ d, (j.l.getD d zeroE).n ≤ 4294967296
attribute [local irreducible] HW HO HQ HD HC QOp Has Upd Puts Gets seqQ blkQ loopQ fnQ actQ nextP unQ MapF
attribute [local irreducible] jcells plC
theorem put_calls (T : Nat) (E : Nat → Addr) (bj bp ba : Nat) (m : Pl) (j : Jn) (deal : Int) (s : St) (L : Heap) (hG : Er T E [2, 5, 6] L) (hm : PlOk m) (hj : JnOk j) :
    HC Tryd.prog 51 [pt bj 0, iv deal, .agg ⟨sc s⟩] (plC bp ba m :: jC bj bp j :: L) (fun v L' => v = eV T E (putM m j deal s).2.2 ∧ L' = plC bp ba (putM m j deal s).1 :: jC bj bp (putM m j deal s).2.1 :: L) := by
  have gd := jdead (bp := bp) hj.len
  by_cases h1 : j.dead = true
  · rw [h1] at gd
    rw [show putM m j deal s = (m, j, some 6) from if_pos h1]
    refine hc_enter (fun _ _ => Tryd.call51 _ _) Tryd.func51 rfl Tryd.ntmps51 (Nat.le_of_ble_eq_true rfl) ?_; simp only [args0, Nat.reduceAdd]
    repeat' (first | (show HW _ _ _ _ _ _; first | apply hw_seq | apply hw_region | apply hw_block | apply hw_exit | refine g_t ?_ | refine g_f ?_ | (refine g_b (fun h => ?_) (fun h => ?_) <;> ((try simp only [Bool.not_eq_eq_eq_not, Bool.not_true, Bool.not_false, decide_eq_true_eq, decide_eq_false_iff_not, Decidable.not_not, ne_eq, Bool.and_eq_true, beq_iff_eq, and_true, true_and, eq_self, decide_true, Bool.and_true, Bool.true_and, reduceCtorEq, not_true_eq_false, not_false_eq_true] at h); (try (exfalso; first | omega | with_reducible exact h (by assumption) | with_reducible exact absurd h (by assumption))))) | apply hw_skip | apply hw_ret | refine g_d S ?_) | (show HO _ _ _ _ _ _ _; first | apply ho_nil | refine g_q (qe S) ?_ | refine g_q (qg S) ?_ | refine g_q (ql S) ?_ | refine g_q (qs S) ?_ | refine g_q (qb S) ?_ | refine g_q (qbA S) ?_ | refine g_q (qA S) ?_ | refine g_n ?_ | refine g_on ?_ | (refine g_s (fun h => ?_) (fun h => ?_) <;> ((try simp only [Bool.not_eq_eq_eq_not, Bool.not_true, Bool.not_false, decide_eq_true_eq, decide_eq_false_iff_not, Decidable.not_not, ne_eq, Bool.and_eq_true, beq_iff_eq, and_true, true_and, eq_self, decide_true, Bool.and_true, Bool.true_and, reduceCtorEq, not_true_eq_false, not_false_eq_true] at h); (try (exfalso; first | omega | with_reducible exact h (by assumption) | with_reducible exact absurd h (by assumption))))) | refine wa S (fun b => ?_) | refine wb (fun b => ?_) | refine ws S ?_) | (show HD _ _ _ _ _ _ _ _; first | apply hd_nil | refine d_q 100 (by exact rfl) (fun _ => qe S) ?_ | refine d_q 100 (by exact rfl) (fun _ => qb S) ?_ | refine d_q 100 (by exact rfl) (fun _ => qbA S) ?_ | refine d_q 100 (by exact rfl) (fun _ => qA S) ?_ | refine dl S 100 ?_ | refine ds S 100 ?_ | refine dg S 100 (fun _ _ => ?_) | refine d_n 100 ?_ | (refine d_sp 100 (fun h => ?_) (fun h => ?_) <;> ((try simp only [Bool.not_eq_eq_eq_not, Bool.not_true, Bool.not_false, decide_eq_true_eq, decide_eq_false_iff_not, Decidable.not_not, ne_eq, Bool.and_eq_true, beq_iff_eq, and_true, true_and, eq_self, decide_true, Bool.and_true, Bool.true_and, reduceCtorEq, not_true_eq_false, not_false_eq_true] at h); (try (exfalso; first | omega | with_reducible exact h (by assumption) | with_reducible exact absurd h (by assumption))))) | refine da 101 ?_) | refine dx ?_ | apply dx0 | refine dxd ?_ | refine dxk ?_ | apply seqQ_normal | apply seqQ_ret | apply seqQ_exit | apply blkQ_here | refine g_bx ?_ | apply blkQ_ret | apply blkQ_normal)
    exact sp1 (LS.skip _ (LS.refl _)) ⟨rfl, rfl⟩
  by_cases h2 : badPut deal s
  · rw [show j.dead = false by simpa using h1] at gd
    rw [show putM m j deal s = (m, j, some 2) by unfold putM; rw [if_neg h1, if_pos h2]]
    unfold badPut at h2
    refine hc_enter (fun _ _ => Tryd.call51 _ _) Tryd.func51 rfl Tryd.ntmps51 (Nat.le_of_ble_eq_true rfl) ?_; simp only [args0, Nat.reduceAdd]
    repeat' (first | (show HW _ _ _ _ _ _; first | apply hw_seq | apply hw_region | apply hw_block | apply hw_exit | refine g_t ?_ | refine g_f ?_ | (refine g_b (fun h => ?_) (fun h => ?_) <;> ((try simp only [Bool.not_eq_eq_eq_not, Bool.not_true, Bool.not_false, decide_eq_true_eq, decide_eq_false_iff_not, Decidable.not_not, ne_eq, Bool.and_eq_true, beq_iff_eq, and_true, true_and, eq_self, decide_true, Bool.and_true, Bool.true_and, reduceCtorEq, not_true_eq_false, not_false_eq_true] at h); (try (exfalso; first | omega | with_reducible exact h (by assumption) | with_reducible exact absurd h (by assumption))))) | apply hw_skip | apply hw_ret | refine g_d S ?_) | (show HO _ _ _ _ _ _ _; first | apply ho_nil | refine g_q (qe S) ?_ | refine g_q (qg S) ?_ | refine g_q (ql S) ?_ | refine g_q (qs S) ?_ | refine g_q (qb S) ?_ | refine g_q (qbA S) ?_ | refine g_q (qA S) ?_ | refine g_n ?_ | refine g_on ?_ | (refine g_s (fun h => ?_) (fun h => ?_) <;> ((try simp only [Bool.not_eq_eq_eq_not, Bool.not_true, Bool.not_false, decide_eq_true_eq, decide_eq_false_iff_not, Decidable.not_not, ne_eq, Bool.and_eq_true, beq_iff_eq, and_true, true_and, eq_self, decide_true, Bool.and_true, Bool.true_and, reduceCtorEq, not_true_eq_false, not_false_eq_true] at h); (try (exfalso; first | omega | with_reducible exact h (by assumption) | with_reducible exact absurd h (by assumption))))) | refine wa S (fun b => ?_) | refine wb (fun b => ?_) | refine ws S ?_) | (show HD _ _ _ _ _ _ _ _; first | apply hd_nil | refine d_q 100 (by exact rfl) (fun _ => qe S) ?_ | refine d_q 100 (by exact rfl) (fun _ => qb S) ?_ | refine d_q 100 (by exact rfl) (fun _ => qbA S) ?_ | refine d_q 100 (by exact rfl) (fun _ => qA S) ?_ | refine dl S 100 ?_ | refine ds S 100 ?_ | refine dg S 100 (fun _ _ => ?_) | refine d_n 100 ?_ | (refine d_sp 100 (fun h => ?_) (fun h => ?_) <;> ((try simp only [Bool.not_eq_eq_eq_not, Bool.not_true, Bool.not_false, decide_eq_true_eq, decide_eq_false_iff_not, Decidable.not_not, ne_eq, Bool.and_eq_true, beq_iff_eq, and_true, true_and, eq_self, decide_true, Bool.and_true, Bool.true_and, reduceCtorEq, not_true_eq_false, not_false_eq_true] at h); (try (exfalso; first | omega | with_reducible exact h (by assumption) | with_reducible exact absurd h (by assumption))))) | refine da 101 ?_) | refine dx ?_ | apply dx0 | refine dxd ?_ | refine dxk ?_ | apply seqQ_normal | apply seqQ_ret | apply seqQ_exit | apply blkQ_here | refine g_bx ?_ | apply blkQ_ret | apply blkQ_normal)
    all_goals exact sp1 (LS.skip _ (LS.refl _)) ⟨rfl, rfl⟩
  rw [show j.dead = false by simpa using h1] at gd
  have hb := h2
  unfold badPut at hb
  obtain ⟨d, rfl⟩ := Int.eq_ofNat_of_zero_le (show 0 ≤ deal by omega)
  have hd : d < 6 := by omega
  have hlen := hj.len
  have n0 := hj.n0 d
  have n1 := hj.n1 d
  have hp : putM m j d s = if (j.l.getD d zeroE).s = s then (m, j, none) else if 4294967296 ≤ (j.l.getD d zeroE).n + 1 then (m, j, some 5) else
      match (jwM m d ⟨(j.l.getD d zeroE).n + 1, s⟩).2 with
      | some x => ((jwM m d ⟨(j.l.getD d zeroE).n + 1, s⟩).1, ⟨j.l, true⟩, some x)
      | none => ((jwM m d ⟨(j.l.getD d zeroE).n + 1, s⟩).1, ⟨j.l.set d ⟨(j.l.getD d zeroE).n + 1, s⟩, j.dead⟩, none) := by
    unfold putM; rw [if_neg h1, if_neg h2]; rfl
  have he : j.l[d]? = some (j.l.getD d zeroE) := by
    rw [List.getD, List.getElem?_eq_getElem (by omega)]; rfl
  have g1 := jgets (bp := bp) he
  have g2 := jgetsS (bp := bp) he
  have pD := jputsD (bp := bp) hlen true
  have p1 := jputs (bp := bp) (j := j) (d := d) ⟨(j.l.getD d zeroE).n + 1, s⟩ (by omega)
  have kw := jwrite_calls T E bj bp ba m j d ⟨(j.l.getD d zeroE).n + 1, s⟩
  generalize hE : j.l.getD d zeroE = e at *
  clear hj h2 he hE
  by_cases h3 : e.s = s
  · rw [hp, if_pos h3]
    subst h3
    refine hc_enter (fun _ _ => Tryd.call51 _ _) Tryd.func51 rfl Tryd.ntmps51 (Nat.le_of_ble_eq_true rfl) ?_; simp only [args0, Nat.reduceAdd]
    repeat' (first | (show HW _ _ _ _ _ _; first | apply hw_seq | apply hw_region | apply hw_block | apply hw_exit | refine g_t ?_ | refine g_f ?_ | (refine g_b (fun h => ?_) (fun h => ?_) <;> ((try simp only [Bool.not_eq_eq_eq_not, Bool.not_true, Bool.not_false, decide_eq_true_eq, decide_eq_false_iff_not, Decidable.not_not, ne_eq, Bool.and_eq_true, beq_iff_eq, and_true, true_and, eq_self, decide_true, Bool.and_true, Bool.true_and, reduceCtorEq, not_true_eq_false, not_false_eq_true] at h); (try (exfalso; first | omega | with_reducible exact h (by assumption) | with_reducible exact absurd h (by assumption))))) | apply hw_skip | apply hw_ret | refine g_d S ?_) | (show HO _ _ _ _ _ _ _; first | apply ho_nil | refine g_q (qe S) ?_ | refine g_q (qg S) ?_ | refine g_q (ql S) ?_ | refine g_q (qs S) ?_ | refine g_q (qb S) ?_ | refine g_q (qbA S) ?_ | refine g_q (qA S) ?_ | refine g_n ?_ | refine g_on ?_ | (refine g_s (fun h => ?_) (fun h => ?_) <;> ((try simp only [Bool.not_eq_eq_eq_not, Bool.not_true, Bool.not_false, decide_eq_true_eq, decide_eq_false_iff_not, Decidable.not_not, ne_eq, Bool.and_eq_true, beq_iff_eq, and_true, true_and, eq_self, decide_true, Bool.and_true, Bool.true_and, reduceCtorEq, not_true_eq_false, not_false_eq_true] at h); (try (exfalso; first | omega | with_reducible exact h (by assumption) | with_reducible exact absurd h (by assumption))))) | refine wa S (fun b => ?_) | refine wb (fun b => ?_) | refine ws S ?_) | (show HD _ _ _ _ _ _ _ _; first | apply hd_nil | refine d_q 100 (by exact rfl) (fun _ => qe S) ?_ | refine d_q 100 (by exact rfl) (fun _ => qb S) ?_ | refine d_q 100 (by exact rfl) (fun _ => qbA S) ?_ | refine d_q 100 (by exact rfl) (fun _ => qA S) ?_ | refine dl S 100 ?_ | refine ds S 100 ?_ | refine dg S 100 (fun _ _ => ?_) | refine d_n 100 ?_ | (refine d_sp 100 (fun h => ?_) (fun h => ?_) <;> ((try simp only [Bool.not_eq_eq_eq_not, Bool.not_true, Bool.not_false, decide_eq_true_eq, decide_eq_false_iff_not, Decidable.not_not, ne_eq, Bool.and_eq_true, beq_iff_eq, and_true, true_and, eq_self, decide_true, Bool.and_true, Bool.true_and, reduceCtorEq, not_true_eq_false, not_false_eq_true] at h); (try (exfalso; first | omega | with_reducible exact h (by assumption) | with_reducible exact absurd h (by assumption))))) | refine da 101 ?_) | refine dx ?_ | apply dx0 | refine dxd ?_ | refine dxk ?_ | apply seqQ_normal | apply seqQ_ret | apply seqQ_exit | apply blkQ_here | refine g_bx ?_ | apply blkQ_ret | apply blkQ_normal)
    exact sp1 (LS.skip _ (LS.refl _)) ⟨rfl, rfl⟩
  have h3' : ¬ (e.s.ph = s.ph ∧ e.s.pr = s.pr ∧ e.s.att = s.att) := fun h => h3 (St.ext3 h)
  by_cases h4 : 4294967296 ≤ e.n + 1
  · rw [hp, if_neg h3, if_pos h4]
    refine hc_enter (fun _ _ => Tryd.call51 _ _) Tryd.func51 rfl Tryd.ntmps51 (Nat.le_of_ble_eq_true rfl) ?_; simp only [args0, Nat.reduceAdd]
    repeat' (first | (show HW _ _ _ _ _ _; first | apply hw_seq | apply hw_region | apply hw_block | apply hw_exit | refine g_t ?_ | refine g_f ?_ | (refine g_b (fun h => ?_) (fun h => ?_) <;> ((try simp only [Bool.not_eq_eq_eq_not, Bool.not_true, Bool.not_false, decide_eq_true_eq, decide_eq_false_iff_not, Decidable.not_not, ne_eq, Bool.and_eq_true, beq_iff_eq, and_true, true_and, eq_self, decide_true, Bool.and_true, Bool.true_and, reduceCtorEq, not_true_eq_false, not_false_eq_true] at h); (try (exfalso; first | omega | with_reducible exact h (by assumption) | with_reducible exact absurd h (by assumption))))) | apply hw_skip | apply hw_ret | refine g_d S ?_) | (show HO _ _ _ _ _ _ _; first | apply ho_nil | refine g_q (qe S) ?_ | refine g_q (qg S) ?_ | refine g_q (ql S) ?_ | refine g_q (qs S) ?_ | refine g_q (qb S) ?_ | refine g_q (qbA S) ?_ | refine g_q (qA S) ?_ | refine g_n ?_ | refine g_on ?_ | (refine g_s (fun h => ?_) (fun h => ?_) <;> ((try simp only [Bool.not_eq_eq_eq_not, Bool.not_true, Bool.not_false, decide_eq_true_eq, decide_eq_false_iff_not, Decidable.not_not, ne_eq, Bool.and_eq_true, beq_iff_eq, and_true, true_and, eq_self, decide_true, Bool.and_true, Bool.true_and, reduceCtorEq, not_true_eq_false, not_false_eq_true] at h); (try (exfalso; first | omega | with_reducible exact h (by assumption) | with_reducible exact absurd h (by assumption))))) | refine wa S (fun b => ?_) | refine wb (fun b => ?_) | refine ws S ?_) | (show HD _ _ _ _ _ _ _ _; first | apply hd_nil | refine d_q 100 (by exact rfl) (fun _ => qe S) ?_ | refine d_q 100 (by exact rfl) (fun _ => qb S) ?_ | refine d_q 100 (by exact rfl) (fun _ => qbA S) ?_ | refine d_q 100 (by exact rfl) (fun _ => qA S) ?_ | refine dl S 100 ?_ | refine ds S 100 ?_ | refine dg S 100 (fun _ _ => ?_) | refine d_n 100 ?_ | (refine d_sp 100 (fun h => ?_) (fun h => ?_) <;> ((try simp only [Bool.not_eq_eq_eq_not, Bool.not_true, Bool.not_false, decide_eq_true_eq, decide_eq_false_iff_not, Decidable.not_not, ne_eq, Bool.and_eq_true, beq_iff_eq, and_true, true_and, eq_self, decide_true, Bool.and_true, Bool.true_and, reduceCtorEq, not_true_eq_false, not_false_eq_true] at h); (try (exfalso; first | omega | with_reducible exact h (by assumption) | with_reducible exact absurd h (by assumption))))) | refine da 101 ?_) | refine dx ?_ | apply dx0 | refine dxd ?_ | refine dxk ?_ | apply seqQ_normal | apply seqQ_ret | apply seqQ_exit | apply blkQ_here | refine g_bx ?_ | apply blkQ_ret | apply blkQ_normal)
    exact sp1 (LS.skip _ (LS.skip _ (LS.refl _))) ⟨rfl, rfl⟩
  · rw [hp, if_neg h3, if_neg h4]
    have fin : ∀ (b b' : Nat) (o o' : Obj) (m' : Pl) (c : List Blk), LS (plC bp ba m' :: c :: L).flatten (plC bp ba m' :: c :: [(b, o)] :: [(b', o')] :: L).flatten := fun b b' o o' m' c => LS.boths _ (LS.boths _ (LS.skip _ (LS.skip _ (LS.refl _))))
    refine hc_enter (fun _ _ => Tryd.call51 _ _) Tryd.func51 rfl Tryd.ntmps51 (Nat.le_of_ble_eq_true rfl) ?_; simp only [args0, Nat.reduceAdd]
    repeat' (first | (show HW _ _ _ _ _ _; first | apply hw_seq | apply hw_region | apply hw_block | apply hw_exit | refine g_t ?_ | refine g_f ?_ | (refine g_b (fun h => ?_) (fun h => ?_) <;> ((try simp only [Bool.not_eq_eq_eq_not, Bool.not_true, Bool.not_false, decide_eq_true_eq, decide_eq_false_iff_not, Decidable.not_not, ne_eq, Bool.and_eq_true, beq_iff_eq, and_true, true_and, eq_self, decide_true, Bool.and_true, Bool.true_and, reduceCtorEq, not_true_eq_false, not_false_eq_true] at h); (try (exfalso; first | omega | with_reducible exact h (by assumption) | with_reducible exact absurd h (by assumption))))) | apply hw_skip | apply hw_ret | refine g_d S ?_) | (show HO _ _ _ _ _ _ _; first | apply ho_nil | refine g_q (qe S) ?_ | refine g_q (qg S) ?_ | refine g_q (ql S) ?_ | refine g_q (qs S) ?_ | refine g_q (qb S) ?_ | refine g_q (qbA S) ?_ | refine g_q (qA S) ?_ | refine g_n ?_ | refine g_on ?_ | (refine g_s (fun h => ?_) (fun h => ?_) <;> ((try simp only [Bool.not_eq_eq_eq_not, Bool.not_true, Bool.not_false, decide_eq_true_eq, decide_eq_false_iff_not, Decidable.not_not, ne_eq, Bool.and_eq_true, beq_iff_eq, and_true, true_and, eq_self, decide_true, Bool.and_true, Bool.true_and, reduceCtorEq, not_true_eq_false, not_false_eq_true] at h); (try (exfalso; first | omega | with_reducible exact h (by assumption) | with_reducible exact absurd h (by assumption))))) | refine wa S (fun b => ?_) | refine wb (fun b => ?_) | refine ws S ?_) | (show HD _ _ _ _ _ _ _ _; first | apply hd_nil | refine d_q 100 (by exact rfl) (fun _ => qe S) ?_ | refine d_q 100 (by exact rfl) (fun _ => qb S) ?_ | refine d_q 100 (by exact rfl) (fun _ => qbA S) ?_ | refine d_q 100 (by exact rfl) (fun _ => qA S) ?_ | refine dl S 100 ?_ | refine ds S 100 ?_ | refine dg S 100 (fun _ _ => ?_) | refine d_n 100 ?_ | (refine d_sp 100 (fun h => ?_) (fun h => ?_) <;> ((try simp only [Bool.not_eq_eq_eq_not, Bool.not_true, Bool.not_false, decide_eq_true_eq, decide_eq_false_iff_not, Decidable.not_not, ne_eq, Bool.and_eq_true, beq_iff_eq, and_true, true_and, eq_self, decide_true, Bool.and_true, Bool.true_and, reduceCtorEq, not_true_eq_false, not_false_eq_true] at h); (try (exfalso; first | omega | with_reducible exact h (by assumption) | with_reducible exact absurd h (by assumption))))) | refine da 101 ?_) | refine dx ?_ | apply dx0 | refine dxd ?_ | refine dxk ?_ | apply seqQ_normal | apply seqQ_ret | apply seqQ_exit | apply blkQ_here | refine g_bx ?_ | apply blkQ_ret | apply blkQ_normal)
    refine fo 3 ?_
    refine fo 3 ?_
    refine gc (kw _ ((hG.cons _).cons _).sub hm (by omega) (by simp only; omega)) ?_
    rintro v L' ⟨rfl, rfl⟩
    cases h5 : (jwM m d ⟨e.n + 1, s⟩).2 with
    | some x =>
      repeat' (first | (show HW _ _ _ _ _ _; first | apply hw_seq | apply hw_region | apply hw_block | apply hw_exit | refine g_t ?_ | refine g_f ?_ | (refine g_b (fun h => ?_) (fun h => ?_) <;> ((try simp only [Bool.not_eq_eq_eq_not, Bool.not_true, Bool.not_false, decide_eq_true_eq, decide_eq_false_iff_not, Decidable.not_not, ne_eq, Bool.and_eq_true, beq_iff_eq, and_true, true_and, eq_self, decide_true, Bool.and_true, Bool.true_and, reduceCtorEq, not_true_eq_false, not_false_eq_true] at h); (try (exfalso; first | omega | with_reducible exact h (by assumption) | with_reducible exact absurd h (by assumption))))) | apply hw_skip | apply hw_ret | refine g_d S ?_) | (show HO _ _ _ _ _ _ _; first | apply ho_nil | refine g_q (qe S) ?_ | refine g_q (qg S) ?_ | refine g_q (ql S) ?_ | refine g_q (qs S) ?_ | refine g_q (qb S) ?_ | refine g_q (qbA S) ?_ | refine g_q (qA S) ?_ | refine g_n ?_ | refine g_on ?_ | (refine g_s (fun h => ?_) (fun h => ?_) <;> ((try simp only [Bool.not_eq_eq_eq_not, Bool.not_true, Bool.not_false, decide_eq_true_eq, decide_eq_false_iff_not, Decidable.not_not, ne_eq, Bool.and_eq_true, beq_iff_eq, and_true, true_and, eq_self, decide_true, Bool.and_true, Bool.true_and, reduceCtorEq, not_true_eq_false, not_false_eq_true] at h); (try (exfalso; first | omega | with_reducible exact h (by assumption) | with_reducible exact absurd h (by assumption))))) | refine wa S (fun b => ?_) | refine wb (fun b => ?_) | refine ws S ?_) | (show HD _ _ _ _ _ _ _ _; first | apply hd_nil | refine d_q 100 (by exact rfl) (fun _ => qe S) ?_ | refine d_q 100 (by exact rfl) (fun _ => qb S) ?_ | refine d_q 100 (by exact rfl) (fun _ => qbA S) ?_ | refine d_q 100 (by exact rfl) (fun _ => qA S) ?_ | refine dl S 100 ?_ | refine ds S 100 ?_ | refine dg S 100 (fun _ _ => ?_) | refine d_n 100 ?_ | (refine d_sp 100 (fun h => ?_) (fun h => ?_) <;> ((try simp only [Bool.not_eq_eq_eq_not, Bool.not_true, Bool.not_false, decide_eq_true_eq, decide_eq_false_iff_not, Decidable.not_not, ne_eq, Bool.and_eq_true, beq_iff_eq, and_true, true_and, eq_self, decide_true, Bool.and_true, Bool.true_and, reduceCtorEq, not_true_eq_false, not_false_eq_true] at h); (try (exfalso; first | omega | with_reducible exact h (by assumption) | with_reducible exact absurd h (by assumption))))) | refine da 101 ?_) | refine dx ?_ | apply dx0 | refine dxd ?_ | refine dxk ?_ | apply seqQ_normal | apply seqQ_ret | apply seqQ_exit | apply blkQ_here | refine g_bx ?_ | apply blkQ_ret | apply blkQ_normal)
      exact sp1 (fin _ _ _ _ _ _) ⟨rfl, rfl⟩
    | none =>
      repeat' (first | (show HW _ _ _ _ _ _; first | apply hw_seq | apply hw_region | apply hw_block | apply hw_exit | refine g_t ?_ | refine g_f ?_ | (refine g_b (fun h => ?_) (fun h => ?_) <;> ((try simp only [Bool.not_eq_eq_eq_not, Bool.not_true, Bool.not_false, decide_eq_true_eq, decide_eq_false_iff_not, Decidable.not_not, ne_eq, Bool.and_eq_true, beq_iff_eq, and_true, true_and, eq_self, decide_true, Bool.and_true, Bool.true_and, reduceCtorEq, not_true_eq_false, not_false_eq_true] at h); (try (exfalso; first | omega | with_reducible exact h (by assumption) | with_reducible exact absurd h (by assumption))))) | apply hw_skip | apply hw_ret | refine g_d S ?_) | (show HO _ _ _ _ _ _ _; first | apply ho_nil | refine g_q (qe S) ?_ | refine g_q (qg S) ?_ | refine g_q (ql S) ?_ | refine g_q (qs S) ?_ | refine g_q (qb S) ?_ | refine g_q (qbA S) ?_ | refine g_q (qA S) ?_ | refine g_n ?_ | refine g_on ?_ | (refine g_s (fun h => ?_) (fun h => ?_) <;> ((try simp only [Bool.not_eq_eq_eq_not, Bool.not_true, Bool.not_false, decide_eq_true_eq, decide_eq_false_iff_not, Decidable.not_not, ne_eq, Bool.and_eq_true, beq_iff_eq, and_true, true_and, eq_self, decide_true, Bool.and_true, Bool.true_and, reduceCtorEq, not_true_eq_false, not_false_eq_true] at h); (try (exfalso; first | omega | with_reducible exact h (by assumption) | with_reducible exact absurd h (by assumption))))) | refine wa S (fun b => ?_) | refine wb (fun b => ?_) | refine ws S ?_) | (show HD _ _ _ _ _ _ _ _; first | apply hd_nil | refine d_q 100 (by exact rfl) (fun _ => qe S) ?_ | refine d_q 100 (by exact rfl) (fun _ => qb S) ?_ | refine d_q 100 (by exact rfl) (fun _ => qbA S) ?_ | refine d_q 100 (by exact rfl) (fun _ => qA S) ?_ | refine dl S 100 ?_ | refine ds S 100 ?_ | refine dg S 100 (fun _ _ => ?_) | refine d_n 100 ?_ | (refine d_sp 100 (fun h => ?_) (fun h => ?_) <;> ((try simp only [Bool.not_eq_eq_eq_not, Bool.not_true, Bool.not_false, decide_eq_true_eq, decide_eq_false_iff_not, Decidable.not_not, ne_eq, Bool.and_eq_true, beq_iff_eq, and_true, true_and, eq_self, decide_true, Bool.and_true, Bool.true_and, reduceCtorEq, not_true_eq_false, not_false_eq_true] at h); (try (exfalso; first | omega | with_reducible exact h (by assumption) | with_reducible exact absurd h (by assumption))))) | refine da 101 ?_) | refine dx ?_ | apply dx0 | refine dxd ?_ | refine dxk ?_ | apply seqQ_normal | apply seqQ_ret | apply seqQ_exit | apply blkQ_here | refine g_bx ?_ | apply blkQ_ret | apply blkQ_normal)
      exact sp1 (fin _ _ _ _ _ _) ⟨rfl, rfl⟩
end Go.HL
end

/-! TabA -/
section
namespace Go.HL
open Go Go.Proofs
set_option linter.unusedVariables false
set_option linter.unusedSimpArgs false
attribute [local irreducible] HW HO HQ HD HC QOp Has Upd Puts Gets seqQ blkQ loopQ fnQ actQ nextP unQ MapF

def afterS (p : Int) : Int := if p = 4 then 2 else if p = 5 then 3 else 0
theorem after_calls (p : Int) (L : Heap) : HC Tryd.prog 117 [iv p] L (fun v L' => v = iv (afterS p) ∧ L' = L) := by
  refine hc_enter (fun _ _ => Tryd.call117 _ _) Tryd.func117 rfl Tryd.ntmps117 (Nat.le_of_ble_eq_true rfl) ?_; simp only [args0, Nat.reduceAdd]
  repeat' (first | (show HW _ _ _ _ _ _; first | apply hw_seq | apply hw_region | apply hw_block | apply hw_exit | refine g_t ?_ | refine g_f ?_ | (refine g_b (fun h => ?_) (fun h => ?_) <;> ((try simp only [Bool.not_eq_eq_eq_not, Bool.not_true, Bool.not_false, decide_eq_true_eq, decide_eq_false_iff_not, Decidable.not_not, ne_eq, Bool.and_eq_true, beq_iff_eq, and_true, true_and, eq_self, decide_true, Bool.and_true, Bool.true_and, reduceCtorEq, not_true_eq_false, not_false_eq_true] at h); (try (exfalso; first | omega | with_reducible exact h (by assumption) | with_reducible exact absurd h (by assumption))))) | apply hw_skip | apply hw_ret) | (show HO _ _ _ _ _ _ _; first | apply ho_nil | refine g_q (qe S) ?_) | apply seqQ_normal | apply seqQ_ret | apply seqQ_exit | apply blkQ_here | refine g_bx ?_ | apply blkQ_ret | apply blkQ_normal)
  all_goals (refine fn_ret1 rfl rfl ?_ ⟨?_, rfl⟩; (next => (repeat (first | exact List.Sublist.refl _ | apply List.Sublist.cons))))
  all_goals simp [afterS, *]
end Go.HL
end

/-! WcA -/
section
namespace Go.HL
open Go Go.Proofs
set_option linter.unusedVariables false
set_option linter.unusedSimpArgs false
def badF (f : Fr) : Prop := f.fr < 0 ∨ 6 < f.fr ∨ f.to < 0 ∨ 6 < f.to ∨ f.dl < 0 ∨ 5 < f.dl ∨ f.kd < 1 ∨ 7 < f.kd ∨ f.att < 0 ∨ 1048576 < f.att ∨ f.s.pr < 0 ∨ 1048576 < f.s.pr ∨ f.s.att < 0 ∨ 1048576 < f.s.att ∨ f.s.ph < 0 ∨ 5 < f.s.ph
instance (f : Fr) : Decidable (badF f) := by unfold badF; infer_instance
def frameE (f : Fr) : Option Nat := if badF f then some 2 else none
attribute [local irreducible] HW HO HQ HD HC QOp Has Upd Puts Gets seqQ blkQ loopQ fnQ actQ nextP unQ MapF
set_option maxHeartbeats 1000000 in
theorem wcheck_calls (T : Nat) (E : Nat → Addr) (f : Fr) (L : Heap) (hG : Er T E [2] L) : HC Tryd.prog 27 [.agg ⟨fc f⟩] L (fun v L' => v = eV T E (frameE f) ∧ L' = L) := by
  unfold frameE
  refine hc_enter (fun _ _ => Tryd.call27 _ _) Tryd.func27 rfl Tryd.ntmps27 (Nat.le_of_ble_eq_true rfl) ?_; simp only [args0, Nat.reduceAdd]
  repeat' (first | (show HW _ _ _ _ _ _; first | apply hw_seq | apply hw_region | apply hw_block | apply hw_exit | refine g_t ?_ | refine g_f ?_ | (refine g_b (fun h => ?_) (fun h => ?_) <;> ((try simp only [Bool.not_eq_eq_eq_not, Bool.not_true, Bool.not_false, decide_eq_true_eq, decide_eq_false_iff_not, Decidable.not_not, ne_eq, Bool.and_eq_true, beq_iff_eq, and_true, true_and, eq_self, decide_true, Bool.and_true, Bool.true_and, reduceCtorEq, not_true_eq_false, not_false_eq_true] at h); (try (exfalso; first | omega | with_reducible exact h (by assumption) | with_reducible exact absurd h (by assumption))))) | apply hw_skip | apply hw_ret) | (show HO _ _ _ _ _ _ _; first | apply ho_nil | refine g_q (qe S) ?_ | refine g_q (qg S) ?_ | refine g_q (ql S) ?_ | refine g_q (qs S) ?_ | refine g_q (qb S) ?_ | refine g_q (qbA S) ?_ | refine g_n ?_ | refine g_on ?_ | (refine g_s (fun h => ?_) (fun h => ?_) <;> ((try simp only [Bool.not_eq_eq_eq_not, Bool.not_true, Bool.not_false, decide_eq_true_eq, decide_eq_false_iff_not, Decidable.not_not, ne_eq, Bool.and_eq_true, beq_iff_eq, and_true, true_and, eq_self, decide_true, Bool.and_true, Bool.true_and, reduceCtorEq, not_true_eq_false, not_false_eq_true] at h); (try (exfalso; first | omega | with_reducible exact h (by assumption) | with_reducible exact absurd h (by assumption))))) | refine wa S (fun b => ?_) | refine wb (fun b => ?_) | refine ws S ?_ | refine wS S (fun b => ?_) | refine wSa S (fun b => ?_) | refine wSn S (fun b => ?_)) | apply seqQ_normal | apply seqQ_ret | apply seqQ_exit | apply blkQ_here | refine g_bx ?_ | apply blkQ_ret | apply blkQ_normal | apply loopQ_ret | apply loopQ_exit | apply unQ_ret | apply unQ_exit | apply unQ_succ)
  refine hw_rounds 8 ?_
  repeat' (first | (show HW _ _ _ _ _ _; first | apply hw_seq | apply hw_region | apply hw_block | apply hw_exit | refine g_t ?_ | refine g_f ?_ | (refine g_b (fun h => ?_) (fun h => ?_) <;> ((try simp only [Bool.not_eq_eq_eq_not, Bool.not_true, Bool.not_false, decide_eq_true_eq, decide_eq_false_iff_not, Decidable.not_not, ne_eq, Bool.and_eq_true, beq_iff_eq, and_true, true_and, eq_self, decide_true, Bool.and_true, Bool.true_and, reduceCtorEq, not_true_eq_false, not_false_eq_true] at h); (try (exfalso; first | omega | with_reducible exact h (by assumption) | with_reducible exact absurd h (by assumption))))) | apply hw_skip | apply hw_ret) | (show HO _ _ _ _ _ _ _; first | apply ho_nil | refine g_q (qe S) ?_ | refine g_q (qg S) ?_ | refine g_q (ql S) ?_ | refine g_q (qs S) ?_ | refine g_q (qb S) ?_ | refine g_q (qbA S) ?_ | refine g_n ?_ | refine g_on ?_ | (refine g_s (fun h => ?_) (fun h => ?_) <;> ((try simp only [Bool.not_eq_eq_eq_not, Bool.not_true, Bool.not_false, decide_eq_true_eq, decide_eq_false_iff_not, Decidable.not_not, ne_eq, Bool.and_eq_true, beq_iff_eq, and_true, true_and, eq_self, decide_true, Bool.and_true, Bool.true_and, reduceCtorEq, not_true_eq_false, not_false_eq_true] at h); (try (exfalso; first | omega | with_reducible exact h (by assumption) | with_reducible exact absurd h (by assumption))))) | refine wa S (fun b => ?_) | refine wb (fun b => ?_) | refine ws S ?_ | refine wS S (fun b => ?_) | refine wSa S (fun b => ?_) | refine wSn S (fun b => ?_)) | apply seqQ_normal | apply seqQ_ret | apply seqQ_exit | apply blkQ_here | refine g_bx ?_ | apply blkQ_ret | apply blkQ_normal | apply loopQ_ret | apply loopQ_exit | apply unQ_ret | apply unQ_exit | apply unQ_succ)
  all_goals first
    | (exact sp1 (by repeat (first | exact LS.refl _ | apply LS.k | apply LS.c)) ⟨by rw [if_pos (by unfold badF; omega)], rfl⟩; done)
    | (exact sp1 (by repeat (first | exact LS.refl _ | apply LS.k | apply LS.c)) ⟨by rw [if_neg (by unfold badF; omega)], rfl⟩; done)
end Go.HL
end
