/- The heap logic: append onto a slice of one's own. No program in sight. Conditions: none. -/
import Derived.Test.YtkookaogdkdegabDoorHLDraw
namespace Go.HL
open Go
set_option linter.unusedVariables false
set_option linter.unusedSimpArgs false

/-- a slice of one's own: nil, or at the head of a block of its own -/
def Own (E sz : Nat) (v : Value) (n : Nat) (cs : List Value) (c : List Blk) : Prop :=
  (v = nilS ∧ n = 0 ∧ cs = [] ∧ c = []) ∨
  ∃ b cap sp, v = sl b 0 n cap ∧ c = [(b, .cells ⟨cs ++ sp⟩ E)] ∧ cs.length = n * sz ∧ n ≤ cap ∧ (cs ++ sp).length = cap * sz
theorem own_nil {E sz : Nat} : Own E sz nilS 0 [] [] := .inl ⟨rfl, rfl, rfl, rfl⟩
/-- a slice that is read: n elements, the cells new -/
def Src (sz : Nat) (L : Heap) (u : Value) (n : Nat) (new : List Value) : Prop :=
  (∃ a cap, u = .slice a 0 cap ∧ n = 0 ∧ new = []) ∨ ∃ b i cap l F fr, 0 < n ∧ u = sl b i n cap ∧ Has L b (.cells ⟨l⟩ F fr) ∧ Gets l i new ∧ new.length = n * sz
theorem flat_length {α : Type} {enc : α → List Value} {sz : Nat} (hsz : ∀ x, (enc x).length = sz) : ∀ ys : List α, ((ys.map enc).flatten).length = ys.length * sz
  | [] => by simp
  | y :: ys => by simp [flat_length hsz ys, hsz, Nat.add_mul, Nat.add_comm]
theorem src_of_rd {α : Type} {enc : α → List Value} {sz : Nat} {L : Heap} {a : Option Addr} {cap : Nat} {xs : List α} (hsz : ∀ x, (enc x).length = sz) (h : Rd enc sz L a xs) : Src sz L (.slice a xs.length cap) xs.length (xs.map enc).flatten := by
  cases xs with
  | nil => exact .inl ⟨a, cap, rfl, rfl, rfl⟩
  | cons x r =>
    rcases h with h | ⟨b, i, l, E, fr, rfl, hb, hg⟩
    · cases h
    · exact .inr ⟨b, i, cap, l, E, fr, by simp, rfl, hb, gets_flat hsz _ _ hg, flat_length hsz _⟩
theorem src_one {sz b i cap F : Nat} {L : Heap} {l new : List Value} {fr : Nat × Nat} (hb : Has L b (.cells ⟨l⟩ F fr)) (hg : Gets l i new) (hl : new.length = sz) : Src sz L (sl b i 1 cap) 1 new :=
  .inr ⟨b, i, cap, l, F, fr, by omega, rfl, hb, hg, by omega⟩

theorem zeroCells_list (zs : List Value) (n : Nat) : ∃ sp : List Value, Builtin.zeroCells ⟨zs⟩ n = ⟨sp⟩ ∧ sp.length = n * zs.length := by
  refine ⟨(Builtin.zeroCells ⟨zs⟩ n).toList, rfl, ?_⟩
  rw [Array.length_toList, size_zeroCells]
  rfl
theorem take_left {a b : List Value} {n : Nat} (h : a.length = n) : (a ++ b).take n = a := by subst h; simp

section app
variable {P : Program} (S : Tab P) {n : Nat} {ops : List Oper} {Q : Exit → Env → Heap → Prop} {rest : List Oper} {ρ : Env} {L : Heap} {ty : TypeId} {pos : String} {af : Array Edge}

theorem grownCap_ge (w : World) (need old e : Nat) : need ≤ grownCap w need old e := Nat.le_add_right _ _

theorem o_append {d t E y0 s0 b0 k1 x1 y1 sz by1 m nn : Nat} {z v u : Value} {zs cs new : List Value} {c : List Blk} {x y : Operand}
    (hx : ev ρ x = some v) (hy : ev ρ y = some u) (ht : lkN S.ty t = some ⟨5, E, y0, s0, b0⟩) (he : lkN S.ty E = some ⟨k1, x1, y1, sz, by1⟩) (hz : lkN S.zr E = some z) (hzs : z.cells = ⟨zs⟩) (hzl : zs.length = sz)
    (hn : Nat.blt d n = true) (ho : Own E sz v nn cs c) (hs : Src sz (c :: L) u m new) (h1 : (new.all Value.oneCell') = true) (hby : (nn + m) * by1 ≤ 140737488355328) (hmax : nn + m ≤ 9223372036854775807)
    (h : ∀ v' c', Own E sz v' (nn + m) (cs ++ new) c' → HO P n ops Q rest ((d, v') :: ρ) (c' :: L)) :
    HO P n ops Q (⟨some d, .call { callee := .builtin .append, args := #[x, y], argTypes := #[t, t] }, ty, pos, af, none⟩ :: rest) ρ (c :: L) := by
  refine ho_run rfl rfl hn fun ρe he' k w hsat => ?_
  have hdesc := ty_slice (S.tyI ht) rfl
  obtain ⟨de, i, hde, hi, -, hisz, hiby⟩ := ty_desc (S.tyI he)
  simp only at hisz hiby
  have hiz : i.zero = some z := by
    have := S.zeroI hz
    unfold zeroI at this
    simpa [hi] using this
  have hsize : (sizeOf E).run P w = .ok sz w := ty_size (S.tyI he) w
  have hone : ∀ u ∈ new, u.oneCell' = true := fun u hu => List.all_eq_true.1 h1 u hu
  have e1 := he' x (by simp [Op.operands, Call.operands]) _ hx
  have e2 := he' y (by simp [Op.operands, Call.operands]) _ hy
  suffices ∃ v' w' c', (Builtin.append_ #[t, t] ty #[v, u]).run P w = .ok v' w' ∧ Sat k w' (c' :: L) ∧ Own E sz v' (nn + m) (cs ++ new) c' by
    obtain ⟨v', w', c', hr, hs', ho'⟩ := this
    refine ⟨v', w', c' :: L, ?_, hs', h v' c' ho'⟩
    simp [execOp, resolve, invoke, builtin, e1, e2, hr]
  have hdrop : Sat k w L := hsat.sub (.cons _ (.refl _))
  rcases hs with ⟨a, cap, rfl, rfl, rfl⟩ | ⟨b, j, cap, l, F, fr, hm, rfl, hb, hg, hlen⟩
  · -- nothing comes
    rcases ho with ⟨rfl, rfl, rfl, rfl⟩ | ⟨b', cap', sp, rfl, rfl, hcs, hle, hall⟩
    · refine ⟨nilS, w, [], ?_, hsat, .inl ⟨rfl, rfl, rfl, rfl⟩⟩
      cases a <;> simp [Builtin.append_, run_underlying hdesc, hsize, Builtin.lenOf, Builtin.firstCells, loadCells, loadCellsFrom]
    · refine ⟨sl b' 0 nn cap', w, [(b', .cells ⟨cs ++ sp⟩ E)], ?_, hsat, .inr ⟨b', cap', sp, by simp, by simp, by simp [hcs], by omega, by simpa using hall⟩⟩
      cases a <;> simp [Builtin.append_, run_underlying hdesc, hsize, Builtin.lenOf, Builtin.firstCells, loadCells, loadCellsFrom, hle, storeCells]
  · have hnews : ∀ (q : Nat) (v : Value), new[q]? = some v → w.cell? ((Addr.mk b j none).add q) = some v := fun q v hq => by
      rw [addr_add, hsat.cell hb]; exact hg q v hq
    rcases ho with ⟨rfl, rfl, rfl, rfl⟩ | ⟨b', cap', sp, rfl, rfl, hcs, hle, hall⟩
    · have hr := run_append_nil (P := P) w t ty E i z hdesc hi hiz ⟨b, j, none⟩ m cap new (by rw [hisz]; exact hlen) hnews hm (by omega) (by rw [hiby]; simp at hby; omega)
      obtain ⟨sp, hsp, hspl⟩ := zeroCells_list zs (grownCap w m 0 E - m)
      rw [hzs, hsp] at hr
      have hcap := grownCap_ge w m 0 E
      refine ⟨_, _, [(w.heap.size, .cells ⟨new ++ sp⟩ E)], by simpa using hr, ?_, .inr ⟨w.heap.size, grownCap w m 0 E, sp, by simp, by simp, by simpa using hlen, by omega, ?_⟩⟩
      · have := (hdrop.drew).new (.cells ⟨new ++ sp⟩ E)
        simpa using this
      · simp only [List.nil_append, List.length_append, hspl, hlen, hzl]
        rw [Nat.sub_mul]
        have : m * sz ≤ grownCap w m 0 E * sz := Nat.mul_le_mul_right _ hcap
        omega
    · have hb' : w.heap[b']? = some (.cells ⟨cs ++ sp⟩ E) := hsat.heap has_here
      by_cases hroom : nn + m ≤ cap'
      · have hsplit : nn * sz + new.length ≤ (cs ++ sp).length := by
          rw [hlen, hall, ← Nat.add_mul]
          exact Nat.mul_le_mul_right _ hroom
        have hr := run_append_room (P := P) w t ty E i hdesc hi b' nn cap' ⟨cs ++ sp⟩ hb' ⟨b, j, none⟩ m cap new (by rw [hisz]; exact hlen) hnews hone hroom (by rw [hisz]; simpa using hsplit)
        rw [hisz] at hr
        have e3 : (cs ++ sp).take (nn * sz) ++ new ++ (cs ++ sp).drop (nn * sz + new.length) = (cs ++ new) ++ sp.drop new.length := by
          rw [take_left hcs, ← hcs, List.drop_append, List.drop_of_length_le (by omega)]
          simp
        simp only [] at hr
        rw [e3] at hr
        refine ⟨_, _, [(b', .cells ⟨(cs ++ new) ++ sp.drop new.length⟩ E)], hr, ?_, .inr ⟨b', cap', sp.drop new.length, rfl, rfl, by simp [hcs, hlen, Nat.add_mul], hroom, ?_⟩⟩
        · refine hsat.upd (o := .cells ⟨cs ++ sp⟩ E) (o' := .cells ⟨(cs ++ new) ++ sp.drop new.length⟩ E) upd_here rfl rfl rfl (setRow_heap w b' _ _ E _ hb') (fun q hq => ?_)
          simp only [World.setRow, Array.getElem?_modify]
          rw [if_neg (fun e => hq e.symm)]
        · simp only [List.length_append, List.length_drop] at hall hsplit ⊢
          omega
      · have hfit : Builtin.nextslicecap (nn + m) cap' * i.bytes ≤ 281474976710656 := by
          rw [hiby]; exact growslice_fits (by omega) hby
        have holds : ∀ (q : Nat) (v : Value), cs[q]? = some v → w.cell? ((Addr.mk b' 0 none).add q) = some v := fun q v hq => by
          rw [addr_add, hsat.cell has_here, Nat.zero_add]
          rw [List.getElem?_append_left (List.getElem?_eq_some_iff.1 hq).1]; exact hq
        have hr := run_append_grow (P := P) w t ty E i z hdesc hi hiz ⟨b', 0, none⟩ nn cap' cs (by rw [hisz]; exact hcs) holds ⟨b, j, none⟩ m cap new (by rw [hisz]; exact hlen) hnews (by omega) (by omega) hfit
        obtain ⟨sp', hsp, hspl⟩ := zeroCells_list zs (grownCap w (nn + m) cap' E - (nn + m))
        rw [hzs, hsp] at hr
        have hcap := grownCap_ge w (nn + m) cap' E
        refine ⟨sl w.heap.size 0 (nn + m) (grownCap w (nn + m) cap' E), w.drew.alloc (.cells ⟨(cs ++ new) ++ sp'⟩ E), [(w.heap.size, .cells ⟨(cs ++ new) ++ sp'⟩ E)], ?_, ?_, .inr ⟨w.heap.size, grownCap w (nn + m) cap' E, sp', rfl, rfl, by simp [hcs, hlen, Nat.add_mul], hcap, ?_⟩⟩
        · rw [hr]; simp
        · exact (hdrop.drew).new (.cells ⟨(cs ++ new) ++ sp'⟩ E)
        · simp only [List.length_append, hspl, hlen, hcs, hzl]
          rw [← Nat.add_mul, Nat.sub_mul]
          have : (nn + m) * sz ≤ grownCap w (nn + m) cap' E * sz := Nat.mul_le_mul_right _ hcap
          omega
/-- the parts of a literal, in order -/
def evIx (ρ : Env) : Nat → List (Nat × Operand) → Option (List Value)
  | _, [] => some []
  | k, (i, x) :: r => bif Nat.beq i k then (match ev ρ x, evIx ρ (k + 1) r with
    | some v, some vs => some (v :: vs)
    | _, _ => none) else none
theorem fill_row {ρe : Operand → Value} : ∀ (parts : List (Nat × Operand)) (k : Nat) (vals pre zs : List Value), (∀ p ∈ parts, ∀ u, ev ρ p.2 = some u → ρe p.2 = u) → evIx ρ k parts = some vals → pre.length = k → zs.length = vals.length →
    (vals.all Value.oneCell') = true → Instr.fill (fun i => some (i, 1)) ⟨pre ++ zs⟩ (parts.map fun p => (p.1, ρe p.2)) = some ⟨pre ++ vals⟩
  | [], k, vals, pre, zs, _, h, _, hz, _ => by
    simp [evIx] at h; subst h
    have : zs = [] := by simpa using hz
    subst this
    simp [Instr.fill]
  | (i, x) :: r, k, vals, pre, zs, he, h, hp, hz, h1 => by
    simp only [evIx] at h
    cases hb : Nat.beq i k with
    | false => rw [hb] at h; cases h
    | true =>
      rw [hb] at h
      have hik := Nat.eq_of_beq_eq_true hb
      subst hik
      cases hx : ev ρ x with
      | none => simp [hx] at h
      | some v =>
        cases hr : evIx ρ (i + 1) r with
        | none => simp [hx, hr] at h
        | some vs =>
          simp [hx, hr] at h
          subst h
          match zs, hz with
          | z :: zs, hz =>
            simp only [List.all_cons, Bool.and_eq_true] at h1
            have hev := he (i, x) (by simp) v hx
            have hc : v.cells = #[v] := by cases v <;> first | rfl | (simp [Value.oneCell'] at h1)
            have ih := fill_row r (i + 1) vs (pre ++ [v]) zs (fun p hp => he p (by simp [hp])) hr (by simp [hp]) (by simpa using hz) h1.2
            simp only [List.map_cons, Instr.fill, hev, hc]
            simp only [List.append_assoc, List.cons_append, List.nil_append] at ih
            have e : (Array.mk (pre ++ z :: zs)).setIfInBounds i v = ⟨pre ++ v :: zs⟩ := by
              apply Array.toList_inj.1
              simp [List.set_append, hp]
            simp [hp, e, ih]
theorem o_buildSlice1 {d t E y0 s0 b0 k1 x1 y1 by1 len : Nat} {z : Value} {zv : Value} {vals : List Value} {parts : Array (Nat × Operand)} (ht : lkN S.ty t = some ⟨5, E, y0, s0, b0⟩) (he : lkN S.ty E = some ⟨k1, x1, y1, 1, by1⟩) (hz : lkN S.zr E = some z) (hzs : z.cells = ⟨[zv]⟩)
    (hp : evIx ρ 0 parts.toList = some vals) (hlen : vals.length = len) (hsm : Nat.ble len 16777216 = true) (h1 : (vals.all Value.oneCell') = true) (hn : Nat.blt d n = true)
    (h : ∀ b, HO P n ops Q rest ((d, sl b 0 len len) :: ρ) ([(b, .cells ⟨vals⟩ E)] :: L)) : HO P n ops Q (⟨some d, .buildSlice t len parts, ty, pos, af, none⟩ :: rest) ρ L := by
  refine ho_run rfl rfl hn fun ρe he' k w hs => ⟨sl w.heap.size 0 len len, w.alloc (.cells ⟨vals⟩ E), _, ?_, hs.new _, h _⟩
  have hdesc := ty_slice (S.tyI ht) rfl
  have hsize : (sizeOf E).run P w = .ok 1 w := ty_size (S.tyI he) w
  have hzero := zero_run (S.zeroI hz) w
  have hle : len ≤ 16777216 := Nat.le_of_ble_eq_true hsm
  have hparts : ∀ p ∈ parts.toList, ∀ u, ev ρ p.2 = some u → ρe p.2 = u := fun p hp u hu => he' p.2 (by simp [Op.operands]; exact ⟨p.1, by simpa using Array.mem_toList_iff.1 hp⟩) u hu
  have hfill := fill_row (ρ := ρ) parts.toList 0 vals [] (List.replicate len zv) hparts hp rfl (by simp [hlen]) h1
  have hm : (parts.map fun p => (p.1, ρe p.2)).toList = parts.toList.map fun p => (p.1, ρe p.2) := by simp
  have hbs : ∀ pp : Array (Nat × Value), pp.toList = parts.toList.map (fun p => (p.1, ρe p.2)) → (Instr.buildSlice t len pp).run P w = .ok (sl w.heap.size 0 len len) (w.alloc (.cells ⟨vals⟩ E)) := by
    intro pp hpp
    have hl2 : ¬ (16777216 < len) := by omega
    simp only [List.nil_append] at hfill
    by_cases h0 : len = 0
    · subst h0
      have hv : vals = [] := by simpa using hlen
      subst hv
      simp only [List.replicate_zero] at hfill
      have hf2 : Instr.fill (fun i => some (i, 1)) #[] (List.map (fun p => (p.fst, ρe p.snd)) parts.toList) = some ⟨[]⟩ := hfill
      have e0 : Array.range 0 = #[] := rfl
      simp only [Instr.buildSlice]
      simp [run_underlying hdesc, hsize, hpp, e0, hf2, newRow]
    · have harr : Array.map (fun j => (z.cells)[j % z.cells.size]!) (Array.range len) = ⟨List.replicate len zv⟩ := by
        rw [hzs]
        apply Array.toList_inj.1
        simp [List.map_const', Nat.mod_one]
      have hf2 : Instr.fill (fun i => some (i, 1)) (Array.replicate len zv) (List.map (fun p => (p.fst, ρe p.snd)) parts.toList) = some ⟨vals⟩ := by
        have e1 : Array.replicate len zv = ⟨List.replicate len zv⟩ := by simp
        rw [e1]; exact hfill
      simp only [Instr.buildSlice]
      simp [run_underlying hdesc, hsize, hzero, h0, hl2, harr, hpp, hf2, newRow]
  have := hbs (parts.map fun p => (p.1, ρe p.2)) (by simp)
  simp [execOp, this]
theorem Sat.nilc {k : Ctx} {w : World} (h : Sat k w L) : Sat k w ([] :: L) := ⟨h.os, h.out, h.tape, by simpa using h.has, by simpa using h.nodup⟩
theorem ho_nilc {l : List Oper} (h : HO P n ops Q l ρ ([] :: L)) : HO P n ops Q l ρ L := fun k w a hs ha => h k w a hs.nilc ha
theorem hw_nilc {c : Code} (h : HW P n c Q ρ ([] :: L)) : HW P n c Q ρ L := fun k w a hs ha => h k w a hs.nilc ha
theorem cells_flat {α : Type} {enc : α → List Value} (he : ∀ x, (enc x).all Value.oneCell' = true) (xs : List α) : ((xs.map enc).flatten.all Value.oneCell') = true := by
  simp only [List.all_eq_true, List.mem_flatten, List.mem_map]
  rintro v ⟨l, ⟨x, _, rfl⟩, hv⟩
  exact List.all_eq_true.1 (he x) v hv
/-- a slice of one's own reads as its elements -/
theorem gets_row {α : Type} {enc : α → List Value} {sz : Nat} (hsz : ∀ x, (enc x).length = sz) : ∀ (xs : List α) (sp : List Value) (pre : List Value) (k : Nat) (x : α), xs[k]? = some x → Gets (pre ++ (xs.map enc).flatten ++ sp) (pre.length + k * sz) (enc x)
  | [], sp, pre, k, x, h => by simp at h
  | y :: r, sp, pre, 0, x, h => by
    simp at h; subst h
    intro j v hj
    have hlt : j < (enc y).length := (List.getElem?_eq_some_iff.1 hj).1
    simp only [List.map_cons, List.flatten_cons, Nat.zero_mul, Nat.add_zero, List.append_assoc]
    rw [List.getElem?_append_right (by omega), List.getElem?_append_left (by simpa using hlt)]
    simpa using hj
  | y :: r, sp, pre, k + 1, x, h => by
    have := gets_row hsz r sp (pre ++ enc y) k x (by simpa using h)
    simp only [List.map_cons, List.flatten_cons, List.append_assoc, List.length_append, hsz] at this ⊢
    rw [show pre.length + (k + 1) * sz = pre.length + sz + k * sz by rw [Nat.add_mul, Nat.one_mul]; omega]
    exact this
theorem Own.rd {α : Type} {enc : α → List Value} {E sz : Nat} (hsz : ∀ x, (enc x).length = sz) {v : Value} {nn : Nat} {xs : List α} {c : List Blk} (h : Own E sz v nn (xs.map enc).flatten c) (hl : xs.length = nn) :
    ∃ a cap, v = .slice a xs.length cap ∧ Rd enc sz (c :: L) a xs := by
  rcases h with ⟨rfl, h0, hcs, rfl⟩ | ⟨b, cap, sp, rfl, rfl, hcs, hle, hall⟩
  · refine ⟨none, 0, by rw [hl, h0], .inl ?_⟩
    exact List.eq_nil_of_length_eq_zero (by omega)
  · refine ⟨some ⟨b, 0, none⟩, cap, by rw [hl], .inr ⟨b, 0, _, E, (0, 0), rfl, has_here, fun k x hx => ?_⟩⟩
    have := gets_row hsz xs sp [] k x hx
    simpa using this
end app
end Go.HL
