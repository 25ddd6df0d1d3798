/- The heap logic: maps to bools. No program in sight. Conditions: none. -/
import Derived.Test.YtkookaogdkdegabDoorHLVec
import Derived.MapKept
import Derived.WideKeyRuns
import Derived.Carry
namespace Go.HL
open Go
set_option linter.unusedVariables false
set_option linter.unusedSimpArgs false
set_option linter.unusedSectionVars false
/-- the entries are these keys and values -/
def Ents {α : Type} (key : α → Value) (es : List MapEntry) (l : List (α × Bool)) : Prop := es.map (fun e => (e.key, e.val)) = l.map fun p => (key p.1, Value.bool p.2)
def findB {α : Type} [DecidableEq α] (a : α) : List (α × Bool) → Nat → Option (Nat × Value)
  | [], _ => none
  | (x, b) :: r, i => if a = x then some (i, .bool b) else findB a r (i + 1)
def lookB {α : Type} [DecidableEq α] (a : α) : List (α × Bool) → Bool
  | [] => false
  | (x, b) :: r => if a = x then b else lookB a r
structure KeyOk {α : Type} [DecidableEq α] (P : Program) (kt : TypeId) (key : α → Value) : Prop where
  chk : ∀ (em : Bool) (w : World) (a : α), (Instr.checkKey em 10000 kt (key a)).run P w = .ok () w
  find : ∀ (w : World) (a : α) (es : List MapEntry) (l : List (α × Bool)), Ents key es l → (Instr.findKey kt (key a) es).run P w = .ok (findB a l 0) w
  stay : ∀ (w : World) (a : α), (Instr.keyThatStays (key a) (key a)).run P w = .ok (key a) w
/-- what a map holds -/
def MapF {α : Type} [DecidableEq α] (key : α → Value) (es : List MapEntry) (f : α → Bool) : Prop := ∃ l : List (α × Bool), Ents key es l ∧ ∀ a, f a = lookB a l
theorem mapF_nil {α : Type} [DecidableEq α] {key : α → Value} : MapF key [] (fun _ => false) := ⟨[], rfl, fun _ => rfl⟩
section k
variable {α : Type} [DecidableEq α]
theorem findB_some {a : α} : ∀ {l : List (α × Bool)} {i j : Nat} {v : Value}, findB a l i = some (j, v) → i ≤ j ∧ ∃ b, v = .bool b ∧ l[j - i]? = some (a, b) ∧ lookB a l = b
  | [], i, j, v, h => by simp [findB] at h
  | (x, b) :: r, i, j, v, h => by
    simp only [findB] at h
    split at h
    · rename_i he
      subst he
      cases h
      exact ⟨Nat.le_refl _, b, rfl, by simp, by simp [lookB]⟩
    · rename_i he
      obtain ⟨h1, b', h2, h3, h4⟩ := findB_some h
      refine ⟨by omega, b', h2, ?_, by simp [lookB, he, h4]⟩
      rw [show j - i = (j - (i + 1)) + 1 by omega]
      simpa using h3
theorem findB_none {a : α} : ∀ {l : List (α × Bool)} {i : Nat}, findB a l i = none → lookB a l = false ∧ ∀ p ∈ l, p.1 ≠ a
  | [], i, h => ⟨rfl, by simp⟩
  | (x, b) :: r, i, h => by
    simp only [findB] at h
    split at h
    · cases h
    · rename_i he
      obtain ⟨h1, h2⟩ := findB_none h
      refine ⟨by simp [lookB, he, h1], fun p hp => ?_⟩
      rcases List.mem_cons.1 hp with rfl | hp
      · exact fun e => he e.symm
      · exact h2 p hp
theorem lookB_set {a : α} {b0 b : Bool} : ∀ {l : List (α × Bool)} {j : Nat}, findB a l 0 = some (j, .bool b0) → ∀ x, lookB x (l.set j (a, b)) = if x = a then b else lookB x l := by
  have key : ∀ (l : List (α × Bool)) (i j : Nat), findB a l i = some (j, .bool b0) → ∀ x, lookB x (l.set (j - i) (a, b)) = if x = a then b else lookB x l := by
    intro l
    induction l with
    | nil => intro i j h; simp [findB] at h
    | cons p r ih =>
      intro i j h x
      obtain ⟨y, c⟩ := p
      simp only [findB] at h
      split at h
      · rename_i he
        subst he
        cases h
        simp only [Nat.sub_self, List.set_cons_zero, lookB]
        split <;> simp_all
      · rename_i he
        have h1 := (findB_some h).1
        have := ih (i + 1) j h x
        rw [show j - i = (j - (i + 1)) + 1 by omega, List.set_cons_succ]
        simp only [lookB]
        rw [this]
        by_cases hxy : x = y
        · subst hxy
          simp [Ne.symm he]
        · simp [hxy]
  intro l j h
  exact key l 0 j h
theorem lookB_push {a : α} {b : Bool} : ∀ {l : List (α × Bool)}, (∀ p ∈ l, p.1 ≠ a) → ∀ x, lookB x (l ++ [(a, b)]) = if x = a then b else lookB x l
  | [], _, x => by simp [lookB]
  | (y, c) :: r, h, x => by
    have h1 : y ≠ a := h (y, c) (List.mem_cons_self)
    have ih := lookB_push (b := b) (fun p hp => h p (List.mem_cons_of_mem _ hp)) x
    simp only [List.cons_append, lookB, ih]
    by_cases hxy : x = y
    · subst hxy
      simp [h1]
    · simp [hxy]
theorem ents_set {key : α → Value} {es : List MapEntry} {l : List (α × Bool)} (h : Ents key es l) {a : α} {b : Bool} {i : Nat} (hi : i < es.length) : Ents key (es.modify i fun e => { e with key := key a, val := .bool b }) (l.set i (a, b)) := by
  unfold Ents at *
  apply List.ext_getElem?
  intro k
  have hk := congrArg (fun z => z[k]?) h
  simp only [List.getElem?_map] at hk
  simp only [List.getElem?_map, List.getElem?_modify, List.getElem?_set]
  by_cases e : i = k
  · subst e
    have hl : i < l.length := by
      have := congrArg List.length h
      simp at this
      omega
    simp [hi, hl]
  · simp only [if_neg e]
    cases hes : es[k]? <;> simp_all
theorem ents_push {key : α → Value} {es : List MapEntry} {l : List (α × Bool)} (h : Ents key es l) {a : α} {b : Bool} {n : Nat} : Ents key (es ++ [{ key := key a, val := .bool b, born := n }]) (l ++ [(a, b)]) := by
  unfold Ents at *
  simp [h]
end k
section r
variable {α : Type} [DecidableEq α] {P : Program} (S : Tab P) {n : Nat} {ops : List Oper} {Q : Exit → Env → Heap → Prop} {rest : List Oper} {ρ : Env} {L : Heap} {ty : TypeId} {pos : String} {af : Array Edge}
/-- m[k] -/
theorem q_mapB {d : Option Tmp} {g : Option (Nat × Bool)} {t kt et s0 b0 r : Nat} {key : α → Value} {x y : Operand} {es : List MapEntry} {ck : Nat} {f : α → Bool} {a : α} (hK : KeyOk P kt key) (hx : ev ρ x = some (.map (some r))) (hy : ev ρ y = some (key a))
    (ht : lkN S.ty t = some ⟨8, kt, et, s0, b0⟩) (hz : lkN S.zr et = some (.bool false)) (hb : Has L r (.map ⟨es⟩ ck)) (hF : MapF key es f) : QOp P ⟨d, .lookup t x y false, ty, pos, af, g⟩ ρ L (.bool (f a)) :=
  q_run fun ρe he k w hs => by
    obtain ⟨l, hE, hf⟩ := hF
    have hm := ty_map (S.tyI ht) rfl
    have hzero := zero_run (S.zeroI hz) w
    have hh := MapKept.run_getObj_map (P := P) (hs.heap hb)
    have hfind := hK.find w a es l hE
    have hl : (Instr.lookup t (.map (some r)) (key a) false).run P w = .ok (.bool (f a)) w := by
      unfold Instr.lookup
      simp only [Sem.run_bind, run_underlying hm, Result.andThen_ok, hh, Sem.run_pure, hK.chk, hfind]
      rw [hf a]
      cases hfb : findB a l 0 with
      | none => simp [hzero, (findB_none hfb).1]
      | some q =>
        obtain ⟨j, v⟩ := q
        obtain ⟨-, b, rfl, -, e⟩ := findB_some hfb
        simp [e]
    simp only [execOp, he x (by simp [Op.operands]) _ hx, he y (by simp [Op.operands]) _ hy, Sem.run_bind, hl, Result.andThen_ok, Sem.run_pure]
/-- make(map[..]bool) -/
theorem wMk {d t : Nat} (h : ∀ b, HO P n ops Q rest ((d, .map (some b)) :: ρ) ([(b, .map #[] 0)] :: L)) (h00 : okv ρ = true := by exact rfl) (hn : Nat.blt d n = true := by exact rfl) : HO P n ops Q (⟨some d, .makeMap t none, ty, pos, af, none⟩ :: rest) ρ L :=
  ho_run rfl rfl hn fun ρe he k w hs => ⟨.map (some w.heap.size), w.alloc (.map #[] 0), _, by simp [execOp, RowKit.run_makeMap], hs.new _, h _⟩
/-- m[k] = b -/
theorem o_mapB {t kt et s0 b0 r ck : Nat} {key : α → Value} {x y z : Operand} {es : List MapEntry} {f : α → Bool} {a : α} {b : Bool} (hK : KeyOk P kt key) (hx : ev ρ x = some (.map (some r))) (hy : ev ρ y = some (key a)) (hzz : ev ρ z = some (.bool b))
    (ht : lkN S.ty t = some ⟨8, kt, et, s0, b0⟩) (hF : MapF key es f) (h : ∀ es' ck', MapF key es' (fun x => if x = a then b else f x) → HO P n ops Q rest ρ ([(r, .map ⟨es'⟩ ck')] :: L)) :
    HO P n ops Q (⟨none, .mapUpdate t x y z, ty, pos, af, none⟩ :: rest) ρ ([(r, .map ⟨es⟩ ck)] :: L) := by
  refine ho_do rfl rfl fun ρe he k w hs => ?_
  obtain ⟨l, hE, hf⟩ := hF
  have hm := ty_map (S.tyI ht) rfl
  have hb0 : w.heap[r]? = some (.map ⟨es⟩ ck) := hs.heap has_here
  have hh := MapKept.run_getObj_map (P := P) hb0
  have hfind := hK.find w a es l hE
  have fin : ∀ (es' : List MapEntry) (ck' : Nat), Sat k { w with heap := w.heap.setIfInBounds r (.map ⟨es'⟩ ck') } ([(r, .map ⟨es'⟩ ck')] :: L) := fun es' ck' => by
    have hs2 := MapKept.heap_set (o' := .map ⟨es'⟩ ck') hb0
    exact hs.upd upd_here rfl rfl rfl hs2.1 (fun j hj => hs2.2 j hj)
  have e1 := he x (by simp [Op.operands]) _ hx
  have e2 := he y (by simp [Op.operands]) _ hy
  have e3 := he z (by simp [Op.operands]) _ hzz
  cases hfb : findB a l 0 with
  | none =>
    obtain ⟨h1, h2⟩ := findB_none hfb
    rw [hfb] at hfind
    refine ⟨_, _, .inl ?_, fin (es ++ [{ key := key a, val := .bool b, born := ck }]) (ck + 1), h _ _ ⟨l ++ [(a, b)], ents_push hE, fun x => ?_⟩⟩
    · have hr : (Instr.mapUpdate t (.map (some r)) (key a) (.bool b)).run P w = .ok () { w with heap := w.heap.setIfInBounds r (.map ⟨es ++ [{ key := key a, val := .bool b, born := ck }]⟩ (ck + 1)) } := by
        unfold Instr.mapUpdate
        simp only [Sem.run_bind, run_underlying hm, Result.andThen_ok, hh, hK.chk, hfind, MapKept.run_setObj_map _ hb0]
        simp
      simp [execOp, e1, e2, e3, hr]
    · show (if x = a then b else f x) = _
      rw [lookB_push h2, hf]
  | some q =>
    obtain ⟨j, v⟩ := q
    obtain ⟨-, b', rfl, hj, hb'⟩ := findB_some hfb
    rw [hfb] at hfind
    have hlen : es.length = l.length := by have := congrArg List.length hE; simpa using this
    have hjl : j < es.length := by rw [hlen]; exact (List.getElem?_eq_some_iff.1 (by simpa using hj)).1
    have hkey : (es[j]).key = key a := by
      have h9 := congrArg (fun z => z[j]?) hE
      simp only [List.getElem?_map, Nat.sub_zero] at h9 hj
      rw [hj, List.getElem?_eq_getElem hjl] at h9
      simp at h9
      exact h9.1
    refine ⟨_, _, .inl ?_, fin (es.modify j fun e => { e with key := key a, val := .bool b }) ck, h _ _ ⟨l.set j (a, b), ents_set hE hjl, fun x => ?_⟩⟩
    · have hr : (Instr.mapUpdate t (.map (some r)) (key a) (.bool b)).run P w = .ok () { w with heap := w.heap.setIfInBounds r (.map ⟨es.modify j fun e => { e with key := key a, val := .bool b }⟩ ck) } := by
        unfold Instr.mapUpdate
        have e9 : ((((Array.mk es)[j]?).map (·.key)).getD (key a)) = key a := by simp [hjl, hkey]
        simp only [Sem.run_bind, run_underlying hm, Result.andThen_ok, hh, hK.chk, hfind, e9, hK.stay, MapKept.run_setObj_map _ hb0]
        simp
      simp [execOp, e1, e2, e3, hr]
    · show (if x = a then b else f x) = _
      rw [lookB_set hfb, hf]
theorem keyOk_int {kt s0 b0 : Nat} (hk : lkN S.ty kt = some ⟨2, 3, 0, s0, b0⟩) : KeyOk (α := Int) P kt iv := by
  have hd : P.underlying kt = some (.int .i64) := ty_int (S.tyI hk) rfl
  have hI : ∀ a : Int, MapKept.IsKey (.int .i64) (iv a) := fun a => by simp [MapKept.IsKey]
  refine ⟨fun em w a => MapKept.run_checkKey hd (hI a) em 9999, fun w a es l hE => ?_, fun w a => MapKept.run_keyThatStays (hI a)⟩
  refine MapKept.run_findKey hd ?_
  have key : ∀ (es : List MapEntry) (l : List (Int × Bool)) (i : Nat), Ents iv es l → Instr.findNow (.int .i64) (iv a) es i = some (findB a l i) := by
    intro es
    induction es with
    | nil =>
      intro l i h
      cases l with
      | nil => rfl
      | cons p r => simp [Ents] at h
    | cons e es ih =>
      intro l i h
      cases l with
      | nil => simp [Ents] at h
      | cons p r =>
        obtain ⟨x, b⟩ := p
        simp only [Ents, List.map_cons, List.cons.injEq, Prod.mk.injEq] at h
        obtain ⟨⟨h1, h2⟩, h3⟩ := h
        simp only [Instr.findNow, h1, Instr.sameNow, if_true, findB]
        by_cases hax : a = x
        · subst hax; simp [h2]
        · have : (a == x) = false := by simp [hax]
          simp [this, hax, ih r (i + 1) h3]
  exact key es l 0 hE
theorem qmI {d : Option Tmp} {g : Option (Nat × Bool)} {t kt et s0 b0 s1 b1 r : Nat} {x y : Operand} {es : List MapEntry} {ck : Nat} {f : Int → Bool} {a : Int} (h00 : okv ρ = true := by exact rfl) (hx : ev ρ x = some (.map (some r)) := by exact rfl) (hy : ev ρ y = some (iv a) := by exact rfl)
    (ht : lkN S.ty t = some ⟨8, kt, et, s0, b0⟩ := by exact rfl) (hk : lkN S.ty kt = some ⟨2, 3, 0, s1, b1⟩ := by exact rfl) (hz : lkN S.zr et = some (.bool false) := by exact rfl) (hb : Has L r (.map ⟨es⟩ ck) := by (repeat (first | assumption | exact has_here | exact has_mem (by assumption) | apply has_in | apply has_next))) (hF : MapF iv es f := by assumption) :
    QOp P ⟨d, .lookup t x y false, ty, pos, af, g⟩ ρ L (.bool (f a)) := q_mapB S (keyOk_int S hk) hx hy ht hz hb hF
theorem wmI {t kt et s0 b0 s1 b1 r ck : Nat} {x y z : Operand} {es : List MapEntry} {f : Int → Bool} {a : Int} {b : Bool} (hF : MapF iv es f) (h : ∀ es' ck', MapF iv es' (fun x => if x = a then b else f x) → HO P n ops Q rest ρ ([(r, .map ⟨es'⟩ ck')] :: L)) (h00 : okv ρ = true := by exact rfl) (hx : ev ρ x = some (.map (some r)) := by exact rfl) (hy : ev ρ y = some (iv a) := by exact rfl) (hzz : ev ρ z = some (.bool b) := by exact rfl)
    (ht : lkN S.ty t = some ⟨8, kt, et, s0, b0⟩ := by exact rfl) (hk : lkN S.ty kt = some ⟨2, 3, 0, s1, b1⟩ := by exact rfl) :
    HO P n ops Q (⟨none, .mapUpdate t x y z, ty, pos, af, none⟩ :: rest) ρ ([(r, .map ⟨es⟩ ck)] :: L) := o_mapB S (keyOk_int S hk) hx hy hzz ht hF h
end r
/-! ### a loop of so many rounds; a call within a region that draws its order -/
def unQ (P : Program) (n : Nat) (c : Code) (Q : Exit → Env → Heap → Prop) : Nat → Exit → Env → Heap → Prop
  | 0, .normal, ρ, L => False
  | k + 1, .normal, ρ, L => HW P n c (unQ P n c Q k) ρ L
  | _, e, ρ, L => Q e ρ L
theorem unQ_succ {P : Program} {n k : Nat} {c : Code} {Q : Exit → Env → Heap → Prop} {ρ : Env} {L : Heap} (h : HW P n c (unQ P n c Q k) ρ L) : unQ P n c Q (k + 1) .normal ρ L := h
theorem unQ_ret {P : Program} {n k : Nat} {c : Code} {Q : Exit → Env → Heap → Prop} {ρ : Env} {L : Heap} (h : Q .ret ρ L) : unQ P n c Q k .ret ρ L := by cases k <;> exact h
theorem unQ_exit {P : Program} {n k i : Nat} {c : Code} {Q : Exit → Env → Heap → Prop} {ρ : Env} {L : Heap} (h : Q (.exit i) ρ L) : unQ P n c Q k (.exit i) ρ L := by cases k <;> exact h
theorem hw_rounds {P : Program} {n : Nat} {c : Code} {Q : Exit → Env → Heap → Prop} {ρ : Env} {L : Heap} (m : Nat) (h : HW P n c (unQ P n c Q m) ρ L) : HW P n (.loop c) Q ρ L := by
  intro k w a hs ha b kk cs
  have key : ∀ m ρ L, HW P n c (unQ P n c Q m) ρ L → ∀ a w, Sat k w L → Agr n a ρ →
      ∃ e a' w', post k n Q e a' w' ∧ Arrives P (lone (b.at a (.code c :: .inLoop c :: kk)) cs w) b kk cs e a' w' := by
    intro m
    induction m with
    | zero =>
      intro ρ L h a w hs ha
      obtain ⟨e, a₁, w₁, ⟨ρ₁, L₁, ha₁, hs₁, hq⟩, harr⟩ := h k w a hs ha b (.inLoop c :: kk) cs
      cases e with
      | normal => exact hq.elim
      | exit id => exact ⟨_, a₁, w₁, ⟨ρ₁, L₁, ha₁, hs₁, hq⟩, .pass (x := .inLoop c) rfl (fun _ _ => .inl (by simp)) harr⟩
      | goto l => exact ⟨_, a₁, w₁, ⟨ρ₁, L₁, ha₁, hs₁, hq⟩, .pass (x := .inLoop c) rfl (fun _ _ => .inl (by simp)) harr⟩
      | ret => exact ⟨_, a₁, w₁, ⟨ρ₁, L₁, ha₁, hs₁, hq⟩, .pass (x := .inLoop c) rfl (fun _ _ => .inl (by simp)) harr⟩
      | panic ch => exact ⟨_, a₁, w₁, ⟨ρ₁, L₁, ha₁, hs₁, hq⟩, .pass (x := .inLoop c) rfl (fun _ _ => .inl (by simp)) harr⟩
      | outgrown => exact ⟨_, a₁, w₁, ⟨ρ₁, L₁, ha₁, hs₁, hq⟩, .pass (x := .inLoop c) rfl (fun _ _ => .inl (by simp)) harr⟩
    | succ m ih =>
      intro ρ L h a w hs ha
      obtain ⟨e, a₁, w₁, ⟨ρ₁, L₁, ha₁, hs₁, hq⟩, harr⟩ := h k w a hs ha b (.inLoop c :: kk) cs
      cases e with
      | normal =>
        obtain ⟨e₂, a₂, w₂, hq₂, harr₂⟩ := ih ρ₁ L₁ hq a₁ w₁ hs₁ ha₁
        exact ⟨e₂, a₂, w₂, hq₂, .of_steps (Steps.trans harr (.one step_inLoop)) harr₂⟩
      | exit id => exact ⟨_, a₁, w₁, ⟨ρ₁, L₁, ha₁, hs₁, hq⟩, .pass (x := .inLoop c) rfl (fun _ _ => .inl (by simp)) harr⟩
      | goto l => exact ⟨_, a₁, w₁, ⟨ρ₁, L₁, ha₁, hs₁, hq⟩, .pass (x := .inLoop c) rfl (fun _ _ => .inl (by simp)) harr⟩
      | ret => exact ⟨_, a₁, w₁, ⟨ρ₁, L₁, ha₁, hs₁, hq⟩, .pass (x := .inLoop c) rfl (fun _ _ => .inl (by simp)) harr⟩
      | panic ch => exact ⟨_, a₁, w₁, ⟨ρ₁, L₁, ha₁, hs₁, hq⟩, .pass (x := .inLoop c) rfl (fun _ _ => .inl (by simp)) harr⟩
      | outgrown => exact ⟨_, a₁, w₁, ⟨ρ₁, L₁, ha₁, hs₁, hq⟩, .pass (x := .inLoop c) rfl (fun _ _ => .inl (by simp)) harr⟩
  obtain ⟨e, a', w', hq, harr⟩ := key m ρ L h a w hs ha
  exact ⟨e, a', w', hq, .of_steps (.one step_loop) harr⟩
section df
variable {P : Program} {n : Nat} {ops : List Oper} {Q : Exit → Env → Heap → Prop} {Ss : List (Nat × Blk)} {rem rem' : List (Nat × Oper)} {ρ : Env} {L : Heap} {ty : TypeId} {pos : String} {af : Array Edge} {g : Option (Nat × Bool)} {d i : Nat}
/-- a call that changes nothing, and asks for these blocks -/
theorem dcF {f : Operand} {as : Array Operand} {ts : Array TypeId} {Fn : Nat} {cap args args' : List Value} {v : Value} (k : Nat) (F : List Blk) (h : ∀ L, (∀ p ∈ F, Has L p.1 p.2) → HC P Fn args' L (fun u L' => u = v ∧ L' = L)) (hF : ∀ p ∈ F, Has L p.1 p.2)
    (hr : HD P n ops Q (F.map (fun p => (i, p)) ++ Ss) rem' ((d, v) :: ρ) L) (h00 : okv ρ = true := by exact rfl) (hp : pickS k rem = some ((i, ⟨some d, .call { callee := .value f, args := as, argTypes := ts }, ty, pos, af, g⟩), rem') := by exact rfl) (hg : guardE ops ρ g = some true := by exact rfl) (hn : Nat.blt d n = true := by exact rfl)
    (hf : ev ρ f = some (.func (.func Fn) #[] ⟨cap⟩) := by exact rfl) (ha : evs ρ as.toList = some args := by exact rfl) (he : args ++ cap = args' := by exact rfl) (hc : chkQ ops rem' i ⟨some d, .call { callee := .value f, args := as, argTypes := ts }, ty, pos, af, g⟩ = true := by decide +kernel) : HD P n ops Q Ss rem ρ L :=
  hd_q (F := F) hp hc rfl hn (.inl ⟨hg, fun L hL => q_call hf ha (he ▸ h L hL)⟩) hF hr
end df
/-- one block asked for, wherever it lies -/
theorem hcHas {P : Program} {F : Nat} {args : List Value} {b : Nat} {o : Obj} {V : Value} (h : ∀ L, HC P F args ([(b, o)] :: L) (fun v L' => v = V ∧ L' = [(b, o)] :: L)) {L : Heap} (hb : Has L b o) : HC P F args L (fun v L' => v = V ∧ L' = L) := by
  obtain ⟨l1, l2, e⟩ := List.append_of_mem hb
  have hp : List.Perm L.flatten ([(b, o)] :: [l1 ++ l2]).flatten := by
    rw [e]
    simp only [List.flatten_cons, List.flatten_nil, List.append_nil, List.cons_append, List.nil_append]
    exact List.perm_middle
  have hp2 : ∀ {k : Ctx} {w : World}, Sat k w ([(b, o)] :: [l1 ++ l2]) → Sat k w L := fun hs => hs.sp (LS.of_perm hp)
  exact ⟨(h []).1, fun k w hs => ((h [l1 ++ l2]).2 k w (hs.sp (LS.of_perm hp.symm))).mono fun e w' ⟨v, L', he, hs', hv, hL⟩ => ⟨v, L, he, hp2 (hL ▸ hs'), hv, rfl⟩⟩
theorem hq2 {P : Program} {F : Nat} {args : List Value} {c1 c2 : List Blk} {L L1 L2 : Heap} {V : Value} (h : ∀ L, HC P F args (c1 :: c2 :: L) (fun v L' => v = V ∧ L' = c1 :: c2 :: L)) (k1 k2 : Nat) (hp1 : pickL k1 L = some (c1, L1) := by exact rfl) (hp2 : pickL k2 L1 = some (c2, L2) := by exact rfl) : HC P F args L (fun v L' => v = V ∧ L' = L) :=
  have hp : List.Perm L (c1 :: c2 :: L2) := (pickL_perm hp1).trans ((pickL_perm hp2).cons c1)
  ⟨(h L2).1, fun k w hs => ((h L2).2 k w (hs.perm hp)).mono fun e w' ⟨v, L', he, hs', hv, hL⟩ => ⟨v, L, he, (hL ▸ hs').perm hp.symm, hv, rfl⟩⟩
end Go.HL
