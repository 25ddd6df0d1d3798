/- Texts laid into one, without what the claim does not use. Conditions: none. -/
import Derived.Test.YtkookaogdkdegabGreatDoorMSrA
import Derived.MapKept
import Derived.WideKeyRuns
import Derived.Carry
import Derived.ProofKit
import Derived.OpenShut
import Derived.Deep.Slices
import Derived.Deep.Strs
import Derived.JoinedCond
import Derived.Deep.DeepHandedRow
import Derived.Stop.LaidErr
import Derived.LaidLaws
import Derived.Lay
import Derived.MakeChecks
import Derived.LaidHandle
import Derived.LaidEql
import Derived.Stop.Asserts
import Derived.RowKitTokens
import Derived.Lib.Overlaps
import Derived.DeepKeys3
/-! HLVec -/
section
namespace Go.HL
open Go
set_option linter.unusedVariables false
set_option linter.unusedSimpArgs false
def Zar (sz : Nat) : List Value → List (Nat × Value) → Option (List Value)
 | cells, [] => some cells
 | cells, (i, v) :: r => bif Nat.beq (Y6 v).length sz && Nat.ble (i * sz + (Y6 v).length) cells.length then Zar sz (Zk8 cells (i * sz) (Y6 v)) r else none
theorem Zgo {sz : Nat} : ∀ (l : List (Nat × Value)) (cells out : List Value), Zar sz cells l = some out → Instr.fill (fun i => some (i * sz, sz)) ⟨cells⟩ l = some ⟨out⟩
 | [], cells, out, h => by simp [Zar] at h; subst h; rfl
 | (i, v) :: r, cells, out, h => by
  simp only [Zar] at h
  obtain ⟨hc, h2⟩ := Zo h
  simp only [Bool.and_eq_true] at hc
  have e1 := Nat.eq_of_beq_eq_true hc.1
  have e2 := Nat.le_of_ble_eq_true hc.2
  have ih := Zgo r _ out h2
  have e3 := Zne (Y6 v) cells (i * sz) 0
  simp only [Nat.add_zero] at e3
  unfold Instr.fill
  simp only [Zhh]
  have hcond : (decide ((Array.mk (Y6 v)).size ≠ sz) || decide (i * sz + (Array.mk (Y6 v)).size > (Array.mk cells).size)) = false := by simp; omega
  rw [hcond]
  simp only [Bool.false_eq_true, if_false]
  have e4 : (Array.zipIdx ⟨Y6 v⟩ 0 : Array (Value × Nat)) = ⟨(Y6 v).zipIdx 0⟩ := by simp
  rw [e4]
  simp only [List.foldl_toArray]
  rw [e3]
  exact ih
theorem Zot : ∀ (vs pre zs : List Value), vs.length ≤ zs.length → Zk8 (pre ++ zs) pre.length vs = pre ++ (vs ++ zs.drop vs.length)
 | [], pre, zs, _ => by simp [Zk8]
 | v :: r, pre, [], h => by simp at h
 | v :: r, pre, z :: zs, h => by
  have e : (pre ++ z :: zs).set pre.length v = (pre ++ [v]) ++ zs := by simp
  have ih := Zot r (pre ++ [v]) zs (by simpa using h)
  simp only [Zk8, e]
  rw [show pre.length + 1 = (pre ++ [v]).length by simp, ih]
  simp
def U3 (sz : Nat) : Nat → List (Nat × Value) → Option (List Value)
 | _, [] => some []
 | k, (i, v) :: r => bif Nat.beq i k && Nat.beq (Y6 v).length sz then (U3 sz (k + 1) r).bind fun l => some (Y6 v ++ l) else none
theorem Zhw {sz : Nat} : ∀ (l : List (Nat × Value)) (k : Nat) (pre zs out : List Value), U3 sz k l = some out → pre.length = k * sz → zs.length = out.length → Zar sz (pre ++ zs) l = some (pre ++ out)
 | [], k, pre, zs, out, h, hp, hz => by
  simp [U3] at h; subst h
  have : zs = [] := List.eq_nil_of_length_eq_zero hz
  subst this
  simp [Zar]
 | (i, v) :: r, k, pre, zs, out, h, hp, hz => by
  simp only [U3] at h
  obtain ⟨hc, h2⟩ := Zo h
  simp only [Bool.and_eq_true] at hc
  have e1 := Nat.eq_of_beq_eq_true hc.1
  have e2 := Nat.eq_of_beq_eq_true hc.2
  subst e1
  obtain ⟨l', hl, h3⟩ := bind_some h2
  cases h3
  simp only [List.length_append] at hz
  have hle : (Y6 v).length ≤ zs.length := by omega
  simp only [Zar]
  have hcond : (Nat.beq (Y6 v).length sz && Nat.ble (i * sz + (Y6 v).length) (pre ++ zs).length) = true := by
   rw [Bool.and_eq_true]
   refine ⟨hc.2, Nat.ble_eq_true_of_le ?_⟩
   simp; omega
  rw [hcond, cond_true, ← hp, Zot _ _ _ hle, ← List.append_assoc]
  have ih := Zhw r (i + 1) (pre ++ Y6 v) (zs.drop (Y6 v).length) l' hl (by simp [hp, e2, Nat.add_mul]) (by simp; omega)
  rw [ih, List.append_assoc]
section v
variable {P : Program} (S : Tab P) {n : Nat} {ops : List Oper} {Q : Exit → Zq → Zb → Prop} {rest : List Oper} {ρ : Zq} {L : Zb} {ty : TypeId} {pos : String} {af : Array Edge}
theorem wSn {d t E y0 s0 b0 k1 x1 y1 sz by1 len : Nat} {z : Value} {zs out : List Value} {vals : List (Nat × Value)} {parts : Array (Nat × Operand)} (h : ∀ b, HO P n ops Q rest ((d, sl b 0 len len) :: ρ) ([(b, .cells ⟨out⟩ E)] :: L)) (h00 : Y9 ρ = true := by exact rfl) (ht : Zt S.ty t = some ⟨5, E, y0, s0, b0⟩ := by exact rfl) (he : Zt S.ty E = some ⟨k1, x1, y1, sz, by1⟩ := by exact rfl)
  (hz : Zt S.zr E = some z := by exact rfl) (hzs : z.cells = ⟨zs⟩ := by exact rfl) (hzl : Nat.beq zs.length sz = true := by exact rfl) (hp : Wf ρ parts.toList = some vals := by exact rfl) (hf : ((Zar sz (List.replicate len zs).flatten vals).bind fun l => nfL l some) = some out := by exact rfl)
  (hsm : Nat.ble (len * sz) 16777216 = true := by exact rfl) (h1 : Nat.ble 1 (len * sz) = true := by exact rfl) (hn : Nat.blt d n = true := by exact rfl) : HO P n ops Q (⟨some d, .buildSlice t len parts, ty, pos, af, none⟩ :: rest) ρ L := by
 refine Vh rfl rfl hn fun ρe he' k w hs => ⟨sl w.heap.size 0 len len, w.alloc (.cells ⟨out⟩ E), _, ?_, hs.new _, h _⟩
 have hdesc := Ya (S.tyI ht) rfl
 have hsize : (sizeOf E).run P w = .ok sz w := Y7 (S.tyI he) w
 have hzero := Vm (S.zeroI hz) w
 have hle : len * sz ≤ 16777216 := Nat.le_of_ble_eq_true hsm
 have hge : 1 ≤ len * sz := Nat.le_of_ble_eq_true h1
 obtain ⟨l, hl, h2⟩ := bind_some hf
 rw [Zdc] at h2
 cases h2
 have hzl' := Nat.eq_of_beq_eq_true hzl
 have hm : ((Array.range (len * sz)).map fun j => (Array.mk zs)[j % (Array.mk zs).size]!) = ⟨(List.replicate len zs).flatten⟩ := by
  have := V5 zs len
  rw [hzl'] at this
  exact this
 have e1 : (parts.map fun p => (p.1, ρe p.2)).toList = vals := by
  rw [Array.toList_map]
  exact Ul (fun p hp' u hu => he' p.2 (by simp [Op.operands]; exact ⟨p.1, by simpa using hp'⟩) u hu) hp
 have hfill := Zgo vals _ out hl
 have hbs : (Instr.buildSlice t len (parts.map fun p => (p.1, ρe p.2))).run P w = .ok (sl w.heap.size 0 len len) (w.alloc (.cells ⟨out⟩ E)) := by
  have hl2 : ¬ (16777216 < len * sz) := by omega
  have hl3 : ¬ (len * sz = 0) := by omega
  have hm2 : ((Array.range (len * sz)).map fun j => (z.cells)[j % z.cells.size]!) = ⟨(List.replicate len zs).flatten⟩ := by rw [hzs]; exact hm
  unfold Instr.buildSlice
  simp only [Sem.run_bind, run_underlying hdesc, Result.andThen_ok, hsize, Nat.reducePow, gt_iff_lt, if_neg hl2, if_neg hl3, Sem.run_pure, hzero, hm2, e1, hfill]
  rfl
 simp only [execOp, Sem.run_bind, hbs, Result.andThen_ok, Sem.run_pure]
theorem wSa {d t E y0 s0 b0 k1 x1 y1 sz by1 len : Nat} {z : Value} {zs out : List Value} {vals : List (Nat × Value)} {parts : Array (Nat × Operand)} (h : ∀ b, HO P n ops Q rest ((d, sl b 0 len len) :: ρ) ([(b, .cells ⟨out⟩ E)] :: L)) (h00 : Y9 ρ = true := by exact rfl) (ht : Zt S.ty t = some ⟨5, E, y0, s0, b0⟩ := by exact rfl) (he : Zt S.ty E = some ⟨k1, x1, y1, sz, by1⟩ := by exact rfl)
  (hz : Zt S.zr E = some z := by exact rfl) (hzs : z.cells = ⟨zs⟩ := by exact rfl) (hzl : Nat.beq zs.length sz = true := by exact rfl) (hp : Wf ρ parts.toList = some vals := by exact rfl) (hf : ((U3 sz 0 vals).bind fun l => nfL l some) = some out := by exact rfl) (hol : Nat.beq out.length (len * sz) = true := by exact rfl)
  (hsm : Nat.ble (len * sz) 16777216 = true := by exact rfl) (h1 : Nat.ble 1 (len * sz) = true := by exact rfl) (hn : Nat.blt d n = true := by exact rfl) : HO P n ops Q (⟨some d, .buildSlice t len parts, ty, pos, af, none⟩ :: rest) ρ L := by
 obtain ⟨l, hl, h2⟩ := bind_some hf
 rw [Zdc] at h2
 cases h2
 have hlen : (List.replicate len zs).flatten.length = out.length := by
  have e1 := Nat.eq_of_beq_eq_true hol
  have e2 := Nat.eq_of_beq_eq_true hzl
  simp [e1, e2]
 have := Zhw vals 0 [] (List.replicate len zs).flatten out hl (by simp) hlen
 exact wSn S h h00 ht he hz hzs hzl hp (by simp only [List.nil_append] at this; rw [this]; simp [Zdc]) hsm h1 hn
theorem Zol {d : Option Tmp} {g : Option (Nat × Bool)} {t len E s0 b0 k1 x1 y1 sz by1 : Nat} {parts : Array (Nat × Operand)} {zs out : List Value} {vals : List (Nat × Value)} (hz : Zt S.zr t = some (.agg ⟨zs⟩)) (ht : Zt S.ty t = some ⟨6, len, E, s0, b0⟩) (he : Zt S.ty E = some ⟨k1, x1, y1, sz, by1⟩) (hp : Wf ρ parts.toList = some vals)
  (hf : ((Zar sz zs vals).bind fun l => nfL l some) = some out) : QOp P ⟨d, .build t parts, ty, pos, af, g⟩ ρ L (.agg ⟨out⟩) :=
 Ye fun ρe he' k w hsat => by
  obtain ⟨l, hl, h1⟩ := bind_some hf
  rw [Zdc] at h1
  cases h1
  have hu := Ze5 (S.tyI ht) rfl
  have hsize : (sizeOf E).run P w = .ok sz w := Y7 (S.tyI he) w
  have hzero := Vm (S.zeroI hz) w
  have e1 : (parts.map fun p => (p.1, ρe p.2)).toList = vals := by
   rw [Array.toList_map]
   exact Ul (fun p hp' u hu => he' p.2 (by simp [Op.operands]; exact ⟨p.1, by simpa using hp'⟩) u hu) hp
  have hfill := Zgo vals zs out hl
  show (Instr.build t (parts.map fun p => (p.1, ρe p.2)) >>= fun v => pure (Next.value v) : Sem Next).run P w = _
  simp only [Sem.run_bind, Instr.build, hzero, Result.andThen_ok, run_underlying hu, hsize, e1, Value.cells, hfill, Sem.run_pure]
theorem qbA {d : Option Tmp} {g : Option (Nat × Bool)} {t len E s0 b0 k1 x1 y1 sz by1 : Nat} {parts : Array (Nat × Operand)} {zs out : List Value} {vals : List (Nat × Value)} (h00 : Y9 ρ = true := by exact rfl) (hz : Zt S.zr t = some (.agg ⟨zs⟩) := by exact rfl) (ht : Zt S.ty t = some ⟨6, len, E, s0, b0⟩ := by exact rfl) (he : Zt S.ty E = some ⟨k1, x1, y1, sz, by1⟩ := by exact rfl) (hp : Wf ρ parts.toList = some vals := by exact rfl)
  (hf : ((Zar sz zs vals).bind fun l => nfL l some) = some out := by exact rfl) : QOp P ⟨d, .build t parts, ty, pos, af, g⟩ ρ L (.agg ⟨out⟩) := Zol S hz ht he hp hf

/-! ### a slice of one's own -/
def Vec {α : Type} (E sz : Nat) (enc : α → List Value) (v : Value) (xs : List α) (c : List Zn) : Prop := Own E sz v xs.length (xs.map enc).flatten c
theorem Yh {α : Type} {E sz : Nat} {enc : α → List Value} : Vec E sz enc Wo [] [] := own_nil
theorem Vec.rd {α : Type} {E sz : Nat} {enc : α → List Value} {v : Value} {xs : List α} {c : List Zn} (h : Vec E sz enc v xs c) (hsz : ∀ x, (enc x).length = sz) : ∃ a cap, v = .slice a xs.length cap ∧ xs.length ≤ cap ∧ ∀ L, Rd enc sz (c :: L) a xs := by
 have h' := h
 rcases h with ⟨rfl, h0, hcs, rfl⟩ | ⟨b, cap, sp, rfl, rfl, hcs, hle, hall⟩
 ·exact ⟨none, 0, by rw [h0], by omega, fun L => .inl (List.eq_nil_of_length_eq_zero h0)⟩
 ·refine ⟨some ⟨b, 0, none⟩, cap, rfl, hle, fun L => .inr ⟨b, 0, _, E, (0, 0), rfl, Zh, fun k x hx => ?_⟩⟩
  have := Wd hsz xs sp [] k x hx
  simpa using this
theorem Za2 (l : List Value) : Gets l 0 l := fun j v h => by simpa using h
theorem wp1 {α : Type} {enc : α → List Value} {d t E y0 s0 b0 k1 x1 y1 sz by1 b i cap F : Nat} {z v : Value} {zs l : List Value} {fr : Nat × Nat} {c : List Zn} {x y : Operand} {xs : List α} (e : α) (ho : Vec E sz enc v xs c) (hsz : ∀ x, (enc x).length = sz) (hone : ∀ x, (enc x).all Value.oneCell' = true)
  (h : ∀ v' c', Vec E sz enc v' (xs ++ [e]) c' → HO P n ops Q rest ((d, v') :: ρ) (c' :: L)) (h00 : Y9 ρ = true := by exact rfl)
  (hx : ev ρ x = some v := by exact rfl) (hy : ev ρ y = some (sl b i 1 cap) := by exact rfl) (ht : Zt S.ty t = some ⟨5, E, y0, s0, b0⟩ := by exact rfl) (he : Zt S.ty E = some ⟨k1, x1, y1, sz, by1⟩ := by exact rfl) (hz : Zt S.zr E = some z := by exact rfl) (hzs : z.cells = ⟨zs⟩ := by exact rfl) (hzl : zs.length = sz := by exact rfl)
  (hn : Nat.blt d n = true := by exact rfl) (hb : Has L b (.cells ⟨l⟩ F fr) := by (repeat (first | assumption | exact Zh | exact Yi (by assumption) | apply Xn | apply Zc))) (hg : Gets l i (enc e) := by first | exact Za2 _ | assumption) (hby : (xs.length + 1) * by1 ≤ 140737488355328 := by omega) (hmax : xs.length + 1 ≤ 9223372036854775807 := by omega) :
  HO P n ops Q (⟨some d, .call { callee := .builtin .append, args := #[x, y], argTypes := #[t, t] }, ty, pos, af, none⟩ :: rest) ρ (c :: L) :=
 Zl1 S hx hy ht he hz hzs hzl hn ho (src_one (Zc hb) hg (hsz e)) (hone e) hby hmax fun v' c' ho' => h v' c' (by
  unfold Vec
  simp only [List.length_append, List.length_cons, List.length_nil, List.map_append, List.map_cons, List.map_nil, List.flatten_append, List.flatten_cons, List.flatten_nil, List.append_nil]
  exact ho')
theorem wpA {α : Type} {enc : α → List Value} {d t E y0 s0 b0 k1 x1 y1 sz by1 cap : Nat} {z v : Value} {zs : List Value} {a : Option Addr} {c : List Zn} {x y : Operand} {xs ys : List α} (ho : Vec E sz enc v xs c) (hR : Rd enc sz (c :: L) a ys) (hsz : ∀ x, (enc x).length = sz) (hone : ∀ x, (enc x).all Value.oneCell' = true)
  (h : ∀ v' c', Vec E sz enc v' (xs ++ ys) c' → HO P n ops Q rest ((d, v') :: ρ) (c' :: L)) (h00 : Y9 ρ = true := by exact rfl)
  (hx : ev ρ x = some v := by exact rfl) (hy : ev ρ y = some (.slice a ys.length cap) := by exact rfl) (ht : Zt S.ty t = some ⟨5, E, y0, s0, b0⟩ := by exact rfl) (he : Zt S.ty E = some ⟨k1, x1, y1, sz, by1⟩ := by exact rfl) (hz : Zt S.zr E = some z := by exact rfl) (hzs : z.cells = ⟨zs⟩ := by exact rfl) (hzl : zs.length = sz := by exact rfl)
  (hn : Nat.blt d n = true := by exact rfl) (hby : (xs.length + ys.length) * by1 ≤ 140737488355328 := by omega) (hmax : xs.length + ys.length ≤ 9223372036854775807 := by omega) :
  HO P n ops Q (⟨some d, .call { callee := .builtin .append, args := #[x, y], argTypes := #[t, t] }, ty, pos, af, none⟩ :: rest) ρ (c :: L) :=
 Zl1 S hx hy ht he hz hzs hzl hn ho (Zib hsz hR) (Zb6 hone ys) hby hmax fun v' c' ho' => h v' c' (by
  unfold Vec
  simp only [List.length_append, List.map_append, List.flatten_append]
  exact ho')
end v
theorem Zfg {α : Type} {enc : α → List Value} {sz : Nat} (hsz : ∀ x, (enc x).length = sz) : ∀ (xs : List α) (sp pre : List Value) (k i : Nat) (x : α), k < xs.length → i = pre.length + k * sz → Zp (pre ++ (xs.map enc).flatten ++ sp) i (enc x) (pre ++ ((xs.set k x).map enc).flatten ++ sp)
 | [], sp, pre, k, i, x, h, _ => by simp at h
 | y :: r, sp, pre, 0, i, x, h, hi => by
  have hp : Zp ((enc y) ++ ((r.map enc).flatten ++ sp)) 0 (enc x) (enc x ++ ((r.map enc).flatten ++ sp)) := Zm2 (by rw [hsz, hsz])
  have key : ∀ (p l vs l' : List Value) (j : Nat), Zp l j vs l' → Zp (p ++ l) (p.length + j) vs (p ++ l') := by
   intro p
   induction p with
   | nil => intro l vs l' j h; simpa using h
   | cons a p ih =>
    intro l vs l' j h
    have := Wk (x := a) (ih l vs l' j h)
    simpa [Nat.add_assoc, Nat.add_comm, Nat.add_left_comm] using this
  have := key pre _ _ _ 0 hp
  subst hi
  simpa using this
 | y :: r, sp, pre, k + 1, i, x, h, hi => by
  have := Zfg hsz r sp (pre ++ enc y) k i x (by simpa using h) (by rw [hi]; simp [hsz, Nat.add_mul]; omega)
  simpa using this
theorem V2 {P : Program} {F : Nat} {args : List Value} {c : List Zn} {L L1 : Zb} {V : Value} (h : ∀ L, HC P F args (c :: L) (fun v L' => v = V ∧ L' = c :: L)) (k0 : Nat) (hp : Q4 k0 L = some (c, L1) := by exact rfl) : HC P F args L (fun v L' => v = V ∧ L' = L) :=
 ⟨(h L1).1, fun k w hs => ((h L1).2 k w (hs.perm (Xv hp))).mono fun e w' ⟨v, L', he, hs', hv, hL⟩ => ⟨v, L, he, (hL ▸ hs').perm (Xv hp).symm, hv, rfl⟩⟩
theorem LS.pick {c : List Zn} {A L L1 : Zb} (k0 : Nat) (h : LS A.flatten L1.flatten) (hp : Q4 k0 L = some (c, L1) := by exact rfl) : LS (c :: A).flatten L.flatten :=
 LS.trans (LS.k h) (LS.of_perm (Xv hp).symm.flatten)
theorem LS.e {A L : Zb} (h : LS A.flatten L.flatten) : LS (([] : List Zn) :: A).flatten L.flatten := h
theorem LS.p0 {c : List Zn} {A L : Zb} (h : LS A.flatten L.flatten) : LS (c :: A).flatten (c :: L).flatten := LS.k h
theorem LS.p1 {x0 c : List Zn} {A L : Zb} (h : LS A.flatten (x0 :: L).flatten) : LS (c :: A).flatten (x0 :: c :: L).flatten := LS.pick 1 h
theorem LS.p2 {x0 x1 c : List Zn} {A L : Zb} (h : LS A.flatten (x0 :: x1 :: L).flatten) : LS (c :: A).flatten (x0 :: x1 :: c :: L).flatten := LS.pick 2 h
theorem LS.p3 {x0 x1 x2 c : List Zn} {A L : Zb} (h : LS A.flatten (x0 :: x1 :: x2 :: L).flatten) : LS (c :: A).flatten (x0 :: x1 :: x2 :: c :: L).flatten := LS.pick 3 h
theorem LS.p4 {x0 x1 x2 x3 c : List Zn} {A L : Zb} (h : LS A.flatten (x0 :: x1 :: x2 :: x3 :: L).flatten) : LS (c :: A).flatten (x0 :: x1 :: x2 :: x3 :: c :: L).flatten := LS.pick 4 h
theorem LS.p5 {x0 x1 x2 x3 x4 c : List Zn} {A L : Zb} (h : LS A.flatten (x0 :: x1 :: x2 :: x3 :: x4 :: L).flatten) : LS (c :: A).flatten (x0 :: x1 :: x2 :: x3 :: x4 :: c :: L).flatten := LS.pick 5 h
theorem LS.p6 {x0 x1 x2 x3 x4 x5 c : List Zn} {A L : Zb} (h : LS A.flatten (x0 :: x1 :: x2 :: x3 :: x4 :: x5 :: L).flatten) : LS (c :: A).flatten (x0 :: x1 :: x2 :: x3 :: x4 :: x5 :: c :: L).flatten := LS.pick 6 h
theorem LS.p7 {x0 x1 x2 x3 x4 x5 x6 c : List Zn} {A L : Zb} (h : LS A.flatten (x0 :: x1 :: x2 :: x3 :: x4 :: x5 :: x6 :: L).flatten) : LS (c :: A).flatten (x0 :: x1 :: x2 :: x3 :: x4 :: x5 :: x6 :: c :: L).flatten := LS.pick 7 h
theorem LS.p8 {x0 x1 x2 x3 x4 x5 x6 x7 c : List Zn} {A L : Zb} (h : LS A.flatten (x0 :: x1 :: x2 :: x3 :: x4 :: x5 :: x6 :: x7 :: L).flatten) : LS (c :: A).flatten (x0 :: x1 :: x2 :: x3 :: x4 :: x5 :: x6 :: x7 :: c :: L).flatten := LS.pick 8 h
theorem LS.p9 {x0 x1 x2 x3 x4 x5 x6 x7 x8 c : List Zn} {A L : Zb} (h : LS A.flatten (x0 :: x1 :: x2 :: x3 :: x4 :: x5 :: x6 :: x7 :: x8 :: L).flatten) : LS (c :: A).flatten (x0 :: x1 :: x2 :: x3 :: x4 :: x5 :: x6 :: x7 :: x8 :: c :: L).flatten := LS.pick 9 h
theorem LS.p10 {x0 x1 x2 x3 x4 x5 x6 x7 x8 x9 c : List Zn} {A L : Zb} (h : LS A.flatten (x0 :: x1 :: x2 :: x3 :: x4 :: x5 :: x6 :: x7 :: x8 :: x9 :: L).flatten) : LS (c :: A).flatten (x0 :: x1 :: x2 :: x3 :: x4 :: x5 :: x6 :: x7 :: x8 :: x9 :: c :: L).flatten := LS.pick 10 h
theorem LS.p11 {x0 x1 x2 x3 x4 x5 x6 x7 x8 x9 x10 c : List Zn} {A L : Zb} (h : LS A.flatten (x0 :: x1 :: x2 :: x3 :: x4 :: x5 :: x6 :: x7 :: x8 :: x9 :: x10 :: L).flatten) : LS (c :: A).flatten (x0 :: x1 :: x2 :: x3 :: x4 :: x5 :: x6 :: x7 :: x8 :: x9 :: x10 :: c :: L).flatten := LS.pick 11 h
theorem LS.p12 {x0 x1 x2 x3 x4 x5 x6 x7 x8 x9 x10 x11 c : List Zn} {A L : Zb} (h : LS A.flatten (x0 :: x1 :: x2 :: x3 :: x4 :: x5 :: x6 :: x7 :: x8 :: x9 :: x10 :: x11 :: L).flatten) : LS (c :: A).flatten (x0 :: x1 :: x2 :: x3 :: x4 :: x5 :: x6 :: x7 :: x8 :: x9 :: x10 :: x11 :: c :: L).flatten := LS.pick 12 h
theorem once_w {ι : Type} {P : Program} {n : Nat} {c : Code} {Q : Exit → Zq → Zb → Prop} (I : ι → Prop) (ρ : ι → Zq) (L : ι → Zb) {R : Prop} (main : (∀ i, I i → HW P n c Q (ρ i) (L i)) → R) (key : ∀ i, I i → HW P n c Q (ρ i) (L i)) : R := main key
end Go.HL
end

/-! HLMap -/
section
namespace Go.HL
open Go
set_option linter.unusedVariables false
set_option linter.unusedSimpArgs false
set_option linter.unusedSectionVars false
def Zbd {α : Type} (key : α → Value) (es : List MapEntry) (l : List (α × Bool)) : Prop := es.map (fun e => (e.key, e.val)) = l.map fun p => (key p.1, Value.bool p.2)
def Vg {α : Type} [DecidableEq α] (a : α) : List (α × Bool) → Nat → Option (Nat × Value)
 | [], _ => none
 | (x, b) :: r, i => if a = x then some (i, .bool b) else Vg a r (i + 1)
def Vj {α : Type} [DecidableEq α] (a : α) : List (α × Bool) → Bool
 | [] => false
 | (x, b) :: r => if a = x then b else Vj a r
structure KeyOk {α : Type} [DecidableEq α] (P : Program) (kt : TypeId) (key : α → Value) : Prop where
 chk : ∀ (em : Bool) (w : World) (a : α), (Instr.checkKey em 10000 kt (key a)).run P w = .ok () w
 find : ∀ (w : World) (a : α) (es : List MapEntry) (l : List (α × Bool)), Zbd key es l → (Instr.findKey kt (key a) es).run P w = .ok (Vg a l 0) w
 stay : ∀ (w : World) (a : α), (Instr.keyThatStays (key a) (key a)).run P w = .ok (key a) w
def Zy {α : Type} [DecidableEq α] (key : α → Value) (es : List MapEntry) (f : α → Bool) : Prop := ∃ l : List (α × Bool), Zbd key es l ∧ ∀ a, f a = Vj a l
theorem Zgh {α : Type} [DecidableEq α] {key : α → Value} : Zy key [] (fun _ => false) := ⟨[], rfl, fun _ => rfl⟩
section k
variable {α : Type} [DecidableEq α]
theorem Qn {a : α} : ∀ {l : List (α × Bool)} {i j : Nat} {v : Value}, Vg a l i = some (j, v) → i ≤ j ∧ ∃ b, v = .bool b ∧ l[j - i]? = some (a, b) ∧ Vj a l = b
 | [], i, j, v, h => by simp [Vg] at h
 | (x, b) :: r, i, j, v, h => by
  simp only [Vg] at h
  split at h
  ·rename_i he
   subst he
   cases h
   exact ⟨Nat.le_refl _, b, rfl, by simp, by simp [Vj]⟩
  ·rename_i he
   obtain ⟨h1, b', h2, h3, h4⟩ := Qn h
   refine ⟨by omega, b', h2, ?_, by simp [Vj, he, h4]⟩
   rw [show j - i = (j - (i + 1)) + 1 by omega]
   simpa using h3
theorem Zb3 {a : α} : ∀ {l : List (α × Bool)} {i : Nat}, Vg a l i = none → Vj a l = false ∧ ∀ p ∈ l, p.1 ≠ a
 | [], i, h => ⟨rfl, by simp⟩
 | (x, b) :: r, i, h => by
  simp only [Vg] at h
  split at h
  ·cases h
  ·rename_i he
   obtain ⟨h1, h2⟩ := Zb3 h
   refine ⟨by simp [Vj, he, h1], fun p hp => ?_⟩
   rcases List.mem_cons.1 hp with rfl | hp
   ·exact fun e => he e.symm
   ·exact h2 p hp
theorem Zsd {a : α} {b0 b : Bool} : ∀ {l : List (α × Bool)} {j : Nat}, Vg a l 0 = some (j, .bool b0) → ∀ x, Vj x (l.set j (a, b)) = if x = a then b else Vj x l := by
 have key : ∀ (l : List (α × Bool)) (i j : Nat), Vg a l i = some (j, .bool b0) → ∀ x, Vj x (l.set (j - i) (a, b)) = if x = a then b else Vj x l := by
  intro l
  induction l with
  | nil => intro i j h; simp [Vg] at h
  | cons p r ih =>
   intro i j h x
   obtain ⟨y, c⟩ := p
   simp only [Vg] at h
   split at h
   ·rename_i he
    subst he
    cases h
    simp only [Nat.sub_self, List.set_cons_zero, Vj]
    split <;> simp_all
   ·rename_i he
    have h1 := (Qn h).1
    have := ih (i + 1) j h x
    rw [show j - i = (j - (i + 1)) + 1 by omega, List.set_cons_succ]
    simp only [Vj]
    rw [this]
    by_cases hxy : x = y
    ·subst hxy
     simp [Ne.symm he]
    ·simp [hxy]
 intro l j h
 exact key l 0 j h
theorem Zfx {a : α} {b : Bool} : ∀ {l : List (α × Bool)}, (∀ p ∈ l, p.1 ≠ a) → ∀ x, Vj x (l ++ [(a, b)]) = if x = a then b else Vj x l
 | [], _, x => by simp [Vj]
 | (y, c) :: r, h, x => by
  have h1 : y ≠ a := h (y, c) (List.mem_cons_self)
  have ih := Zfx (b := b) (fun p hp => h p (List.mem_cons_of_mem _ hp)) x
  simp only [List.cons_append, Vj, ih]
  by_cases hxy : x = y
  ·subst hxy
   simp [h1]
  ·simp [hxy]
theorem ents_set {key : α → Value} {es : List MapEntry} {l : List (α × Bool)} (h : Zbd key es l) {a : α} {b : Bool} {i : Nat} (hi : i < es.length) : Zbd key (es.modify i fun e => { e with key := key a, val := .bool b }) (l.set i (a, b)) := by
 unfold Zbd at *
 apply List.ext_getElem?
 intro k
 have hk := congrArg (fun z => z[k]?) h
 simp only [List.getElem?_map] at hk
 simp only [List.getElem?_map, List.getElem?_modify, List.getElem?_set]
 by_cases e : i = k
 ·subst e
  have hl : i < l.length := by
   have := congrArg List.length h
   simp at this
   omega
  simp [hi, hl]
 ·simp only [if_neg e]
  cases hes : es[k]? <;> simp_all
theorem Zq0 {key : α → Value} {es : List MapEntry} {l : List (α × Bool)} (h : Zbd key es l) {a : α} {b : Bool} {n : Nat} : Zbd key (es ++ [{ key := key a, val := .bool b, born := n }]) (l ++ [(a, b)]) := by
 unfold Zbd at *
 simp [h]
end k
section r
variable {α : Type} [DecidableEq α] {P : Program} (S : Tab P) {n : Nat} {ops : List Oper} {Q : Exit → Zq → Zb → Prop} {rest : List Oper} {ρ : Zq} {L : Zb} {ty : TypeId} {pos : String} {af : Array Edge}
theorem q_mapB {d : Option Tmp} {g : Option (Nat × Bool)} {t kt et s0 b0 r : Nat} {key : α → Value} {x y : Operand} {es : List MapEntry} {ck : Nat} {f : α → Bool} {a : α} (hK : KeyOk P kt key) (hx : ev ρ x = some (.map (some r))) (hy : ev ρ y = some (key a))
  (ht : Zt S.ty t = some ⟨8, kt, et, s0, b0⟩) (hz : Zt S.zr et = some (.bool false)) (hb : Has L r (.map ⟨es⟩ ck)) (hF : Zy key es f) : QOp P ⟨d, .lookup t x y false, ty, pos, af, g⟩ ρ L (.bool (f a)) :=
 Ye fun ρe he k w hs => by
  obtain ⟨l, hE, hf⟩ := hF
  have hm := Zjd (S.tyI ht) rfl
  have hzero := Vm (S.zeroI hz) w
  have hh := MapKept.run_getObj_map (P := P) (hs.heap hb)
  have hfind := hK.find w a es l hE
  have hl : (Instr.lookup t (.map (some r)) (key a) false).run P w = .ok (.bool (f a)) w := by
   unfold Instr.lookup
   simp only [Sem.run_bind, run_underlying hm, Result.andThen_ok, hh, Sem.run_pure, hK.chk, hfind]
   rw [hf a]
   cases hfb : Vg a l 0 with
   | none => simp [hzero, (Zb3 hfb).1]
   | some q =>
    obtain ⟨j, v⟩ := q
    obtain ⟨-, b, rfl, -, e⟩ := Qn hfb
    simp [e]
  simp only [execOp, he x (by simp [Op.operands]) _ hx, he y (by simp [Op.operands]) _ hy, Sem.run_bind, hl, Result.andThen_ok, Sem.run_pure]
theorem wMk {d t : Nat} (h : ∀ b, HO P n ops Q rest ((d, .map (some b)) :: ρ) ([(b, .map #[] 0)] :: L)) (h00 : Y9 ρ = true := by exact rfl) (hn : Nat.blt d n = true := by exact rfl) : HO P n ops Q (⟨some d, .makeMap t none, ty, pos, af, none⟩ :: rest) ρ L :=
 Vh rfl rfl hn fun ρe he k w hs => ⟨.map (some w.heap.size), w.alloc (.map #[] 0), _, by simp [execOp, RowKit.run_makeMap], hs.new _, h _⟩
theorem o_mapB {t kt et s0 b0 r ck : Nat} {key : α → Value} {x y z : Operand} {es : List MapEntry} {f : α → Bool} {a : α} {b : Bool} (hK : KeyOk P kt key) (hx : ev ρ x = some (.map (some r))) (hy : ev ρ y = some (key a)) (hzz : ev ρ z = some (.bool b))
  (ht : Zt S.ty t = some ⟨8, kt, et, s0, b0⟩) (hF : Zy key es f) (h : ∀ es' ck', Zy key es' (fun x => if x = a then b else f x) → HO P n ops Q rest ρ ([(r, .map ⟨es'⟩ ck')] :: L)) :
  HO P n ops Q (⟨none, .mapUpdate t x y z, ty, pos, af, none⟩ :: rest) ρ ([(r, .map ⟨es⟩ ck)] :: L) := by
 refine Zou rfl rfl fun ρe he k w hs => ?_
 obtain ⟨l, hE, hf⟩ := hF
 have hm := Zjd (S.tyI ht) rfl
 have hb0 : w.heap[r]? = some (.map ⟨es⟩ ck) := hs.heap Zh
 have hh := MapKept.run_getObj_map (P := P) hb0
 have hfind := hK.find w a es l hE
 have fin : ∀ (es' : List MapEntry) (ck' : Nat), Sat k { w with heap := w.heap.setIfInBounds r (.map ⟨es'⟩ ck') } ([(r, .map ⟨es'⟩ ck')] :: L) := fun es' ck' => by
  have hs2 := MapKept.heap_set (o' := .map ⟨es'⟩ ck') hb0
  exact hs.upd Xo rfl rfl rfl hs2.1 (fun j hj => hs2.2 j hj)
 have e1 := he x (by simp [Op.operands]) _ hx
 have e2 := he y (by simp [Op.operands]) _ hy
 have e3 := he z (by simp [Op.operands]) _ hzz
 cases hfb : Vg a l 0 with
 | none =>
  obtain ⟨h1, h2⟩ := Zb3 hfb
  rw [hfb] at hfind
  refine ⟨_, _, .inl ?_, fin (es ++ [{ key := key a, val := .bool b, born := ck }]) (ck + 1), h _ _ ⟨l ++ [(a, b)], Zq0 hE, fun x => ?_⟩⟩
  ·have hr : (Instr.mapUpdate t (.map (some r)) (key a) (.bool b)).run P w = .ok () { w with heap := w.heap.setIfInBounds r (.map ⟨es ++ [{ key := key a, val := .bool b, born := ck }]⟩ (ck + 1)) } := by
    unfold Instr.mapUpdate
    simp only [Sem.run_bind, run_underlying hm, Result.andThen_ok, hh, hK.chk, hfind, MapKept.run_setObj_map _ hb0]
    simp
   simp [execOp, e1, e2, e3, hr]
  ·show (if x = a then b else f x) = _
   rw [Zfx h2, hf]
 | some q =>
  obtain ⟨j, v⟩ := q
  obtain ⟨-, b', rfl, hj, hb'⟩ := Qn hfb
  rw [hfb] at hfind
  have hlen : es.length = l.length := by have := congrArg List.length hE; simpa using this
  have hjl : j < es.length := by rw [hlen]; exact (List.getElem?_eq_some_iff.1 (by simpa using hj)).1
  have hkey : (es[j]).key = key a := by
   have h9 := congrArg (fun z => z[j]?) hE
   simp only [List.getElem?_map, Nat.sub_zero] at h9 hj
   rw [hj, List.getElem?_eq_getElem hjl] at h9
   simp at h9
   exact h9.1
  refine ⟨_, _, .inl ?_, fin (es.modify j fun e => { e with key := key a, val := .bool b }) ck, h _ _ ⟨l.set j (a, b), ents_set hE hjl, fun x => ?_⟩⟩
  ·have hr : (Instr.mapUpdate t (.map (some r)) (key a) (.bool b)).run P w = .ok () { w with heap := w.heap.setIfInBounds r (.map ⟨es.modify j fun e => { e with key := key a, val := .bool b }⟩ ck) } := by
    unfold Instr.mapUpdate
    have e9 : ((((Array.mk es)[j]?).map (·.key)).getD (key a)) = key a := by simp [hjl, hkey]
    simp only [Sem.run_bind, run_underlying hm, Result.andThen_ok, hh, hK.chk, hfind, e9, hK.stay, MapKept.run_setObj_map _ hb0]
    simp
   simp [execOp, e1, e2, e3, hr]
  ·show (if x = a then b else f x) = _
   rw [Zsd hfb, hf]
theorem Zhr {kt s0 b0 : Nat} (hk : Zt S.ty kt = some ⟨2, 3, 0, s0, b0⟩) : KeyOk (α := Int) P kt iv := by
 have hd : P.underlying kt = some (.int .i64) := Zc2 (S.tyI hk) rfl
 have hI : ∀ a : Int, MapKept.IsKey (.int .i64) (iv a) := fun a => by simp [MapKept.IsKey]
 refine ⟨fun em w a => MapKept.run_checkKey hd (hI a) em 9999, fun w a es l hE => ?_, fun w a => MapKept.run_keyThatStays (hI a)⟩
 refine MapKept.run_findKey hd ?_
 have key : ∀ (es : List MapEntry) (l : List (Int × Bool)) (i : Nat), Zbd iv es l → Instr.findNow (.int .i64) (iv a) es i = some (Vg a l i) := by
  intro es
  induction es with
  | nil =>
   intro l i h
   cases l with
   | nil => rfl
   | cons p r => simp [Zbd] at h
  | cons e es ih =>
   intro l i h
   cases l with
   | nil => simp [Zbd] at h
   | cons p r =>
    obtain ⟨x, b⟩ := p
    simp only [Zbd, List.map_cons, List.cons.injEq, Prod.mk.injEq] at h
    obtain ⟨⟨h1, h2⟩, h3⟩ := h
    simp only [Instr.findNow, h1, Instr.sameNow, if_true, Vg]
    by_cases hax : a = x
    ·subst hax; simp [h2]
    ·have : (a == x) = false := by simp [hax]
     simp [this, hax, ih r (i + 1) h3]
 exact key es l 0 hE
theorem qmI {d : Option Tmp} {g : Option (Nat × Bool)} {t kt et s0 b0 s1 b1 r : Nat} {x y : Operand} {es : List MapEntry} {ck : Nat} {f : Int → Bool} {a : Int} (h00 : Y9 ρ = true := by exact rfl) (hx : ev ρ x = some (.map (some r)) := by exact rfl) (hy : ev ρ y = some (iv a) := by exact rfl)
  (ht : Zt S.ty t = some ⟨8, kt, et, s0, b0⟩ := by exact rfl) (hk : Zt S.ty kt = some ⟨2, 3, 0, s1, b1⟩ := by exact rfl) (hz : Zt S.zr et = some (.bool false) := by exact rfl) (hb : Has L r (.map ⟨es⟩ ck) := by (repeat (first | assumption | exact Zh | exact Yi (by assumption) | apply Xn | apply Zc))) (hF : Zy iv es f := by assumption) :
  QOp P ⟨d, .lookup t x y false, ty, pos, af, g⟩ ρ L (.bool (f a)) := q_mapB S (Zhr S hk) hx hy ht hz hb hF
theorem wmI {t kt et s0 b0 s1 b1 r ck : Nat} {x y z : Operand} {es : List MapEntry} {f : Int → Bool} {a : Int} {b : Bool} (hF : Zy iv es f) (h : ∀ es' ck', Zy iv es' (fun x => if x = a then b else f x) → HO P n ops Q rest ρ ([(r, .map ⟨es'⟩ ck')] :: L)) (h00 : Y9 ρ = true := by exact rfl) (hx : ev ρ x = some (.map (some r)) := by exact rfl) (hy : ev ρ y = some (iv a) := by exact rfl) (hzz : ev ρ z = some (.bool b) := by exact rfl)
  (ht : Zt S.ty t = some ⟨8, kt, et, s0, b0⟩ := by exact rfl) (hk : Zt S.ty kt = some ⟨2, 3, 0, s1, b1⟩ := by exact rfl) :
  HO P n ops Q (⟨none, .mapUpdate t x y z, ty, pos, af, none⟩ :: rest) ρ ([(r, .map ⟨es⟩ ck)] :: L) := o_mapB S (Zhr S hk) hx hy hzz ht hF h
end r
/-! ### a loop of so many rounds; a call within a region that draws its order -/
def Wa (P : Program) (n : Nat) (c : Code) (Q : Exit → Zq → Zb → Prop) : Nat → Exit → Zq → Zb → Prop
 | 0, .normal, ρ, L => False
 | k + 1, .normal, ρ, L => HW P n c (Wa P n c Q k) ρ L
 | _, e, ρ, L => Q e ρ L
theorem unQ_succ {P : Program} {n k : Nat} {c : Code} {Q : Exit → Zq → Zb → Prop} {ρ : Zq} {L : Zb} (h : HW P n c (Wa P n c Q k) ρ L) : Wa P n c Q (k + 1) .normal ρ L := h
theorem unQ_ret {P : Program} {n k : Nat} {c : Code} {Q : Exit → Zq → Zb → Prop} {ρ : Zq} {L : Zb} (h : Q .ret ρ L) : Wa P n c Q k .ret ρ L := by cases k <;> exact h
theorem unQ_exit {P : Program} {n k i : Nat} {c : Code} {Q : Exit → Zq → Zb → Prop} {ρ : Zq} {L : Zb} (h : Q (.exit i) ρ L) : Wa P n c Q k (.exit i) ρ L := by cases k <;> exact h
theorem Zqm {P : Program} {n : Nat} {c : Code} {Q : Exit → Zq → Zb → Prop} {ρ : Zq} {L : Zb} (m : Nat) (h : HW P n c (Wa P n c Q m) ρ L) : HW P n (.loop c) Q ρ L := by
 intro k w a hs ha b kk cs
 have key : ∀ m ρ L, HW P n c (Wa P n c Q m) ρ L → ∀ a w, Sat k w L → Agr n a ρ →
   ∃ e a' w', post k n Q e a' w' ∧ Arrives P (lone (b.at a (.code c :: .inLoop c :: kk)) cs w) b kk cs e a' w' := by
  intro m
  induction m with
  | zero =>
   intro ρ L h a w hs ha
   obtain ⟨e, a₁, w₁, ⟨ρ₁, L₁, ha₁, hs₁, hq⟩, harr⟩ := h k w a hs ha b (.inLoop c :: kk) cs
   cases e with
   | normal => exact hq.elim
   | exit id => exact ⟨_, a₁, w₁, ⟨ρ₁, L₁, ha₁, hs₁, hq⟩, .pass (x := .inLoop c) rfl (fun _ _ => .inl (by simp)) harr⟩
   | goto l => exact ⟨_, a₁, w₁, ⟨ρ₁, L₁, ha₁, hs₁, hq⟩, .pass (x := .inLoop c) rfl (fun _ _ => .inl (by simp)) harr⟩
   | ret => exact ⟨_, a₁, w₁, ⟨ρ₁, L₁, ha₁, hs₁, hq⟩, .pass (x := .inLoop c) rfl (fun _ _ => .inl (by simp)) harr⟩
   | panic ch => exact ⟨_, a₁, w₁, ⟨ρ₁, L₁, ha₁, hs₁, hq⟩, .pass (x := .inLoop c) rfl (fun _ _ => .inl (by simp)) harr⟩
   | outgrown => exact ⟨_, a₁, w₁, ⟨ρ₁, L₁, ha₁, hs₁, hq⟩, .pass (x := .inLoop c) rfl (fun _ _ => .inl (by simp)) harr⟩
  | succ m ih =>
   intro ρ L h a w hs ha
   obtain ⟨e, a₁, w₁, ⟨ρ₁, L₁, ha₁, hs₁, hq⟩, harr⟩ := h k w a hs ha b (.inLoop c :: kk) cs
   cases e with
   | normal =>
    obtain ⟨e₂, a₂, w₂, hq₂, harr₂⟩ := ih ρ₁ L₁ hq a₁ w₁ hs₁ ha₁
    exact ⟨e₂, a₂, w₂, hq₂, .of_steps (Steps.trans harr (.one step_inLoop)) harr₂⟩
   | exit id => exact ⟨_, a₁, w₁, ⟨ρ₁, L₁, ha₁, hs₁, hq⟩, .pass (x := .inLoop c) rfl (fun _ _ => .inl (by simp)) harr⟩
   | goto l => exact ⟨_, a₁, w₁, ⟨ρ₁, L₁, ha₁, hs₁, hq⟩, .pass (x := .inLoop c) rfl (fun _ _ => .inl (by simp)) harr⟩
   | ret => exact ⟨_, a₁, w₁, ⟨ρ₁, L₁, ha₁, hs₁, hq⟩, .pass (x := .inLoop c) rfl (fun _ _ => .inl (by simp)) harr⟩
   | panic ch => exact ⟨_, a₁, w₁, ⟨ρ₁, L₁, ha₁, hs₁, hq⟩, .pass (x := .inLoop c) rfl (fun _ _ => .inl (by simp)) harr⟩
   | outgrown => exact ⟨_, a₁, w₁, ⟨ρ₁, L₁, ha₁, hs₁, hq⟩, .pass (x := .inLoop c) rfl (fun _ _ => .inl (by simp)) harr⟩
 obtain ⟨e, a', w', hq, harr⟩ := key m ρ L h a w hs ha
 exact ⟨e, a', w', hq, .of_steps (.one step_loop) harr⟩
section df
variable {P : Program} {n : Nat} {ops : List Oper} {Q : Exit → Zq → Zb → Prop} {Ss : List (Nat × Zn)} {rem rem' : List (Nat × Oper)} {ρ : Zq} {L : Zb} {ty : TypeId} {pos : String} {af : Array Edge} {g : Option (Nat × Bool)} {d i : Nat}
theorem dcF {f : Operand} {as9 : Array Operand} {ts : Array TypeId} {Fn : Nat} {cap args args' : List Value} {v : Value} (k : Nat) (F : List Zn) (h : ∀ L, (∀ p ∈ F, Has L p.1 p.2) → HC P Fn args' L (fun u L' => u = v ∧ L' = L)) (hF : ∀ p ∈ F, Has L p.1 p.2)
  (hr : HD P n ops Q (F.map (fun p => (i, p)) ++ Ss) rem' ((d, v) :: ρ) L) (h00 : Y9 ρ = true := by exact rfl) (hp : Wc k rem = some ((i, ⟨some d, .call { callee := .value f, args := as9, argTypes := ts }, ty, pos, af, g⟩), rem') := by exact rfl) (hg : Zu ops ρ g = some true := by exact rfl) (hn : Nat.blt d n = true := by exact rfl)
  (hf : ev ρ f = some (.func (.func Fn) #[] ⟨cap⟩) := by exact rfl) (ha : Zg2 ρ as9.toList = some args := by exact rfl) (he : args ++ cap = args' := by exact rfl) (hc : Q8 ops rem' i ⟨some d, .call { callee := .value f, args := as9, argTypes := ts }, ty, pos, af, g⟩ = true := by decide +kernel) : HD P n ops Q Ss rem ρ L :=
 hd_q (F := F) hp hc rfl hn (.inl ⟨hg, fun L hL => q_call hf ha (he ▸ h L hL)⟩) hF hr
end df
theorem hcHas {P : Program} {F : Nat} {args : List Value} {b : Nat} {o : Obj} {V : Value} (h : ∀ L, HC P F args ([(b, o)] :: L) (fun v L' => v = V ∧ L' = [(b, o)] :: L)) {L : Zb} (hb : Has L b o) : HC P F args L (fun v L' => v = V ∧ L' = L) := by
 obtain ⟨l1, l2, e⟩ := List.append_of_mem hb
 have hp : List.Perm L.flatten ([(b, o)] :: [l1 ++ l2]).flatten := by
  rw [e]
  simp only [List.flatten_cons, List.flatten_nil, List.append_nil, List.cons_append, List.nil_append]
  exact List.perm_middle
 have hp2 : ∀ {k : Zgr} {w : World}, Sat k w ([(b, o)] :: [l1 ++ l2]) → Sat k w L := fun hs => hs.sp (LS.of_perm hp)
 exact ⟨(h []).1, fun k w hs => ((h [l1 ++ l2]).2 k w (hs.sp (LS.of_perm hp.symm))).mono fun e w' ⟨v, L', he, hs', hv, hL⟩ => ⟨v, L, he, hp2 (hL ▸ hs'), hv, rfl⟩⟩
theorem hq2 {P : Program} {F : Nat} {args : List Value} {c1 c2 : List Zn} {L L1 L2 : Zb} {V : Value} (h : ∀ L, HC P F args (c1 :: c2 :: L) (fun v L' => v = V ∧ L' = c1 :: c2 :: L)) (k1 k2 : Nat) (hp1 : Q4 k1 L = some (c1, L1) := by exact rfl) (hp2 : Q4 k2 L1 = some (c2, L2) := by exact rfl) : HC P F args L (fun v L' => v = V ∧ L' = L) :=
 have hp : List.Perm L (c1 :: c2 :: L2) := (Xv hp1).trans ((Xv hp2).cons c1)
 ⟨(h L2).1, fun k w hs => ((h L2).2 k w (hs.perm hp)).mono fun e w' ⟨v, L', he, hs', hv, hL⟩ => ⟨v, L, he, (hL ▸ hs').perm hp.symm, hv, rfl⟩⟩
end Go.HL
end

/-! HLDs -/
section
namespace Go.HL
open Go
set_option linter.unusedVariables false
theorem Rd.all {α : Type} {enc : α → List Value} {sz : Nat} {L : Zb} {a : Option Addr} {xs : List α} (h : Rd enc sz L a xs) (h0 : 0 < xs.length) : ∃ b i c E fr, a = some ⟨b, i, none⟩ ∧ Has L b (.cells ⟨c⟩ E fr) ∧ ∀ k (hk : k < xs.length), Gets c (i + ((k : Int)).toNat * sz) (enc xs[k]) := by
 rcases h with h | ⟨b, i, c, E, fr, rfl, hb, hg⟩
 ·rw [h] at h0; simp at h0
 ·exact ⟨b, i, c, E, fr, rfl, hb, fun k hk => by simpa using hg k _ (List.getElem?_eq_getElem hk)⟩
structure Fresh (b : Bool) : Prop where
 any : True
theorem Zow : Fresh true := ⟨trivial⟩
theorem Zpd : Fresh false := ⟨trivial⟩
theorem Zh2 (b : Bool) : Fresh b := ⟨trivial⟩
section d
variable {P : Program} {n : Nat} {ops : List Oper} {Q : Exit → Zq → Zb → Prop} {Ss : List (Nat × Zn)} {rem rem' : List (Nat × Oper)} {ρ : Zq} {L : Zb} {i : Nat}
theorem d_sp {t j : Nat} {q : Oper} {b wt : Bool} (k : Nat) (h1 : b = true → HD P n ops Q Ss rem ((t, .bool true) :: ρ) L) (h0 : b = false → HD P n ops Q Ss rem ((t, .bool false) :: ρ) L) (h00 : Y9 ρ = true := by exact rfl) (hp : Wc k rem = some ((i, q), rem') := by exact rfl) (hq : q.guard = some (j, wt) := by exact rfl) (hj : Uh ops j = some t := by exact rfl) (ht : lk ρ t = some (.bool b) := by exact rfl)
  (hb : Fresh b := by (fail_if_success (with_reducible exact Zow)); (fail_if_success (with_reducible exact Zpd)); exact Zh2 _) : HD P n ops Q Ss rem ρ L := hd_split ht h1 h0
end d
end Go.HL
end

/-! HLPr -/
section
namespace Go.HL
open Go
set_option linter.unusedVariables false
section
variable {P : Program} {n : Nat} {ops : List Oper} {Q : Exit → Zq → Zb → Prop} {rest : List Oper} {ρ : Zq} {L : Zb}
theorem pg_t {c : Operand} {x y : Code} {b : Bool} (h00 : Y9 ρ = true := by exact rfl) (hc : ev ρ c = some (.bool b) := by exact rfl) (hb : b = true := by with_reducible exact rfl) : (HW P n x Q ρ L) → HW P n (.cond c x y) Q ρ L := fun h => g_t h h00 hc hb
end
section
variable {P : Program} {n : Nat} {ops : List Oper} {Q : Exit → Zq → Zb → Prop} {rest : List Oper} {ρ : Zq} {L : Zb}
theorem pg_f {c : Operand} {x y : Code} {b : Bool} (h00 : Y9 ρ = true := by exact rfl) (hc : ev ρ c = some (.bool b) := by exact rfl) (hb : b = false := by with_reducible exact rfl) : (HW P n y Q ρ L) → HW P n (.cond c x y) Q ρ L := fun h => g_f h h00 hc hb
end
section
variable {P : Program} {n : Nat} {ops : List Oper} {Q : Exit → Zq → Zb → Prop} {rest : List Oper} {ρ : Zq} {L : Zb}
theorem pg_bx {id i : Nat} (h00 : Y9 ρ = true := by exact rfl) (hn : Nat.beq i id = false := by exact rfl) : (Q (.exit i) ρ L) → Z8 id Q (.exit i) ρ L := fun h => g_bx h h00 hn
end
section
variable {P : Program} {n : Nat} {ops : List Oper} {Q : Exit → Zq → Zb → Prop} {rest : List Oper} {ρ : Zq} {L : Zb}
variable {op : Op} {ty : TypeId} {pos : String} {af : Array Edge} {g : Option (Nat × Bool)} {d : Nat}
theorem Q9 {v : Value} (h : QOp P ⟨some d, op, ty, pos, af, g⟩ ρ L v) (h00 : Y9 ρ = true := by exact rfl) (hg : Zu ops ρ g = some true := by exact rfl) (hn : Nat.blt d n = true := by exact rfl) : (HO P n ops Q rest ((d, v) :: ρ) L) → HO P n ops Q (⟨some d, op, ty, pos, af, g⟩ :: rest) ρ L := fun hr => Vk h hr h00 hg hn
end
section
variable {P : Program} {n : Nat} {ops : List Oper} {Q : Exit → Zq → Zb → Prop} {rest : List Oper} {ρ : Zq} {L : Zb}
variable {op : Op} {ty : TypeId} {pos : String} {af : Array Edge} {g : Option (Nat × Bool)} {d : Nat}
theorem pg_n (h00 : Y9 ρ = true := by exact rfl) (hg : Zu ops ρ g = some false := by exact rfl) (hn : Nat.blt d n = true := by exact rfl) : (HO P n ops Q rest ((d, undef) :: ρ) L) → HO P n ops Q (⟨some d, op, ty, pos, af, g⟩ :: rest) ρ L := fun hr => g_n hr h00 hg hn
end
section
variable {P : Program} {n : Nat} {ops : List Oper} {Q : Exit → Zq → Zb → Prop} {rest : List Oper} {ρ : Zq} {L : Zb}
variable {op : Op} {ty : TypeId} {pos : String} {af : Array Edge} {g : Option (Nat × Bool)} {d : Nat}
theorem pg_on {d : Option Tmp} {j : Nat} {wt : Bool} (h00 : Y9 ρ = true := by exact rfl) (hg : Zu ops ρ (some (j, wt)) = some true := by exact rfl) : (HO P n ops Q (⟨d, op, ty, pos, af, none⟩ :: rest) ρ L) → HO P n ops Q (⟨d, op, ty, pos, af, some (j, wt)⟩ :: rest) ρ L := fun h => g_on h h00 hg
end
section
variable {P : Program} {n : Nat} {ops : List Oper} {Q : Exit → Zq → Zb → Prop} {rest : List Oper} {ρ : Zq} {L : Zb}
variable {op : Op} {ty : TypeId} {pos : String} {af : Array Edge} {g : Option (Nat × Bool)} {d : Nat}
variable {K : Zq → Prop}
theorem Q7 {v : Value} (h : QOp P ⟨some d, op, ty, pos, af, g⟩ ρ L v) (h00 : Y9 ρ = true := by exact rfl) (hg : Zu ops ρ g = some true := by exact rfl) (hn : Nat.blt d n = true := by exact rfl) : (HQ P n ops K rest ((d, v) :: ρ) L) → HQ P n ops K (⟨some d, op, ty, pos, af, g⟩ :: rest) ρ L := fun hr => Zdf h hr h00 hg hn
end
section
variable {P : Program} {n : Nat} {ops : List Oper} {Q : Exit → Zq → Zb → Prop} {rest : List Oper} {ρ : Zq} {L : Zb}
variable {op : Op} {ty : TypeId} {pos : String} {af : Array Edge} {g : Option (Nat × Bool)} {d : Nat}
variable {K : Zq → Prop}
theorem pk_n (h00 : Y9 ρ = true := by exact rfl) (hg : Zu ops ρ g = some false := by exact rfl) (hn : Nat.blt d n = true := by exact rfl) : (HQ P n ops K rest ((d, undef) :: ρ) L) → HQ P n ops K (⟨some d, op, ty, pos, af, g⟩ :: rest) ρ L := fun hr => k_n hr h00 hg hn
end
section
variable {P : Program} (S : Tab P) {n : Nat} {ops : List Oper} {Q : Exit → Zq → Zb → Prop} {rest : List Oper} {ρ : Zq} {L : Zb} {ty : TypeId} {pos : String} {af : Array Edge}
theorem pwa {d E : Nat} {z : Value} {zs : List Value} (h00 : Y9 ρ = true := by exact rfl) (hz : Zt S.zr E = some z := by exact rfl) (hc : z.cells = ⟨zs⟩ := by exact rfl) (hn : Nat.blt d n = true := by exact rfl) : (∀ b, HO P n ops Q rest ((d, pt b 0) :: ρ) ([(b, .cells ⟨zs⟩ E)] :: L)) → HO P n ops Q (⟨some d, .alloc E, ty, pos, af, none⟩ :: rest) ρ L := fun h => wa S h h00 hz hc hn
end
section
variable {P : Program} (S : Tab P) {n : Nat} {ops : List Oper} {Q : Exit → Zq → Zb → Prop} {rest : List Oper} {ρ : Zq} {L : Zb} {ty : TypeId} {pos : String} {af : Array Edge}
theorem pwb {d E : Nat} {x : Operand} {v : Value} {vs : List Value} (h00 : Y9 ρ = true := by exact rfl) (hx : ev ρ x = some v := by exact rfl) (hc : v.cells = ⟨vs⟩ := by exact rfl) (hn : Nat.blt d n = true := by exact rfl) : (∀ b, HO P n ops Q rest ((d, pt b 0) :: ρ) ([(b, .cells ⟨vs⟩ E)] :: L)) → HO P n ops Q (⟨some d, .box E x, ty, pos, af, none⟩ :: rest) ρ L := fun h => wb h h00 hx hc hn
end
section
variable {P : Program} (S : Tab P) {n : Nat} {ops : List Oper} {Q : Exit → Zq → Zb → Prop} {rest : List Oper} {ρ : Zq} {L : Zb} {ty : TypeId} {pos : String} {af : Array Edge}
theorem pws {t b i E : Nat} {ti : TyI} {x y : Operand} {v : Value} {vs l l' : List Value} {L' : Zb} (h00 : Y9 ρ = true := by exact rfl) (hx : ev ρ x = some (pt b i) := by exact rfl) (hy : ev ρ y = some v := by exact rfl) (ht : Zt S.ty t = some ti := by exact rfl) (hc : v.cells = ⟨vs⟩ := by exact rfl) (hsz : ti.size = vs.length := by exact rfl) (h1 : (vs.all Value.oneCell') = true := by exact rfl) (hu : Upd L b (.cells ⟨l⟩ E (0, 0)) (.cells ⟨l'⟩ E (0, 0)) L' := by (repeat (first | exact Xo | apply Zm1 | apply Zf1))) (hp : Zp l i vs l' := by (first | assumption | exact Zfd rfl | exact Wy | exact Wk Wy | exact Wk (Wk Wy) | (repeat (first | exact Wy | apply Wk)))) : (HO P n ops Q rest ρ L') → HO P n ops Q (⟨none, .store t x y, ty, pos, af, none⟩ :: rest) ρ L := fun h => ws S h h00 hx hy ht hc hsz h1 hu hp
end
section
variable {P : Program} (S : Tab P) {n : Nat} {ops : List Oper} {Q : Exit → Zq → Zb → Prop} {rest : List Oper} {ρ : Zq} {L : Zb} {ty : TypeId} {pos : String} {af : Array Edge}
theorem pwS {d t E y0 s0 b0 k1 x1 y1 by1 len : Nat} {z : Value} {zv : Value} {vals : List Value} {parts : Array (Nat × Operand)} (h00 : Y9 ρ = true := by exact rfl) (ht : Zt S.ty t = some ⟨5, E, y0, s0, b0⟩ := by exact rfl) (he : Zt S.ty E = some ⟨k1, x1, y1, 1, by1⟩ := by exact rfl) (hz : Zt S.zr E = some z := by exact rfl) (hzs : z.cells = ⟨[zv]⟩ := by exact rfl) (hp : Zkz ρ 0 parts.toList = some vals := by exact rfl) (hlen : vals.length = len := by exact rfl) (hsm : Nat.ble len 16777216 = true := by exact rfl) (h1 : (vals.all Value.oneCell') = true := by exact rfl) (hn : Nat.blt d n = true := by exact rfl) : (∀ b, HO P n ops Q rest ((d, sl b 0 len len) :: ρ) ([(b, .cells ⟨vals⟩ E)] :: L)) → HO P n ops Q (⟨some d, .buildSlice t len parts, ty, pos, af, none⟩ :: rest) ρ L := fun h => wS S h h00 ht he hz hzs hp hlen hsm h1 hn
end
section
variable {P : Program} (S : Tab P) {n : Nat} {ops : List Oper} {Q : Exit → Zq → Zb → Prop} {rest : List Oper} {ρ : Zq} {L : Zb} {ty : TypeId} {pos : String} {af : Array Edge}
theorem pwm {d t E y0 s0 b0 k1 x1 y1 by1 : Nat} {z zv : Value} {x y : Operand} {kl kc : IntKind} {l c : Int} (h00 : Y9 ρ = true := by exact rfl) (hx : ev ρ x = some (.int kl l) := by exact rfl) (hy : ev ρ y = some (.int kc c) := by exact rfl) (ht : Zt S.ty t = some ⟨5, E, y0, s0, b0⟩ := by exact rfl) (he : Zt S.ty E = some ⟨k1, x1, y1, 1, by1⟩ := by exact rfl) (hz : Zt S.zr E = some z := by exact rfl) (hzs : z.cells = #[zv] := by exact rfl) (hn : Nat.blt d n = true := by exact rfl) (hc : 0 ≤ l ∧ l ≤ c ∧ (by1 : Int) * c ≤ 281474976710656 ∧ c ≤ 9223372036854775807 := by omega) : (∀ b, HO P n ops Q rest ((d, sl b 0 l.toNat c.toNat) :: ρ) ([(b, .cells ⟨List.replicate c.toNat zv⟩ E)] :: L)) → HO P n ops Q (⟨some d, .makeSlice t x y, ty, pos, af, none⟩ :: rest) ρ L := fun h => wm S h h00 hx hy ht he hz hzs hn hc
end
section
variable {P : Program} (S : Tab P) {n : Nat} {ops : List Oper} {Q : Exit → Zq → Zb → Prop} {Ss : List (Nat × Zn)} {rem rem' : List (Nat × Oper)} {ρ : Zq} {L : Zb} {op : Op} {ty : TypeId} {pos : String} {af : Array Edge} {g : Option (Nat × Bool)} {d i : Nat}
theorem Zdi {v : Value} (k : Nat) (hp : Wc k rem = some ((i, ⟨some d, op, ty, pos, af, g⟩), rem')) (h : ∀ L, QOp P ⟨some d, op, ty, pos, af, g⟩ ρ L v) (h00 : Y9 ρ = true := by exact rfl) (hg : Zu ops ρ g = some true := by exact rfl) (hn : Nat.blt d n = true := by exact rfl) (hc : Q8 ops rem' i ⟨some d, op, ty, pos, af, g⟩ = true := by decide +kernel) : (HD P n ops Q Ss rem' ((d, v) :: ρ) L) → HD P n ops Q Ss rem ρ L := fun hr => Zgt k hp h hr h00 hg hn hc
end
section
variable {P : Program} (S : Tab P) {n : Nat} {ops : List Oper} {Q : Exit → Zq → Zb → Prop} {Ss : List (Nat × Zn)} {rem rem' : List (Nat × Oper)} {ρ : Zq} {L : Zb} {op : Op} {ty : TypeId} {pos : String} {af : Array Edge} {g : Option (Nat × Bool)} {d i : Nat}
theorem pd_n (k : Nat) (h00 : Y9 ρ = true := by exact rfl) (hp : Wc k rem = some ((i, ⟨some d, op, ty, pos, af, g⟩), rem') := by exact rfl) (hg : Zu ops ρ g = some false := by exact rfl) (hn : Nat.blt d n = true := by exact rfl) (hc : Q8 ops rem' i ⟨some d, op, ty, pos, af, g⟩ = true := by decide +kernel) : (HD P n ops Q Ss rem' ((d, undef) :: ρ) L) → HD P n ops Q Ss rem ρ L := fun hr => d_n k hr h00 hp hg hn hc
end
section
variable {P : Program} (S : Tab P) {n : Nat} {ops : List Oper} {Q : Exit → Zq → Zb → Prop} {Ss : List (Nat × Zn)} {rem rem' : List (Nat × Oper)} {ρ : Zq} {L : Zb} {op : Op} {ty : TypeId} {pos : String} {af : Array Edge} {g : Option (Nat × Bool)} {d i : Nat}
theorem pdl {t b a E : Nat} {ti : TyI} {x : Operand} {l : List Value} {fr : Nat × Nat} {v : Value} (k : Nat) (h00 : Y9 ρ = true := by exact rfl) (hp : Wc k rem = some ((i, ⟨some d, .load t x, ty, pos, af, g⟩), rem') := by exact rfl) (hx : ev ρ x = some (pt b a) := by exact rfl) (ht : Zt S.ty t = some ti := by exact rfl) (h6 : Nat.beq ti.kind 6 = false := by exact rfl) (h7 : Nat.beq ti.kind 7 = false := by exact rfl) (hg : Zu ops ρ g = some true := by exact rfl) (hn : Nat.blt d n = true := by exact rfl) (hb : Has L b (.cells ⟨l⟩ E fr) := by (repeat (first | assumption | exact Zh | exact Yi (by assumption) | apply Xn | apply Zc))) (hv : l[a]? = some v := by (first | exact rfl | assumption | exact Gets.at (by assumption) rfl | exact Gets.at0 (by assumption) rfl)) (hc : Q8 ops rem' i ⟨some d, .load t x, ty, pos, af, g⟩ = true := by decide +kernel) : (HD P n ops Q ((i, (b, .cells ⟨l⟩ E fr)) :: Ss) rem' ((d, v) :: ρ) L) → HD P n ops Q Ss rem ρ L := fun hr => dl S k hr h00 hp hx ht h6 h7 hg hn hb hv hc
end
section
variable {P : Program} (S : Tab P) {n : Nat} {ops : List Oper} {Q : Exit → Zq → Zb → Prop} {Ss : List (Nat × Zn)} {rem rem' : List (Nat × Oper)} {ρ : Zq} {L : Zb} {op : Op} {ty : TypeId} {pos : String} {af : Array Edge} {g : Option (Nat × Bool)} {d i : Nat}
theorem pds {t b a E : Nat} {ti : TyI} {x : Operand} {l vs : List Value} {fr : Nat × Nat} (k : Nat) (h00 : Y9 ρ = true := by exact rfl) (hp : Wc k rem = some ((i, ⟨some d, .load t x, ty, pos, af, g⟩), rem') := by exact rfl) (hx : ev ρ x = some (pt b a) := by exact rfl) (ht : Zt S.ty t = some ti := by exact rfl) (h7 : (Nat.beq ti.kind 6 || Nat.beq ti.kind 7) = true := by exact rfl) (hg : Zu ops ρ g = some true := by exact rfl) (hn : Nat.blt d n = true := by exact rfl) (hb : Has L b (.cells ⟨l⟩ E fr) := by (repeat (first | assumption | exact Zh | exact Yi (by assumption) | apply Xn | apply Zc))) (hv : Gets l a vs ∧ ti.size = vs.length := by (first | (refine Zf8 (by assumption) ?_; rfl) | exact ⟨Zd rfl (Zd rfl (Zd rfl Zw)), rfl⟩ | exact ⟨Zd rfl (Zd rfl Zw), rfl⟩ | exact ⟨Zd rfl (Zd rfl (Zd rfl (Zd rfl Zw))), rfl⟩ | exact ⟨Zd rfl (Zd rfl (Zd rfl (Zd rfl (Zd rfl (Zd rfl (Zd rfl (Zd rfl (Zd rfl Zw)))))))), rfl⟩)) (hc : Q8 ops rem' i ⟨some d, .load t x, ty, pos, af, g⟩ = true := by decide +kernel) : (HD P n ops Q ((i, (b, .cells ⟨l⟩ E fr)) :: Ss) rem' ((d, .agg ⟨vs⟩) :: ρ) L) → HD P n ops Q Ss rem ρ L := fun hr => ds S k hr h00 hp hx ht h7 hg hn hb hv hc
end
section
variable {P : Program} (S : Tab P) {n : Nat} {ops : List Oper} {Q : Exit → Zq → Zb → Prop} {Ss : List (Nat × Zn)} {rem rem' : List (Nat × Oper)} {ρ : Zq} {L : Zb} {op : Op} {ty : TypeId} {pos : String} {af : Array Edge} {g : Option (Nat × Bool)} {d i : Nat}
theorem pdxk {i0 : Nat} {p : Zn} {r : List (Nat × Zn)} {K : List (Nat × Zn) → Prop} (hk : Q2 ops i0 i = true := by exact rfl) (hb : Has L p.1 p.2 := by (repeat (first | assumption | exact Zh | exact Yi (by assumption) | apply Xn | apply Zc))) : (Zj ops i L r (fun l => K ((i0, p) :: l))) → Zj ops i L ((i0, p) :: r) K := fun h => dxk h hk hb
end
section
variable {P : Program} (S : Tab P) {n : Nat} {ops : List Oper} {Q : Exit → Zq → Zb → Prop} {Ss : List (Nat × Zn)} {rem rem' : List (Nat × Oper)} {ρ : Zq} {L : Zb} {op : Op} {ty : TypeId} {pos : String} {af : Array Edge} {g : Option (Nat × Bool)} {d i : Nat}
theorem pdxd {i0 : Nat} {p : Zn} {r : List (Nat × Zn)} {K : List (Nat × Zn) → Prop} (hk : Q2 ops i0 i = false := by exact rfl) : (Zj ops i L r K) → Zj ops i L ((i0, p) :: r) K := fun h => dxd h hk
end
section
variable {P : Program} (S : Tab P) {n : Nat} {ops : List Oper} {Q : Exit → Zq → Zb → Prop} {rest : List Oper} {ρ : Zq} {L : Zb} {ty : TypeId} {pos : String} {af : Array Edge}
theorem pwM {d t E y0 s0 b0 k1 x1 y1 sz by1 : Nat} {z : Value} {zs : List Value} {x y : Operand} {kl kc : IntKind} {l c : Int} (h00 : Y9 ρ = true := by exact rfl) (hx : ev ρ x = some (.int kl l) := by exact rfl) (hy : ev ρ y = some (.int kc c) := by exact rfl) (ht : Zt S.ty t = some ⟨5, E, y0, s0, b0⟩ := by exact rfl) (he : Zt S.ty E = some ⟨k1, x1, y1, sz, by1⟩ := by exact rfl) (hz : Zt S.zr E = some z := by exact rfl) (hzs : z.cells = ⟨zs⟩ := by exact rfl) (hzl : Nat.beq zs.length sz = true := by exact rfl) (hn : Nat.blt d n = true := by exact rfl) (hc : 0 ≤ l ∧ l ≤ c ∧ (by1 : Int) * c ≤ 281474976710656 ∧ c ≤ 9223372036854775807 := by omega) : (∀ b, HO P n ops Q rest ((d, sl b 0 l.toNat c.toNat) :: ρ) ([(b, .cells ⟨(List.replicate c.toNat zs).flatten⟩ E)] :: L)) → HO P n ops Q (⟨some d, .makeSlice t x y, ty, pos, af, none⟩ :: rest) ρ L := fun h => wM S h h00 hx hy ht he hz hzs hzl hn hc
end
section
variable {P : Program} (S : Tab P) {n : Nat} {ops : List Oper} {Q : Exit → Zq → Zb → Prop} {rest : List Oper} {ρ : Zq} {L : Zb} {ty : TypeId} {pos : String} {af : Array Edge}
theorem pwSa {d t E y0 s0 b0 k1 x1 y1 sz by1 len : Nat} {z : Value} {zs out : List Value} {vals : List (Nat × Value)} {parts : Array (Nat × Operand)} (h00 : Y9 ρ = true := by exact rfl) (ht : Zt S.ty t = some ⟨5, E, y0, s0, b0⟩ := by exact rfl) (he : Zt S.ty E = some ⟨k1, x1, y1, sz, by1⟩ := by exact rfl) (hz : Zt S.zr E = some z := by exact rfl) (hzs : z.cells = ⟨zs⟩ := by exact rfl) (hzl : Nat.beq zs.length sz = true := by exact rfl) (hp : Wf ρ parts.toList = some vals := by exact rfl) (hf : ((U3 sz 0 vals).bind fun l => nfL l some) = some out := by exact rfl) (hol : Nat.beq out.length (len * sz) = true := by exact rfl) (hsm : Nat.ble (len * sz) 16777216 = true := by exact rfl) (h1 : Nat.ble 1 (len * sz) = true := by exact rfl) (hn : Nat.blt d n = true := by exact rfl) : (∀ b, HO P n ops Q rest ((d, sl b 0 len len) :: ρ) ([(b, .cells ⟨out⟩ E)] :: L)) → HO P n ops Q (⟨some d, .buildSlice t len parts, ty, pos, af, none⟩ :: rest) ρ L := fun h => wSa S h h00 ht he hz hzs hzl hp hf hol hsm h1 hn
end
section
variable {P : Program} (S : Tab P) {n : Nat} {ops : List Oper} {Q : Exit → Zq → Zb → Prop} {rest : List Oper} {ρ : Zq} {L : Zb} {ty : TypeId} {pos : String} {af : Array Edge}
theorem pwSn {d t E y0 s0 b0 k1 x1 y1 sz by1 len : Nat} {z : Value} {zs out : List Value} {vals : List (Nat × Value)} {parts : Array (Nat × Operand)} (h00 : Y9 ρ = true := by exact rfl) (ht : Zt S.ty t = some ⟨5, E, y0, s0, b0⟩ := by exact rfl) (he : Zt S.ty E = some ⟨k1, x1, y1, sz, by1⟩ := by exact rfl) (hz : Zt S.zr E = some z := by exact rfl) (hzs : z.cells = ⟨zs⟩ := by exact rfl) (hzl : Nat.beq zs.length sz = true := by exact rfl) (hp : Wf ρ parts.toList = some vals := by exact rfl) (hf : ((Zar sz (List.replicate len zs).flatten vals).bind fun l => nfL l some) = some out := by exact rfl) (hsm : Nat.ble (len * sz) 16777216 = true := by exact rfl) (h1 : Nat.ble 1 (len * sz) = true := by exact rfl) (hn : Nat.blt d n = true := by exact rfl) : (∀ b, HO P n ops Q rest ((d, sl b 0 len len) :: ρ) ([(b, .cells ⟨out⟩ E)] :: L)) → HO P n ops Q (⟨some d, .buildSlice t len parts, ty, pos, af, none⟩ :: rest) ρ L := fun h => wSn S h h00 ht he hz hzs hzl hp hf hsm h1 hn
end
section
variable {α : Type} [DecidableEq α] {P : Program} (S : Tab P) {n : Nat} {ops : List Oper} {Q : Exit → Zq → Zb → Prop} {rest : List Oper} {ρ : Zq} {L : Zb} {ty : TypeId} {pos : String} {af : Array Edge}
theorem pwMk {d t : Nat} (h00 : Y9 ρ = true := by exact rfl) (hn : Nat.blt d n = true := by exact rfl) : (∀ b, HO P n ops Q rest ((d, .map (some b)) :: ρ) ([(b, .map #[] 0)] :: L)) → HO P n ops Q (⟨some d, .makeMap t none, ty, pos, af, none⟩ :: rest) ρ L := fun h => wMk h h00 hn
end
section
variable {P : Program} {n : Nat} {ops : List Oper} {Q : Exit → Zq → Zb → Prop} {rest : List Oper} {ρ : Zq} {L : Zb}
theorem pg_b {c : Operand} {x y : Code} {b : Bool} (h00 : Y9 ρ = true := by exact rfl) (hc : ev ρ c = some (.bool b) := by exact rfl) : (b = true → HW P n x Q ρ L) → (b = false → HW P n y Q ρ L) → HW P n (.cond c x y) Q ρ L := fun ht hf => g_b ht hf h00 hc
end
section
variable {P : Program} {n : Nat} {ops : List Oper} {Q : Exit → Zq → Zb → Prop} {rest : List Oper} {ρ : Zq} {L : Zb}
variable {op : Op} {ty : TypeId} {pos : String} {af : Array Edge} {g : Option (Nat × Bool)} {d : Nat}
theorem pg_s {d j t : Nat} {wt : Bool} {b : Bool} (h00 : Y9 ρ = true := by exact rfl) (hj : Uh ops j = some t := by exact rfl) (ht : lk ρ t = some (.bool b) := by exact rfl) : (b = true → HO P n ops Q (⟨some d, op, ty, pos, af, some (j, wt)⟩ :: rest) ((t, .bool true) :: ρ) L) → (b = false → HO P n ops Q (⟨some d, op, ty, pos, af, some (j, wt)⟩ :: rest) ((t, .bool false) :: ρ) L) → HO P n ops Q (⟨some d, op, ty, pos, af, some (j, wt)⟩ :: rest) ρ L := fun h1 h0 => g_s h1 h0 h00 hj ht
end
section
variable {P : Program} {n : Nat} {ops : List Oper} {Q : Exit → Zq → Zb → Prop} {rest : List Oper} {ρ : Zq} {L : Zb}
variable {op : Op} {ty : TypeId} {pos : String} {af : Array Edge} {g : Option (Nat × Bool)} {d : Nat}
variable {K : Zq → Prop}
theorem pk_s {d j t : Nat} {wt : Bool} {b : Bool} (h00 : Y9 ρ = true := by exact rfl) (hj : Uh ops j = some t := by exact rfl) (ht : lk ρ t = some (.bool b) := by exact rfl) : (b = true → HQ P n ops K (⟨some d, op, ty, pos, af, some (j, wt)⟩ :: rest) ((t, .bool true) :: ρ) L) → (b = false → HQ P n ops K (⟨some d, op, ty, pos, af, some (j, wt)⟩ :: rest) ((t, .bool false) :: ρ) L) → HQ P n ops K (⟨some d, op, ty, pos, af, some (j, wt)⟩ :: rest) ρ L := fun h1 h0 => k_s h1 h0 h00 hj ht
end
section
variable {P : Program} {n : Nat} {ops : List Oper} {Q : Exit → Zq → Zb → Prop} {Ss : List (Nat × Zn)} {rem rem' : List (Nat × Oper)} {ρ : Zq} {L : Zb} {i : Nat}
theorem pd_sp {t j : Nat} {q : Oper} {b wt : Bool} (k : Nat) (h00 : Y9 ρ = true := by exact rfl) (hp : Wc k rem = some ((i, q), rem') := by exact rfl) (hq : q.guard = some (j, wt) := by exact rfl) (hj : Uh ops j = some t := by exact rfl) (ht : lk ρ t = some (.bool b) := by exact rfl) (hb : Fresh b := by (fail_if_success (with_reducible exact Zow)); (fail_if_success (with_reducible exact Zpd)); exact Zh2 _) : (b = true → HD P n ops Q Ss rem ((t, .bool true) :: ρ) L) → (b = false → HD P n ops Q Ss rem ((t, .bool false) :: ρ) L) → HD P n ops Q Ss rem ρ L := fun h1 h0 => d_sp k h1 h0 h00 hp hq hj ht hb
end
end Go.HL
end

/-! HLTop -/
section
namespace Go.HL
open Go Go.ChangeShapes Go.WideShapes Go.ChangeAt Go.RowKit
set_option linter.unusedVariables false
set_option linter.unusedSimpArgs false

def V3 (w : World) : List Zn := (List.range w.heap.size).map fun i => (i, w.heap.getD i default)
def ctx (w : World) : Zgr := (w.os, w.output, w.tape)
theorem Zlv {w : World} {b : Nat} {o : Obj} (h : w.heap[b]? = some o) : (b, o) ∈ V3 w := by
 obtain ⟨hlt, he⟩ := Array.getElem?_eq_some_iff.1 h
 refine List.mem_map.2 ⟨b, List.mem_range.2 hlt, ?_⟩
 simp [h]
theorem sat_init (w : World) : Sat (ctx w) w [V3 w] := by
 refine ⟨rfl, rfl, rfl, fun p hp => ?_, ?_⟩
 ·simp only [List.flatten_cons, List.flatten_nil, List.append_nil] at hp
  obtain ⟨i, hi, rfl⟩ := List.mem_map.1 hp
  have hlt := List.mem_range.1 hi
  simp [hlt]
 ·simp only [List.flatten_cons, List.flatten_nil, List.append_nil, V3, List.map_map]
  have : ((fun x : Zn => x.1) ∘ fun i => (i, w.heap.getD i default)) = id := rfl
  rw [this, List.map_id]
  exact List.nodup_range
theorem Zi9 {w w' : World} (h : Sat (ctx w) w' [V3 w]) : Below w.heap.size w w' := by
 have hb : ∀ k, k < w.heap.size → w'.heap[k]? = w.heap[k]? := fun k hk => by
  have := h.has (k, w.heap[k]) (by simp only [List.flatten_cons, List.flatten_nil, List.append_nil]; exact Zlv (Array.getElem?_eq_getElem hk))
  rw [this, Array.getElem?_eq_getElem hk]
 refine ⟨h.os, h.tape, h.out, ?_, hb⟩
 cases hz : w.heap.size with
 | zero => omega
 | succ m =>
  have h1 := hb m (by omega)
  have h2 : ∃ o, w'.heap[m]? = some o := ⟨_, h1.trans (Array.getElem?_eq_getElem (by omega))⟩
  obtain ⟨o, h3⟩ := h2
  obtain ⟨h4, _⟩ := Array.getElem?_eq_some_iff.1 h3
  omega
theorem Zqs {P : Program} {f : Nat} {args : List Value} {w : World} (h : HC P f args [V3 w] (fun v L' => v = .bool true ∧ L' = [V3 w])) :
  Calls P f ⟨args⟩ w fun e w' => e = .returned (.bool true) ∧ Below w.heap.size w w' :=
 (h.2 (ctx w) w (sat_init w)).mono fun e w' ⟨v, L', h1, h2, h3, h4⟩ => by subst h3; subst h4; exact ⟨h1, Zi9 h2⟩

theorem Zbq {H : Type} {enc : TypeId × Value → H} {P : Program} (hl : laidOutB P = true) {W W' : World} (hb : Below W.heap.size W W') :
  ∀ (ts : List TypeId) (vs : List Value) (ds : List (DataW H)) (ps : List MemPlace), (∀ t ∈ ts, P.readableRec t = true ∧ t < P.types.size) → DataW.TrodAll enc P W 0 (fun _ => true) true ts vs ds ps →
   (∀ x ∈ ps, x.block < W.heap.size) → DataW.TrodAll enc P W' 0 (fun b => decide (b < W.heap.size)) true ts vs ds ps
 | [], [], [], ps, _, h, _ => h
 | t :: ts, v :: vs, d :: ds, ps, hr, h, hlt => by
  obtain ⟨p, q, h1, h2, rfl⟩ := h
  exact ⟨p, q, Below.trod hl (hr t (by simp)).1 (hr t (by simp)).2 h1 hb (fun x hx => hlt x (by simp [hx])),
   Zbq hl hb ts vs ds q (fun t ht => hr t (by simp [ht])) h2 (fun x hx => hlt x (by simp [hx])), rfl⟩
 | [], _ :: _, _, _, _, h, _ => by simp [DataW.TrodAll] at h
 | [], [], _ :: _, _, _, h, _ => by simp [DataW.TrodAll] at h
 | _ :: _, [], _, _, _, h, _ => by simp [DataW.TrodAll] at h
 | _ :: _, _ :: _, [], _, _, h, _ => by simp [DataW.TrodAll] at h

theorem post_law {H : Type} {enc : TypeId × Value → H} {P : Program} {f : Func} {s : ChangeSpec} {apart fresh handsOn : Bool} {W W' : World} {args : Array Value} {ds gs : List (DataW H)} {before : List MemPlace} {tb : TypeId}
  (hl : laidOutB P = true) (hr : ∀ t ∈ f.params.toList, P.readableRec t = true ∧ t < P.types.size) (hW : DataW.Whole enc P f.params.toList s.vars apart W args.toList ds gs before) (hb : Below W.heap.size W W')
  (hv : s.vars = []) (hfn : s.fn H (ds ++ gs) = { results := [.lit (.bool true)], args := ds }) (hrt : f.resultTypes = #[tb]) (hbool : P.underlying tb = some .bool) :
  s.post enc P f apart fresh handsOn false W args (.bool true) W' := by
 have hlt := hW.lt
 have hW' := hW
 obtain ⟨p, q, hA, hV, rfl, hfz, hnd⟩ := hW
 rw [hv] at hV
 obtain ⟨rfl, rfl⟩ := trodVars_none hV
 refine ⟨ds, [], p ++ [], [], p, [], hW', ?_, ?_, ?_, hb.frame _, fun h => by cases h⟩
 ·rw [hfn, hrt]
  exact trodAll_mk1 (shut_bool hbool _)
 ·rw [hfn]
  exact Zbq hl hb _ _ _ _ hr hA (fun x hx => hlt x (by simp [hx]))
 ·rw [hv, hfn]
  rfl

theorem Zg3 {W : World} {b off i : Nat} {c : Array Value} {E : Nat} {fr : Nat × Nat} (hb : W.heap[b]? = some (.cells c E fr)) : W.cell? (Addr.add ⟨b, off, none⟩ i) = c[off + i]? := by
 unfold Addr.add
 by_cases h0 : i = 0
 ·subst h0; simp [World.cell?, hb]
 ·simp [World.cell?, hb, h0]
theorem U8 {W : World} {b : Nat} {o : Obj} (h : W.heap[b]? = some o) : Has [V3 W] b o := by
 simp only [Has, List.flatten_cons, List.flatten_nil, List.append_nil]
 exact Zlv h
theorem open_rd {H : Type} {enc : TypeId × Value → H} {P : Program} {W : World} {base : Nat} {r : Reach} {spare : Nat → Bool} {held : Bool} {t e : TypeId} {α : Type} {encV : α → List Value} {sz : Nat} {v : Value} {d : DataW H} {ps : List MemPlace}
  (ht : P.underlying t = some (.slice e)) (hsz : P.cellsOf e = sz) (hpos : 0 < sz) (hval : Value.okWide P W r base t v) (hd : DataW.Trod enc P W 0 spare held t v d ps)
  (good : α → Prop) (one : ∀ n cs x, DataW.trod enc P W 0 spare held n e cs = some x → ∃ s, cs = encV s ∧ good s) :
  ∃ a cap, ∃ xs : List α, v = .slice a xs.length cap ∧ Rd encV sz [V3 W] a xs ∧ (∀ x ∈ xs, good x) ∧ xs.length ≤ cap := by
 obtain ⟨a, len, cap, rfl⟩ := okWide_slice ht hval
 obtain ⟨fuel, hf⟩ := hd
 rcases Deep.open_slice ht hf with ⟨h1, -⟩ | ⟨a', len', cap', m, n, D, Pl, h1, -, hl, -, hm, -, hx⟩
 ·simp [Value.cells] at h1
  obtain ⟨rfl, rfl, rfl⟩ := h1
  exact ⟨none, 0, [], rfl, Rd.nil, by simp, by simp⟩
 ·simp [Value.cells] at h1
  obtain ⟨rfl, rfl, rfl⟩ := h1
  have hlm : len ≤ m := by rw [hm]; split <;> omega
  have : ∀ i, i < len → ∃ s, W.cells? 0 (a'.add (i * sz)) sz = some (encV s) ∧ good s := fun i hi => by
   obtain ⟨cs, h1, h2⟩ := hx i (by omega)
   obtain ⟨s, rfl, hg⟩ := one _ _ _ h2
   rw [hsz] at h1
   exact ⟨s, h1, hg⟩
  by_cases h0 : len = 0
  ·subst h0
   exact ⟨some a', cap, [], rfl, Rd.nil, by simp, by simp⟩
  ·have : ∃ V : _root_.Fin len → α, ∀ i, W.cells? 0 (a'.add (i.1 * sz)) sz = some (encV (V i)) ∧ good (V i) := ⟨fun i => (this i.1 i.2).choose, fun i => (this i.1 i.2).choose_spec⟩
   obtain ⟨V, hV⟩ := this
   obtain ⟨-, -, hc⟩ := World.cells?_some (hV ⟨0, by omega⟩).1
   have hlen := (World.cells?_some (hV ⟨0, by omega⟩).1).2.1
   have h00 := hc 0 hpos
   have hs : ∃ x, W.cell? a' = some x := by
    simp [Addr.add] at h00
    exact ⟨_, h00.trans (List.getElem?_eq_getElem (by omega))⟩
   obtain ⟨x, hx0⟩ := hs
   obtain ⟨b, off, spot⟩ := a'
   have hblk : ∃ c E fr, W.heap[b]? = some (.cells c E fr) ∧ spot = none := by
    unfold World.cell? at hx0
    simp only at hx0
    split at hx0
    ·rename_i c E fr he
     refine ⟨c, E, fr, he, ?_⟩
     cases spot with
     | none => rfl
     | some k => simp at hx0
    ·cases hx0
   obtain ⟨c, E, fr, he, rfl⟩ := hblk
   refine ⟨some ⟨b, off, none⟩, cap, List.ofFn V, by simp, .inr ⟨b, off, c.toList, E, fr, rfl, U8 (by simpa using he), fun k x hk => ?_⟩, ?_, by simpa using hl⟩
   ·have hkl : k < len := by
     have := (List.getElem?_eq_some_iff.1 hk).1
     simpa using this
    have hx : V ⟨k, hkl⟩ = x := by
     rw [List.getElem?_ofFn] at hk
     simpa [hkl] using hk
    obtain ⟨-, hl2, hc2⟩ := World.cells?_some (hV ⟨k, hkl⟩).1
    rw [hx] at hl2 hc2
    intro j v hj
    have hjl := (List.getElem?_eq_some_iff.1 hj).1
    have := hc2 j (by omega)
    rw [hj] at this
    rw [← this]
    have e : (Addr.add ⟨b, off, none⟩ (k * sz)) = ⟨b, off + k * sz, none⟩ := by
     unfold Addr.add; split
     ·rename_i h; simp [h]
     ·rfl
    show c.toList[off + k * sz + j]? = _
    simp only [e]
    rw [Zg3 he]
    simp
   ·intro x hx
    obtain ⟨i, rfl⟩ := List.mem_ofFn.1 hx
    exact (hV i).2
end Go.HL
end

/-! Seat -/
section
namespace Go.HL
open Go
set_option linter.unusedVariables false
abbrev Er (T : Nat) (E : Nat → Addr) (cs : List Nat) (L : Zb) : Prop := Errs errTab T E cs L
def ic (x : Int) : List Value := [iv x]
structure St where
 ph : Int
 pr : Int
 att : Int
 deriving DecidableEq
def sc (s : St) : List Value := [iv s.ph, iv s.pr, iv s.att]
structure Fr where
 fr : Int
 to : Int
 dl : Int
 kd : Int
 att : Int
 yes : Bool
 s : St
 deriving DecidableEq
def fc (f : Fr) : List Value := [iv f.fr, iv f.to, iv f.dl, iv f.kd, iv f.att, .bool f.yes, iv f.s.ph, iv f.s.pr, iv f.s.att]
def W3 : St := ⟨0, 0, 0⟩
def Wn : Fr := ⟨0, 0, 0, 0, 0, false, W3⟩
/-! a walk's steps, each found by itself -/
theorem zs : (∀ {a b : Bool}, ((!a) = b) ↔ a = !b) ∧ ((!true) = false) ∧ ((!false) = true) ∧ (∀ {p : Prop} [Decidable p], (decide p = true) = p) ∧ (∀ {p : Prop} {x : Decidable p}, decide p = false ↔ ¬ p) ∧ (∀ {p : Prop} [Decidable p], ¬ ¬ p ↔ p) ∧ (∀ (a b : Bool), ((a && b) = true) = (a = true ∧ b = true)) ∧ (∀ {α : Type} [BEq α] [LawfulBEq α] {a b : α}, (a == b) = true ↔ a = b) ∧
  (∀ (h : Decidable True), @decide True h = true) ∧ (∀ b : Bool, (b && true) = b) ∧ (∀ b : Bool, (true && b) = b) ∧ ((¬ True) = False) ∧ ((¬ False) = True) := ⟨zA, zB, zC, zD, zE, zF, zG, zH, zI, zJ, zK, zL, zM⟩
theorem zx {P : Prop} (f : False := by first | omega | with_reducible contradiction) : P := f.elim
theorem uN {A B : Prop} (h : B) (f : B → A := by first | (show _ → HW _ _ _ _ _ _; first | exact hw_seq | exact Zqq | exact hw_block | exact hw_exit | exact pg_t | exact pg_f | exact hw_skip | exact hw_ret) | (show _ → HO _ _ _ _ _ _ _; first | exact ho_nil | exact Q9 (qe S) | exact Q9 (qg S) | exact Q9 (ql S) | exact Q9 (qs S) | exact Q9 (qt S) | exact Q9 (qc8 S) | exact Q9 (qc32 S) | exact Q9 (qn S) | exact Q9 (qb S) | exact Q9 (qbA S) | exact Q9 (qSl S) | exact Q9 (qSh S) | exact Q9 (qSb S) | exact Q9 (qmI S) | exact Q9 (qA S) | exact Q9 (qB S) | exact Q9 (qx32 S) | exact pg_n | exact pg_on | exact pws S) | (show _ → HQ _ _ _ _ _ _ _; first | exact hq_nil | exact Q7 (qe S) | exact Q7 (qg S) | exact Q7 (ql S) | exact Q7 (qs S) | exact Q7 (qt S) | exact Q7 (qc8 S) | exact Q7 (qc32 S) | exact Q7 (qn S) | exact Q7 (qb S) | exact Q7 (qbA S) | exact Q7 (qSl S) | exact Q7 (qSh S) | exact Q7 (qSb S) | exact Q7 (qmI S) | exact Q7 (qA S) | exact Q7 (qB S) | exact Q7 (qx32 S) | exact pk_n) | (show _ → HD _ _ _ _ _ _ _ _; first | exact hd_nil | exact Zdi 100 (by exact rfl) (fun _ => qe S) | exact Zdi 100 (by exact rfl) (fun _ => qc8 S) | exact Zdi 100 (by exact rfl) (fun _ => qc32 S) | exact Zdi 100 (by exact rfl) (fun _ => qn S) | exact Zdi 100 (by exact rfl) (fun _ => qb S) | exact Zdi 100 (by exact rfl) (fun _ => qbA S) | exact Zdi 100 (by exact rfl) (fun _ => qSl S) | exact Zdi 100 (by exact rfl) (fun _ => qSh S) | exact Zdi 100 (by exact rfl) (fun _ => qSb S) | exact Zdi 100 (by exact rfl) (fun _ => qmI S) | exact Zdi 100 (by exact rfl) (fun _ => qA S) | exact Zdi 100 (by exact rfl) (fun _ => qB S) | exact Zdi 100 (by exact rfl) (fun _ => qx32 S) | exact pdl S 100 | exact pds S 100 | exact pd_n 100) | exact Zl7 | exact seqQ_ret | exact Zq8 | exact Zq3 | exact pg_bx | exact blkQ_ret | exact Zls | exact Zr5 | exact Znj | exact unQ_ret | exact unQ_exit | exact unQ_succ | exact dx | exact dx0 | exact pdxd | exact pdxk) : A := f h
theorem uB {A B : Prop} (h : B) (f : B → A := by first | exact pwa S | exact pwb | exact pwS S | exact pwSa S | exact pwSn S | exact pwMk | exact pwm S | exact pwM S) : A := f h
theorem uP {A B C : Prop} (h : B) (h' : C) (f : B → C → A := by first | exact pg_b | exact pg_s | exact pk_s | exact pd_sp 100) : A := f h h'
theorem uC {X A B : Prop} (c : X) (h : B) (f : X → B → A := by first | exact fun c => Q9 (qC c) | exact fun c => Q7 (qC c)) : A := f c h
theorem uS {a b : Zq} (h : Sub a b := by repeat (first | exact trivial | refine ⟨rfl, ?_⟩)) : Sub a b := h
theorem uL {a b : List Zn} (h : LS a b := by repeat (first | (with_reducible first | refine LS.p0 ?_ | refine LS.p1 ?_ | refine LS.p2 ?_ | refine LS.p3 ?_ | refine LS.p4 ?_ | refine LS.p5 ?_ | refine LS.p6 ?_ | refine LS.p7 ?_ | refine LS.p8 ?_ | refine LS.p9 ?_ | refine LS.p10 ?_ | refine LS.p11 ?_ | refine LS.p12 ?_ | refine LS.e ?_ | exact LS.refl _) | refine LS.p0 ?_ | refine LS.p1 ?_ | refine LS.p2 ?_ | refine LS.p3 ?_ | refine LS.p4 ?_ | refine LS.p5 ?_ | refine LS.p6 ?_ | refine LS.p7 ?_ | refine LS.p8 ?_ | refine LS.p9 ?_ | refine LS.p10 ?_ | refine LS.p11 ?_ | refine LS.p12 ?_ | (with_reducible refine LS.c ?_))) : LS a b := h
theorem uZ {a b : List Zn} (h : LS a b := by repeat (first | exact LS.refl _ | apply LS.k | apply LS.c)) : LS a b := h
section
variable {P : Program} {n : Nat} {ops : List Oper} {Q : Exit → Zq → Zb → Prop} {Ss : List (Nat × Zn)} {rem rem' : List (Nat × Oper)} {ρ : Zq} {L : Zb} {f : Operand} {xa : Array Operand} {ts : Array TypeId} {F d i : Nat} {cap args args' : List Value} {v : Value} {ty : TypeId} {pos : String} {af : Array Edge} {g : Option (Nat × Bool)}
theorem Yx (c : ∀ L, HC P F args' L (fun u L' => u = v ∧ L' = L)) (hr : HD P n ops Q Ss rem' ((d, v) :: ρ) L) (h00 : Y9 ρ = true := by exact rfl) (hp : Wc 0 rem = some ((i, ⟨some d, .call { callee := .value f, args := xa, argTypes := ts }, ty, pos, af, g⟩), rem') := by exact rfl) (hf : ev ρ f = some (.func (.func F) #[] ⟨cap⟩) := by exact rfl) (ha : Zg2 ρ xa.toList = some args := by exact rfl) (he : args ++ cap = args' := by exact rfl)
  (hg : Zu ops ρ g = some true := by exact rfl) (hn : Nat.blt d n = true := by exact rfl) (hc : Q8 ops rem' i ⟨some d, .call { callee := .value f, args := xa, argTypes := ts }, ty, pos, af, g⟩ = true := by decide +kernel) : HD P n ops Q Ss rem ρ L := Zgt 0 hp (fun L => qC (c L) h00 hf ha he) hr h00 hg hn hc
theorem Y0 (c : ∀ L, HC P F args' L (fun u L' => u = v ∧ L' = L)) (hr : HD P n ops Q Ss rem' ((d, v) :: ρ) L) (h00 : Y9 ρ = true := by exact rfl) (hp : Wc 1 rem = some ((i, ⟨some d, .call { callee := .value f, args := xa, argTypes := ts }, ty, pos, af, g⟩), rem') := by exact rfl) (hf : ev ρ f = some (.func (.func F) #[] ⟨cap⟩) := by exact rfl) (ha : Zg2 ρ xa.toList = some args := by exact rfl) (he : args ++ cap = args' := by exact rfl)
  (hg : Zu ops ρ g = some true := by exact rfl) (hn : Nat.blt d n = true := by exact rfl) (hc : Q8 ops rem' i ⟨some d, .call { callee := .value f, args := xa, argTypes := ts }, ty, pos, af, g⟩ = true := by decide +kernel) : HD P n ops Q Ss rem ρ L := Zgt 1 hp (fun L => qC (c L) h00 hf ha he) hr h00 hg hn hc
theorem Yz (c : ∀ L, HC P F args' L (fun u L' => u = v ∧ L' = L)) (hr : HD P n ops Q Ss rem' ((d, v) :: ρ) L) (h00 : Y9 ρ = true := by exact rfl) (hp : Wc 2 rem = some ((i, ⟨some d, .call { callee := .value f, args := xa, argTypes := ts }, ty, pos, af, g⟩), rem') := by exact rfl) (hf : ev ρ f = some (.func (.func F) #[] ⟨cap⟩) := by exact rfl) (ha : Zg2 ρ xa.toList = some args := by exact rfl) (he : args ++ cap = args' := by exact rfl)
  (hg : Zu ops ρ g = some true := by exact rfl) (hn : Nat.blt d n = true := by exact rfl) (hc : Q8 ops rem' i ⟨some d, .call { callee := .value f, args := xa, argTypes := ts }, ty, pos, af, g⟩ = true := by decide +kernel) : HD P n ops Q Ss rem ρ L := Zgt 2 hp (fun L => qC (c L) h00 hf ha he) hr h00 hg hn hc
theorem Yy (c : ∀ L, HC P F args' L (fun u L' => u = v ∧ L' = L)) (hr : HD P n ops Q Ss rem' ((d, v) :: ρ) L) (h00 : Y9 ρ = true := by exact rfl) (hp : Wc 3 rem = some ((i, ⟨some d, .call { callee := .value f, args := xa, argTypes := ts }, ty, pos, af, g⟩), rem') := by exact rfl) (hf : ev ρ f = some (.func (.func F) #[] ⟨cap⟩) := by exact rfl) (ha : Zg2 ρ xa.toList = some args := by exact rfl) (he : args ++ cap = args' := by exact rfl)
  (hg : Zu ops ρ g = some true := by exact rfl) (hn : Nat.blt d n = true := by exact rfl) (hc : Q8 ops rem' i ⟨some d, .call { callee := .value f, args := xa, argTypes := ts }, ty, pos, af, g⟩ = true := by decide +kernel) : HD P n ops Q Ss rem ρ L := Zgt 3 hp (fun L => qC (c L) h00 hf ha he) hr h00 hg hn hc
end
end Go.HL
end

/-! LayA -/
section
namespace Go.HL
open Go Go.Proofs Go.ChangeShapes Go.WideShapes Go.ChangeAt Go.RowKit
set_option linter.unusedVariables false
theorem Zhf {P : Program} {W : World} {n : String} {g : Nat} {v : Value} (hg : P.globalNamed n = some g) (h : W.var? P n = some #[v]) : Gl [V3 W] g v := by
 unfold World.var? at h
 simp only [hg, Option.bind_some] at h
 split at h
 ·rename_i c E fr hh
  cases h
  exact ⟨[v], E, fr, U8 hh, rfl⟩
 ·cases h
theorem Zpa : "*" ++ "errors.errorString" = "*errors.errorString" := by decide
theorem row_es (u : TypeId) (h : Tryz.prog.typeName? 3 u = some "*errors.errorString") : u = 259 :=
 typeName_ptr_named (nm := "errors.errorString") (by rw [Zpa]; kernel_rfl) (by kernel_rfl) (by decide) u (by rw [Zpa]; exact h)
def Zjh : Nat → String
 | 1 => "threefold/api.ErrText"
 | 2 => "threefold/api.ErrBound"
 | 3 => "threefold/api.ErrShape"
 | 4 => "threefold/api.ErrNone"
 | 5 => "threefold/api.ErrFull"
 | 6 => "threefold/api.ErrOff"
 | 7 => "threefold/api.ErrSum"
 | 8 => "threefold/api.ErrHeld"
 | _ => "threefold/api.ErrSplit"
def Zck : List UInt8 := [116, 104, 114, 101, 101, 102, 111, 108, 100, 58, 32]
def Xu : Nat → List UInt8
 | 1 => Zck ++ [116, 101, 120, 116]
 | 2 => Zck ++ [98, 111, 117, 110, 100]
 | 3 => Zck ++ [115, 104, 97, 112, 101]
 | 4 => Zck ++ [110, 111, 110, 101]
 | 5 => Zck ++ [102, 117, 108, 108]
 | 6 => Zck ++ [111, 102, 102]
 | 7 => Zck ++ [115, 117, 109]
 | 8 => Zck ++ [104, 101, 108, 100]
 | _ => Zck ++ [115, 112, 108, 105, 116]
def Zdz (cs : List Nat) : List (String × DataW Unit) := cs.map fun c => (Zjh c, .iface "*errors.errorString" (.ptr (.agg [.lit (.string (Xu c))])))
theorem Zmt {P : Program} {n nm : String} {text : List UInt8} {r : List (String × DataW Unit)} {W : World} {g : Nat} {ti tp te ts : TypeId} {ms : Array (String × TypeId)} {f : Field}
  (h : laidMet P ((n, .iface nm (.ptr (.agg [.lit (.string text)]))) :: r) W)
  (hg : P.globalNamed n = some g) (ht : (P.globals[g]?).map (·.type) = some ti) (hi : P.underlying ti = some (.interface ms)) (hrow : ∀ u, P.typeName? 3 u = some nm → u = tp)
  (hp : P.underlying tp = some (.pointer te)) (he : P.underlying te = some (.struct #[f])) (hft : f.type = ts) (hfo : f.offset = 0) (hs : P.underlying ts = some .string) (hc : P.cellsOf te = 1) (hcs : P.cellsOf ts = 1) :
  ∃ (a : Addr) (c : Array Value) (t : TypeId), Gl [V3 W] g (.iface tp (.pointer (some a))) ∧ W.cell? a = some (bs text) ∧ Has [V3 W] a.block (.cells c t (0, 0)) := by
 obtain ⟨ps, ⟨g0, t0, cs0, f0, p0, q0, hg0, ht0, hv0, hd0, _, e0⟩, _, hrows⟩ := h
 obtain rfl := Option.some.inj (hg.symm.trans hg0)
 obtain rfl := Option.some.inj (ht.symm.trans ht0)
 subst e0
 obtain ⟨l0⟩ := cs0
 have ok0 : ∀ u v, l0 = [.iface u v] → Value.okWide P W .any 0 u v := fun u v e => by
  subst e
  exact (hrows g 0 (by simp [MemPlace.row])).2 u v (by simpa using World.var?_cell hg0 hv0 0)
 obtain ⟨a0, s0, rfl, hc0, hs0, hz0, rfl⟩ := errorString_of_trod hi hrow hp he hft hfo hs hc hcs hd0 ok0
 obtain ⟨c0, t0, hb0⟩ := (hrows a0.block a0.off (by simp [MemPlace.row])).1
 refine ⟨a0, c0, t0, Zhf hg hv0, ?_, U8 hb0⟩
 rw [hc0]
 obtain ⟨⟨s0⟩⟩ := s0
 simp only at hs0
 subst hs0
 rfl
theorem Ze4 {n : String} {text : List UInt8} {r : List (String × DataW Unit)} {W : World} {g : Nat}
  (h : laidMet Tryz.prog ((n, .iface "*errors.errorString" (.ptr (.agg [.lit (.string text)]))) :: r) W) (hg : Tryz.prog.globalNamed n = some g) (ht : (Tryz.prog.globals[g]?).map (·.type) = some 25) :
  ∃ (a : Addr) (c : Array Value) (t : TypeId), Gl [V3 W] g (.iface 259 (.pointer (some a))) ∧ W.cell? a = some (bs text) ∧ Has [V3 W] a.block (.cells c t (0, 0)) :=
 Zmt h hg ht Tryz.underlying25 row_es Tryz.underlying259 Tryz.underlying261 rfl rfl Tryz.underlying9 (by kernel_rfl) (by kernel_rfl)
def Zon (W : World) (c : Nat) (a : Addr) : Prop := (∀ g, Tryz.prog.globalNamed (Zjh c) = some g → Gl [V3 W] g (.iface 259 (.pointer (some a)))) ∧ W.cell? a = some (bs (Xu c)) ∧ ∃ l t, Has [V3 W] a.block (.cells l t (0, 0))
theorem sents {W : World} : ∀ (cs : List Nat), laidMet Tryz.prog (Zdz cs) W → (∀ c ∈ cs, ∃ g, Tryz.prog.globalNamed (Zjh c) = some g ∧ (Tryz.prog.globals[g]?).map (·.type) = some 25) → ∀ c ∈ cs, ∃ a, Zon W c a
 | [], _, _, c, hc => by cases hc
 | x :: cs, h, hn, c, hc => by
  rcases List.mem_cons.1 hc with rfl | hc
  ·obtain ⟨g, hg, ht⟩ := hn c (by simp)
   obtain ⟨a, l, t, h1, h2, h3⟩ := Ze4 h hg ht
   refine ⟨a, fun g' hg' => ?_, h2, l, t, h3⟩
   obtain rfl := Option.some.inj (hg.symm.trans hg')
   exact h1
  ·exact sents cs h.tail (fun y hy => hn y (by simp [hy])) c hc
theorem Zh3 : (errTab.all fun p => decide (Tryz.prog.globalNamed (Zjh p.2) = some p.1) && decide ((Tryz.prog.globals[p.1]?).map (·.type) = some 25)) = true := by kernel_rfl
theorem errs_of {W : World} {cs : List Nat} (h : laidMet Tryz.prog (Zdz cs) W) (hm : (cs.all fun c => errTab.any fun p => Nat.beq p.2 c) = true := by rfl) :
  ∃ E, Er 259 E cs [V3 W] ∧ ∀ c ∈ cs, Zon W c (E c) := by
 have h1 := sents cs h (fun c hc => by
  obtain ⟨p, hp, he⟩ := List.any_eq_true.1 (List.all_eq_true.1 hm c hc)
  have h2 := List.all_eq_true.1 Zh3 p hp
  simp only [Bool.and_eq_true, decide_eq_true_eq] at h2
  rw [Nat.eq_of_beq_eq_true he] at h2
  exact ⟨p.1, h2.1, h2.2⟩)
 have h2 : ∀ c, ∃ a, c ∈ cs → Zon W c a := fun c => by
  by_cases hc : c ∈ cs
  ·obtain ⟨a, ha⟩ := h1 c hc
   exact ⟨a, fun _ => ha⟩
  ·exact ⟨⟨0, 0, none⟩, fun h => absurd h hc⟩
 refine ⟨fun c => Classical.choose (h2 c), fun g c hg hc => ?_, fun c hc => Classical.choose_spec (h2 c) hc⟩
 have hcm : c ∈ cs := List.elem_iff.1 hc
 have h3 := Classical.choose_spec (h2 c) hcm
 have h4 := List.all_eq_true.1 Zh3 (g, c) (Q0 hg)
 simp only [Bool.and_eq_true, decide_eq_true_eq] at h4
 exact h3.1 g h4.1
end Go.HL
end

/-! ErA -/
section
namespace Go.HL
open Go Go.Proofs Go.RowKit Go.Extern.Stop Go.Stop Go.Extern
set_option linter.unusedVariables false
set_option linter.unusedSimpArgs false

def cmpE : Array Value → Sem Value := ReflectliteType.method fun t => do Rtype.noPackHeld "Comparable" t; pure (.bool (← typeInfo t).comparable)
theorem Za3 (v : Value) (w : World) : (Extern.ReflectliteType.typeOf #[.iface 259 v]).run Tryz.prog w = .ok (.iface 171 (.agg #[.pointer (some ⟨23, 259, none⟩)])) w := by kernel_rfl
theorem Zbo (w : World) : (cmpE #[.agg #[.pointer (some ⟨23, 259, none⟩)]]).run Tryz.prog w = .ok (.bool true) w := by kernel_rfl
theorem Zag (v : Value) (w : World) : (Go.method 401 171 v "Comparable").run Tryz.prog w = .ok (220, v) w := by kernel_rfl
theorem Zo6 : (Tryz.prog.info? 259).map (·.comparable) = some true := by kernel_rfl
theorem Zpp : (Tryz.prog.info? 261).map (·.size) = some 1 := by kernel_rfl
theorem is_noIsE (v : Value) (xT : TypeId) (w : World) : (Instr.typeAssert (.iface 259 v) xT 182 true).run Tryz.prog w = .ok (.tuple #[.nilIface, .bool false]) w := run_typeAssert_lacksB Tryz.underlying182 (by kernel_rfl) (by kernel_rfl) v xT w
theorem Qm (v : Value) (xT : TypeId) (w : World) : (Instr.typeAssert (.iface 259 v) xT 178 true).run Tryz.prog w = .ok (.tuple #[.nilIface, .bool false]) w := run_typeAssert_lacksB Tryz.underlying178 (by kernel_rfl) (by kernel_rfl) v xT w
theorem Uw (v : Value) (xT : TypeId) (w : World) : (Instr.typeAssert (.iface 259 v) xT 180 true).run Tryz.prog w = .ok (.tuple #[.nilIface, .bool false]) w := run_typeAssert_lacksB Tryz.underlying180 (by kernel_rfl) (by kernel_rfl) v xT w
theorem is_same (a : Addr) (w : World) :
  Calls Tryz.prog 21 #[.iface 259 (.pointer (some a)), .iface 259 (.pointer (some a))] w fun e w' => e = .returned (.bool true) ∧ w' = w := by
 obtain ⟨i, hi, hcmp⟩ := Option.map_eq_some_iff.1 Zo6
 obtain ⟨j, hj, hjs⟩ := Option.map_eq_some_iff.1 Zpp
 have h8 := @run_callFunc_extern Tryz.prog 77 _ Extern.ReflectliteType.typeOf Tryz.func77 (by kernel_rfl) (by kernel_rfl) (by kernel_rfl) (by kernel_rfl)
 have h32 := @run_callFunc_extern Tryz.prog 220 _ cmpE Tryz.func220 (by kernel_rfl) (by kernel_rfl) (by kernel_rfl) (by kernel_rfl)
 have tT := Za3
 have cT := Zbo
 have mR := Zag
 have heq := run_eql_iface_ptr_same (P := Tryz.prog) w a Tryz.underlying25 Tryz.underlying259 hi hcmp hj
 go_enter Tryz.func21, Tryz.ntmps21
 go_wp2
 refine wp_loop_rounds 1 ?_
 rw [rounds_succ]
 go_wp2
 go_ret
 exact ⟨rfl, rfl⟩
theorem is_other (a b : Addr) (ca cb : Array Value) (ta tb : TypeId) (w : World) (hne : a ≠ b) (ha : w.heap[a.block]? = some (.cells ca ta (0, 0))) (hb : w.heap[b.block]? = some (.cells cb tb (0, 0))) :
  Calls Tryz.prog 21 #[.iface 259 (.pointer (some a)), .iface 259 (.pointer (some b))] w fun e w' => e = .returned (.bool false) ∧ w' = w := by
 obtain ⟨i, hi, hcmp⟩ := Option.map_eq_some_iff.1 Zo6
 obtain ⟨j, hj, hjs⟩ := Option.map_eq_some_iff.1 Zpp
 have h8 := @run_callFunc_extern Tryz.prog 77 _ Extern.ReflectliteType.typeOf Tryz.func77 (by kernel_rfl) (by kernel_rfl) (by kernel_rfl) (by kernel_rfl)
 have h32 := @run_callFunc_extern Tryz.prog 220 _ cmpE Tryz.func220 (by kernel_rfl) (by kernel_rfl) (by kernel_rfl) (by kernel_rfl)
 have tT := Za3
 have cT := Zbo
 have mR := Zag
 have nE := is_noIsE
 have uE := Qm
 have vE := Uw
 have heq := run_eql_iface_ptr_other (P := Tryz.prog) w Tryz.underlying25 Tryz.underlying259 hi hcmp hj (by rw [hjs]; decide) hne ha hb
 go_enter Tryz.func21, Tryz.ntmps21
 go_wp2
 refine wp_loop_rounds 1 ?_
 rw [rounds_succ]
 go_wp2
 go_ret
 exact ⟨rfl, rfl⟩
end Go.HL
end

/-! ErB -/
section
namespace Go.HL
open Go Go.Proofs Go.RowKit Go.Extern.Stop Go.Stop Go.Extern
set_option linter.unusedVariables false
set_option linter.unusedSimpArgs false

def valE : Array Value → Sem Value := fun args => ReflectliteValue.unpack (args.getD 0 (.tuple #[]))
def typE : Array Value → Sem Value := ReflectliteValue.methodAny (ReflectliteValue.valueError "reflectlite.Value.Type" 0) fun t _ _ _ => ReflectliteType.toType t
def rnlE : Array Value → Sem Value := ReflectliteValue.method (ReflectliteValue.valueError "reflectlite.Value.IsNil" 0) ReflectliteValue.isNil
def elmE : Array Value → Sem Value := ReflectliteValue.method (ReflectliteValue.valueError "reflectlite.Value.Elem" 0) ReflectliteValue.elem
def setE : Array Value → Sem Value := ReflectliteValue.set
def kndE : Array Value → Sem Value := ReflectliteType.abiMethod fun t => do pure (.int .u8 (← Rtype.kind t))
def telE : Array Value → Sem Value := ReflectliteType.method ReflectliteType.elem
def impE : Array Value → Sem Value := ReflectliteType.relation "Implements" ReflectliteType.implements_
def asgE : Array Value → Sem Value := ReflectliteType.relation "AssignableTo" ReflectliteType.assignableTo
def hT (t : Nat) : Value := .pointer (some ⟨23, t, none⟩)
theorem as_vF (t : Addr) (w : World) : (valE #[.iface 60 (.pointer (some t))]).run Tryz.prog w = .ok (.agg #[.pointer (some ⟨23, 60, none⟩), .pointer (some ⟨w.heap.size, 0, none⟩), .int .u64 150]) (w.alloc (.cells #[.pointer (some t)] 60)) := by kernel_rfl
theorem as_tF (a : Addr) (w : World) : (typE #[.agg #[.pointer (some ⟨23, 60, none⟩), .pointer (some a), .int .u64 150]]).run Tryz.prog w = .ok (.iface 171 (.agg #[.pointer (some ⟨23, 60, none⟩)])) w := by kernel_rfl
theorem Zkk (h : Value) (w : World) : (Go.method 401 171 (.agg #[h]) "Kind").run Tryz.prog w = .ok (209, h) w := by kernel_rfl
theorem as_kFF (w : World) : (kndE #[.pointer (some ⟨23, 60, none⟩)]).run Tryz.prog w = .ok (.int .u8 22) w := by kernel_rfl
theorem as_kF (w : World) : (kndE #[.pointer (some ⟨23, 58, none⟩)]).run Tryz.prog w = .ok (.int .u8 22) w := by kernel_rfl
theorem rlm (z : Sem Value) (f : TypeId → Addr → Nat → Nat → Sem Value) (v : Value) :
  ReflectliteValue.method z f #[v] = (do match ← ReflectliteValue.parts v with | none => z | some (t, a, fl) => f t a fl (fl % 32)) := rfl
theorem as_pFF (a : Addr) (w : World) : (ReflectliteValue.parts (.agg #[.pointer (some ⟨23, 60, none⟩), .pointer (some a), .int .u64 150])).run Tryz.prog w = .ok (some (60, a, 150)) w := by kernel_rfl
theorem Zld (a p : Addr) (W : World) (ha : W.cell? a = some (.pointer (some p))) :
  (rnlE #[.agg #[.pointer (some ⟨23, 60, none⟩), .pointer (some a), .int .u64 150]]).run Tryz.prog W = .ok (.bool false) W := by
 unfold rnlE
 rw [rlm]
 simp only [Sem.run_bind, as_pFF, Result.andThen]
 simp [ReflectliteValue.isNil, loadVar, isAgg, underlying, Tryz.underlying60, ha, Result.andThen]
theorem Zlf (h : Value) (w : World) : (Go.method 401 171 (.agg #[h]) "Elem").run Tryz.prog w = .ok (221, .agg #[h]) w := by kernel_rfl
theorem Zl8 (h : Value) (w : World) : (Go.method 401 171 (.agg #[h]) "Implements").run Tryz.prog w = .ok (222, .agg #[h]) w := by kernel_rfl
theorem Zmh (h : Value) (w : World) : (Go.method 401 171 (.agg #[h]) "AssignableTo").run Tryz.prog w = .ok (219, .agg #[h]) w := by kernel_rfl
theorem Zoy (w : World) : (telE #[.agg #[.pointer (some ⟨23, 60, none⟩)]]).run Tryz.prog w = .ok (.iface 171 (.agg #[.pointer (some ⟨23, 58, none⟩)])) w := by kernel_rfl
theorem Zpl (w : World) : (impE #[.agg #[.pointer (some ⟨23, 58, none⟩)], .iface 171 (.agg #[.pointer (some ⟨23, 25, none⟩)])]).run Tryz.prog w = .ok (.bool true) w := by kernel_rfl
theorem Zl3 (v : Value) (w : World) : (ReflectliteType.typeOf #[.iface 58 v]).run Tryz.prog w = .ok (.iface 171 (.agg #[.pointer (some ⟨23, 58, none⟩)])) w := by kernel_rfl
theorem Zki (w : World) : (asgE #[.agg #[.pointer (some ⟨23, 58, none⟩)], .iface 171 (.agg #[.pointer (some ⟨23, 58, none⟩)])]).run Tryz.prog w = .ok (.bool true) w := by kernel_rfl
theorem Zlp (w : World) : (asgE #[.agg #[.pointer (some ⟨23, 259, none⟩)], .iface 171 (.agg #[.pointer (some ⟨23, 58, none⟩)])]).run Tryz.prog w = .ok (.bool false) w := by kernel_rfl
theorem Zpt (e : Addr) (w : World) : (valE #[.iface 58 (.pointer (some e))]).run Tryz.prog w
  = .ok (.agg #[.pointer (some ⟨23, 58, none⟩), .pointer (some ⟨w.heap.size, 0, none⟩), .int .u64 150]) (w.alloc (.cells #[.pointer (some e)] 58)) := by kernel_rfl
theorem Zrn (w : World) : (Rtype.elem? 60).run Tryz.prog w = .ok (some 58) w := by kernel_rfl
theorem as_mk (p : Addr) (w : World) : (ReflectliteValue.mk 58 p ReflectliteValue.flagAddr).run Tryz.prog w = .ok (.agg #[.pointer (some ⟨23, 58, none⟩), .pointer (some p), .int .u64 406]) w := by kernel_rfl
theorem as_elemV (a p : Addr) (W : World) (ha : W.cell? a = some (.pointer (some p))) :
  (elmE #[.agg #[.pointer (some ⟨23, 60, none⟩), .pointer (some a), .int .u64 150]]).run Tryz.prog W = .ok (.agg #[.pointer (some ⟨23, 58, none⟩), .pointer (some p), .int .u64 406]) W := by
 unfold elmE
 rw [rlm]
 simp only [Sem.run_bind, as_pFF, Result.andThen]
 simp [ReflectliteValue.elem, loadVar, isAgg, underlying, Tryz.underlying60, ha, Result.andThen, Zrn, as_mk]
theorem rls (v x : Value) : ReflectliteValue.set #[v, x] = (do
  let (some (dst, a, fl), some (src, b, _)) := (← ReflectliteValue.parts v, ← ReflectliteValue.parts x)
   | unsupported (.noEntry "extern/(internal/reflectlite.Value).Set.zeroValue")
  if fl / ReflectliteValue.flagAddr % 2 == 0 then unsupported (.noEntry "extern/(internal/reflectlite.Value).Set.unaddressable")
  let val ← loadVar src b
  if ← Rtype.directlyAssignable dst src then storeVar dst a val
  else if ← Rtype.implements dst src then
   if (← Rtype.kind src) == 20 then
    match val with
    | .nilIface => unsupported (.noEntry "extern/reflectlite: a nil value of one interface type handed on as a value of another")
    | _ => storeVar dst a val
   else storeVar dst a (.iface src val)
  else panicString ("reflectlite.Set: value of type " ++ (← Rtype.spelt src) ++ " is not assignable to type " ++ (← Rtype.spelt dst))
  pure (.tuple #[])) := rfl
theorem as_pFa (a : Addr) (w : World) : (ReflectliteValue.parts (.agg #[.pointer (some ⟨23, 58, none⟩), .pointer (some a), .int .u64 406])).run Tryz.prog w = .ok (some (58, a, 406)) w := by kernel_rfl
theorem as_pF (a : Addr) (w : World) : (ReflectliteValue.parts (.agg #[.pointer (some ⟨23, 58, none⟩), .pointer (some a), .int .u64 150])).run Tryz.prog w = .ok (some (58, a, 150)) w := by kernel_rfl
theorem Zrc (w : World) : (Rtype.directlyAssignable 58 58).run Tryz.prog w = .ok true w := by kernel_rfl
theorem as_set (ta b e : Addr) (old : Value) (W : World) (hb : W.cell? b = some (.pointer (some e))) (ht : W.cell? ta = some old) (hf : W.frozen? ta = false) :
  (setE #[.agg #[.pointer (some ⟨23, 58, none⟩), .pointer (some ta), .int .u64 406], .agg #[.pointer (some ⟨23, 58, none⟩), .pointer (some b), .int .u64 150]]).run Tryz.prog W
   = .ok (.tuple #[]) (W.setCell ta (.pointer (some e))) := by
 unfold setE
 rw [rls]
 simp only [Sem.run_bind, as_pFa, as_pF, Result.andThen]
 simp [ReflectliteValue.flagAddr, loadVar, isAgg, underlying, Tryz.underlying58, hb, Result.andThen, Zrc, storeVar, Value.cells, storeCells, Addr.add]
 rw [run_store Tryz.prog W ta _ _ (by rfl)]
 simp [ht, hf]
theorem Zke (v : Value) (xT : TypeId) (w : World) : (Instr.typeAssert (.iface 259 v) xT 175 true).run Tryz.prog w = .ok (.tuple #[.nilIface, .bool false]) w := run_typeAssert_lacksB Tryz.underlying175 (by kernel_rfl) (by kernel_rfl) v xT w
abbrev Zmr (w : World) (t : Addr) : World := (w.alloc (.cells #[.pointer (some t)] 60)).alloc (.cells #[.pointer (some ⟨23, 60, none⟩), .pointer (some ⟨w.heap.size, 0, none⟩), .int .u64 150] 120)

set_option maxHeartbeats 4000000 in
theorem as_hit (e t : Addr) (old : Value) (w : World) (hg : w.cell? ⟨9, 0, none⟩ = some (.iface 171 (.agg #[.pointer (some ⟨23, 25, none⟩)]))) (ht0 : w.cell? t = some old) (hf0 : w.frozen? t = false) :
  Calls Tryz.prog 20 #[.iface 58 (.pointer (some e)), .iface 60 (.pointer (some t))] w fun ev w' => ev = .returned (.bool true) ∧ w' = (((Zmr w t).alloc (.cells #[.pointer (some ⟨23, 60, none⟩), .pointer (some ⟨w.heap.size, 0, none⟩), .int .u64 150] 120)).alloc (.cells #[.pointer (some e)] 58)).setCell t (.pointer (some e)) := by
 have x0 := @run_callFunc_extern Tryz.prog 73 _ valE Tryz.func73 (by kernel_rfl) (by kernel_rfl) (by kernel_rfl) (by kernel_rfl)
 have x1 := @run_callFunc_extern Tryz.prog 74 _ typE Tryz.func74 (by kernel_rfl) (by kernel_rfl) (by kernel_rfl) (by kernel_rfl)
 have x2 := @run_callFunc_extern Tryz.prog 75 _ rnlE Tryz.func75 (by kernel_rfl) (by kernel_rfl) (by kernel_rfl) (by kernel_rfl)
 have x3 := @run_callFunc_extern Tryz.prog 209 _ kndE Tryz.func209 (by kernel_rfl) (by kernel_rfl) (by kernel_rfl) (by kernel_rfl)
 have x4 := @run_callFunc_extern Tryz.prog 221 _ telE Tryz.func221 (by kernel_rfl) (by kernel_rfl) (by kernel_rfl) (by kernel_rfl)
 have x5 := @run_callFunc_extern Tryz.prog 222 _ impE Tryz.func222 (by kernel_rfl) (by kernel_rfl) (by kernel_rfl) (by kernel_rfl)
 have x6 := @run_callFunc_extern Tryz.prog 77 _ ReflectliteType.typeOf Tryz.func77 (by kernel_rfl) (by kernel_rfl) (by kernel_rfl) (by kernel_rfl)
 have x7 := @run_callFunc_extern Tryz.prog 219 _ asgE Tryz.func219 (by kernel_rfl) (by kernel_rfl) (by kernel_rfl) (by kernel_rfl)
 have x8 := @run_callFunc_extern Tryz.prog 117 _ elmE Tryz.func117 (by kernel_rfl) (by kernel_rfl) (by kernel_rfl) (by kernel_rfl)
 have x9 := @run_callFunc_extern Tryz.prog 118 _ setE Tryz.func118 (by kernel_rfl) (by kernel_rfl) (by kernel_rfl) (by kernel_rfl)
 have f_as_vF := as_vF
 have f_as_tF := as_tF
 have f_as_mKind := Zkk
 have f_as_kFF := as_kFF
 have f_as_kF := as_kF
 have f_as_mElem := Zlf
 have f_as_mImpl := Zl8
 have f_as_mAsgn := Zmh
 have f_as_elem := Zoy
 have f_as_impl := Zpl
 have f_as_typeF := Zl3
 have f_as_asgnF := Zki
 have f_as_asgnE := Zlp
 have f_as_valF := Zpt
 have f_is_typeOf := Za3
 have f_as_noAsE := Zke
 have f_is_noUnwrapE := Qm
 have f_is_noUnwrapsE := Uw
 have n8 := Zld ⟨w.heap.size, 0, none⟩ t (Zmr w t) (by simp [Zmr])
 have hlt : 9 < w.heap.size := by
  rcases Nat.lt_or_ge 9 w.heap.size with h | h
  ·exact h
  ·simp [World.cell?, Array.getElem?_eq_none h] at hg
 have hg2 : (Zmr w t).cell? ⟨9, 0, none⟩ = some (.iface 171 (.agg #[.pointer (some ⟨23, 25, none⟩)])) := by
  unfold Zmr
  rw [World.cell?_alloc_lt _ _ ⟨9, 0, none⟩ (by simp; omega), World.cell?_alloc_lt _ _ ⟨9, 0, none⟩ hlt]; exact hg
 have htl : t.block < w.heap.size := by
  rcases Nat.lt_or_ge t.block w.heap.size with h | h
  ·exact h
  ·simp [World.cell?, Array.getElem?_eq_none h] at ht0
 have el := as_elemV ⟨w.heap.size, 0, none⟩ t ((Zmr w t).alloc (.cells #[.pointer (some ⟨23, 60, none⟩), .pointer (some ⟨w.heap.size, 0, none⟩), .int .u64 150] 120)) (by unfold Zmr; rw [World.cell?_alloc_lt _ _ ⟨w.heap.size, 0, none⟩ (by simp; omega)]; simp)
 have st := as_set t ⟨w.heap.size + 1 + 1 + 1, 0, none⟩ e old (((Zmr w t).alloc (.cells #[.pointer (some ⟨23, 60, none⟩), .pointer (some ⟨w.heap.size, 0, none⟩), .int .u64 150] 120)).alloc (.cells #[.pointer (some e)] 58))
  (by unfold Zmr; rw [World.cell?_alloc_at _ _ _ _ (by simp)]; rfl)
  (by unfold Zmr; rw [World.cell?_alloc_lt _ _ t (by simp; omega), World.cell?_alloc_lt _ _ t (by simp; omega), World.cell?_alloc_lt _ _ t (by simp; omega), World.cell?_alloc_lt _ _ t htl]; exact ht0)
  (by unfold Zmr; rw [World.frozen?_alloc_old _ _ t (by simp; omega), World.frozen?_alloc_old _ _ t (by simp; omega), World.frozen?_alloc_old _ _ t (by simp; omega), World.frozen?_alloc_old _ _ t (Nat.ne_of_lt htl)]; exact hf0)
 go_enter Tryz.func20, Tryz.ntmps20
 go_wp2
 refine wp_loop_rounds 1 ?_
 rw [rounds_succ]
 go_wp2
 go_ret
 exact ⟨rfl, rfl⟩
set_option maxHeartbeats 4000000 in
theorem as_miss (e t : Addr) (w : World) (hg : w.cell? ⟨9, 0, none⟩ = some (.iface 171 (.agg #[.pointer (some ⟨23, 25, none⟩)]))) :
  Calls Tryz.prog 20 #[.iface 259 (.pointer (some e)), .iface 60 (.pointer (some t))] w fun ev w' => ev = .returned (.bool false) ∧ w' = (Zmr w t).alloc (.cells #[.pointer (some ⟨23, 60, none⟩), .pointer (some ⟨w.heap.size, 0, none⟩), .int .u64 150] 120) := by
 have x0 := @run_callFunc_extern Tryz.prog 73 _ valE Tryz.func73 (by kernel_rfl) (by kernel_rfl) (by kernel_rfl) (by kernel_rfl)
 have x1 := @run_callFunc_extern Tryz.prog 74 _ typE Tryz.func74 (by kernel_rfl) (by kernel_rfl) (by kernel_rfl) (by kernel_rfl)
 have x2 := @run_callFunc_extern Tryz.prog 75 _ rnlE Tryz.func75 (by kernel_rfl) (by kernel_rfl) (by kernel_rfl) (by kernel_rfl)
 have x3 := @run_callFunc_extern Tryz.prog 209 _ kndE Tryz.func209 (by kernel_rfl) (by kernel_rfl) (by kernel_rfl) (by kernel_rfl)
 have x4 := @run_callFunc_extern Tryz.prog 221 _ telE Tryz.func221 (by kernel_rfl) (by kernel_rfl) (by kernel_rfl) (by kernel_rfl)
 have x5 := @run_callFunc_extern Tryz.prog 222 _ impE Tryz.func222 (by kernel_rfl) (by kernel_rfl) (by kernel_rfl) (by kernel_rfl)
 have x6 := @run_callFunc_extern Tryz.prog 77 _ ReflectliteType.typeOf Tryz.func77 (by kernel_rfl) (by kernel_rfl) (by kernel_rfl) (by kernel_rfl)
 have x7 := @run_callFunc_extern Tryz.prog 219 _ asgE Tryz.func219 (by kernel_rfl) (by kernel_rfl) (by kernel_rfl) (by kernel_rfl)
 have x8 := @run_callFunc_extern Tryz.prog 117 _ elmE Tryz.func117 (by kernel_rfl) (by kernel_rfl) (by kernel_rfl) (by kernel_rfl)
 have x9 := @run_callFunc_extern Tryz.prog 118 _ setE Tryz.func118 (by kernel_rfl) (by kernel_rfl) (by kernel_rfl) (by kernel_rfl)
 have f_as_vF := as_vF
 have f_as_tF := as_tF
 have f_as_mKind := Zkk
 have f_as_kFF := as_kFF
 have f_as_kF := as_kF
 have f_as_mElem := Zlf
 have f_as_mImpl := Zl8
 have f_as_mAsgn := Zmh
 have f_as_elem := Zoy
 have f_as_impl := Zpl
 have f_as_typeF := Zl3
 have f_as_asgnF := Zki
 have f_as_asgnE := Zlp
 have f_as_valF := Zpt
 have f_is_typeOf := Za3
 have f_as_noAsE := Zke
 have f_is_noUnwrapE := Qm
 have f_is_noUnwrapsE := Uw
 have n8 := Zld ⟨w.heap.size, 0, none⟩ t (Zmr w t) (by simp [Zmr])
 have hlt : 9 < w.heap.size := by
  rcases Nat.lt_or_ge 9 w.heap.size with h | h
  ·exact h
  ·simp [World.cell?, Array.getElem?_eq_none h] at hg
 have hg2 : (Zmr w t).cell? ⟨9, 0, none⟩ = some (.iface 171 (.agg #[.pointer (some ⟨23, 25, none⟩)])) := by
  unfold Zmr
  rw [World.cell?_alloc_lt _ _ ⟨9, 0, none⟩ (by simp; omega), World.cell?_alloc_lt _ _ ⟨9, 0, none⟩ hlt]; exact hg
 go_enter Tryz.func20, Tryz.ntmps20
 go_wp2
 refine wp_loop_rounds 1 ?_
 rw [rounds_succ]
 go_wp2
 go_ret
 exact ⟨rfl, rfl⟩
end Go.HL
end

/-! ErC -/
section
namespace Go.HL
open Go Go.Proofs
set_option linter.unusedVariables false
set_option linter.unusedSimpArgs false
def all9 : List Nat := [1, 2, 3, 4, 5, 6, 7, 8, 9]
structure Ez (T : Nat) (E : Nat → Addr) (L : Zb) : Prop where
 ty : T = 259
 errs : Er T E all9 L
 blk : ∀ c, List.elem c all9 = true → ∃ ca ta, Has L (E c).block (.cells ca ta (0, 0))
 one : ∀ c c', List.elem c all9 = true → List.elem c' all9 = true → E c = E c' → c = c'
 et : Gl L 9 (.iface 171 (.agg #[.pointer (some ⟨23, 25, none⟩)]))
theorem Ez.cons {T : Nat} {E : Nat → Addr} {L : Zb} (h : Ez T E L) (c : List Zn) : Ez T E (c :: L) :=
 ⟨h.ty, h.errs.cons c, fun k hk => let ⟨ca, ta, hb⟩ := h.blk k hk; ⟨ca, ta, Zc hb⟩, h.one, h.et.cons⟩
theorem Ez.mono {T : Nat} {E : Nat → Addr} {L L' : Zb} (h : Ez T E L) (hl : ∀ b o, Has L b o → Has L' b o) : Ez T E L' :=
 ⟨h.ty, h.errs.mono hl, fun k hk => let ⟨ca, ta, hb⟩ := h.blk k hk; ⟨ca, ta, hl _ _ hb⟩, h.one, h.et.mono hl⟩
theorem Ez.er {T : Nat} {E : Nat → Addr} {L : Zb} (h : Ez T E L) (cs : List Nat) (hm : (cs.all fun g => all9.elem g) = true := by rfl) : Er T E cs L := h.errs.sub hm
theorem is_calls (a b : Addr) (L : Zb) (h : a = b ∨ (a ≠ b ∧ (∃ ca ta, Has L a.block (.cells ca ta (0, 0))) ∧ ∃ cb tb, Has L b.block (.cells cb tb (0, 0)))) :
  HC Tryz.prog 21 [.iface 259 (.pointer (some a)), .iface 259 (.pointer (some b))] L (fun v L' => v = .bool (decide (a = b)) ∧ L' = L) := by
 refine ⟨fun args w => Tryz.call21 args w, fun k w hs => ?_⟩
 rcases h with rfl | ⟨hne, ⟨ca, ta, ha⟩, cb, tb, hb⟩
 ·exact (is_same a w).mono fun e w' ⟨he, hw⟩ => ⟨_, L, he, hw ▸ hs, by simp, rfl⟩
 ·exact (is_other a b ca cb ta tb w hne (hs.heap ha) (hs.heap hb)).mono fun e w' ⟨he, hw⟩ => ⟨_, L, he, hw ▸ hs, by simp [hne], rfl⟩
theorem Sat.news {k : Zgr} {w : World} {L : Zb} (h : Sat k w L) (o : Obj) : Sat k (w.alloc o) L := (h.new o).sub ((List.Sublist.refl _).cons _)
theorem Gl.cell {k : Zgr} {w : World} {L : Zb} {g : Nat} {v : Value} (hs : Sat k w L) (h : Gl L g v) : w.cell? ⟨g, 0, none⟩ = some v := by
 obtain ⟨l, E, fr, h1, h2⟩ := h
 rw [hs.cell h1]; exact h2
theorem Zbk (e : Addr) (t : Addr) (L : Zb) (hg : Gl L 9 (.iface 171 (.agg #[.pointer (some ⟨23, 25, none⟩)]))) :
  HC Tryz.prog 20 [.iface 259 (.pointer (some e)), .iface 60 (.pointer (some t))] L (fun v L' => v = .bool false ∧ L' = L) := by
 refine ⟨fun args w => Tryz.call20 args w, fun k w hs => ?_⟩
 refine (as_miss e t w (hg.cell hs)).mono fun ev w' ⟨he, hw⟩ => ⟨_, L, he, ?_, rfl, rfl⟩
 rw [hw]
 exact ((hs.news _).news _).news _
theorem Zij (e : Addr) (b E : Nat) (old : Value) (L : Zb) (hg : Gl L 9 (.iface 171 (.agg #[.pointer (some ⟨23, 25, none⟩)]))) :
  HC Tryz.prog 20 [.iface 58 (.pointer (some e)), .iface 60 (pt b 0)] ([(b, .cells ⟨[old]⟩ E)] :: L) (fun v L' => v = .bool true ∧ L' = [(b, .cells ⟨[.pointer (some e)]⟩ E)] :: L) := by
 refine ⟨fun args w => Tryz.call20 args w, fun k w hs => ?_⟩
 have hb : w.heap[b]? = some (.cells ⟨[old]⟩ E) := hs.heap Zh
 refine (as_hit e ⟨b, 0, none⟩ old w (hg.cons.cell hs) (by rw [hs.cell Zh]; rfl) (by simp [World.frozen?, hb])).mono fun ev w' ⟨he, hw⟩ => ⟨_, [(b, .cells ⟨[.pointer (some e)]⟩ E)] :: L, he, ?_, rfl, rfl⟩
 rw [hw]
 have h2 := (((hs.news (.cells #[.pointer (some ⟨b, 0, none⟩)] 60)).news (.cells #[.pointer (some ⟨23, 60, none⟩), .pointer (some ⟨w.heap.size, 0, none⟩), .int .u64 150] 120)).news (.cells #[.pointer (some ⟨23, 60, none⟩), .pointer (some ⟨w.heap.size, 0, none⟩), .int .u64 150] 120)).news (.cells #[.pointer (some e)] 58)
 have hb2 := h2.heap Zh
 exact h2.upd Xo rfl rfl rfl (Zcj hb2 0 _) (fun j hj => heap_setCell_other _ _ j _ hj)
def faC (pb : Nat) (at_ : Int) (T : Nat) (E : Nat → Addr) (c : Option Nat) : List Zn := [(pb, .cells ⟨[iv at_, eV T E c]⟩ 62)]
set_option maxHeartbeats 2000000 attribute [local irreducible] HW HO HQ HD HC QOp Has Upd Zp Gets Yf Z8 Zr X3 Z9 Zj Wa Zy
theorem code_nil (L : Zb) : HC Tryz.prog 12 [.nilIface] L (fun v L' => v = .tuple ⟨[iv 0, iv (-1)]⟩ ∧ L' = L) := by
 refine Za (fun _ _ => Tryz.call12 _ _) Tryz.func12 rfl Tryz.ntmps12 (Nat.le_of_ble_eq_true rfl) ?_; simp only [Ze, Nat.reduceAdd]
 repeat' (first | refine uN ?_ | (refine uB ?_; intro b) | (refine uP ?_ ?_ <;> (intro h; ((try simp only [zs, ne_eq, and_true, true_and, eq_self, reduceCtorEq] at h); try exact zx))) | fail)
 exact Ve (LS.refl _) ⟨rfl, rfl⟩
def eL (T : Nat) (E : Nat → Addr) : List Value := all9.map fun c => eV T E (some c)
theorem eL_get {T : Nat} {E : Nat → Addr} {i : Nat} (h : i < 9) : (eL T E)[0 + (i : Int).toNat]? = some (errV T E (i + 1)) := by
 have : ∀ i, i < 9 → (all9.map fun c => eV T E (some c))[i]? = some (errV T E (i + 1)) := by
  intro i h
  match i, h with
  | 0, _ => rfl
  | 1, _ => rfl
  | 2, _ => rfl
  | 3, _ => rfl
  | 4, _ => rfl
  | 5, _ => rfl
  | 6, _ => rfl
  | 7, _ => rfl
  | 8, _ => rfl
 simpa [eL] using this i h
theorem elem9 {i : Nat} (h : i < 9) : List.elem (i + 1) all9 = true := by
 have : ∀ i, i < 9 → List.elem (i + 1) all9 = true := by decide
 exact this i h
theorem Znl (T : Nat) (E : Nat → Addr) (c : Nat) (L : Zb) (hE : Ez T E L) (hc : List.elem c all9 = true) : HC Tryz.prog 12 [eV T E (some c)] L (fun v L' => v = .tuple ⟨[iv c, iv (-1)]⟩ ∧ L' = L) := by
 have hT := hE.ty
 have hG := hE.errs
 have hA := Zbk (E c)
 have hI : ∀ i L', Ez T E L' → i < 9 → HC Tryz.prog 21 [eV T E (some c), errV T E (i + 1)] L' (fun v L2 => v = .bool (decide (E c = E (i + 1))) ∧ L2 = L') := fun i L' h9 hi => by
  subst hT
  refine is_calls (E c) (E (i + 1)) L' ?_
  by_cases he : E c = E (i + 1)
  ·exact .inl he
  ·exact .inr ⟨he, h9.blk c hc, h9.blk (i + 1) (elem9 hi)⟩
 subst hT
 refine Za (fun _ _ => Tryz.call12 _ _) Tryz.func12 rfl Tryz.ntmps12 (Nat.le_of_ble_eq_true rfl) ?_; simp only [Ze, Nat.reduceAdd]
 repeat' (first | refine uN ?_ | (refine uB ?_; intro b) | (refine uP ?_ ?_ <;> (intro h; ((try simp only [zs, ne_eq, and_true, true_and, eq_self, reduceCtorEq] at h); try exact zx))) | fail)
 refine gc (hA ⟨b, 0, none⟩ _ hE.et.cons) ?_
 rintro v L' ⟨rfl, rfl⟩
 have hG2 := hG.cons [(b, .cells ⟨[.pointer none]⟩ 58)]
 repeat' (first | refine uN ?_ | (refine uB ?_; intro b) | (refine uP ?_ ?_ <;> (intro h; ((try simp only [zs, ne_eq, and_true, true_and, eq_self, reduceCtorEq] at h); try exact zx))) | fail)
 rename_i b0
 refine Zx (σ := Nat) (fun i => [(0, eV 259 E (some c)), (3, iv (-1)), (25, sl b 0 9 9), (26, iv 9), (27, iv i)]) (fun _ => [(b, .cells ⟨eL 259 E⟩ 25)] :: [(b0, .cells ⟨[.pointer none]⟩ 58)] :: L) (fun i => i ≤ 8 ∧ i < c) (fun i => 9 - i) 0 uS (List.Sublist.refl _) ⟨by omega, ?_⟩ ?_
 ·cases c with
  | zero => exact absurd hc (by decide)
  | succ c => omega
 rintro i ⟨h8, hlt⟩
 have g := eL_get (T := 259) (E := E) (show i < 9 by omega)
 have hz := hI i _ ((hE.cons [(b0, .cells ⟨[.pointer none]⟩ 58)]).cons [(b, .cells ⟨eL 259 E⟩ 25)]) (by omega)
 repeat' (first | refine uN ?_ | refine uC (hz) ?_ | (refine uB ?_; intro b) | (refine uP ?_ ?_ <;> (intro h; ((try simp only [zs, ne_eq, and_true, true_and, eq_self, reduceCtorEq] at h); try exact zx))) | fail)
 ·obtain rfl := hE.one c (i + 1) hc (elem9 (by omega)) h
  exact Ve uZ ⟨rfl, rfl⟩
 ·have hne : c ≠ i + 1 := fun e => h (congrArg E e)
  have h10 : c < 10 := by
   have := List.elem_iff.1 hc
   simp [all9] at this
   omega
  exact Zl (i + 1) uS (List.Sublist.refl _) ⟨by omega, by omega⟩ (by omega)
def Zm9 : Option Nat → Int
 | none => 0
 | some c => c
def okE : Option Nat → Prop
 | none => True
 | some c => List.elem c all9 = true
theorem code_all (T : Nat) (E : Nat → Addr) (e : Option Nat) (L : Zb) (hE : Ez T E L) (he : okE e) : HC Tryz.prog 12 [eV T E e] L (fun v L' => v = .tuple ⟨[iv (Zm9 e), iv (-1)]⟩ ∧ L' = L) := by
 cases e with
 | none => exact code_nil L
 | some c => exact Znl T E c L hE he
end Go.HL
end

/-! LayB -/
section
namespace Go.HL
open Go Go.Proofs Go.ChangeShapes Go.WideShapes Go.ChangeAt Go.RowKit
set_option linter.unusedVariables false
def handL : List (String × DataW Unit) := [("errors.errorType", .iface "internal/reflectlite.rtype" (.agg [.ptr (.lit (.string [101, 114, 114, 111, 114]))]))]
theorem hd_et : Tryz.prog.globalNamed "errors.errorType" = some 9 := by kernel_rfl
theorem hd_rt : (Tryz.prog.cutTypes.find? (·.1 == "internal/reflectlite.rtype")).map (·.2) = some 171 := by kernel_rfl
theorem hd_row : ((List.range 301).filter fun t => Tryz.prog.rowNamed t [101, 114, 114, 111, 114]) = [25] := by kernel_rfl
theorem hd_size : Tryz.prog.types.size = 301 := by kernel_rfl
theorem Zsb : typeHandle Tryz.prog 25 = .pointer (some ⟨23, 25, none⟩) := by kernel_rfl
theorem Zqk {W : World} (h : handlesMet Tryz.prog handL W) : Gl [V3 W] 9 (.iface 171 (.agg #[.pointer (some ⟨23, 25, none⟩)])) := by
 obtain ⟨name, u, ty, e1, e2, e3, e4, e5⟩ := h _ (List.mem_singleton.2 rfl)
 have en : name = [101, 114, 114, 111, 114] := (Option.some.inj e1).symm
 subst en
 obtain rfl := Option.some.inj (hd_rt.symm.trans e2)
 have hm : ty ∈ (List.range 301).filter fun t => Tryz.prog.rowNamed t [101, 114, 114, 111, 114] := List.mem_filter.2 ⟨List.mem_range.2 (by rw [← hd_size]; exact e3), e4⟩
 rw [hd_row] at hm
 obtain rfl := List.mem_singleton.1 hm
 rw [Zsb] at e5
 exact Zhf hd_et e5
theorem text_inj {c c' : Nat} (h : List.elem c all9 = true) (h' : List.elem c' all9 = true) (e : Xu c = Xu c') : c = c' := by
 have key : (all9.all fun c => all9.all fun c' => decide (Xu c = Xu c' → c = c')) = true := by decide +kernel
 have h1 := List.all_eq_true.1 (List.all_eq_true.1 key c (List.elem_iff.1 h)) c' (List.elem_iff.1 h')
 exact of_decide_eq_true h1 e
theorem Zi2 {P : Program} {w0 : World} {laid : List (String × DataW Unit)} (args : Array Value) (hf : w0.layFits P laid [] = true) (hi : w0.layIfaces P laid (w0.layVars P laid) = true) :
  laidMet P laid ((w0.layVars P laid).forCall (fun _ _ => 0) ⟨#[], args, []⟩).memory := by
 have e1 : (laid.filter fun x => (laid.map (·.1)).contains x.1) = laid := List.filter_eq_self.2 fun x hx => List.contains_iff_mem.2 (List.mem_map.2 ⟨x, hx, rfl⟩)
 have e2 : (laid.filter fun x => !(laid.map (·.1)).contains x.1) = [] := List.filter_eq_nil_iff.2 fun x hx => by rw [List.contains_iff_mem.2 (List.mem_map.2 ⟨x, hx, rfl⟩)]; simp
 have h : laidMet P laid (w0.layVars P laid) := laidMet_layVars (w0 := w0) (laid.map (·.1)) [] (by rw [e1]) (by rw [e1]; exact hf) (by rw [e1]; exact hi) (by rw [e2]; exact LaidIn.none)
 exact h.of_heap (by simp [World.memory, World.forCall, Input.heap])
noncomputable def w0H (os : Os) : World :=
 let w := World.holding Tryz.prog os ⟨#[], #[], []⟩
 { w with heap := w.heap.modify 9 fun
   | .cells _ t frozen => .cells #[.iface 171 (.agg #[.pointer (some ⟨23, 25, none⟩)])] t frozen
   | o => o }
end Go.HL
end

/-! LdA -/
section
namespace Go.HL
open Go Go.Proofs
set_option linter.unusedVariables false
set_option linter.unusedSimpArgs false
abbrev Xq (v : Value) (xs : List Fr) (c : List Zn) : Prop := Vec 158 9 fc v xs c
theorem Zs (f : Fr) : (fc f).length = 9 := rfl
theorem Uz (f : Fr) : (fc f).all Value.oneCell' = true := rfl
theorem Zdh (s : St) : (sc s).length = 3 := rfl
theorem sc_one (s : St) : (sc s).all Value.oneCell' = true := rfl
theorem Xl (x : Int) : (ic x).length = 1 := rfl
theorem Zoa (x : Int) : (ic x).all Value.oneCell' = true := rfl
structure Ld where
 id : Int
 deal : Int
 att : Int
 w : List Int
 state : List UInt8
 wait : Int
 heard : Nat
 told : List St
 phase : Int
 seen : Int
def sAsking : List UInt8 := [97, 115, 107, 105, 110, 103]
def Zb8 : List UInt8 := [112, 114, 101, 112, 97, 114, 105, 110, 103]
def Zpq : List UInt8 := [100, 111, 110, 101]
def U4 : List UInt8 := [114, 101, 102, 117, 115, 101, 100]
def Zk3 (wv : Value) (m : Ld) : List Value := [iv m.id, iv m.deal, iv m.att, wv, bs m.state, iv m.wait, iv m.heard]
def Y5 (wv : Value) (m : Ld) : List Value := Zk3 wv m ++ (m.told.map sc).flatten ++ [iv m.phase, iv m.seen]
def Vr (lp : Nat) (wv : Value) (wc : List Zn) (m : Ld) : List Zn := (lp, .cells ⟨Y5 wv m⟩ 202) :: wc
structure LdOk (wv : Value) (wc : List Zn) (m : Ld) : Prop where
 vec : Vec 3 1 ic wv m.w wc
 told : m.told.length = 7
 len : m.w.length ≤ 7
theorem Yt {wv : Value} {m : Ld} {k : Nat} {v : Value} (h : (Zk3 wv m)[k]? = some v) : (Y5 wv m)[0 + k]? = some v := by
 have hlt : k < (Zk3 wv m).length := (List.getElem?_eq_some_iff.1 h).1
 rw [Nat.zero_add, Y5, List.append_assoc, List.getElem?_append_left hlt, h]
theorem ld_len {wv : Value} {m : Ld} (h : m.told.length = 7) : (Y5 wv m).length = 30 := by
 simp [Y5, Zk3, Z6 Zdh, h]
theorem Zdq {wv : Value} {m : Ld} (h : m.told.length = 7) : (Zk3 wv m ++ (m.told.map sc).flatten).length = 28 := by
 simp [Zk3, Z6 Zdh, h]
theorem ld_phase {wv : Value} {m : Ld} (h : m.told.length = 7) : (Y5 wv m)[0 + 28]? = some (iv m.phase) := by
 rw [Y5, List.getElem?_append_right (by rw [Zdq h]; omega), Zdq h]; rfl
theorem Zif {wv : Value} {m : Ld} (h : m.told.length = 7) : (Y5 wv m)[0 + 29]? = some (iv m.seen) := by
 rw [Y5, List.getElem?_append_right (by rw [Zdq h]; omega), Zdq h]; rfl
theorem ld_told {wv : Value} {m : Ld} {i : Nat} {s : St} (h : m.told[i]? = some s) : Gets (Y5 wv m) (0 + 7 + (i : Int).toNat * 3) (sc s) := by
 have := Wd (enc := sc) (sz := 3) Zdh m.told [iv m.phase, iv m.seen] (Zk3 wv m) i s h
 simpa [Y5, Zk3] using this
theorem Vz {wv : Value} {m m' : Ld} {k : Nat} {v : Value} (h : Zk3 wv m' = (Zk3 wv m).set k v) (hk : k < 7) (e1 : m'.told = m.told) (e2 : m'.phase = m.phase) (e3 : m'.seen = m.seen) : Zp (Y5 wv m) (0 + k) [v] (Y5 wv m') := by
 have hlt : k < (Zk3 wv m).length := hk
 have e : Y5 wv m' = (Y5 wv m).set (0 + k) v := by
  rw [Nat.zero_add, Y5, Y5, h, e1, e2, e3, List.append_assoc, List.append_assoc, List.set_append_left _ _ hlt]
 rw [e]
 exact W4 (by rw [Y5, List.append_assoc, List.length_append]; omega)
theorem ld_put28 {wv : Value} {m : Ld} (h : m.told.length = 7) (p : Int) : Zp (Y5 wv m) (0 + 28) [iv p] (Y5 wv { m with phase := p }) := by
 have e : Y5 wv { m with phase := p } = (Y5 wv m).set (0 + 28) (iv p) := by
  show Zk3 wv m ++ (m.told.map sc).flatten ++ [iv p, iv m.seen] = (Zk3 wv m ++ (m.told.map sc).flatten ++ [iv m.phase, iv m.seen]).set (0 + 28) (iv p)
  rw [List.set_append_right _ _ (by rw [Zdq h]; omega), Zdq h]; rfl
 rw [e]
 exact W4 (by rw [ld_len h]; omega)
theorem Zj4 {wv : Value} {m : Ld} (h : m.told.length = 7) (p : Int) : Zp (Y5 wv m) (0 + 29) [iv p] (Y5 wv { m with seen := p }) := by
 have e : Y5 wv { m with seen := p } = (Y5 wv m).set (0 + 29) (iv p) := by
  show Zk3 wv m ++ (m.told.map sc).flatten ++ [iv m.phase, iv p] = (Zk3 wv m ++ (m.told.map sc).flatten ++ [iv m.phase, iv m.seen]).set (0 + 29) (iv p)
  rw [List.set_append_right _ _ (by rw [Zdq h]; omega), Zdq h]; rfl
 rw [e]
 exact W4 (by rw [ld_len h]; omega)
theorem Zpw {wv : Value} {m : Ld} {i : Nat} (s : St) (h : i < m.told.length) : Zp (Y5 wv m) (0 + 7 + (i : Int).toNat * 3) (sc s) (Y5 wv { m with told := m.told.set i s }) := by
 have := Zfg (enc := sc) (sz := 3) Zdh m.told [iv m.phase, iv m.seen] (Zk3 wv m) i (0 + 7 + (i : Int).toNat * 3) s h (by simp [Zk3])
 exact this
def Zeh (m : Ld) (kind phase : Int) (i : Nat) : List Fr := if kind ≠ 3 ∨ (i : Int) ≠ m.id then [⟨m.id, i, m.deal, kind, m.att, false, ⟨phase, 0, 0⟩⟩] else []
def Zd9 (m : Ld) (kind phase : Int) : List Fr := (List.range m.w.length).flatMap (Zeh m kind phase)
def Xs (m : Ld) : List Fr := if m.att = 0 then Zd9 m 1 0 else Zd9 m 3 0
def Zbh (m : Ld) (phase : Int) : Ld := { m with state := Zb8, wait := 6, heard := 0, phase := phase }
def Um (m : Ld) : Ld := { m with state := Zpq, wait := 0 }
def noM (m : Ld) : Ld × List Fr := if m.wait = 2 then (Um m, Zd9 (Um m) 7 3) else ({ m with state := U4, wait := 0 }, [])
theorem Zfy (f : Nat → List Fr) (i : Nat) : (List.range (i + 1)).flatMap f = (List.range i).flatMap f ++ f i := by
 rw [List.range_succ, List.flatMap_append]; simp
theorem Vp (f : Nat → List Fr) (hf : ∀ i, (f i).length ≤ 1) : ∀ i, ((List.range i).flatMap f).length ≤ i
 | 0 => by simp
 | i + 1 => by rw [Zfy, List.length_append]; have := Vp f hf i; have := hf i; omega
theorem Zei (m : Ld) (kind phase : Int) (i : Nat) : (Zeh m kind phase i).length ≤ 1 := by unfold Zeh; split <;> simp
set_option maxHeartbeats 2000000 attribute [local irreducible] HW HO HQ HD HC QOp Has Upd Zp Gets Yf Z8 Zr X3 Z9 Zj Wa Zy
attribute [local irreducible] Y5
theorem Za4 (lp : Nat) (wv : Value) (wc : List Zn) (m : Ld) (kind phase : Int) (L : Zb) (hm : LdOk wv wc m) : HC Tryz.prog 132 [pt lp 0, iv kind, iv phase] (Vr lp wv wc m :: L)
  (fun v L' => ∃ c, Xq v (Zd9 m kind phase) c ∧ L' = c :: Vr lp wv wc m :: L) := by
 obtain ⟨a, cap, rfl, hcap, hR⟩ := hm.vec.rd Xl
 have hlen := hm.len
 generalize hwv : Value.slice a m.w.length cap = wv
 have g0 : (Y5 wv m)[0 + 0]? = some (iv m.id) := Yt rfl
 have g1 : (Y5 wv m)[0 + 1]? = some (iv m.deal) := Yt rfl
 have g2 : (Y5 wv m)[0 + 2]? = some (iv m.att) := Yt rfl
 have g3 : (Y5 wv m)[0 + 3]? = some (.slice a m.w.length cap) := by rw [hwv]; exact Yt rfl
 refine Za (fun _ _ => Tryz.call132 _ _) Tryz.func132 rfl Tryz.ntmps132 (Nat.le_of_ble_eq_true rfl) ?_; simp only [Ze, Nat.reduceAdd]
 repeat' (first | refine uN ?_ | refine Yb S ?_ | refine Yv S ?_ | (refine uB ?_; intro b) | (refine uP ?_ ?_ <;> (intro h; ((try simp only [zs, ne_eq, and_true, true_and, eq_self, reduceCtorEq] at h); try exact zx))) | refine da 101 ?_ | fail)
 refine Zpu ?_
 refine Zx (σ := Nat × Value × List Zn) (fun q => [(0, pt lp 0), (1, iv kind), (2, iv phase), (7, q.2.1), (13, iv m.w.length), (14, iv q.1)]) (fun q => q.2.2 :: Vr lp wv wc m :: L) (fun q => q.1 ≤ m.w.length ∧ Xq q.2.1 ((List.range q.1).flatMap (Zeh m kind phase)) q.2.2) (fun q => m.w.length - q.1) (0, Wo, []) uS (List.Sublist.refl _) ⟨by simp, Yh⟩ ?_
 rintro ⟨i, v, c⟩ ⟨hi, hv⟩
 simp only at hi hv ⊢
 have hle := Vp (Zeh m kind phase) (Zei m kind phase) i
 have step : ∀ x, Zeh m kind phase i = x → (List.range (i + 1)).flatMap (Zeh m kind phase) = (List.range i).flatMap (Zeh m kind phase) ++ x := fun x hx => by rw [Zfy, hx]
 by_cases hlt : i < m.w.length
 ·by_cases hid : kind = 3 ∧ (i : Int) = m.id
  ·have e : Zeh m kind phase i = [] := if_neg (by omega)
   repeat' (first | refine uN ?_ | refine Z0 S ?_ | (refine uB ?_; intro b) | (refine uP ?_ ?_ <;> (intro h; ((try simp only [zs, ne_eq, and_true, true_and, eq_self, reduceCtorEq] at h); try exact zx))) | refine da 101 ?_ | fail)
   refine Zl (i + 1, v, c) uS (List.Sublist.refl _) ⟨by simp only; omega, ?_⟩ (by simp only; omega)
   simp only
   rw [step _ e, List.append_nil]
   exact hv
  ·have e : Zeh m kind phase i = [⟨m.id, i, m.deal, kind, m.att, false, ⟨phase, 0, 0⟩⟩] := if_pos (by omega)
   repeat' (first | refine uN ?_ | refine Z0 S ?_ | (refine uB ?_; intro b) | (refine uP ?_ ?_ <;> (intro h; ((try simp only [zs, ne_eq, and_true, true_and, eq_self, reduceCtorEq] at h); try exact zx))) | refine da 101 ?_ | fail)
   all_goals refine fo 1 ?_
   all_goals refine wp1 S ⟨m.id, i, m.deal, kind, m.att, false, ⟨phase, 0, 0⟩⟩ hv Zs Uz ?_
   all_goals intro v' c' hv'
   all_goals repeat' (first | refine uN ?_ | refine Z0 S ?_ | (refine uB ?_; intro b) | (refine uP ?_ ?_ <;> (intro h; ((try simp only [zs, ne_eq, and_true, true_and, eq_self, reduceCtorEq] at h); try exact zx))) | refine da 101 ?_ | fail)
   all_goals refine Zl (i + 1, v', c') uS (.cons_cons _ (.cons _ (.refl _))) ⟨by simp only; omega, ?_⟩ (by simp only; omega)
   all_goals simp only
   all_goals rw [step _ e]
   all_goals exact hv'
 ·repeat' (first | refine uN ?_ | refine Z0 S ?_ | (refine uB ?_; intro b) | (refine uP ?_ ?_ <;> (intro h; ((try simp only [zs, ne_eq, and_true, true_and, eq_self, reduceCtorEq] at h); try exact zx))) | refine da 101 ?_ | fail)
  have hi2 : i = m.w.length := by omega
  subst hi2
  exact Xm (LS.refl _) ⟨c, hv, rfl⟩
theorem Zdw (lp : Nat) (wv : Value) (wc : List Zn) (m : Ld) (L : Zb) (hm : LdOk wv wc m) : HC Tryz.prog 95 [pt lp 0] (Vr lp wv wc m :: L)
  (fun v L' => ∃ c, Xq v (Xs m) c ∧ L' = c :: Vr lp wv wc m :: L) := by
 have g2 : (Y5 wv m)[0 + 2]? = some (iv m.att) := Yt rfl
 unfold Xs
 refine Za (fun _ _ => Tryz.call95 _ _) Tryz.func95 rfl Tryz.ntmps95 (Nat.le_of_ble_eq_true rfl) ?_; simp only [Ze, Nat.reduceAdd]
 repeat' (first | refine uN ?_ | (refine uP ?_ ?_ <;> (intro h; ((try simp only [zs, ne_eq, and_true, true_and, eq_self, reduceCtorEq] at h); try exact zx))) | fail)
 ·refine gc (Za4 lp wv wc m 1 0 L hm) ?_
  rintro v L' ⟨c, hv, rfl⟩
  repeat' (first | refine uN ?_ | (refine uP ?_ ?_ <;> (intro h; ((try simp only [zs, ne_eq, and_true, true_and, eq_self, reduceCtorEq] at h); try exact zx))) | fail)
  exact Xm (LS.refl _) ⟨c, by rw [if_pos h]; exact hv, rfl⟩
 ·refine gc (Za4 lp wv wc m 3 0 L hm) ?_
  rintro v L' ⟨c, hv, rfl⟩
  repeat' (first | refine uN ?_ | (refine uP ?_ ?_ <;> (intro h; ((try simp only [zs, ne_eq, and_true, true_and, eq_self, reduceCtorEq] at h); try exact zx))) | fail)
  exact Xm (LS.refl _) ⟨c, by rw [if_neg h]; exact hv, rfl⟩
theorem LdOk.of {wv : Value} {wc : List Zn} {m m' : Ld} (h : LdOk wv wc m) (e1 : m'.w = m.w) (e2 : m'.told.length = m.told.length) : LdOk wv wc m' := ⟨e1 ▸ h.vec, e2 ▸ h.told, e1 ▸ h.len⟩
theorem Zbs (lp : Nat) (wv : Value) (wc : List Zn) (m : Ld) (phase : Int) (L : Zb) (hm : LdOk wv wc m) : HC Tryz.prog 138 [pt lp 0, iv phase] (Vr lp wv wc m :: L)
  (fun v L' => ∃ c, Xq v (Zd9 (Zbh m phase) 5 phase) c ∧ L' = c :: Vr lp wv wc (Zbh m phase) :: L) := by
 have p1 : Zp (Y5 wv m) (0 + 4) [bs Zb8] (Y5 wv { m with state := Zb8 }) := Vz rfl (by decide) rfl rfl rfl
 have p2 : Zp (Y5 wv { m with state := Zb8 }) (0 + 5) [iv 6] (Y5 wv { m with state := Zb8, wait := 6 }) := Vz rfl (by decide) rfl rfl rfl
 have p3 : Zp (Y5 wv { m with state := Zb8, wait := 6 }) (0 + 6) [iv 0] (Y5 wv { m with state := Zb8, wait := 6, heard := 0 }) := Vz rfl (by decide) rfl rfl rfl
 have p4 : Zp (Y5 wv { m with state := Zb8, wait := 6, heard := 0 }) (0 + 28) [iv phase] (Y5 wv (Zbh m phase)) := ld_put28 (m := { m with state := Zb8, wait := 6, heard := 0 }) hm.told phase
 have k := Za4 lp wv wc (Zbh m phase) 5 phase L (hm.of rfl rfl)
 refine Za (fun _ _ => Tryz.call138 _ _) Tryz.func138 rfl Tryz.ntmps138 (Nat.le_of_ble_eq_true rfl) ?_; simp only [Ze, Nat.reduceAdd]
 repeat' (first | refine uN ?_)
 refine gc k ?_
 rintro v L' ⟨c, hv, rfl⟩
 repeat' (first | refine uN ?_)
 exact Xm (LS.refl _) ⟨c, hv, rfl⟩
theorem Qs (lp : Nat) (wv : Value) (wc : List Zn) (m : Ld) (phase : Int) (L : Zb) (hm : LdOk wv wc m) : HC Tryz.prog 139 [pt lp 0, iv phase] (Vr lp wv wc m :: L)
  (fun v L' => ∃ c, Xq v (Zd9 (Um m) 7 phase) c ∧ L' = c :: Vr lp wv wc (Um m) :: L) := by
 have p1 : Zp (Y5 wv m) (0 + 4) [bs Zpq] (Y5 wv { m with state := Zpq }) := Vz rfl (by decide) rfl rfl rfl
 have p2 : Zp (Y5 wv { m with state := Zpq }) (0 + 5) [iv 0] (Y5 wv (Um m)) := Vz rfl (by decide) rfl rfl rfl
 have k := Za4 lp wv wc (Um m) 7 phase L (hm.of rfl rfl)
 refine Za (fun _ _ => Tryz.call139 _ _) Tryz.func139 rfl Tryz.ntmps139 (Nat.le_of_ble_eq_true rfl) ?_; simp only [Ze, Nat.reduceAdd]
 repeat' (first | refine uN ?_)
 refine gc k ?_
 rintro v L' ⟨c, hv, rfl⟩
 repeat' (first | refine uN ?_)
 exact Xm (LS.refl _) ⟨c, hv, rfl⟩
theorem no_calls (lp : Nat) (wv : Value) (wc : List Zn) (m : Ld) (L : Zb) (hm : LdOk wv wc m) : HC Tryz.prog 136 [pt lp 0] (Vr lp wv wc m :: L)
  (fun v L' => ∃ c, Xq v (noM m).2 c ∧ L' = c :: Vr lp wv wc (noM m).1 :: L) := by
 have g5 : (Y5 wv m)[0 + 5]? = some (iv m.wait) := Yt rfl
 have p1 : Zp (Y5 wv m) (0 + 4) [bs U4] (Y5 wv { m with state := U4 }) := Vz rfl (by decide) rfl rfl rfl
 have p2 : Zp (Y5 wv { m with state := U4 }) (0 + 5) [iv 0] (Y5 wv { m with state := U4, wait := 0 }) := Vz rfl (by decide) rfl rfl rfl
 have k := Qs lp wv wc m 3 L hm
 unfold noM
 refine Za (fun _ _ => Tryz.call136 _ _) Tryz.func136 rfl Tryz.ntmps136 (Nat.le_of_ble_eq_true rfl) ?_; simp only [Ze, Nat.reduceAdd]
 repeat' (first | refine uN ?_ | (refine uP ?_ ?_ <;> (intro h; ((try simp only [zs, ne_eq, and_true, true_and, eq_self, reduceCtorEq] at h); try exact zx))) | fail)
 ·refine gc k ?_
  rintro v L' ⟨c, hv, rfl⟩
  repeat' (first | refine uN ?_ | (refine uP ?_ ?_ <;> (intro h; ((try simp only [zs, ne_eq, and_true, true_and, eq_self, reduceCtorEq] at h); try exact zx))) | fail)
  exact Xm (LS.refl _) ⟨c, by rw [if_pos h]; exact hv, by rw [if_pos h]⟩
 ·refine Xm (L' := [] :: Vr lp wv wc { m with state := U4, wait := 0 } :: L) (LS.refl _) ⟨[], by rw [if_neg h]; exact Yh, by rw [if_neg h]⟩
theorem Zjo (lp : Nat) (wv : Value) (wc : List Zn) (m : Ld) (L : Zb) : HC Tryz.prog 114 [pt lp 0] (Vr lp wv wc m :: L) (fun v L' => v = bs m.state ∧ L' = Vr lp wv wc m :: L) := by
 have g4 : (Y5 wv m)[0 + 4]? = some (bs m.state) := Yt rfl
 refine Za (fun _ _ => Tryz.call114 _ _) Tryz.func114 rfl Tryz.ntmps114 (Nat.le_of_ble_eq_true rfl) ?_; simp only [Ze, Nat.reduceAdd]
 repeat' (first | refine uN ?_)
 exact Xm (LS.refl _) ⟨rfl, rfl⟩
theorem Zli (lp : Nat) (wv : Value) (wc : List Zn) (m : Ld) (L : Zb) (h : m.told.length = 7) : HC Tryz.prog 133 [pt lp 0] (Vr lp wv wc m :: L) (fun v L' => v = iv m.seen ∧ L' = Vr lp wv wc m :: L) := by
 have g4 := Zif (wv := wv) h
 refine Za (fun _ _ => Tryz.call133 _ _) Tryz.func133 rfl Tryz.ntmps133 (Nat.le_of_ble_eq_true rfl) ?_; simp only [Ze, Nat.reduceAdd]
 repeat' (first | refine uN ?_)
 exact Xm (LS.refl _) ⟨rfl, rfl⟩
end Go.HL
end

/-! HLKk -/
section
namespace Go.HL
open Go
set_option linter.unusedVariables false
section c
variable {P : Program} {n : Nat} {ops : List Oper} {Q : Exit → Zq → Zb → Prop} {ρ : Zq} {L : Zb}
def Zim {α : Type} : List α → List (α × List α)
 | [] => []
 | x :: r => (x, r) :: (Zim r).map fun p => (p.1, x :: p.2)
theorem Zfe {α : Type} : ∀ {a b : List α} {x : α}, (x, a ++ b) ∈ Zim (a ++ x :: b)
 | [], b, x => .head _
 | y :: a, b, x => .tail _ (List.mem_map.2 ⟨(x, a ++ b), Zfe, rfl⟩)
def Zpk (ops : List Oper) (rem : List (Nat × Oper)) : List ((Nat × Oper) × List (Nat × Oper)) := (Zim rem).filter fun p => Qr ops.length rem p.1.2
theorem hd_all {Ss : List (Nat × Zn)} {rem : List (Nat × Oper)} (h0 : Zpk ops rem ≠ []) (h : ∀ x ∈ Zpk ops rem, HO P n ops (Z9 P n ops Q x.1.1 Ss x.2) [x.1.2] ρ L) : HD P n ops Q Ss rem ρ L := fun hS l hu => by
 obtain ⟨x0, hx0⟩ := List.exists_mem_of_ne_nil _ h0
 have hx1 := List.mem_filter.1 hx0
 have mem_of : ∀ {rem : List (Nat × Oper)} {x : (Nat × Oper) × List (Nat × Oper)}, x ∈ Zim rem → x.1 ∈ rem := by
  intro rem
  induction rem with
  | nil => intro x hx; cases hx
  | cons y r ih =>
   intro x hx
   rcases List.mem_cons.1 hx with rfl | hx
   ·exact .head _
   ·obtain ⟨z, hz, rfl⟩ := List.mem_map.1 hx
    have h8 := ih hz
    exact .tail _ h8
 have hne : rem.length ≠ 0 := fun e => by
  rw [List.eq_nil_of_length_eq_zero e] at hx1
  cases hx1.1
 obtain ⟨m, hm⟩ := Nat.exists_eq_succ_of_ne_zero hne
 rw [hm]
 have hrd := hu.ready (show (x0.1.1, x0.1.2) ∈ rem from mem_of hx1.1) hx1.2
 refine ⟨fun h0 => (by rw [h0] at hrd; cases hrd), fun j hj => ?_⟩
 obtain ⟨o, hmj, hrj⟩ := hu.readyR_of hj
 obtain ⟨a, b, rfl⟩ := List.append_of_mem hmj
 have hx : ((j, o), a ++ b) ∈ Zpk ops (a ++ (j, o) :: b) := List.mem_filter.2 ⟨Zfe, hrj⟩
 have h9 := h _ hx
 simp only at h9
 have hlen : m = (a ++ b).length := by simp at hm ⊢; omega
 subst hlen
 obtain ⟨h1, h2⟩ := (hu.iff j o).1 hmj
 intro kk w ac hs ha
 have h3 := h9 kk w ac hs ha
 unfold wpList at h3
 have hnorm : ∀ e a1 w1, post kk n (Z9 P n ops Q j Ss (a ++ b)) e a1 w1 → e = .normal := fun e a1 w1 hx => by
  obtain ⟨_, _, _, _, hx⟩ := hx
  cases e <;> first | rfl | exact hx.elim
 have fin : ∀ a1 w1, wpList P ops.toArray (post kk n (Z9 P n ops Q j Ss (a ++ b))) [] a1 w1 → ∃ ρ' L', Agr n a1 ρ' ∧ Sat kk w1 L' ∧ Zi4 ops j L' Ss ∧ HAny P n ops Q (a ++ b).length (ssF ops j Ss) (l.setIfInBounds j true) ρ' L' := fun a1 w1 hx => by
  obtain ⟨ρ', L', e1, e2, e3, e4⟩ := hx
  refine ⟨ρ', L', e1, e2, e3, e4 (fun s hs => ?_) _ hu.drop⟩
  have := List.mem_filter.1 hs
  exact ssOk_all.1 e3 s this.1 this.2
 unfold wpOp
 rw [show ops.toArray[j]? = some o by simpa using h1]
 simp only
 split
 ·rename_i hw
  rw [if_pos hw] at h3
  rcases h3 with h3 | ⟨_, a1, w1, h3⟩
  ·exact .inl (Oper.wp_mono fin (Zcq hnorm h3))
  ·cases hnorm _ _ _ h3
 ·rename_i hw
  rw [if_neg hw] at h3
  exact fin _ _ h3
theorem Znh {Ss : List (Nat × Zn)} {rem r1 r2 : List (Nat × Oper)} {i j : Nat} {o p : Oper} (h1 : HO P n ops (Z9 P n ops Q i Ss r1) [o] ρ L) (h2 : HO P n ops (Z9 P n ops Q j Ss r2) [p] ρ L) (hn : Zpk ops rem = [((i, o), r1), ((j, p), r2)] := by exact rfl) : HD P n ops Q Ss rem ρ L := by
 refine hd_all (by rw [hn]; simp) fun x hx => ?_
 rw [hn] at hx
 rcases List.mem_cons.1 hx with rfl | hx
 ·exact h1
 ·rcases List.mem_cons.1 hx with rfl | hx
  ·exact h2
  ·cases hx
end c
end Go.HL
end

/-! HLSl -/
section
namespace Go.HL
open Go
set_option linter.unusedVariables false
set_option linter.unusedSimpArgs false
theorem Zru (vs : List Value) : ∀ (pre old post : List Value), old.length = vs.length → Ua (pre ++ old ++ post) pre.length vs = pre ++ vs ++ post := by
 intro pre
 induction pre with
 | nil => intro old post h; simpa using Zcb vs old post h
 | cons x r ih => intro old post h; simp only [List.cons_append, List.length_cons, Qx, ih old post h]
theorem Zff {l vs : List Value} {i : Nat} (h : i + vs.length ≤ l.length) : Zp l i vs (l.take i ++ vs ++ l.drop (i + vs.length)) := by
 refine ⟨?_, h⟩
 have hl : l = l.take i ++ (l.drop i).take vs.length ++ l.drop (i + vs.length) := by
  rw [List.append_assoc, ← List.drop_drop, List.take_append_drop, List.take_append_drop]
 have e : (l.take i).length = i := by simp; omega
 have := Zru vs (l.take i) ((l.drop i).take vs.length) (l.drop (i + vs.length)) (by simp; omega)
 rw [← hl, e] at this
 exact this.symm
theorem Znf (pre new rest : List Value) : Gets (pre ++ new ++ rest) pre.length new := fun j v h => by
 have hlt : j < new.length := (List.getElem?_eq_some_iff.1 h).1
 rw [List.append_assoc, List.getElem?_append_right (by omega), Nat.add_sub_cancel_left, List.getElem?_append_left hlt]
 exact h
section q
variable {P : Program} (S : Tab P) {n : Nat} {ops : List Oper} {Q : Exit → Zq → Zb → Prop} {rest : List Oper} {ρ : Zq} {L : Zb} {ty : TypeId} {pos : String} {af : Array Edge}
theorem qS3 {d : Option Tmp} {g : Option (Nat × Bool)} {t E y0 s0 b0 k1 x1 y1 sz b1 len cap : Nat} {a : Option Addr} {x y z u : Operand} {k k2 k3 : IntKind} {l hh m : Int} (h00 : Y9 ρ = true := by exact rfl) (hx : ev ρ x = some (.slice a len cap) := by exact rfl) (hy : ev ρ y = some (.int k l) := by exact rfl) (hz : ev ρ z = some (.int k2 hh) := by exact rfl) (hu : ev ρ u = some (.int k3 m) := by exact rfl)
  (ht : Zt S.ty t = some ⟨5, E, y0, s0, b0⟩ := by exact rfl) (he : Zt S.ty E = some ⟨k1, x1, y1, sz, b1⟩ := by exact rfl) (h : 0 ≤ l ∧ l ≤ hh ∧ hh ≤ m ∧ m ≤ cap := by first | assumption | omega) :
  QOp P ⟨d, .slice t x (some y) (some z) (some u), ty, pos, af, g⟩ ρ L (.slice (cut a m.toNat l.toNat sz) (hh.toNat - l.toNat) (m.toNat - l.toNat)) :=
 Ye fun ρe he' kc w hs => by
  have hsl := Ya (S.tyI ht) rfl
  have hsize : (sizeOf E).run P w = .ok sz w := Y7 (S.tyI he) w
  have e1 := he' x (by simp [Op.operands]) _ hx
  have e2 := he' y (by simp [Op.operands]) _ hy
  have e3 := he' z (by simp [Op.operands]) _ hz
  have e4 := he' u (by simp [Op.operands]) _ hu
  have h1 : (0 : Int) ≤ hh := by omega
  have h2 : (0 : Int) ≤ m := by omega
  have h3 : hh ≤ (m.toNat : Int) := by omega
  have h4 : l ≤ (hh.toNat : Int) := by omega
  have hat : (Instr.sliceAt t (.slice a len cap) (some (.int k l)) (some (.int k2 hh)) (some (.int k3 m))).run P w = .ok (.slice (cut a m.toNat l.toNat sz) (hh.toNat - l.toNat) (m.toNat - l.toNat)) w := by
   unfold Instr.sliceAt
   simp only [Sem.run_bind, run_underlying hsl, Result.andThen_ok]
   unfold Instr.slice
   have g1 : (0 : Int) ≤ m ∧ m ≤ (cap : Int) := ⟨h2, h.2.2.2⟩
   have g2 : (0 : Int) ≤ hh ∧ hh ≤ (m.toNat : Int) := ⟨h1, h3⟩
   have g3 : (0 : Int) ≤ l ∧ l ≤ (hh.toNat : Int) := ⟨h.1, h4⟩
   simp only [Sem.run_bind, run_underlying hsl, Result.andThen_ok, Instr.sliceBounds, Instr.sliceBound, asIntOf, Sem.run_pure, if_pos g1, if_pos g2, if_pos g3, hsize, cut, Option.isSome, if_true]
  simp [execOp, e1, e2, e3, e4, hat]
theorem qCap {d : Option Tmp} {g : Option (Nat × Bool)} {t : Nat} {ti : TyI} {x : Operand} {a : Option Addr} {len cap : Nat} (h00 : Y9 ρ = true := by exact rfl) (hx : ev ρ x = some (.slice a len cap) := by exact rfl) (ht : Zt S.ty t = some ti := by exact rfl) (h5 : ti.kind = 5 := by exact rfl) :
  QOp P ⟨d, .call { callee := .builtin .cap, args := #[x], argTypes := #[t] }, ty, pos, af, g⟩ ρ L (iv cap) :=
 Ye fun ρe he k w hs => by
  have h1 := Ya (S.tyI ht) h5
  simp [execOp, resolve, invoke, builtin, he x (by simp [Op.operands, Call.operands]) _ hx, Builtin.cap_, run_underlying h1, goInt]
theorem Znb {d t E y0 s0 b0 k1 x1 y1 sz by1 m nn b cap : Nat} {u : Value} {l new : List Value} {x y : Operand}
  (hx : ev ρ x = some (sl b 0 nn cap)) (hy : ev ρ y = some u) (ht : Zt S.ty t = some ⟨5, E, y0, s0, b0⟩) (he : Zt S.ty E = some ⟨k1, x1, y1, sz, by1⟩)
  (hn : Nat.blt d n = true) (hs : Src sz ([(b, .cells ⟨l⟩ E)] :: L) u m new) (h1 : (new.all Value.oneCell') = true) (hroom : nn + m ≤ cap) (hlen : l.length = cap * sz)
  (h : HO P n ops Q rest ((d, sl b 0 (nn + m) cap) :: ρ) ([(b, .cells ⟨l.take (nn * sz) ++ new ++ l.drop (nn * sz + new.length)⟩ E)] :: L)) :
  HO P n ops Q (⟨some d, .call { callee := .builtin .append, args := #[x, y], argTypes := #[t, t] }, ty, pos, af, none⟩ :: rest) ρ ([(b, .cells ⟨l⟩ E)] :: L) := by
 refine Vh rfl rfl hn fun ρe he' k w hsat => ?_
 have hdesc := Ya (S.tyI ht) rfl
 obtain ⟨de, i, hde, hi, -, hisz, hiby⟩ := Xf (S.tyI he)
 simp only at hisz hiby
 have hsize : (sizeOf E).run P w = .ok sz w := Y7 (S.tyI he) w
 have hone : ∀ u ∈ new, u.oneCell' = true := fun u hu => List.all_eq_true.1 h1 u hu
 have e1 := he' x (by simp [Op.operands, Call.operands]) _ hx
 have e2 := he' y (by simp [Op.operands, Call.operands]) _ hy
 have hb' : w.heap[b]? = some (.cells ⟨l⟩ E) := hsat.heap Zh
 suffices ∃ w', (Builtin.append_ #[t, t] ty #[sl b 0 nn cap, u]).run P w = .ok (sl b 0 (nn + m) cap) w' ∧ Sat k w' ([(b, .cells ⟨l.take (nn * sz) ++ new ++ l.drop (nn * sz + new.length)⟩ E)] :: L) by
  obtain ⟨w', hr, hs'⟩ := this
  refine ⟨_, w', _, ?_, hs', h⟩
  simp [execOp, resolve, invoke, builtin, e1, e2, hr]
 rcases hs with ⟨a, cap', rfl, rfl, rfl⟩ | ⟨b2, j, cap', l2, F, fr, hm, rfl, hb, hg, hlen2⟩
 ·refine ⟨w, ?_, by simpa using hsat⟩
  have : nn ≤ cap := by omega
  cases a <;> simp [Builtin.append_, run_underlying hdesc, hsize, Builtin.lenOf, Builtin.firstCells, loadCells, loadCellsFrom, this, storeCells]
 ·have hnews : ∀ (q : Nat) (v : Value), new[q]? = some v → w.cell? ((Addr.mk b2 j none).add q) = some v := fun q v hq => by
   rw [Xy, hsat.cell hb]; exact hg q v hq
  have hsplit : nn * sz + new.length ≤ l.length := by
   rw [hlen2, hlen, ← Nat.add_mul]
   exact Nat.mul_le_mul_right _ hroom
  have hr := run_append_room (P := P) w t ty E i hdesc hi b nn cap ⟨l⟩ hb' ⟨b2, j, none⟩ m cap' new (by rw [hisz]; exact hlen2) hnews hone hroom (by rw [hisz]; simpa using hsplit)
  rw [hisz] at hr
  refine ⟨_, hr, hsat.upd (o := .cells ⟨l⟩ E) (o' := .cells ⟨l.take (nn * sz) ++ new ++ l.drop (nn * sz + new.length)⟩ E) Xo rfl rfl rfl (setRow_heap w b _ _ E _ hb') (fun q hq => ?_)⟩
  simp only [World.setRow, Array.getElem?_modify]
  rw [if_neg (fun e => hq e.symm)]
theorem Zg5 (zs : List Value) (m : Nat) (h : (zs.all Value.oneCell') = true) : ∀ v ∈ (List.replicate m zs).flatten, v.oneCell' = true := by
 intro v hv
 obtain ⟨l, hl, hv⟩ := List.mem_flatten.1 hv
 rw [List.eq_of_mem_replicate hl] at hv
 exact List.all_eq_true.1 h v hv
theorem Vb (zs : List Value) (m : Nat) : (Builtin.zeroCells ⟨zs⟩ m).toList = (List.replicate m zs).flatten := by
 have := V5 zs m
 have e : Builtin.zeroCells ⟨zs⟩ m = madeCells ⟨zs⟩ (m * zs.length) := rfl
 rw [e, this]
theorem o_clear {t E y0 s0 b0 b i m cap : Nat} {z : Value} {zs l : List Value} {x : Operand} {L' : Zb} (hx : ev ρ x = some (sl b i m cap)) (ht : Zt S.ty t = some ⟨5, E, y0, s0, b0⟩) (hz : Zt S.zr E = some z) (hzs : z.cells = ⟨zs⟩) (h1 : (zs.all Value.oneCell') = true)
  (hfit : i + m * zs.length ≤ l.length) (hu : Upd L b (.cells ⟨l⟩ E) (.cells ⟨l.take i ++ (List.replicate m zs).flatten ++ l.drop (i + m * zs.length)⟩ E) L')
  (h : HO P n ops Q rest ρ L') :
  HO P n ops Q (⟨none, .call { callee := .builtin .clear, args := #[x], argTypes := #[t] }, ty, pos, af, none⟩ :: rest) ρ L := by
 refine Zou rfl rfl fun ρe he k w hs => ?_
 have hdesc := Ya (S.tyI ht) rfl
 have hzero := Vm (S.zeroI hz) w
 have e1 := he x (by simp [Op.operands, Call.operands]) _ hx
 have hfl : ((List.replicate m zs).flatten).length = m * zs.length := by simp [List.length_flatten, List.map_replicate, List.sum_replicate_nat]
 have hp : Zp l i (List.replicate m zs).flatten (l.take i ++ (List.replicate m zs).flatten ++ l.drop (i + m * zs.length)) := by
  have := Zff (l := l) (i := i) (vs := (List.replicate m zs).flatten) (by rw [hfl]; exact hfit)
  rw [hfl] at this
  exact this
 obtain ⟨hp1, hp2⟩ := hp
 obtain ⟨w', e3, e4, e5, et, e6, e7⟩ := Qh (P := P) (k := k) ((List.replicate m zs).flatten) i 0 l w (hs.heap hu.has) rfl (by simpa using hp2) (Zg5 zs m h1)
 by_cases hm : m = 0
 ·subst hm
  refine ⟨w, L', .inr ⟨.tuple #[], ?_⟩, ?_, h⟩
  ·simp [execOp, resolve, invoke, builtin, e1, Builtin.clear_, run_underlying hdesc]
  ·refine hs.upd hu rfl rfl rfl ?_ (fun _ _ => rfl)
   simpa using hs.heap hu.has
 ·refine ⟨w', L', .inr ⟨.tuple #[], ?_⟩, hs.upd hu e4 e5 et (by rw [e6, hp1, Nat.add_zero]) e7, h⟩
  ·obtain ⟨m', rfl⟩ : ∃ m', m = m' + 1 := ⟨m - 1, by omega⟩
   have hr : (Builtin.clear_ #[t] ty #[sl b i (m' + 1) cap]).run P w = .ok (.tuple #[]) w' := by
    simp only [Builtin.clear_]
    simp only [List.getElem?_toArray, List.getElem?_cons_zero, Sem.run_bind, run_underlying hdesc, Result.andThen_ok]
    simp only [hzero, Result.andThen_ok, hzs, Vb, e3, Sem.run_pure, Sem.run_bind]
   simp [execOp, resolve, invoke, builtin, e1, hr]
theorem Zek {d t t2 E y0 s0 b0 k1 x1 y1 sz by1 b i len cap ns cap2 k0 : Nat} {a : Option Addr} {l new : List Value} {x y : Operand} {L' : Zb} (hx : ev ρ x = some (sl b i len cap)) (hy : ev ρ y = some (.slice a ns cap2)) (ht : Zt S.ty t = some ⟨5, E, y0, s0, b0⟩) (he : Zt S.ty E = some ⟨k1, x1, y1, sz, by1⟩) (hn : Nat.blt d n = true)
  (hk : k0 = Nat.min ns len) (hlen : new.length = k0 * sz) (h1 : (new.all Value.oneCell') = true) (hs : k0 = 0 ∨ ∃ b2 j l2 F fr, a = some ⟨b2, j, none⟩ ∧ Has L b2 (.cells ⟨l2⟩ F fr) ∧ Gets l2 j new)
  (hfit : i + new.length ≤ l.length) (hu : Upd L b (.cells ⟨l⟩ E) (.cells ⟨l.take i ++ new ++ l.drop (i + new.length)⟩ E) L')
  (h : HO P n ops Q rest ((d, iv k0) :: ρ) L') :
  HO P n ops Q (⟨some d, .call { callee := .builtin .copy, args := #[x, y], argTypes := #[t, t2] }, ty, pos, af, none⟩ :: rest) ρ L :=
 Vh rfl rfl hn fun ρe he' kc w hsat => by
  have hdesc := Ya (S.tyI ht) rfl
  have hsize : (sizeOf E).run P w = .ok sz w := Y7 (S.tyI he) w
  have e1 := he' x (by simp [Op.operands, Call.operands]) _ hx
  have e2 := he' y (by simp [Op.operands, Call.operands]) _ hy
  obtain ⟨hp1, hp2⟩ := Zff (l := l) (i := i) (vs := new) hfit
  obtain ⟨w', e3, e4, e5, et, e6, e7⟩ := Qh (P := P) (k := kc) new i 0 l w (hsat.heap hu.has) rfl (by simpa using hp2) (fun v hv => List.all_eq_true.1 h1 v hv)
  have hcells : (Builtin.firstCells sz k0 (.slice a ns cap2)).run P w = .ok ⟨new⟩ w := by
   rcases hs with h0 | ⟨b2, j, l2, F, fr, rfl, hb, hg⟩
   ·subst h0
    have : new = [] := List.eq_nil_of_length_eq_zero (by simpa using hlen)
    subst this
    cases a <;> simp [Builtin.firstCells, loadCells, loadCellsFrom]
   ·have hnews : ∀ (q : Nat) (v : Value), new[q]? = some v → w.cell? ((Addr.mk b2 j none).add q) = some v := fun q v hq => by
     rw [Xy, hsat.cell hb]; exact hg q v hq
    have := run_firstCells_some (P := P) w sz k0 ⟨b2, j, none⟩ ns cap2 new hlen hnews
    simpa using this
  refine ⟨_, w', L', ?_, hsat.upd hu e4 e5 et (by rw [e6, hp1, Nat.add_zero]) e7, h⟩
  have hr : (Builtin.copy_ #[t, t2] ty #[sl b i len cap, .slice a ns cap2]).run P w = .ok (iv k0) w' := by
   simp only [Builtin.copy_]
   simp only [List.getElem?_toArray, List.getElem?_cons_zero, List.getElem?_cons_succ, Sem.run_bind, run_underlying hdesc, Result.andThen_ok]
   simp only [Builtin.lenOf, Sem.run_pure, Result.andThen_ok, hsize, ← hk, hcells, e3, goInt]
  simp [execOp, resolve, invoke, builtin, e1, e2, hr]
theorem o_build0 {d t E y0 s0 b0 k1 x1 y1 sz by1 : Nat} (ht : Zt S.ty t = some ⟨5, E, y0, s0, b0⟩) (he : Zt S.ty E = some ⟨k1, x1, y1, sz, by1⟩) (hn : Nat.blt d n = true)
  (h : ∀ b, HO P n ops Q rest ((d, sl b 0 0 0) :: ρ) ([(b, .cells ⟨[]⟩ E)] :: L)) : HO P n ops Q (⟨some d, .buildSlice t 0 #[], ty, pos, af, none⟩ :: rest) ρ L := by
 refine Vh rfl rfl hn fun ρe he' k w hs => ⟨sl w.heap.size 0 0 0, w.alloc (.cells ⟨[]⟩ E), _, ?_, hs.new _, h _⟩
 have hdesc := Ya (S.tyI ht) rfl
 have hsize : (sizeOf E).run P w = .ok sz w := Y7 (S.tyI he) w
 have hbs : (Instr.buildSlice t 0 #[]).run P w = .ok (sl w.heap.size 0 0 0) (w.alloc (.cells ⟨[]⟩ E)) := by
  simp only [Instr.buildSlice]
  have e0 : Array.range 0 = #[] := rfl
  simp [run_underlying hdesc, hsize, Instr.fill, newRow, e0]
 simp [execOp, hbs]
theorem Znm {d t t2 E y0 s0 b0 k1 x1 y1 sz by1 nn m b cap : Nat} {ti2 : TyI} {z : Value} {zs l : List Value} {x y : Operand}
  (hx : ev ρ x = some (sl b 0 nn cap)) (hy : ev ρ y = some (iv m)) (ht : Zt S.ty t = some ⟨5, E, y0, s0, b0⟩) (he : Zt S.ty E = some ⟨k1, x1, y1, sz, by1⟩) (ht2 : Zt S.ty t2 = some ti2) (hi2 : ti2.kind = 2) (hu2 : ti2.x = 3) (hz : Zt S.zr E = some z) (hzs : z.cells = ⟨zs⟩) (hzl : zs.length = sz)
  (hn : Nat.blt d n = true) (hb : Has L b (.cells ⟨l⟩ E)) (hnn : nn * sz ≤ l.length) (hgrow : cap < nn + m) (hby : (nn + m) * by1 ≤ 140737488355328) (hmax : nn + m ≤ 9223372036854775807)
  (h : ∀ b' cap', nn + m ≤ cap' → HO P n ops Q rest ((d, sl b' 0 (nn + m) cap') :: ρ) ([(b', .cells ⟨l.take (nn * sz) ++ (List.replicate (cap' - nn) zs).flatten⟩ E)] :: L)) :
  HO P n ops Q (⟨some d, .call { callee := .builtin .append, args := #[x, y], argTypes := #[t, t2] }, ty, pos, af, none⟩ :: rest) ρ L := by
 refine Vh rfl rfl hn fun ρe he' k w hsat => ?_
 have hdesc := Ya (S.tyI ht) rfl
 have hint : P.underlying t2 = some (.int .i64) := by
  obtain ⟨a1, a2, a3, a4, a5⟩ := ti2
  subst hi2; subst hu2
  exact Zc2 (S.tyI ht2) rfl
 obtain ⟨de, i, hde, hi, -, hisz, hiby⟩ := Xf (S.tyI he)
 simp only at hisz hiby
 have hiz : i.zero = some z := by
  have := S.zeroI hz
  unfold zeroI at this
  simpa [hi] using this
 have e1 := he' x (by simp [Op.operands, Call.operands]) _ hx
 have e2 := he' y (by simp [Op.operands, Call.operands]) _ hy
 have hcap := Zav w (nn + m) cap E
 have holds : ∀ (q : Nat) (v : Value), (l.take (nn * sz))[q]? = some v → w.cell? ((Addr.mk b 0 none).add q) = some v := fun q v hq => by
  rw [Xy, hsat.cell hb, Nat.zero_add]
  rw [List.getElem?_take] at hq
  split at hq
  ·exact hq
  ·cases hq
 have hfo := run_firstCells_some (P := P) w.drew sz nn ⟨b, 0, none⟩ nn cap (l.take (nn * sz)) (by simp; omega) (by simpa using holds)
 have hm1 : IntKind.i64.wrap (m : Int) = m := Za1 (by omega)
 have hm2 : ¬ ((m : Int) < 0) := by omega
 have hfit : ¬ (281474976710656 < Builtin.nextslicecap (nn + m) cap * i.bytes) := by
  rw [hiby]
  have := growslice_fits (need := nn + m) (old := cap) (by omega) hby
  omega
 have hmby : ¬ (281474976710656 < (m : Int) * (i.bytes : Int)) := by
  rw [hiby]
  have : m * by1 ≤ (nn + m) * by1 := Nat.mul_le_mul_right _ (by omega)
  have h3 : ((m * by1 : Nat) : Int) = (m : Int) * (by1 : Int) := by push_cast; rfl
  omega
 have hn2 : ¬ (nn + m ≤ cap) := by omega
 have h63 : ¬ (9223372036854775807 < ((nn : Int) + (m : Int))) := by omega
 have hnew : (Builtin.zeroCells ⟨zs⟩ m).toList ++ (Builtin.zeroCells ⟨zs⟩ (grownCap w (nn + m) cap E - (nn + m))).toList = (List.replicate (grownCap w (nn + m) cap E - nn) zs).flatten := by
  rw [Vb, Vb, ← List.flatten_append, List.replicate_append_replicate]
  congr 2
  omega
 refine ⟨sl w.heap.size 0 (nn + m) (grownCap w (nn + m) cap E), w.drew.alloc (.cells ⟨l.take (nn * sz) ++ (List.replicate (grownCap w (nn + m) cap E - nn) zs).flatten⟩ E), _, ?_, hsat.drew.new _, h _ _ hcap⟩
 have hm0 : m * sz = 0 → (Builtin.zeroCells ⟨zs⟩ m) = #[] := fun h0 => by
  apply Array.ext'
  rw [Vb]
  apply List.eq_nil_of_length_eq_zero
  simp [List.length_flatten, List.map_replicate, List.sum_replicate_nat, hzl, h0]
 have hr : (Builtin.append_ #[t, t2] ty #[sl b 0 nn cap, iv m]).run P w = .ok (sl w.heap.size 0 (nn + m) (grownCap w (nn + m) cap E)) (w.drew.alloc (.cells ⟨l.take (nn * sz) ++ (List.replicate (grownCap w (nn + m) cap E - nn) zs).flatten⟩ E)) := by
  rw [← hnew]
  by_cases h0 : m * i.size = 0
  ·have hz0 := hm0 (by rw [← hisz]; exact h0)
   simp [Builtin.append_, run_underlying hdesc, run_underlying hint, sizeOf, typeInfo, zeroValue, hi, hiz, hn2, h63, hfit, hmby, hm1, hm2, Question.forced, hisz, hfo, newRow, grownCap, asInt, asIntOf, iv, hzs, hisz ▸ h0, hz0]
   congr 2
   apply Array.ext'
   simp [List.append_assoc]
  ·simp [Builtin.append_, run_underlying hdesc, run_underlying hint, sizeOf, typeInfo, zeroValue, hi, hiz, hn2, h63, hfit, hmby, hm1, hm2, Question.forced, hisz, hfo, newRow, grownCap, asInt, asIntOf, iv, hzs, hisz ▸ h0]
   congr 2
   apply Array.ext'
   simp [List.append_assoc]
 simp [execOp, resolve, invoke, builtin, e1, e2, hr]
end q
end Go.HL
end

/-! WoA -/
section
namespace Go.HL
open Go Go.Proofs
set_option linter.unusedVariables false
set_option linter.unusedSimpArgs false
structure Evt where
 site : Int
 deal : Int
 ph : Int
deriving DecidableEq
def ec (e : Evt) : List Value := [iv e.site, iv e.deal, iv e.ph]
theorem Qy (e : Evt) : (ec e).length = 3 := rfl
theorem ec_one (e : Evt) : (ec e).all Value.oneCell' = true := rfl
theorem Zr8 {E sz b : Nat} : Own E sz (sl b 0 0 0) 0 [] [(b, .cells ⟨[]⟩ E)] := .inr ⟨b, 0, [], rfl, rfl, by simp, by omega, by simp⟩
theorem Zha {α : Type} {E sz b : Nat} {enc : α → List Value} : Vec E sz enc (sl b 0 0 0) [] [(b, .cells ⟨[]⟩ E)] := Zr8
set_option maxHeartbeats 2000000 attribute [local irreducible] HW HO HQ HD HC QOp Has Upd Zp Gets Yf Z8 Zr X3 Z9 Zj Wa Zy
theorem Zjc (v : Value) (xs : List Evt) (c : List Zn) (L : Zb) (hv : Vec 114 3 ec v xs c) (hl : xs.length ≤ 100000000) : HC Tryz.prog 115 [v] (c :: L)
  (fun u L' => ∃ c', Vec 114 3 ec u xs c' ∧ L' = c' :: c :: L) := by
 have hv0 := hv
 obtain ⟨a, cap, rfl, hcap, hR⟩ := hv.rd Qy
 rcases hv with ⟨he, h0, h1, rfl⟩ | ⟨b, cap2, sp, he, rfl, hcs, hle, hall⟩
 ·obtain rfl : xs = [] := List.eq_nil_of_length_eq_zero (by assumption)
  obtain ⟨rfl, -, rfl⟩ := Value.slice.inj he
  simp only [List.length_nil] at hv0 ⊢
  refine Za (fun _ _ => Tryz.call115 _ _) Tryz.func115 rfl Tryz.ntmps115 (Nat.le_of_ble_eq_true rfl) ?_; simp only [Ze, Nat.reduceAdd]
  repeat' (first | refine uN ?_ | (refine uB ?_; intro b) | (refine uP ?_ ?_ <;> (intro h; ((try simp only [zs, ne_eq, and_true, true_and, eq_self, reduceCtorEq] at h); try exact zx))) | fail)
  exact Xm (L' := [] :: [] :: L) (LS.of_eq rfl) ⟨[], Yh, rfl⟩
 ·have hpos : b = b := rfl
  obtain ⟨rfl, -, rfl⟩ := Value.slice.inj he
  refine Za (fun _ _ => Tryz.call115 _ _) Tryz.func115 rfl Tryz.ntmps115 (Nat.le_of_ble_eq_true rfl) ?_; simp only [Ze, Nat.reduceAdd]
  repeat' (first | refine uN ?_ | (refine uB ?_; intro b) | (refine uP ?_ ?_ <;> (intro h; ((try simp only [zs, ne_eq, and_true, true_and, eq_self, reduceCtorEq] at h); try exact zx))) | fail)
  refine o_build0 S rfl rfl rfl (fun nb => ?_)
  repeat' (first | refine uN ?_ | (refine uB ?_; intro b) | (refine uP ?_ ?_ <;> (intro h; ((try simp only [zs, ne_eq, and_true, true_and, eq_self, reduceCtorEq] at h); try exact zx))) | fail)
  refine wpA S (ys := xs) Zha (Rd.cons (hR L) _) Qy ec_one ?_ (hby := by simp only [List.length_nil]; omega) (hmax := by simp only [List.length_nil]; omega)
  intro v' c' hv'
  repeat' (first | refine uN ?_ | (refine uB ?_; intro b) | (refine uP ?_ ?_ <;> (intro h; ((try simp only [zs, ne_eq, and_true, true_and, eq_self, reduceCtorEq] at h); try exact zx))) | fail)
  exact Xm (LS.refl _) ⟨c', by simpa using hv', rfl⟩
theorem Zno (v : Value) (xs : List Int) (c : List Zn) (L : Zb) (hv : Vec 3 1 ic v xs c) (hl : xs.length ≤ 100000000) : HC Tryz.prog 31 [v] (c :: L)
  (fun u L' => ∃ c', Vec 3 1 ic u xs c' ∧ L' = c' :: c :: L) := by
 have hv0 := hv
 obtain ⟨a, cap, rfl, hcap, hR⟩ := hv.rd Xl
 rcases hv with ⟨he, h0, h1, rfl⟩ | ⟨b, cap2, sp, he, rfl, hcs, hle, hall⟩
 ·obtain rfl : xs = [] := List.eq_nil_of_length_eq_zero (by assumption)
  obtain ⟨rfl, -, rfl⟩ := Value.slice.inj he
  simp only [List.length_nil] at hv0 ⊢
  refine Za (fun _ _ => Tryz.call31 _ _) Tryz.func31 rfl Tryz.ntmps31 (Nat.le_of_ble_eq_true rfl) ?_; simp only [Ze, Nat.reduceAdd]
  repeat' (first | refine uN ?_ | (refine uB ?_; intro b) | (refine uP ?_ ?_ <;> (intro h; ((try simp only [zs, ne_eq, and_true, true_and, eq_self, reduceCtorEq] at h); try exact zx))) | fail)
  exact Xm (L' := [] :: [] :: L) (LS.of_eq rfl) ⟨[], Yh, rfl⟩
 ·have hpos : b = b := rfl
  obtain ⟨rfl, -, rfl⟩ := Value.slice.inj he
  refine Za (fun _ _ => Tryz.call31 _ _) Tryz.func31 rfl Tryz.ntmps31 (Nat.le_of_ble_eq_true rfl) ?_; simp only [Ze, Nat.reduceAdd]
  repeat' (first | refine uN ?_ | (refine uB ?_; intro b) | (refine uP ?_ ?_ <;> (intro h; ((try simp only [zs, ne_eq, and_true, true_and, eq_self, reduceCtorEq] at h); try exact zx))) | fail)
  refine wpA S (ys := xs) Zha (Rd.cons (hR L) _) Xl Zoa ?_ (hby := by simp only [List.length_nil]; omega) (hmax := by simp only [List.length_nil]; omega)
  intro v' c' hv'
  repeat' (first | refine uN ?_ | (refine uB ?_; intro b) | (refine uP ?_ ?_ <;> (intro h; ((try simp only [zs, ne_eq, and_true, true_and, eq_self, reduceCtorEq] at h); try exact zx))) | fail)
  exact Xm (LS.refl _) ⟨c', by simpa using hv', rfl⟩
def fzero : List Value := [iv 0, iv 0, iv 0, iv 0, iv 0, .bool false, iv 0, iv 0, iv 0]
theorem Zll {α : Type} {enc : α → List Value} {sz : Nat} (hsz : ∀ x, (enc x).length = sz) (xs : List α) (sp : List Value) (i : Nat) (h : i ≤ xs.length) : ((xs.map enc).flatten ++ sp).take (i * sz) = ((xs.take i).map enc).flatten := by
 have e : (xs.map enc).flatten = ((xs.take i).map enc).flatten ++ ((xs.drop i).map enc).flatten := by rw [← List.flatten_append, ← List.map_append, List.take_append_drop]
 rw [e, List.append_assoc]
 exact take_left (by rw [Z6 hsz, List.length_take, Nat.min_eq_left h])
theorem Zc8 {b i cap l sz : Nat} (h : l < cap) : cut (some ⟨b, i, none⟩) cap l sz = some ⟨b, i + l * sz, none⟩ := by
 unfold cut
 rw [if_neg (by omega)]
 simp [Xy]
theorem Zcz (v : Value) (xs : List Fr) (c : List Zn) (i j : Int) (L : Zb) (hv : Xq v xs c) (hl : xs.length ≤ 100000000) (h0 : 0 ≤ i) (h1 : i < xs.length) (hj : j = i + 1) : HC Tryz.prog 100 [v, iv i, iv j] (c :: L)
  (fun u L' => ∃ c', Xq u (xs.eraseIdx i.toNat) c' ∧ L' = c' :: L) := by
 subst hj
 obtain ⟨a, cap, rfl, hcap, hR⟩ := hv.rd Zs
 rcases hv with ⟨he, he0, -, rfl⟩ | ⟨b, cap2, sp, he, rfl, hcs, hle, hall⟩
 ·omega
 obtain ⟨rfl, -, rfl⟩ := Value.slice.inj he
 have hsrc := fun M => Zib (enc := fc) (sz := 9) Zs (cap := cap - (i + 1).toNat) ((hR M).drop (l := (i + 1).toNat) hcap)
 rw [List.length_drop] at hsrc
 have hone := Zb6 (enc := fc) Uz (xs.drop (i + 1).toNat)
 have hcut := Zll Zs xs sp i.toNat (by omega)
 have hlen : ((xs.map fc).flatten ++ sp).length = cap * 9 := hall
 generalize hm : xs.length - (i + 1).toNat = m at hsrc
 have hm2 : i.toNat + m + 1 = xs.length := by omega
 have hnl : (((xs.drop (i + 1).toNat).map fc).flatten).length = m * 9 := by rw [Z6 Zs, List.length_drop, hm]
 have hE : ((xs.take i.toNat).map fc).flatten ++ ((xs.drop (i + 1).toNat).map fc).flatten = ((xs.eraseIdx i.toNat).map fc).flatten := by
  rw [List.eraseIdx_eq_take_drop_succ, List.map_append, List.flatten_append]
  congr 4
  omega
 have hel : (xs.eraseIdx i.toNat).length = i.toNat + m := by rw [List.length_eraseIdx]; split <;> omega
 refine Za (fun _ _ => Tryz.call100 _ _) Tryz.func100 rfl Tryz.ntmps100 (Nat.le_of_ble_eq_true rfl) ?_; simp only [Ze, Nat.reduceAdd]
 repeat' (first | refine uN ?_ | refine Z0 S ?_ | (refine uP ?_ ?_ <;> (intro h; ((try simp only [zs, ne_eq, and_true, true_and, eq_self, reduceCtorEq] at h); try exact zx))) | refine da 101 ?_ | fail)
 refine Vk (qS3 S) ?_
 repeat' (first | refine uN ?_ | refine Z0 S ?_ | (refine uP ?_ ?_ <;> (intro h; ((try simp only [zs, ne_eq, and_true, true_and, eq_self, reduceCtorEq] at h); try exact zx))) | refine da 101 ?_ | fail)
 have e1 : xs.length - (i + 1).toNat = m := hm
 rw [e1]
 refine Znb S rfl rfl rfl rfl rfl (hsrc L) hone (by omega) hlen ?_
 rw [hcut, hE]
 generalize hsp : List.drop (i.toNat * 9 + (((xs.drop (i + 1).toNat).map fc).flatten).length) ((xs.map fc).flatten ++ sp) = spa
 have hsl : spa.length = (cap - (i.toNat + m)) * 9 := by rw [← hsp, List.length_drop, hlen, hnl]; omega
 repeat' (first | refine uN ?_ | refine Z0 S ?_ | (refine uP ?_ ?_ <;> (intro h; ((try simp only [zs, ne_eq, and_true, true_and, eq_self, reduceCtorEq] at h); try exact zx))) | refine da 101 ?_ | fail)
 have e2 : cut (some ⟨b, 0, none⟩) cap (((i.toNat + m : Nat) : Int)).toNat 9 = some ⟨b, (i.toNat + m) * 9, none⟩ := by rw [Int.toNat_natCast]; simpa using Zc8 (b := b) (i := 0) (cap := cap) (l := i.toNat + m) (sz := 9) (by omega)
 have e3 : ((xs.length : Nat) : Int).toNat - (((i.toNat + m : Nat) : Int)).toNat = 1 := by omega
 have hfl : ((xs.eraseIdx i.toNat).map fc).flatten.length = (i.toNat + m) * 9 := by rw [Z6 Zs, hel]
 have hfit : (i.toNat + m) * 9 + 1 * fzero.length ≤ (((xs.eraseIdx i.toNat).map fc).flatten ++ spa).length := by
  rw [List.length_append, hfl, hsl]
  show _ + 1 * 9 ≤ _
  omega
 refine o_clear S (b := b) (i := (i.toNat + m) * 9) (m := 1) (cap := cap - (((i.toNat + m : Nat) : Int)).toNat) (zs := fzero) ?_ rfl rfl rfl rfl hfit Xo ?_
 ·show some (Value.slice (cut _ _ _ 9) _ _) = _
  rw [e2, e3]
 have e4 : (((xs.eraseIdx i.toNat).map fc).flatten ++ spa).take ((i.toNat + m) * 9) = ((xs.eraseIdx i.toNat).map fc).flatten := take_left hfl
 rw [e4]
 generalize hsp2 : List.drop ((i.toNat + m) * 9 + 1 * fzero.length) (((xs.eraseIdx i.toNat).map fc).flatten ++ spa) = spb
 have hs2 : spb.length + 9 = (cap - (i.toNat + m)) * 9 := by
  rw [← hsp2, List.length_drop, List.length_append, hfl, hsl]
  show _ - (_ + 1 * 9) + 9 = _
  omega
 repeat' (first | refine uN ?_ | refine Z0 S ?_ | (refine uP ?_ ?_ <;> (intro h; ((try simp only [zs, ne_eq, and_true, true_and, eq_self, reduceCtorEq] at h); try exact zx))) | refine da 101 ?_ | fail)
 have hfz : ((List.replicate 1 fzero).flatten).length = 9 := rfl
 refine Xm (LS.refl _) ⟨_, .inr ⟨b, cap, (List.replicate 1 fzero).flatten ++ spb, by rw [hel], by rw [List.append_assoc], by rw [hfl, hel], by omega, ?_⟩, rfl⟩
 rw [List.length_append, List.length_append, hfl, hfz]
 omega
theorem Zm5 {ρ : Zq} {L : Zb} {d : Option Tmp} {g : Option (Nat × Bool)} {ty : TypeId} {pos : String} {af : Array Edge} {x y : Operand} {la ca lb cb a b i : Nat} {l l2 : List Value} {ts : Array TypeId} (hx : ev ρ x = some (sl a 0 la ca)) (hy : ev ρ y = some (sl b i lb cb)) (ha : Has L a (.cells ⟨l⟩ 158 (0, 0))) (hb : Has L b (.cells ⟨l2⟩ 158 (0, 0))) (hne : a ≠ b) (hl2 : l2.length ≠ 0) :
  QOp Tryz.prog ⟨d, .call { callee := .value (.func 144), args := #[x, y], argTypes := ts }, ty, pos, af, g⟩ ρ L (.bool false) :=
 Ye fun ρe he k w hs => by
  have h1 := hs.heap ha
  have h2 := hs.heap hb
  have e1 := he x (by simp [Op.operands, Call.operands]) _ hx
  have e2 := he y (by simp [Op.operands, Call.operands]) _ hy
  have hT := Ya (S.tyI (t := 84) rfl) rfl
  have hz : ∀ w, (Go.sizeOf 158).run Tryz.prog w = .ok 9 w := fun w => Y7 (S.tyI (t := 158) rfl) w
  have hr : (callFunc 144 #[sl a 0 la ca, sl b i lb cb]).run Tryz.prog w = .ok (.value (.bool false)) w := by
   rw [run_callFunc_extern Tryz.func144 (by kernel_rfl) (by kernel_rfl) (by kernel_rfl) (e := Extern.SlicesOverlaps.overlaps #[84, 84] #[4]) (by kernel_rfl),
    Lib.run_overlaps_apart w 84 4 158 hT 9 hz ⟨a, 0, none⟩ ⟨b, i, none⟩ la ca lb cb hne 158 158 l.length l2.length (by simp [World.shape?, h1]) (by simp [World.shape?, h2]) hl2 (frozen_of_row w a _ ⟨l⟩ _ h1) (frozen_of_row w a _ ⟨l⟩ _ h1)]
   rfl
  have e3 := he (.func 144) (by simp [Op.operands, Call.operands]) (.func (.func 144) #[] #[]) rfl
  simp [execOp, resolve, invoke, Deferred.ofValue, e1, e2, e3, hr]
theorem Zox {xs : List Fr} {e : Fr} {b cap k : Nat} {R : List Value} (hk : k ≤ xs.length) (hc : xs.length + 1 ≤ cap) (hR : R.length + (xs.length + 1) * 9 = cap * 9) :
  Xq (sl b 0 (xs.length + 1) cap) (xs.take k ++ e :: xs.drop k) [(b, .cells ⟨((xs.take k).map fc).flatten ++ fc e ++ ((xs.drop k).map fc).flatten ++ R⟩ 158)] := by
 have hl : (xs.take k ++ e :: xs.drop k).length = xs.length + 1 := by simp; omega
 have hf : (((xs.take k ++ e :: xs.drop k).map fc).flatten) = ((xs.take k).map fc).flatten ++ fc e ++ ((xs.drop k).map fc).flatten := by simp [List.append_assoc]
 refine .inr ⟨b, cap, R, by rw [hl], by rw [hf], by rw [Z6 Zs], by omega, ?_⟩
 rw [List.length_append, Z6 Zs, hl]
 omega
theorem Zi6 (v : Value) (xs : List Fr) (c : List Zn) (i : Int) (e : Fr) (eb : Nat) (L : Zb) (hv : Xq v xs c) (hl : xs.length ≤ 100000000) (h0 : 1 ≤ i) (h1 : i ≤ xs.length) (hne : ∀ b o, (b, o) ∈ c → eb ≠ b) : HC Tryz.prog 103 [v, iv i, sl eb 0 1 1] (c :: [(eb, .cells ⟨fc e⟩ 158)] :: L)
  (fun u L' => ∃ c', Xq u (xs.take i.toNat ++ e :: xs.drop i.toNat) c' ∧ L' = c' :: [(eb, .cells ⟨fc e⟩ 158)] :: L) := by
 have hv0 := hv
 obtain ⟨a, cap, rfl, hcap, hR⟩ := hv.rd Zs
 rcases hv with ⟨he, he0, -, rfl⟩ | ⟨b, cap2, sp, he, rfl, hcs, hle, hall⟩
 ·omega
 obtain ⟨rfl, -, rfl⟩ := Value.slice.inj he
 have hlen : ((xs.map fc).flatten ++ sp).length = cap * 9 := hall
 by_cases hin : i = xs.length
 ·have e9 : xs.take i.toNat ++ e :: xs.drop i.toNat = xs ++ [e] := by
   rw [List.take_of_length_le (by omega), List.drop_of_length_le (by omega)]
  rw [e9]
  refine Za (fun _ _ => Tryz.call103 _ _) Tryz.func103 rfl Tryz.ntmps103 (Nat.le_of_ble_eq_true rfl) ?_; simp only [Ze, Nat.reduceAdd]
  repeat' (first | refine uN ?_ | refine Z0 S ?_ | (refine uP ?_ ?_ <;> (intro h; ((try simp only [zs, ne_eq, and_true, true_and, eq_self, reduceCtorEq] at h); try exact zx))) | refine da 101 ?_ | fail)
  refine wp1 S e hv0 Zs Uz ?_
  intro v' c' hv'
  repeat' (first | refine uN ?_ | refine Z0 S ?_ | (refine uP ?_ ?_ <;> (intro h; ((try simp only [zs, ne_eq, and_true, true_and, eq_self, reduceCtorEq] at h); try exact zx))) | refine da 101 ?_ | fail)
  exact Xm (LS.refl _) ⟨c', hv', rfl⟩
 ·have hne' : eb ≠ b := hne b _ (List.mem_cons_self)
  have hk : i.toNat < xs.length := by omega
  generalize hkk : i.toNat = k at hk ⊢
  have hik : i = k := by omega
  subst hik
  have hA := Zll Zs xs sp k (by omega)
  have hAl : ((xs.take k).map fc).flatten.length = k * 9 := by rw [Z6 Zs, List.length_take, Nat.min_eq_left (by omega)]
  have hFl : ((xs.drop k).map fc).flatten.length = (xs.length - k) * 9 := by rw [Z6 Zs, List.length_drop]
  have hfe : (fc e).length = 9 := rfl
  have hsplit : (xs.map fc).flatten ++ sp = ((xs.take k).map fc).flatten ++ ((xs.drop k).map fc).flatten ++ sp := by rw [← List.flatten_append, ← List.map_append, List.take_append_drop]
  have hF1 := Zb6 (enc := fc) Uz (xs.drop k)
  have hg : Gets ((xs.map fc).flatten ++ sp) (k * 9) ((xs.drop k).map fc).flatten := by
   rw [hsplit, ← hAl]
   exact Znf _ _ _
  by_cases hroom : xs.length + 1 ≤ cap
  ·have c1 : cut (some ⟨b, 0, none⟩) cap (((k : Nat) : Int) + ((1 : Nat) : Int)).toNat 9 = some ⟨b, (k + 1) * 9, none⟩ := by
    rw [show (((k : Nat) : Int) + ((1 : Nat) : Int)).toNat = k + 1 by omega]; simpa using Zc8 (b := b) (i := 0) (cap := cap) (l := k + 1) (sz := 9) (by omega)
   have c2 : cut (some ⟨b, 0, none⟩) cap (((k : Nat) : Int)).toNat 9 = some ⟨b, k * 9, none⟩ := by
    rw [Int.toNat_natCast]; simpa using Zc8 (b := b) (i := 0) (cap := cap) (l := k) (sz := 9) (by omega)
   refine Za (fun _ _ => Tryz.call103 _ _) Tryz.func103 rfl Tryz.ntmps103 (Nat.le_of_ble_eq_true rfl) ?_; simp only [Ze, Nat.reduceAdd]
   repeat' (first | refine uN ?_ | refine Z0 S ?_ | (refine uP ?_ ?_ <;> (intro h; ((try simp only [zs, ne_eq, and_true, true_and, eq_self, reduceCtorEq] at h); try exact zx))) | refine da 101 ?_ | fail)
   refine Vk (qCap S) ?_
   repeat' (first | refine uN ?_ | refine Z0 S ?_ | (refine uP ?_ ?_ <;> (intro h; ((try simp only [zs, ne_eq, and_true, true_and, eq_self, reduceCtorEq] at h); try exact zx))) | refine da 101 ?_ | fail)
   refine Vk (Zm5 rfl (y := .tmp 66) (b := b) (i := (k + 1) * 9) (lb := ((xs.length : Int) + ((1 : Nat) : Int)).toNat - (((k : Nat) : Int) + ((1 : Nat) : Int)).toNat) (cb := cap - (((k : Nat) : Int) + ((1 : Nat) : Int)).toNat) ?_ (Zc Zh) Zh hne' ?_) ?_
   ·show some (Value.slice (cut _ _ _ 9) _ _) = _
    rw [c1]
   ·rw [hlen]; omega
   repeat' (first | refine uN ?_ | refine Z0 S ?_ | (refine uP ?_ ?_ <;> (intro h; ((try simp only [zs, ne_eq, and_true, true_and, eq_self, reduceCtorEq] at h); try exact zx))) | refine da 101 ?_ | fail)
   refine Zek S (b := b) (i := (k + 1) * 9) (len := ((xs.length : Int) + ((1 : Nat) : Int)).toNat - (((k : Nat) : Int) + ((1 : Nat) : Int)).toNat) (cap := cap - (((k : Nat) : Int) + ((1 : Nat) : Int)).toNat) (a := some ⟨b, k * 9, none⟩) (ns := ((xs.length : Int) + ((1 : Nat) : Int)).toNat - (((k : Nat) : Int)).toNat) (cap2 := cap - (((k : Nat) : Int)).toNat) (k0 := xs.length - k) (new := ((xs.drop k).map fc).flatten) ?_ ?_ rfl rfl rfl ?_ hFl hF1 (.inr ⟨b, k * 9, _, _, _, rfl, Zh, hg⟩) ?_ Xo ?_
   ·show some (Value.slice (cut _ _ _ 9) _ _) = _
    rw [c1]
   ·show some (Value.slice (cut _ _ _ 9) _ _) = _
    rw [c2]
   ·show (xs.length - k : Nat) = min _ _; omega
   ·rw [hFl, hlen]; omega
   repeat' (first | refine uN ?_ | refine Z0 S ?_ | (refine uP ?_ ?_ <;> (intro h; ((try simp only [zs, ne_eq, and_true, true_and, eq_self, reduceCtorEq] at h); try exact zx))) | refine da 101 ?_ | fail)
   have hT : ((xs.map fc).flatten ++ sp).take ((k + 1) * 9) = ((xs.take k).map fc).flatten ++ (((xs.map fc).flatten ++ sp).drop (k * 9)).take 9 := by
    rw [← hA, show (k + 1) * 9 = k * 9 + 9 by omega, List.take_add]
   generalize hR2 : ((xs.map fc).flatten ++ sp).drop ((k + 1) * 9 + ((xs.drop k).map fc).flatten.length) = R2
   have hR2l : R2.length + (xs.length + 1) * 9 = cap * 9 := by rw [← hR2, List.length_drop, hlen, hFl]; omega
   generalize hB9 : (((xs.map fc).flatten ++ sp).drop (k * 9)).take 9 = B9 at hT
   have hB9l : B9.length = 9 := by rw [← hB9, List.length_take, List.length_drop, hlen]; omega
   rw [hT]
   refine Zek S (b := b) (i := k * 9) (len := ((xs.length : Int) + ((1 : Nat) : Int)).toNat - (((k : Nat) : Int)).toNat) (cap := cap - (((k : Nat) : Int)).toNat) (a := some ⟨eb, 0, none⟩) (ns := 1) (cap2 := 1) (k0 := 1) (new := fc e) ?_ rfl rfl rfl rfl ?_ rfl rfl (.inr ⟨eb, 0, _, _, _, rfl, Zc Zh, Za2 _⟩) ?_ Xo ?_
   ·show some (Value.slice (cut _ _ _ 9) _ _) = _
    rw [c2]
   ·show (1 : Nat) = min _ _; omega
   ·simp only [List.length_append, hAl, hB9l, hFl, hfe]; omega
   have hfin : (((xs.take k).map fc).flatten ++ B9 ++ ((xs.drop k).map fc).flatten ++ R2).take (k * 9) ++ fc e ++ (((xs.take k).map fc).flatten ++ B9 ++ ((xs.drop k).map fc).flatten ++ R2).drop (k * 9 + (fc e).length) = ((xs.take k).map fc).flatten ++ fc e ++ ((xs.drop k).map fc).flatten ++ R2 := by
    simp only [List.append_assoc]
    rw [take_left hAl, hfe, ← hAl, ← List.drop_drop, List.drop_left, ← hB9l, List.drop_left]
   rw [hfin]
   repeat' (first | refine uN ?_ | refine Z0 S ?_ | (refine uP ?_ ?_ <;> (intro h; ((try simp only [zs, ne_eq, and_true, true_and, eq_self, reduceCtorEq] at h); try exact zx))) | refine da 101 ?_ | fail)
   have hn1 : ((xs.length : Int) + ((1 : Nat) : Int)).toNat = xs.length + 1 := by omega
   rw [hn1]
   exact Xm (LS.refl _) ⟨_, Zox (by omega) hroom hR2l, rfl⟩
  ·refine Za (fun _ _ => Tryz.call103 _ _) Tryz.func103 rfl Tryz.ntmps103 (Nat.le_of_ble_eq_true rfl) ?_; simp only [Ze, Nat.reduceAdd]
   repeat' (first | refine uN ?_ | refine Z0 S ?_ | (refine uP ?_ ?_ <;> (intro h; ((try simp only [zs, ne_eq, and_true, true_and, eq_self, reduceCtorEq] at h); try exact zx))) | refine da 101 ?_ | fail)
   refine Vk (qCap S) ?_
   repeat' (first | refine uN ?_ | refine Z0 S ?_ | (refine uP ?_ ?_ <;> (intro h; ((try simp only [zs, ne_eq, and_true, true_and, eq_self, reduceCtorEq] at h); try exact zx))) | refine da 101 ?_ | fail)
   refine Znm S (m := xs.length + 1 - k) (zs := fzero) (l := (xs.map fc).flatten ++ sp) rfl ?_ rfl rfl rfl rfl rfl rfl rfl rfl rfl Zh ?_ ?_ ?_ ?_ ?_
   ·show some (Value.int .i64 _) = some (Value.int .i64 _)
    congr 2
    omega
   ·rw [hlen]; show (((k : Nat) : Int)).toNat * 9 ≤ _; omega
   ·show _ < (((k : Nat) : Int)).toNat + _; omega
   ·show ((((k : Nat) : Int)).toNat + _) * 72 ≤ _; omega
   ·show (((k : Nat) : Int)).toNat + _ ≤ _; omega
   intro nb cap' hcap'
   repeat' (first | refine uN ?_ | refine Z0 S ?_ | (refine uP ?_ ?_ <;> (intro h; ((try simp only [zs, ne_eq, and_true, true_and, eq_self, reduceCtorEq] at h); try exact zx))) | refine da 101 ?_ | fail)
   have d1 : cut (some ⟨nb, 0, none⟩) cap' (((k : Nat) : Int)).toNat 9 = some ⟨nb, k * 9, none⟩ := by
    rw [Int.toNat_natCast]; simpa using Zc8 (b := nb) (i := 0) (cap := cap') (l := k) (sz := 9) (by omega)
   have d2 : cut (some ⟨nb, 0, none⟩) cap' (((k : Nat) : Int) + ((1 : Nat) : Int)).toNat 9 = some ⟨nb, (k + 1) * 9, none⟩ := by
    rw [show (((k : Nat) : Int) + ((1 : Nat) : Int)).toNat = k + 1 by omega]; simpa using Zc8 (b := nb) (i := 0) (cap := cap') (l := k + 1) (sz := 9) (by omega)
   have c2 : cut (some ⟨b, 0, none⟩) cap (((k : Nat) : Int)).toNat 9 = some ⟨b, k * 9, none⟩ := by
    rw [Int.toNat_natCast]; simpa using Zc8 (b := b) (i := 0) (cap := cap) (l := k) (sz := 9) (by omega)
   have hA' : ((xs.map fc).flatten ++ sp).take ((((k : Nat) : Int)).toNat * 9) = ((xs.take k).map fc).flatten := hA
   rw [hA']
   have hZl : ((List.replicate (cap' - (((k : Nat) : Int)).toNat) fzero).flatten).length = (cap' - k) * 9 := by
    rw [Int.toNat_natCast]
    simp [List.length_flatten, List.map_replicate, List.sum_replicate_nat, fzero]
   generalize (List.replicate (cap' - (((k : Nat) : Int)).toNat) fzero).flatten = Z at hZl
   refine Zek S (b := nb) (i := k * 9) (len := (((k : Nat) : Int)).toNat + (xs.length + 1 - k) - (((k : Nat) : Int)).toNat) (cap := cap' - (((k : Nat) : Int)).toNat) (a := some ⟨eb, 0, none⟩) (ns := 1) (cap2 := 1) (k0 := 1) (new := fc e) ?_ rfl rfl rfl rfl ?_ rfl rfl (.inr ⟨eb, 0, _, _, _, rfl, Zc (Zc Zh), Za2 _⟩) ?_ Xo ?_
   ·show some (Value.slice (cut _ _ _ 9) _ _) = _
    rw [d1]
   ·show (1 : Nat) = min _ _; omega
   ·simp only [List.length_append, hAl, hZl, hfe]; omega
   rw [take_left hAl]
   have hz1 : (((xs.take k).map fc).flatten ++ Z).drop (k * 9 + (fc e).length) = Z.drop 9 := by
    rw [hfe, ← hAl, ← List.drop_drop, List.drop_left]
   rw [hz1]
   have hZ1 : (Z.drop 9).length + (k + 1) * 9 = cap' * 9 := by rw [List.length_drop, hZl]; omega
   generalize Z.drop 9 = Z1 at hZ1
   repeat' (first | refine uN ?_ | refine Z0 S ?_ | (refine uP ?_ ?_ <;> (intro h; ((try simp only [zs, ne_eq, and_true, true_and, eq_self, reduceCtorEq] at h); try exact zx))) | refine da 101 ?_ | fail)
   refine Zek S (b := nb) (i := (k + 1) * 9) (len := (((k : Nat) : Int)).toNat + (xs.length + 1 - k) - (((k : Nat) : Int) + ((1 : Nat) : Int)).toNat) (cap := cap' - (((k : Nat) : Int) + ((1 : Nat) : Int)).toNat) (a := some ⟨b, k * 9, none⟩) (ns := xs.length - (((k : Nat) : Int)).toNat) (cap2 := cap - (((k : Nat) : Int)).toNat) (k0 := xs.length - k) (new := ((xs.drop k).map fc).flatten) ?_ ?_ rfl rfl rfl ?_ hFl hF1 (.inr ⟨b, k * 9, _, _, _, rfl, Zc Zh, hg⟩) ?_ Xo ?_
   ·show some (Value.slice (cut _ _ _ 9) _ _) = _
    rw [d2]
   ·show some (Value.slice (cut _ _ _ 9) _ _) = _
    rw [c2]
   ·show (xs.length - k : Nat) = min _ _; omega
   ·simp only [List.length_append, hAl, hfe, hFl]; omega
   have hAe : (((xs.take k).map fc).flatten ++ fc e).length = (k + 1) * 9 := by rw [List.length_append, hAl, hfe]; omega
   rw [take_left hAe]
   generalize hR2 : (((xs.take k).map fc).flatten ++ fc e ++ Z1).drop ((k + 1) * 9 + ((xs.drop k).map fc).flatten.length) = R2
   have hR2l : R2.length + (xs.length + 1) * 9 = cap' * 9 := by rw [← hR2, List.length_drop, List.length_append, hAe, hFl]; omega
   repeat' (first | refine uN ?_ | refine Z0 S ?_ | (refine uP ?_ ?_ <;> (intro h; ((try simp only [zs, ne_eq, and_true, true_and, eq_self, reduceCtorEq] at h); try exact zx))) | refine da 101 ?_ | fail)
   have hn1 : (((k : Nat) : Int)).toNat + (xs.length + 1 - k) = xs.length + 1 := by omega
   rw [hn1]
   exact Xm (LS.p0 (LS.c (LS.refl _))) ⟨_, Zox (by omega) (by omega) hR2l, rfl⟩
end Go.HL
end

/-! WoB -/
section
namespace Go.HL
open Go Go.Proofs
set_option linter.unusedVariables false
set_option linter.unusedSimpArgs false
def pk (p : Int × Int) : Value := .agg ⟨[iv p.1, iv p.2]⟩
theorem fl_pair : Up Tryz.prog 8 161 = some [2, 2] := by kernel_rfl
theorem Zlq : Zgw Tryz.prog 161 = true := by kernel_rfl
theorem pl_int : Tryz.prog.plainKey 3 = true := by kernel_rfl
theorem Zga : KeyOk (α := Int × Int) Tryz.prog 161 pk := by
 have hu : Tryz.prog.underlying 161 = some (.array 2 3) := by kernel_rfl
 have hi := Zc2 (S.tyI (t := 3) rfl) rfl
 have hz : ∀ w, (Go.sizeOf 3).run Tryz.prog w = .ok 1 w := fun w => Y7 (S.tyI (t := 3) rfl) w
 have heq : ∀ (w : World) (a b : Int × Int), (Op.equal 161 (pk a) (pk b)).run Tryz.prog w = .ok (decide (a = b)) w := fun w a b => by
  have := Zk4 8 9992 161 [2, 2] [iv a.1, iv a.2] [iv b.1, iv b.2] (pk a) (pk b) (decide (a = b)) w fl_pair (.inl ⟨Zlq, rfl⟩) (.inl ⟨Zlq, rfl⟩) (by
   obtain ⟨a1, a2⟩ := a
   obtain ⟨b1, b2⟩ := b
   simp [Zbi, iv, Zj1, Prod.mk.injEq])
  exact this
 refine ⟨fun em w a => ?_, fun w a es l hE => ?_, fun w a => ?_⟩
 ·have hp : ∀ i, i < 2 → ∃ v, (part 3 ⟨[iv a.1, iv a.2]⟩ i).run Tryz.prog w = .ok (iv v) w := fun i h => by
   match i, h with
   | 0, _ => exact ⟨a.1, run_part_plain w pl_int rfl⟩
   | 1, _ => exact ⟨a.2, run_part_plain w pl_int rfl⟩
  have hc : ∀ v : Int, (Instr.checkKey em 9999 3 (iv v)).run Tryz.prog w = .ok () w := fun v => MapKept.run_checkKey hi (by simp only [MapKept.IsKey, iv]; rfl) em 9998
  obtain ⟨v0, h0⟩ := hp 0 (by omega)
  obtain ⟨v1, h1⟩ := hp 1 (by omega)
  show (Instr.checkKey em (9999 + 1) _ _).run _ w = _
  rw [Instr.checkKey]
  simp only [pk, Sem.run_bind, run_underlying hu, Result.andThen_ok]
  simp only [Std.Legacy.Range.forIn_eq_forIn_range', Std.Legacy.Range.size, Nat.sub_zero, Nat.add_one_sub_one, Nat.div_one]
  simp only [List.range', List.forIn_cons, List.forIn_nil, Sem.run_bind, hz, Result.andThen_ok, Nat.zero_mul, Nat.zero_add, Nat.one_mul, Nat.mul_one, h0, h1, hc, Sem.run_pure]
 ·rw [run_findKey_eq w (by rw [hu]) (pk a) es]
  have key : ∀ (es : List MapEntry) (l : List ((Int × Int) × Bool)) (i : Nat), Zbd pk es l → (Instr.findAsking 161 (pk a) es i).run Tryz.prog w = .ok (Vg a l i) w := by
   intro es
   induction es with
   | nil =>
    intro l i h
    cases l with
    | nil => simp [Instr.findAsking, Vg]
    | cons p r => simp [Zbd] at h
   | cons e es ih =>
    intro l i h
    cases l with
    | nil => simp [Zbd] at h
    | cons p r =>
     obtain ⟨x, b⟩ := p
     simp only [Zbd, List.map_cons, List.cons.injEq, Prod.mk.injEq] at h
     obtain ⟨⟨h1, h2⟩, h3⟩ := h
     simp only [Instr.findAsking, h1, Sem.run_bind, heq, Result.andThen_ok, Vg]
     by_cases hax : a = x
     ·subst hax; simp [h2]
     ·simp [hax, ih r (i + 1) h3]
  exact key es l 0 hE
 ·have hs : Instr.sameBits 10000 (pk a) (pk a) = true := by
   show Instr.sameBits (9999 + 1) (.agg _) (.agg _) = true
   rw [Instr.sameBits]
   simp [pk, Instr.sameBits, iv]
  simp [Instr.keyThatStays, hs]
set_option maxRecDepth 100000
section r
variable {n : Nat} {ops : List Oper} {Q : Exit → Zq → Zb → Prop} {rest : List Oper} {ρ : Zq} {L : Zb} {ty : TypeId} {pos : String} {af : Array Edge}
theorem qmP {d : Option Tmp} {g : Option (Nat × Bool)} {r : Nat} {x y : Operand} {es : List MapEntry} {ck : Nat} {f : Int × Int → Bool} {a b : Int} (h00 : Y9 ρ = true := by exact rfl) (hx : ev ρ x = some (.map (some r)) := by exact rfl) (hy : ev ρ y = some (.agg ⟨[iv a, iv b]⟩) := by exact rfl)
  {s0 b0 : Nat} (ht : Zt S.ty 82 = some ⟨8, 161, 4, s0, b0⟩ := by exact rfl) (hz : Zt S.zr 4 = some (.bool false) := by exact rfl) (hb : Has L r (.map ⟨es⟩ ck) := by (repeat (first | assumption | exact Zh | exact Yi (by assumption) | apply Xn | apply Zc))) (hF : Zy pk es f := by assumption) :
  QOp Tryz.prog ⟨d, .lookup 82 x y false, ty, pos, af, g⟩ ρ L (.bool (f (a, b))) := by
 have hy' : ev ρ y = some (pk (a, b)) := hy
 exact q_mapB S (α := Int × Int) (key := pk) (a := (a, b)) Zga hx hy' ht hz hb hF
theorem wmP {r ck : Nat} {x y z : Operand} {es : List MapEntry} {f : Int × Int → Bool} {a b : Int} {v : Bool} (hF : Zy pk es f) (h : ∀ es' ck', Zy pk es' (fun x => if x = (a, b) then v else f x) → HO Tryz.prog n ops Q rest ρ ([(r, .map ⟨es'⟩ ck')] :: L)) (h00 : Y9 ρ = true := by exact rfl) (hx : ev ρ x = some (.map (some r)) := by exact rfl) (hy : ev ρ y = some (.agg ⟨[iv a, iv b]⟩) := by exact rfl) (hzz : ev ρ z = some (.bool v) := by exact rfl) {s0 b0 : Nat} (ht : Zt S.ty 82 = some ⟨8, 161, 4, s0, b0⟩ := by exact rfl) :
  HO Tryz.prog n ops Q (⟨none, .mapUpdate 82 x y z, ty, pos, af, none⟩ :: rest) ρ ([(r, .map ⟨es⟩ ck)] :: L) := by
 have hy' : ev ρ y = some (pk (a, b)) := hy
 exact o_mapB S (α := Int × Int) (key := pk) (a := (a, b)) (b := v) Zga hx hy' hzz ht hF h
end r
end Go.HL
end

/-! PlA -/
section
namespace Go.HL
open Go Go.Proofs
set_option linter.unusedVariables false
set_option linter.unusedSimpArgs false

structure Pl where
 b : List UInt8
 off : Bool
 cut : Int
def Yo (bp ba : Nat) (m : Pl) : List Zn := [(bp, .cells ⟨[sl ba 0 m.b.length m.b.length, .bool m.off, iv m.cut]⟩ 144), (ba, .cells ⟨m.b.map u8⟩ 5)]
def Z2 (n : Nat) : List UInt8 := List.replicate n 0
def Zkn (n : Int) : Option Pl := if 0 ≤ n ∧ n ≤ 512 then some ⟨Z2 n.toNat, false, -1⟩ else none
theorem Zmd (n : Nat) : (Z2 n).map u8 = List.replicate n (.int .u8 0) := by simp [Z2, u8]
theorem Zlr (bp ba : Nat) (m : Pl) (L : Zb) : Rd uc 1 (Yo bp ba m :: L) (some ⟨ba, 0, none⟩) m.b := by
 refine .inr ⟨ba, 0, m.b.map u8, 5, (0, 0), rfl, Xn Zh, fun k x hx => ?_⟩
 have := Wd (enc := uc) (sz := 1) (fun _ => rfl) m.b [] [] k x hx
 simpa [Zov] using this
def Vt (m : Pl) (at_ n : Int) : Option Nat := if at_ < 0 ∨ n < 0 ∨ at_ > m.b.length ∨ n > m.b.length - at_ then some 2 else if m.off then some 6 else none
set_option maxHeartbeats 2000000 attribute [local irreducible] HW HO HQ HD HC QOp Has Upd Zp Gets Yf Z8 Zr X3 Z9 Zj Wa Zy
theorem Zhp (T : Nat) (E : Nat → Addr) (n : Int) (L : Zb) (hG : Er T E [2] L) : HC Tryz.prog 32 [iv n] L (fun v L' => match Zkn n with
  | some m => ∃ bp ba, v = .tuple ⟨[pt bp 0, .nilIface]⟩ ∧ L' = Yo bp ba m :: L
  | none => v = .tuple ⟨[.pointer none, eV T E (some 2)]⟩ ∧ L' = L) := by
 refine Za (fun _ _ => Tryz.call32 _ _) Tryz.func32 rfl Tryz.ntmps32 (Nat.le_of_ble_eq_true rfl) ?_; simp only [Ze, Nat.reduceAdd]
 repeat' (first | refine uN ?_ | refine Yb S ?_ | (refine uB ?_; intro b) | (refine uP ?_ ?_ <;> (intro h; ((try simp only [zs, ne_eq, and_true, true_and, eq_self, reduceCtorEq] at h); try exact zx))) | fail)
 ·refine X4 rfl rfl rfl (List.Sublist.refl _) ?_
  rw [show Zkn n = none from if_neg (by omega)]
  exact ⟨rfl, rfl⟩
 ·refine X4 rfl rfl rfl (List.Sublist.refl _) ?_
  rw [show Zkn n = none from if_neg (by omega)]
  exact ⟨rfl, rfl⟩
 ·rename_i b1
  refine Zbm (L' := Yo b b1 ⟨Z2 n.toNat, false, -1⟩ :: L) ?_ ?_
  ·simp [Yo, Zmd]
   simp [Z2]
  ·rw [show Zkn n = some ⟨Z2 n.toNat, false, -1⟩ from if_pos (by omega)]
   exact ⟨_, _, rfl, rfl⟩
theorem Zfh (T : Nat) (E : Nat → Addr) (bp ba : Nat) (m : Pl) (at_ n : Int) (L : Zb) (hG : Er T E [2, 6] L) (hl : m.b.length ≤ 1000000) : HC Tryz.prog 158 [pt bp 0, iv at_, iv n] (Yo bp ba m :: L) (fun v L' => v = eV T E (Vt m at_ n) ∧ L' = Yo bp ba m :: L) := by
 have hG' := hG.cons (Yo bp ba m)
 refine Za (fun _ _ => Tryz.call158 _ _) Tryz.func158 rfl Tryz.ntmps158 (Nat.le_of_ble_eq_true rfl) ?_; simp only [Ze, Nat.reduceAdd]
 unfold Vt
 repeat' (first | refine uN ?_ | (refine uP ?_ ?_ <;> (intro h; ((try simp only [zs, ne_eq, and_true, true_and, eq_self, reduceCtorEq] at h); try exact zx))) | fail)
 all_goals (refine Ys rfl rfl ?_ ⟨?_, rfl⟩; (next => (repeat (first | exact List.Sublist.refl _ | apply List.Sublist.cons))))
 all_goals first | (rw [if_pos (by omega)]; rfl) | (rw [if_neg (by omega), if_pos (by assumption)]; rfl) | (rw [if_neg (by omega), if_neg (by simp_all)]; rfl)
theorem Zdm (bp ba : Nat) (m : Pl) (L : Zb) : HC Tryz.prog 112 [pt bp 0] (Yo bp ba m :: L) (fun v L' => v = bs m.b ∧ L' = Yo bp ba m :: L) := by
 have hR := Zlr bp ba m L
 refine Za (fun _ _ => Tryz.call112 _ _) Tryz.func112 rfl Tryz.ntmps112 (Nat.le_of_ble_eq_true rfl) ?_; simp only [Ze, Nat.reduceAdd]
 repeat' (first | refine uN ?_)
 (refine Ys rfl rfl ?_ ⟨?_, rfl⟩; (next => (repeat (first | exact List.Sublist.refl _ | apply List.Sublist.cons))))
 rfl
theorem Zdp (bp ba : Nat) (m : Pl) (L : Zb) : HC Tryz.prog 128 [pt bp 0] (Yo bp ba m :: L) (fun v L' => v = .bool (!m.off) ∧ L' = Yo bp ba m :: L) := by
 refine Za (fun _ _ => Tryz.call128 _ _) Tryz.func128 rfl Tryz.ntmps128 (Nat.le_of_ble_eq_true rfl) ?_; simp only [Ze, Nat.reduceAdd]
 repeat' (first | refine uN ?_)
 all_goals (refine Ys rfl rfl ?_ ⟨?_, rfl⟩; (next => (repeat (first | exact List.Sublist.refl _ | apply List.Sublist.cons))))
 all_goals rfl
def X0 (b : List UInt8) (at_ : Nat) (s : List UInt8) : List UInt8 := b.take at_ ++ s ++ b.drop (at_ + s.length)
theorem Ze2 {b : List UInt8} {at_ : Nat} {s : List UInt8} (h : at_ + s.length ≤ b.length) : (X0 b at_ s).length = b.length := by
 simp [X0]; omega
theorem Zb0 (b : List UInt8) (at_ : Nat) : X0 b at_ [] = b := by simp [X0]
theorem Zlh {b : List UInt8} {at_ : Nat} {s : List UInt8} {x : UInt8} (h : at_ + s.length < b.length) : X0 b at_ (s ++ [x]) = (X0 b at_ s).set (at_ + s.length) x := by
 have h1 : (b.take at_ ++ s).length = at_ + s.length := by simp; omega
 have h2 : b.drop (at_ + s.length) = b[at_ + s.length] :: b.drop (at_ + s.length + 1) := List.drop_eq_getElem_cons h
 simp only [X0, List.length_append, List.length_cons, List.length_nil, Nat.zero_add]
 rw [h2, List.set_append_right _ _ (by omega), h1, Nat.sub_self, List.set_cons_zero]
 simp [Nat.add_assoc]
def Un (m : Pl) (at_ n : Int) : List UInt8 × Option Nat := match Vt m at_ n with
 | some e => ([], some e)
 | none => ((m.b.drop at_.toNat).take n.toNat, none)
def kM (m : Pl) (n : Nat) : Nat := if m.cut = -1 then n else min n m.cut.toNat
def Zdk (m : Pl) (at_ : Nat) (s : List UInt8) : Pl × Option Nat :=
 (⟨X0 m.b at_ (s.take (kM m s.length)), m.off || decide (kM m s.length < s.length), if m.cut = -1 then -1 else m.cut - kM m s.length⟩, if kM m s.length < s.length then some 6 else none)
def Xc (m : Pl) (at_ : Int) (s : List UInt8) : Pl × Option Nat := match Vt m at_ s.length with
 | some e => (m, some e)
 | none => Zdk m at_.toNat s
theorem Zf2 (T : Nat) (E : Nat → Addr) (bp ba : Nat) (m : Pl) (at_ n : Int) (L : Zb) (hG : Er T E [2, 6] L) (hl : m.b.length ≤ 1000000) : HC Tryz.prog 129 [pt bp 0, iv at_, iv n] (Yo bp ba m :: L) (fun v L' => v = .tuple ⟨[bs (Un m at_ n).1, eV T E (Un m at_ n).2]⟩ ∧ L' = Yo bp ba m :: L) := by
 have hR := Zlr bp ba m L
 have hk := Zfh T E bp ba m at_ n L hG hl
 refine Za (fun _ _ => Tryz.call129 _ _) Tryz.func129 rfl Tryz.ntmps129 (Nat.le_of_ble_eq_true rfl) ?_; simp only [Ze, Nat.reduceAdd]
 unfold Un
 cases hm : Vt m at_ n with
 | some e =>
  rw [hm] at hk
  repeat' (first | refine uN ?_ | refine uC (hk) ?_ | (refine uP ?_ ?_ <;> (intro h; ((try simp only [zs, ne_eq, and_true, true_and, eq_self, reduceCtorEq] at h); try exact zx))) | fail)
  (refine X4 rfl rfl rfl ?_ ⟨?_, rfl⟩; (next => (repeat (first | exact List.Sublist.refl _ | apply List.Sublist.cons))))
  rfl
 | none =>
  rw [hm] at hk
  have h0 : 0 ≤ at_ ∧ 0 ≤ n ∧ at_ + n ≤ m.b.length := by
   unfold Vt at hm
   split at hm
   ·cases hm
   ·omega
  repeat' (first | refine uN ?_ | refine uC (hk) ?_ | (refine uP ?_ ?_ <;> (intro h; ((try simp only [zs, ne_eq, and_true, true_and, eq_self, reduceCtorEq] at h); try exact zx))) | fail)
  refine Vk (qtx S (l := (m.b.drop at_.toNat).take n.toNat) (Rd.take (hR.drop (Nat.le_refl _))) ?_) ?_
  ·simp; omega
  repeat' (first | refine uN ?_ | (refine uP ?_ ?_ <;> (intro h; ((try simp only [zs, ne_eq, and_true, true_and, eq_self, reduceCtorEq] at h); try exact zx))) | fail)
  (refine X4 rfl rfl rfl ?_ ⟨?_, rfl⟩; (next => (repeat (first | exact List.Sublist.refl _ | apply List.Sublist.cons))))
  rfl
theorem Zq7 (T : Nat) (E : Nat → Addr) (bp ba : Nat) (m : Pl) (n : Int) (L : Zb) (hG : Er T E [2, 6] L) : HC Tryz.prog 104 [pt bp 0, iv n] (Yo bp ba m :: L)
  (fun v L' => if n < 0 then v = eV T E (some 2) ∧ L' = Yo bp ba m :: L else if m.off then v = eV T E (some 6) ∧ L' = Yo bp ba m :: L else v = .nilIface ∧ L' = Yo bp ba { m with cut := n } :: L) := by
 have hG' := hG.cons (Yo bp ba m)
 refine Za (fun _ _ => Tryz.call104 _ _) Tryz.func104 rfl Tryz.ntmps104 (Nat.le_of_ble_eq_true rfl) ?_; simp only [Ze, Nat.reduceAdd]
 repeat' (first | refine uN ?_ | (refine uP ?_ ?_ <;> (intro h; ((try simp only [zs, ne_eq, and_true, true_and, eq_self, reduceCtorEq] at h); try exact zx))) | fail)
 ·refine Qd (L' := Yo bp ba m :: L) rfl ?_
  simp [h, eV]
 ·rename_i h1
  refine Qd (L' := Yo bp ba m :: L) rfl ?_
  simp [h, h1, eV]
 ·rename_i h1
  refine Qd (L' := Yo bp ba { m with cut := n } :: L) rfl ?_
  simp [h, h1]
theorem on_calls (bp ba : Nat) (m : Pl) (L : Zb) : HC Tryz.prog 108 [pt bp 0] (Yo bp ba m :: L) (fun v L' => v = .tuple #[] ∧ L' = Yo bp ba { m with off := false, cut := -1 } :: L) := by
 refine Za (fun _ _ => Tryz.call108 _ _) Tryz.func108 rfl Tryz.ntmps108 (Nat.le_of_ble_eq_true rfl) ?_; simp only [Ze, Nat.reduceAdd]
 repeat' (first | refine uN ?_)
 exact ee0 rfl ⟨rfl, rfl⟩
theorem Zrd (bp ba : Nat) (m : Pl) (L : Zb) : HC Tryz.prog 105 [pt bp 0] (Yo bp ba m :: L) (fun v L' => v = .tuple #[] ∧ L' = Yo bp ba { m with off := true } :: L) := by
 refine Za (fun _ _ => Tryz.call105 _ _) Tryz.func105 rfl Tryz.ntmps105 (Nat.le_of_ble_eq_true rfl) ?_; simp only [Ze, Nat.reduceAdd]
 repeat' (first | refine uN ?_)
 exact ee0 rfl ⟨rfl, rfl⟩
theorem Zoh (T : Nat) (E : Nat → Addr) (s : List UInt8) (L : Zb) (hG : Er T E [2] L) (hl : s.length ≤ 1000000) : HC Tryz.prog 111 [bs s] L (fun v L' => if s.length ≤ 512
  then ∃ bp ba, v = .tuple ⟨[pt bp 0, .nilIface]⟩ ∧ L' = Yo bp ba ⟨s, false, -1⟩ :: L else v = .tuple ⟨[.pointer none, eV T E (some 2)]⟩ ∧ L' = L) := by
 have hk := Zhp T E s.length L hG
 by_cases h : s.length ≤ 512
 ·rw [show Zkn s.length = some ⟨Z2 s.length, false, -1⟩ from by unfold Zkn; rw [if_pos (by omega)]; simp] at hk
  simp only [if_pos h]
  refine Za (fun _ _ => Tryz.call111 _ _) Tryz.func111 rfl Tryz.ntmps111 (Nat.le_of_ble_eq_true rfl) ?_; simp only [Ze, Nat.reduceAdd]
  repeat' (first | refine uN ?_ | (refine uP ?_ ?_ <;> (intro h; ((try simp only [zs, ne_eq, and_true, true_and, eq_self, reduceCtorEq] at h); try exact zx))) | fail)
  refine gc hk ?_
  rintro v L' ⟨bp, ba, rfl, rfl⟩
  repeat' (first | refine uN ?_ | (refine uP ?_ ?_ <;> (intro h; ((try simp only [zs, ne_eq, and_true, true_and, eq_self, reduceCtorEq] at h); try exact zx))) | fail)
  refine wcs S (l' := s.map u8) (i := 0) ?_ ?_
  ·repeat' (first | refine uN ?_ | (refine uP ?_ ?_ <;> (intro h; ((try simp only [zs, ne_eq, and_true, true_and, eq_self, reduceCtorEq] at h); try exact zx))) | fail)
   refine Zbm (L' := Yo bp ba ⟨s, false, -1⟩ :: L) ?_ ⟨bp, ba, rfl, rfl⟩
   simp [Yo, Z2]
  ·have e : s.take (Nat.min s.length (Z2 s.length).length) = s := by simp [Z2]
   rw [e]
   exact Zfd (by simp [Z2])
 ·rw [show Zkn s.length = none from if_neg (by omega)] at hk
  simp only [if_neg h]
  refine Za (fun _ _ => Tryz.call111 _ _) Tryz.func111 rfl Tryz.ntmps111 (Nat.le_of_ble_eq_true rfl) ?_; simp only [Ze, Nat.reduceAdd]
  repeat' (first | refine uN ?_ | (refine uP ?_ ?_ <;> (intro h; ((try simp only [zs, ne_eq, and_true, true_and, eq_self, reduceCtorEq] at h); try exact zx))) | fail)
  refine gc hk ?_
  rintro v L' ⟨rfl, rfl⟩
  repeat' (first | refine uN ?_ | (refine uP ?_ ?_ <;> (intro h; ((try simp only [zs, ne_eq, and_true, true_and, eq_self, reduceCtorEq] at h); try exact zx))) | fail)
  exact Zbm rfl ⟨rfl, rfl⟩
end Go.HL
end

/-! PlB -/
section
namespace Go.HL
open Go Go.Proofs
set_option linter.unusedVariables false
set_option linter.unusedSimpArgs false

def Vf (m : Pl) (a : Nat) (s : List UInt8) (i : Nat) : Pl := ⟨X0 m.b a (s.take i), false, if m.cut = -1 then -1 else m.cut - i⟩
theorem Zrb {m : Pl} {a : Nat} {s : List UInt8} {i : Nat} (ha : a + s.length ≤ m.b.length) (hi : i < s.length) : (Vf m a s (i + 1)).b = (Vf m a s i).b.set (a + i) (s.getD i 0) := by
 show X0 m.b a (s.take (i + 1)) = (X0 m.b a (s.take i)).set (a + i) (s.getD i 0)
 rw [List.take_succ_eq_append_getElem hi, Zlh (by simp; omega)]
 simp [List.getD, hi, Nat.min_eq_left (Nat.le_of_lt hi)]
theorem Zev {m : Pl} {a : Nat} {s : List UInt8} {i : Nat} (ha : a + s.length ≤ m.b.length) : (Vf m a s i).b.length = m.b.length := Ze2 (by simp; omega)
set_option maxHeartbeats 2000000 attribute [local irreducible] HW HO HQ HD HC QOp Has Upd Zp Gets Yf Z8 Zr X3 Z9 Zj Wa Zy
theorem Zaw (T : Nat) (E : Nat → Addr) (bp ba : Nat) (m : Pl) (at_ : Int) (s : List UInt8) (L : Zb) (hG : Er T E [2, 6] L) (hl : m.b.length ≤ 1000000) (hs : s.length ≤ 1000000) (hc : -1 ≤ m.cut ∧ m.cut ≤ 9223372036854775807) :
  HC Tryz.prog 192 [pt bp 0, iv at_, bs s] (Yo bp ba m :: L) (fun v L' => v = eV T E (Xc m at_ s).2 ∧ L' = Yo bp ba (Xc m at_ s).1 :: L) := by
 have hk := Zfh T E bp ba m at_ s.length L hG hl
 have hG' : ∀ m', Er T E [2, 6] (Yo bp ba m' :: L) := fun m' => hG.cons _
 refine Za (fun _ _ => Tryz.call192 _ _) Tryz.func192 rfl Tryz.ntmps192 (Nat.le_of_ble_eq_true rfl) ?_; simp only [Ze, Nat.reduceAdd]
 unfold Xc
 cases hm : Vt m at_ s.length with
 | some e =>
  rw [hm] at hk
  repeat' (first | refine uN ?_ | refine Yb S ?_ | refine Yv S ?_ | refine uC (hk) ?_ | refine Yx (fun _ => hk) ?_ | refine Y0 (fun _ => hk) ?_ | refine Yz (fun _ => hk) ?_ | refine Yy (fun _ => hk) ?_ | refine dg S 100 (fun _ _ => ?_) | (refine uP ?_ ?_ <;> (intro h; ((try simp only [zs, ne_eq, and_true, true_and, eq_self, reduceCtorEq] at h); try exact zx))) | refine da 101 ?_ | fail)
  exact Qd rfl ⟨rfl, rfl⟩
 | none =>
  rw [hm] at hk
  have h0 : 0 ≤ at_ ∧ at_ + s.length ≤ m.b.length ∧ m.off = false := by
   unfold Vt at hm
   split at hm
   ·cases hm
   ·split at hm
    ·cases hm
    ·exact ⟨by omega, by omega, by simp_all⟩
  obtain ⟨a, rfl⟩ := Int.eq_ofNat_of_zero_le h0.1
  obtain ⟨-, h1, hoff⟩ := h0
  have h2 : a + s.length ≤ m.b.length := by omega
  clear hm
  repeat' (first | refine uN ?_ | refine Yb S ?_ | refine Yv S ?_ | refine uC (hk) ?_ | refine Yx (fun _ => hk) ?_ | refine Y0 (fun _ => hk) ?_ | refine Yz (fun _ => hk) ?_ | refine Yy (fun _ => hk) ?_ | refine dg S 100 (fun _ _ => ?_) | (refine uP ?_ ?_ <;> (intro h; ((try simp only [zs, ne_eq, and_true, true_and, eq_self, reduceCtorEq] at h); try exact zx))) | refine da 101 ?_ | fail)
  have hst : Yo bp ba m = Yo bp ba (Vf m a s 0) := by
   obtain ⟨mb, mo, mc⟩ := m
   simp only at hoff
   subst hoff
   simp only [Vf, List.take_zero, Zb0]
   by_cases h : mc = -1 <;> simp [h, Yo]
  rw [hst]
  refine Zx (σ := Nat) (fun i => [(0, pt bp 0), (1, iv a), (2, bs s), (18, iv s.length), (19, iv i)]) (fun i => Yo bp ba (Vf m a s i) :: L) (fun i => i ≤ s.length ∧ (m.cut = -1 ∨ (i : Int) ≤ m.cut)) (fun i => s.length - i) 0 uS (List.Sublist.refl _) ⟨by omega, by omega⟩ ?_
  rintro i ⟨i1, i2⟩
  have hG2 := hG' (Vf m a s i)
  have hlen := Zev (i := i) h2
  have hcut : (m.cut = -1 ∧ (Vf m a s i).cut = -1) ∨ (m.cut ≠ -1 ∧ (Vf m a s i).cut = m.cut - i) := by
   unfold Vf
   by_cases h : m.cut = -1
   ·exact .inl ⟨h, by simp [h]⟩
   ·exact .inr ⟨h, by simp [h]⟩
  by_cases hlt : i < s.length
  ·have hP : Zp ((Vf m a s i).b.map u8) (0 + ((a : Int) + (i : Int)).toNat) [.int .u8 (((s.getD (i : Int).toNat 0).toNat : Nat) : Int)] ((Vf m a s (i + 1)).b.map u8) := by
    rw [Zrb h2 hlt, List.map_set]
    have e : 0 + ((a : Int) + (i : Int)).toNat = a + i := by omega
    rw [e]
    exact W4 (by simp; omega)
   have hnext : Yo bp ba (Vf m a s (i + 1)) = [(bp, .cells ⟨[sl ba 0 (Vf m a s i).b.length (Vf m a s i).b.length, .bool (Vf m a s i).off, iv (max (-1) ((Vf m a s i).cut - 1))]⟩ 144), (ba, .cells ⟨(Vf m a s (i + 1)).b.map u8⟩ 5)] := by
    have e1 : (Vf m a s (i + 1)).b.length = (Vf m a s i).b.length := by rw [Zev h2, Zev h2]
    have e2 : (Vf m a s (i + 1)).cut = max (-1) ((Vf m a s i).cut - 1) := by
     have e3 : (Vf m a s (i + 1)).cut = if m.cut = -1 then -1 else m.cut - ((i + 1 : Nat) : Int) := rfl
     rw [e3]
     rcases hcut with hcut | hcut
     ·rw [if_pos hcut.1]; omega
     ·rw [if_neg hcut.1]; omega
    have e4 : (Vf m a s (i + 1)).off = (Vf m a s i).off := rfl
    unfold Yo
    rw [e1, e2, e4]
   repeat' (first | refine uN ?_ | refine Yb S ?_ | refine Yv S ?_ | refine dg S 100 (fun _ _ => ?_) | (refine uP ?_ ?_ <;> (intro h; ((try simp only [zs, ne_eq, and_true, true_and, eq_self, reduceCtorEq] at h); try exact zx))) | refine da 101 ?_ | fail)
   ·have hk0 : kM m s.length = i := by
     unfold kM
     rcases hcut with hcut | hcut
     ·omega
     ·rw [if_neg hcut.1]
      omega
    refine Qd (L' := Yo bp ba (Zdk m a s).1 :: L) ?_ ?_
    ·simp only [Zdk, hk0, hoff, decide_eq_true hlt, Bool.or_true, List.flatten_cons]
     have e : Yo bp ba (Vf m a s i) = Yo bp ba ⟨X0 m.b a (s.take i), false, if m.cut = -1 then -1 else m.cut - i⟩ := rfl
     simp [Yo, Vf]
    ·simp [Zdk, hk0, hlt, eV]
   ·refine Zl (i + 1) uS ?_ ⟨by omega, by omega⟩ (by omega)
    rw [hnext]
    exact List.Sublist.refl _
  ·repeat' (first | refine uN ?_ | refine Yb S ?_ | refine Yv S ?_ | refine dg S 100 (fun _ _ => ?_) | (refine uP ?_ ?_ <;> (intro h; ((try simp only [zs, ne_eq, and_true, true_and, eq_self, reduceCtorEq] at h); try exact zx))) | refine da 101 ?_ | fail)
   have hi : i = s.length := by omega
   subst hi
   have hk0 : kM m s.length = s.length := by
    unfold kM
    split
    ·rfl
    ·omega
   refine Qd (L' := Yo bp ba (Zdk m a s).1 :: L) ?_ ?_
   ·simp [Yo, Vf, Zdk, hk0, hoff]
   ·simp [Zdk, hk0, eV]
end Go.HL
end

/-! JnA -/
section
namespace Go.HL
open Go Go.Proofs
set_option linter.unusedVariables false
set_option linter.unusedSimpArgs false

theorem Zlg {α : Type} {p : List α → Prop} (h0 : p []) (h1 : ∀ l a, p l → p (l ++ [a])) (l : List α) : p l := by
 have h : ∀ l : List α, p l.reverse := fun l => by
  induction l with
  | nil => exact h0
  | cons a l ih => rw [List.reverse_cons]; exact h1 _ _ ih
 have := h l.reverse
 rwa [List.reverse_reverse] at this
def bt (n : Int) (k : Nat) : UInt8 := UInt8.ofNat (n / 2 ^ (8 * k) % 256).toNat
theorem bt_val (n : Int) (k : Nat) : ((bt n k).toNat : Int) = n / 2 ^ (8 * k) % 256 := by
 unfold bt
 have h1 : 0 ≤ n / 2 ^ (8 * k) % 256 := Int.emod_nonneg _ (by decide)
 have h2 : n / 2 ^ (8 * k) % 256 < 256 := Int.emod_lt_of_pos _ (by decide)
 rw [UInt8.toNat_ofNat', Nat.mod_eq_of_lt (by omega)]
 omega
def We (n : Int) : Nat → List UInt8
 | 0 => []
 | k + 1 => bt n k :: We n k
theorem Xb (n : Int) (k : Nat) : (We n k).length = k := by
 induction k with
 | zero => rfl
 | succ k ih => simp [We, ih]
def U0 (s : List UInt8) : Nat := s.foldl (fun n b => n * 256 + b.toNat) 0
theorem Zlj (s : List UInt8) (b : UInt8) : U0 (s ++ [b]) = U0 s * 256 + b.toNat := by simp [U0]
theorem Zmv (s : List UInt8) : U0 s < 256 ^ s.length := by
 refine Zlg (p := fun s => U0 s < 256 ^ s.length) (by simp [U0]) (fun s b ih => ?_) s
 ·rw [Zlj]
  have := b.toNat_lt
  simp only [List.length_append, List.length_cons, List.length_nil, Nat.zero_add, Nat.pow_succ]
  omega
def Zqf (c : Nat) : Nat := (c / 2) ^^^ (3988292384 * (c % 2))
def Znt : Nat → Nat → Nat
 | 0, c => c
 | k + 1, c => Znt k (Zqf c)
theorem Zsc (k c : Nat) : Znt (k + 1) c = Zqf (Znt k c) := by
 induction k generalizing c with
 | zero => rfl
 | succ k ih => exact ih (Zqf c)
def crcB (c : Nat) (b : UInt8) : Nat := Znt 8 (c ^^^ b.toNat)
def Zb2 (s : List UInt8) : Nat := s.foldl crcB 4294967295
def crc (s : List UInt8) : Nat := 4294967295 - Zb2 s
theorem crc1_lt {c : Nat} (h : c < 4294967296) : Zqf c < 4294967296 := by
 unfold Zqf
 exact Nat.xor_lt_two_pow (n := 32) (by omega) (by omega)
theorem Zpe {k c : Nat} (h : c < 4294967296) : Znt k c < 4294967296 := by
 induction k generalizing c with
 | zero => exact h
 | succ k ih => exact ih (crc1_lt h)
theorem Zkj {c : Nat} (b : UInt8) (h : c < 4294967296) : c ^^^ b.toNat < 4294967296 := Nat.xor_lt_two_pow (n := 32) h (by have := b.toNat_lt; omega)
theorem crcB_lt {c : Nat} {b : UInt8} (h : c < 4294967296) : crcB c b < 4294967296 := Zpe (Zkj b h)
theorem crcR_lt (s : List UInt8) : Zb2 s < 4294967296 := by
 refine Zlg (p := fun s => Zb2 s < 4294967296) (by decide) (fun s b ih => ?_) s
 rw [show Zb2 (s ++ [b]) = crcB (Zb2 s) b by simp [Zb2]]; exact crcB_lt ih
theorem crc_val (c : Nat) (h : c < 4294967296) : ((((c : Int) / 2 ^ (1 : Int).toNat).toNat ^^^ ((3988292384 * (((c : Int).toNat &&& (1 : Int).toNat : Nat) : Int)) % 4294967296).toNat : Nat) : Int) = ((Zqf c : Nat) : Int) := by
 have e1 : ((c : Int) / 2 ^ (1 : Int).toNat).toNat = c / 2 := by simp; omega
 have e2 : ((c : Int).toNat &&& (1 : Int).toNat : Nat) = c % 2 := by simp [Nat.and_one_is_mod]
 have e3 : ((3988292384 * ((c % 2 : Nat) : Int)) % 4294967296).toNat = 3988292384 * (c % 2) := by omega
 rw [e1, e2, e3]
 rfl
set_option maxHeartbeats 2000000 attribute [local irreducible] HW HO HQ HD HC QOp Has Upd Zp Gets Yf Z8 Zr X3 Z9 Zj Wa Zy
theorem Zm8 (s : List UInt8) (L : Zb) (hs : s.length ≤ 1000000) : HC Tryz.prog 179 [bs s] L (fun v L' => v = iv (crc s) ∧ L' = L) := by
 refine Za (fun _ _ => Tryz.call179 _ _) Tryz.func179 rfl Tryz.ntmps179 (Nat.le_of_ble_eq_true rfl) ?_; simp only [Ze, Nat.reduceAdd]
 repeat' (first | refine uN ?_ | (refine uP ?_ ?_ <;> (intro h; ((try simp only [zs, ne_eq, and_true, true_and, eq_self, reduceCtorEq] at h); try exact zx))) | fail)
 refine Zx (σ := Nat) (fun i => [(0, bs s), (6, iv s.length), (7, iv i), (3, .int .u32 (Zb2 (s.take i)))]) (fun _ => L) (fun i => i ≤ s.length) (fun i => s.length - i) 0 uS (List.Sublist.refl _) (by omega) ?_
 intro i i1
 have hc := crcR_lt (s.take i)
 by_cases hlt : i < s.length
 ·have hb := (s.getD (i : Int).toNat 0).toNat_lt
  repeat' (first | refine uN ?_ | (refine uP ?_ ?_ <;> (intro h; ((try simp only [zs, ne_eq, and_true, true_and, eq_self, reduceCtorEq] at h); try exact zx))) | fail)
  have e0 : (((Zb2 (s.take i) : Nat) : Int).toNat ^^^ (((s.getD (i : Int).toNat 0).toNat : Nat) : Int).toNat : Nat) = Zb2 (s.take i) ^^^ (s.getD i 0).toNat := by simp
  rw [e0]
  have hx := Zkj (s.getD i 0) hc
  refine Zx (σ := Nat) (fun j => [(0, bs s), (6, iv s.length), (7, iv i), (16, iv j), (3, .int .u32 (Znt j (Zb2 (s.take i) ^^^ (s.getD i 0).toNat)))]) (fun _ => L) (fun j => j ≤ 8) (fun j => 8 - j) 0 uS (List.Sublist.refl _) (by omega) ?_
  intro j j1
  have hcj := Zpe (k := j) hx
  by_cases hlt2 : j < 8
  ·repeat' (first | refine uN ?_ | (refine uP ?_ ?_ <;> (intro h; ((try simp only [zs, ne_eq, and_true, true_and, eq_self, reduceCtorEq] at h); try exact zx))) | fail)
   refine Zl (j + 1) ?_ (List.Sublist.refl _) (by omega) (by omega)
   rw [Zsc, ← crc_val _ hcj]
   repeat (first | exact trivial | refine ⟨rfl, ?_⟩)
  ·have hj : j = 8 := by omega
   subst hj
   repeat' (first | refine uN ?_ | (refine uP ?_ ?_ <;> (intro h; ((try simp only [zs, ne_eq, and_true, true_and, eq_self, reduceCtorEq] at h); try exact zx))) | fail)
   refine Zl (i + 1) ?_ (List.Sublist.refl _) (by omega) (by omega)
   have e : Zb2 (s.take (i + 1)) = Znt 8 (Zb2 (s.take i) ^^^ (s.getD i 0).toNat) := by
    rw [List.take_succ_eq_append_getElem hlt]
    rw [show ∀ l b, Zb2 (l ++ [b]) = crcB (Zb2 l) b from fun l b => by simp [Zb2]]
    simp [crcB, List.getD, hlt]
   rw [e]
   repeat (first | exact trivial | refine ⟨rfl, ?_⟩)
 ·repeat' (first | refine uN ?_ | (refine uP ?_ ?_ <;> (intro h; ((try simp only [zs, ne_eq, and_true, true_and, eq_self, reduceCtorEq] at h); try exact zx))) | fail)
  have hi : i = s.length := by omega
  subst hi
  (refine Ys rfl rfl ?_ ⟨?_, rfl⟩; (next => (repeat (first | exact List.Sublist.refl _ | apply List.Sublist.cons))))
  rw [List.take_length] at hc ⊢
  exact congrArg iv (by unfold crc; omega)
end Go.HL
end

/-! JnB -/
section
namespace Go.HL
open Go Go.Proofs
set_option linter.unusedVariables false
set_option linter.unusedSimpArgs false

theorem rd_bytes (b E : Nat) (l : List UInt8) (L : Zb) : Rd uc 1 ([(b, .cells ⟨l.map u8⟩ E)] :: L) (some ⟨b, 0, none⟩) l := by
 refine .inr ⟨b, 0, l.map u8, E, (0, 0), rfl, Zh, fun k x hx => ?_⟩
 have := Wd (enc := uc) (sz := 1) (fun _ => rfl) l [] [] k x hx
 simpa [Zov] using this
theorem Zqx (n i : Nat) (x : Int) (h : i < n) : (Z2 (n - i) ++ We x i).set (n - 1 - i) (bt x i) = Z2 (n - (i + 1)) ++ We x (i + 1) := by
 have e : Z2 (n - i) = Z2 (n - (i + 1)) ++ [0] := by
  rw [show n - i = (n - (i + 1)) + 1 by omega]
  simp [Z2, List.replicate_succ']
 rw [e, List.append_assoc, List.set_append_right _ _ (by simp [Z2]; omega)]
 simp [Z2, We, show n - 1 - i - (n - (i + 1)) = 0 by omega]
structure Ent where
 n : Int
 s : St
def Zsh (e : Ent) : List Value := [iv e.n, iv e.s.ph, iv e.s.pr, iv e.s.att]
def head (e : Ent) : List UInt8 := We e.n 4 ++ We e.s.ph 1 ++ We e.s.pr 4 ++ We e.s.att 4
def Yl (e : Ent) : List UInt8 := head e ++ We (crc (head e)) 4
set_option maxHeartbeats 2000000 attribute [local irreducible] HW HO HQ HD HC QOp Has Upd Zp Gets Yf Z8 Zr X3 Z9 Zj Wa Zy
theorem W5 (n : Int) (many : Nat) (L : Zb) (hm : many ≤ 8) : HC Tryz.prog 178 [iv n, iv many] L (fun v L' => v = bs (We n many) ∧ L' = L) := by
 refine Za (fun _ _ => Tryz.call178 _ _) Tryz.func178 rfl Tryz.ntmps178 (Nat.le_of_ble_eq_true rfl) ?_; simp only [Ze, Nat.reduceAdd]
 repeat' (first | refine uN ?_ | (refine uB ?_; intro b) | (refine uP ?_ ?_ <;> (intro h; ((try simp only [zs, ne_eq, and_true, true_and, eq_self, reduceCtorEq] at h); try exact zx))) | fail)
 refine Zx (σ := Nat) (fun i => [(0, iv n), (1, iv many), (5, sl b 0 many many), (9, iv many), (10, iv i)]) (fun i => [(b, .cells ⟨(Z2 (many - i) ++ We n i).map u8⟩ 5)] :: L) (fun i => i ≤ many) (fun i => many - i) 0 uS ?_ (by omega) ?_
 ·simp [We, Zmd, Z2, u8]
 ·intro i i1
  by_cases hlt : i < many
  ·have hP : Zp ((Z2 (many - i) ++ We n i).map u8) (0 + ((many : Int) - 1 - (i : Int)).toNat) [.int .u8 (n / 2 ^ (8 * (i : Int)).toNat % 256)] ((Z2 (many - (i + 1)) ++ We n (i + 1)).map u8) := by
    rw [← Zqx many i n hlt, List.map_set]
    have e : 0 + ((many : Int) - 1 - (i : Int)).toNat = many - 1 - i := by omega
    have e2 : (8 * (i : Int)).toNat = 8 * i := by omega
    have e3 : Value.int .u8 (n / 2 ^ (8 * (i : Int)).toNat % 256) = u8 (bt n i) := by unfold u8; rw [bt_val, e2]
    rw [e, e3]
    exact W4 (by simp [Z2, Xb]; omega)
   repeat' (first | refine uN ?_ | (refine uB ?_; intro b) | (refine uP ?_ ?_ <;> (intro h; ((try simp only [zs, ne_eq, and_true, true_and, eq_self, reduceCtorEq] at h); try exact zx))) | fail)
   refine Zl (i + 1) uS (List.Sublist.refl _) (by omega) (by omega)
  ·have hi : i = many := by omega
   subst hi
   repeat' (first | refine uN ?_ | (refine uB ?_; intro b) | (refine uP ?_ ?_ <;> (intro h; ((try simp only [zs, ne_eq, and_true, true_and, eq_self, reduceCtorEq] at h); try exact zx))) | fail)
   refine Vk (qtx S (rd_bytes _ _ _ _) ?_) ?_
   ·simp [Z2, Xb]
   ·repeat' (first | refine uN ?_ | (refine uB ?_; intro b) | (refine uP ?_ ?_ <;> (intro h; ((try simp only [zs, ne_eq, and_true, true_and, eq_self, reduceCtorEq] at h); try exact zx))) | fail)
    refine Ys rfl rfl (List.sublist_cons_self _ _) ⟨?_, rfl⟩
    simp [Z2]
theorem Ur (s : List UInt8) (L : Zb) (hs : s.length ≤ 7) : HC Tryz.prog 159 [bs s] L (fun v L' => v = iv (U0 s) ∧ L' = L) := by
 refine Za (fun _ _ => Tryz.call159 _ _) Tryz.func159 rfl Tryz.ntmps159 (Nat.le_of_ble_eq_true rfl) ?_; simp only [Ze, Nat.reduceAdd]
 repeat' (first | refine uN ?_ | (refine uP ?_ ?_ <;> (intro h; ((try simp only [zs, ne_eq, and_true, true_and, eq_self, reduceCtorEq] at h); try exact zx))) | fail)
 refine Zx (σ := Nat) (fun i => [(0, bs s), (6, iv s.length), (7, iv i), (3, iv (U0 (s.take i)))]) (fun _ => L) (fun i => i ≤ s.length) (fun i => s.length - i) 0 uS (List.Sublist.refl _) (by omega) ?_
 intro i i1
 by_cases hlt : i < s.length
 ·have hb := (s.getD (i : Int).toNat 0).toNat_lt
  have hr := Zmv (s.take i)
  have hr2 : U0 (s.take i) < 281474976710656 := by
   have : 256 ^ (s.take i).length ≤ 256 ^ 6 := Nat.pow_le_pow_right (by decide) (by simp; omega)
   omega
  repeat' (first | refine uN ?_ | (refine uP ?_ ?_ <;> (intro h; ((try simp only [zs, ne_eq, and_true, true_and, eq_self, reduceCtorEq] at h); try exact zx))) | fail)
  refine Zl (i + 1) ?_ (List.Sublist.refl _) (by omega) (by omega)
  have e : ((((U0 (s.take i) : Nat) : Int) * 2 ^ Int.toNat 8).toNat ||| (((s.getD (i : Int).toNat 0).toNat : Nat) : Int).toNat : Nat) = U0 (s.take (i + 1)) := by
   rw [List.take_succ_eq_append_getElem hlt, Zlj]
   have e1 : (((U0 (s.take i) : Nat) : Int) * 2 ^ Int.toNat 8).toNat = (U0 (s.take i)) <<< 8 := by rw [Nat.shiftLeft_eq]; simp; omega
   have e2 : (((s.getD (i : Int).toNat 0).toNat : Nat) : Int).toNat = (s[i]).toNat := by simp [List.getD, hlt]
   rw [e1, e2, ← Nat.shiftLeft_add_eq_or_of_lt (s[i]).toNat_lt, Nat.shiftLeft_eq]
  rw [← e]
  repeat (first | exact trivial | refine ⟨rfl, ?_⟩)
 ·repeat' (first | refine uN ?_ | (refine uP ?_ ?_ <;> (intro h; ((try simp only [zs, ne_eq, and_true, true_and, eq_self, reduceCtorEq] at h); try exact zx))) | fail)
  have hi : i = s.length := by omega
  subst hi
  (refine Ys rfl rfl ?_ ⟨?_, rfl⟩; (next => (repeat (first | exact List.Sublist.refl _ | apply List.Sublist.cons))))
  rw [List.take_length]
theorem Zgd (e : Ent) (L : Zb) : HC Tryz.prog 160 [.agg ⟨Zsh e⟩] L (fun v L' => v = bs (Yl e) ∧ L' = L) := by
 have k1 : ∀ L, HC Tryz.prog 178 [iv e.n, iv 4] L (fun v L' => v = bs (We e.n 4) ∧ L' = L) := fun L => W5 e.n 4 L (by decide)
 have k2 : ∀ L, HC Tryz.prog 178 [iv e.s.ph, iv 1] L (fun v L' => v = bs (We e.s.ph 1) ∧ L' = L) := fun L => W5 e.s.ph 1 L (by decide)
 have k3 : ∀ L, HC Tryz.prog 178 [iv e.s.pr, iv 4] L (fun v L' => v = bs (We e.s.pr 4) ∧ L' = L) := fun L => W5 e.s.pr 4 L (by decide)
 have k4 : ∀ L, HC Tryz.prog 178 [iv e.s.att, iv 4] L (fun v L' => v = bs (We e.s.att 4) ∧ L' = L) := fun L => W5 e.s.att 4 L (by decide)
 have k5 : ∀ L, HC Tryz.prog 178 [iv (crc (head e)), iv 4] L (fun v L' => v = bs (We (crc (head e)) 4) ∧ L' = L) := fun L => W5 _ 4 L (by decide)
 have k6 : ∀ L, HC Tryz.prog 179 [bs (head e)] L (fun v L' => v = iv (crc (head e)) ∧ L' = L) := fun L => Zm8 _ L (by simp [head, Xb])
 have n1 := Xb e.n 4
 have n2 := Xb e.s.ph 1
 have n3 := Xb e.s.pr 4
 have n4 := Xb e.s.att 4
 have n5 := Xb (crc (head e)) 4
 refine Za (fun _ _ => Tryz.call160 _ _) Tryz.func160 rfl Tryz.ntmps160 (Nat.le_of_ble_eq_true rfl) ?_; simp only [Ze, Nat.reduceAdd]
 repeat' (first | refine uN ?_ | refine Yb S ?_ | refine uC (k1 _) ?_ | refine uC (k2 _) ?_ | refine uC (k3 _) ?_ | refine uC (k4 _) ?_ | refine uC (k5 _) ?_ | refine uC (k6 _) ?_ | (refine uB ?_; intro b) | fail)
 refine Ys rfl rfl (List.sublist_cons_self _ _) ⟨?_, rfl⟩
 simp [Yl, head]
def Yj : List UInt8 := [165]
def Yw (k : Int) (s : List UInt8) : Ent :=
 let e : Ent := ⟨U0 (s.take 4), U0 ((s.take 5).drop 4), U0 ((s.take 9).drop 5), U0 ((s.take 13).drop 9)⟩
 if e.n < 1 ∨ e.n % 2 ≠ k ∨ Yl e ++ Yj ≠ s then ⟨0, 0, 0, 0⟩ else e
def Zbt (s : List UInt8) : Ent := ⟨U0 (s.take 4), U0 ((s.take 5).drop 4), U0 ((s.take 9).drop 5), U0 ((s.take 13).drop 9)⟩
theorem U9 (k : Int) (s : List UInt8) : Yw k s = if (Zbt s).n < 1 ∨ (Zbt s).n % 2 ≠ k ∨ Yl (Zbt s) ++ Yj ≠ s then ⟨0, 0, 0, 0⟩ else Zbt s := rfl
theorem Zn0 (k : Int) (s : List UInt8) (L : Zb) (hs : s.length = 18) : HC Tryz.prog 130 [iv k, bs s] L (fun v L' => v = .agg ⟨Zsh (Yw k s)⟩ ∧ L' = L) := by
 have k1 : ∀ L, HC Tryz.prog 159 [bs (s.take 4)] L (fun v L' => v = iv (U0 (s.take 4)) ∧ L' = L) := fun L => Ur _ L (by simp; omega)
 have k2 : ∀ L, HC Tryz.prog 159 [bs ((s.take 5).drop 4)] L (fun v L' => v = iv (U0 ((s.take 5).drop 4)) ∧ L' = L) := fun L => Ur _ L (by simp; omega)
 have k3 : ∀ L, HC Tryz.prog 159 [bs ((s.take 9).drop 5)] L (fun v L' => v = iv (U0 ((s.take 9).drop 5)) ∧ L' = L) := fun L => Ur _ L (by simp; omega)
 have k4 : ∀ L, HC Tryz.prog 159 [bs ((s.take 13).drop 9)] L (fun v L' => v = iv (U0 ((s.take 13).drop 9)) ∧ L' = L) := fun L => Ur _ L (by simp; omega)
 have k5 : ∀ L, HC Tryz.prog 160 [.agg ⟨[iv (U0 (s.take 4)), iv (U0 ((s.take 5).drop 4)), iv (U0 ((s.take 9).drop 5)), iv (U0 ((s.take 13).drop 9))]⟩] L (fun v L' => v = bs (Yl (Zbt s)) ∧ L' = L) := fun L => Zgd (Zbt s) L
 have hn : U0 (s.take 4) < 4294967296 := by
  have := Zmv (s.take 4)
  rwa [show (s.take 4).length = 4 by simp; omega] at this
 have hb : (Yl (Zbt s)).length = 17 := by simp [Yl, head, Xb]
 rw [U9]
 refine Za (fun _ _ => Tryz.call130 _ _) Tryz.func130 rfl Tryz.ntmps130 (Nat.le_of_ble_eq_true rfl) ?_; simp only [Ze, Nat.reduceAdd]
 repeat' (first | refine uN ?_ | refine Yb S ?_ | refine Yv S ?_ | refine uC (k1 _) ?_ | refine uC (k2 _) ?_ | refine uC (k3 _) ?_ | refine uC (k4 _) ?_ | refine uC (k5 _) ?_ | refine Yx (fun _ => k1 _) ?_ | refine Y0 (fun _ => k1 _) ?_ | refine Yz (fun _ => k1 _) ?_ | refine Yy (fun _ => k1 _) ?_ | refine Yx (fun _ => k2 _) ?_ | refine Y0 (fun _ => k2 _) ?_ | refine Yz (fun _ => k2 _) ?_ | refine Yy (fun _ => k2 _) ?_ | refine Yx (fun _ => k3 _) ?_ | refine Y0 (fun _ => k3 _) ?_ | refine Yz (fun _ => k3 _) ?_ | refine Yy (fun _ => k3 _) ?_ | refine Yx (fun _ => k4 _) ?_ | refine Y0 (fun _ => k4 _) ?_ | refine Yz (fun _ => k4 _) ?_ | refine Yy (fun _ => k4 _) ?_ | refine Yx (fun _ => k5 _) ?_ | refine Y0 (fun _ => k5 _) ?_ | refine Yz (fun _ => k5 _) ?_ | refine Yy (fun _ => k5 _) ?_ | (refine uB ?_; intro b) | (refine uP ?_ ?_ <;> (intro h; ((try simp only [zs, ne_eq, and_true, true_and, eq_self, reduceCtorEq] at h); try exact zx))) | refine da 101 ?_ | fail)
 all_goals refine Xm (LS.skip _ (LS.skip _ (LS.refl _))) ⟨?_, rfl⟩ (hv := Vu S (hg := Zd rfl (Zd rfl (Zd rfl (Zd rfl Zw)))))
 ·rw [if_pos (.inl h)]; rfl
 ·rw [if_pos (.inr (.inl h))]; rfl
 ·rw [if_pos (.inr (.inr h))]; rfl
 ·rename_i h1 h2
  rw [if_neg (fun h0 => h0.elim h1 (fun h0 => h0.elim (fun h0 => h0 h2) (fun h0 => h0 h)))]; rfl
end Go.HL
end

/-! JnC -/
section
namespace Go.HL
open Go Go.Proofs
set_option linter.unusedVariables false
set_option linter.unusedSimpArgs false

structure Jn where
 l : List Ent
 dead : Bool
def Zz (bp : Nat) (j : Jn) : List Value := [pt bp 0] ++ (j.l.map Zsh).flatten ++ [.bool j.dead]
def jC (bj bp : Nat) (j : Jn) : List Zn := [(bj, .cells ⟨Zz bp j⟩ 197)]
def Zm : Ent := ⟨0, 0, 0, 0⟩
def Va (e0 e : Ent) : Ent := if e0.n < e.n then e else e0
def Yu (b : List UInt8) (i : Nat) : List UInt8 := (b.drop (i * 18)).take 18
def X6 (b : List UInt8) (d : Nat) : Nat → Ent
 | 0 => Zm
 | k + 1 => Va (X6 b d k) (Yw k (Yu b (2 * d + k)))
def Y3 (b : List UInt8) (d : Nat) : Ent := X6 b d 2
def Zv (b : List UInt8) : List Ent := (List.range 6).map (Y3 b)
def Zea (b : List UInt8) (d k : Nat) : List Ent := (List.range d).map (Y3 b) ++ X6 b d k :: List.replicate (5 - d) Zm
theorem lAt_len (b : List UInt8) (d k : Nat) (h : d ≤ 5) : (Zea b d k).length = 6 := by simp [Zea]; omega
theorem lAt_get (b : List UInt8) (d k : Nat) : (Zea b d k)[d]? = some (X6 b d k) := by
 rw [Zea, List.getElem?_append_right (by simp)]
 simp
theorem lAt_set (b : List UInt8) (d k : Nat) (e : Ent) (h : e = X6 b d (k + 1)) : (Zea b d k).set d e = Zea b d (k + 1) := by
 subst h
 rw [Zea, List.set_append_right _ _ (by simp)]
 simp [Zea]
theorem lAt_next (b : List UInt8) (d : Nat) (h : d < 5) : Zea b d 2 = Zea b (d + 1) 0 := by
 simp only [Zea, List.range_succ, List.map_append, List.map_cons, List.map_nil, List.append_assoc, List.cons_append, List.nil_append, X6]
 rw [show 5 - d = (5 - (d + 1)) + 1 by omega, List.replicate_succ]
 rfl
theorem lAt_last (b : List UInt8) : Zea b 5 2 = Zv b := by
 simp [Zea, Zv, List.range_succ, Y3]
theorem Qp (e : Ent) : (Zsh e).length = 4 := rfl
theorem Zkw {bp : Nat} {j : Jn} {d : Nat} {e : Ent} (h : j.l[d]? = some e) : Gets (Zz bp j) (0 + 1 + (d : Int).toNat * 4) (Zsh e) := by
 have := Wd (enc := Zsh) (sz := 4) Qp j.l [.bool j.dead] [pt bp 0] d e h
 simpa [Zz] using this
theorem Znp {bp : Nat} {j : Jn} {d : Nat} {e : Ent} (h : j.l[d]? = some e) : Gets (Zz bp j) (0 + 1 + (d : Int).toNat * 4 + 1) (sc e.s) := fun k v hk => by
 have := Zkw (bp := bp) h (k + 1) v (by simpa [Zsh, sc] using hk)
 rw [show 0 + 1 + (d : Int).toNat * 4 + 1 + k = 0 + 1 + (d : Int).toNat * 4 + (k + 1) by omega]
 exact this
theorem jputs {bp : Nat} {j : Jn} {d : Nat} (e : Ent) (h : d < j.l.length) : Zp (Zz bp j) (0 + 1 + (d : Int).toNat * 4) (Zsh e) (Zz bp ⟨j.l.set d e, j.dead⟩) := by
 have := Zfg (enc := Zsh) (sz := 4) Qp j.l [.bool j.dead] [pt bp 0] d (0 + 1 + (d : Int).toNat * 4) e h (by simp)
 exact this
theorem jdead {bp : Nat} {j : Jn} (h : j.l.length = 6) : (Zz bp j)[0 + 25]? = some (.bool j.dead) := by
 unfold Zz
 rw [List.getElem?_append_right (by simp [Z6 Qp, h])]
 simp [Z6 Qp, h]
theorem jputsD {bp : Nat} {j : Jn} (h : j.l.length = 6) (b : Bool) : Zp (Zz bp j) (0 + 25) [.bool b] (Zz bp ⟨j.l, b⟩) := by
 have e : Zz bp ⟨j.l, b⟩ = (Zz bp j).set (0 + 25) (.bool b) := by
  unfold Zz
  rw [List.set_append_right _ _ (by simp [Z6 Qp, h])]
  simp [Z6 Qp, h]
 rw [e]
 exact W4 (by simp [Zz, Z6 Qp, h])
set_option maxHeartbeats 2000000 attribute [local irreducible] HW HO HQ HD HC QOp Has Upd Zp Gets Yf Z8 Zr X3 Z9 Zj Wa Zy
attribute [local irreducible] Zz
theorem Zh8 (T : Nat) (E : Nat → Addr) (bj bp : Nat) (j : Jn) (d : Int) (L : Zb) (hG : Er T E [2] L) (hl : j.l.length = 6) : HC Tryz.prog 113 [pt bj 0, iv d] (jC bj bp j :: L) (fun v L' => L' = jC bj bp j :: L ∧
  if d < 0 ∨ 6 ≤ d then v = .tuple ⟨[.agg ⟨[iv 0, iv 0, iv 0]⟩, eV T E (some 2)]⟩ else v = .tuple ⟨[.agg ⟨sc (j.l.getD d.toNat Zm).s⟩, .nilIface]⟩) := by
 by_cases h0 : d < 0 ∨ 6 ≤ d
 ·simp only [if_pos h0]
  refine Za (fun _ _ => Tryz.call113 _ _) Tryz.func113 rfl Tryz.ntmps113 (Nat.le_of_ble_eq_true rfl) ?_; simp only [Ze, Nat.reduceAdd]
  repeat' (first | refine uN ?_ | refine Yb S ?_ | refine Yv S ?_ | (refine uB ?_; intro b) | refine dg S 100 (fun _ _ => ?_) | (refine uP ?_ ?_ <;> (intro h; ((try simp only [zs, ne_eq, and_true, true_and, eq_self, reduceCtorEq] at h); try exact zx))) | refine da 101 ?_ | fail)
  ·exact Ve (LS.skip _ (LS.refl _)) ⟨rfl, rfl⟩ (hx := Vu S (hg := Zd rfl (Zd rfl (Zd rfl Zw))))
  ·exact Ve (LS.skip _ (LS.refl _)) ⟨rfl, rfl⟩ (hx := Vu S (hg := Zd rfl (Zd rfl (Zd rfl Zw))))
 ·simp only [if_neg h0]
  obtain ⟨d, rfl⟩ := Int.eq_ofNat_of_zero_le (show 0 ≤ d by omega)
  have he : j.l[d]? = some (j.l.getD d Zm) := by
   rw [List.getD, List.getElem?_eq_getElem (by omega)]; rfl
  have g1 := Zkw (bp := bp) he
  have g2 := Znp (bp := bp) he
  refine Za (fun _ _ => Tryz.call113 _ _) Tryz.func113 rfl Tryz.ntmps113 (Nat.le_of_ble_eq_true rfl) ?_; simp only [Ze, Nat.reduceAdd]
  repeat' (first | refine uN ?_ | refine Yb S ?_ | refine Yv S ?_ | (refine uB ?_; intro b) | refine dg S 100 (fun _ _ => ?_) | (refine uP ?_ ?_ <;> (intro h; ((try simp only [zs, ne_eq, and_true, true_and, eq_self, reduceCtorEq] at h); try exact zx))) | refine da 101 ?_ | fail)
  refine Ve (LS.skip _ (LS.refl _)) ⟨rfl, ?_⟩ (hx := Vu S (hg := Zd rfl (Zd rfl (Zd rfl Zw))))
  simp [sc]
end Go.HL
end

/-! JnD -/
section
namespace Go.HL
open Go Go.Proofs
set_option linter.unusedVariables false
set_option linter.unusedSimpArgs false

theorem Zq1 (m : Pl) (d k : Nat) (hd : d < 6) (hk : k < 2) (hl : 216 ≤ m.b.length) (ho : m.off = false) : Un m ((2 * (d : Int) + (k : Int)) * 18) 18 = (Yu m.b (2 * d + k), none) := by
 have h : Vt m ((2 * (d : Int) + (k : Int)) * 18) 18 = none := by
  unfold Vt
  rw [if_neg (by omega), if_neg (by simp [ho])]
 unfold Un Yu
 rw [h]
 have e : ((2 * (d : Int) + (k : Int)) * 18).toNat = (2 * d + k) * 18 := by omega
 simp [e]
theorem Zcv (b : List UInt8) (i : Nat) (h : i < 12) (hl : 216 ≤ b.length) : (Yu b i).length = 18 := by simp [Yu]; omega
def lO (b : List UInt8) (d : Nat) : List Ent := if d < 6 then Zea b d 0 else Zv b
theorem lO_next (b : List UInt8) (d : Nat) (h : d < 6) : Zea b d 2 = lO b (d + 1) := by
 unfold lO
 split
 ·exact lAt_next b d (by omega)
 ·rw [show d = 5 by omega, lAt_last]
theorem lAt_upd (b : List UInt8) (d k : Nat) (h : (X6 b d k).n < (Yw k (Yu b (2 * d + k))).n) : (Zea b d k).set d (Yw k (Yu b (2 * d + k))) = Zea b d (k + 1) :=
 lAt_set b d k _ (by simp [X6, Va, h])
theorem lAt_same (b : List UInt8) (d k : Nat) (h : ¬ (X6 b d k).n < (Yw k (Yu b (2 * d + k))).n) : Zea b d k = Zea b d (k + 1) := by
 simp [Zea, X6, Va, h]
theorem jC_new (bj bp : Nat) (b : List UInt8) : jC bj bp ⟨lO b 0, false⟩ = [(bj, .cells ⟨[pt bp 0, iv 0, iv 0, iv 0, iv 0, iv 0, iv 0, iv 0, iv 0, iv 0, iv 0, iv 0, iv 0, iv 0, iv 0, iv 0, iv 0, iv 0, iv 0, iv 0, iv 0, iv 0, iv 0, iv 0, iv 0, .bool false]⟩ 197)] := rfl
set_option maxHeartbeats 2000000 attribute [local irreducible] HW HO HQ HD HC QOp Has Upd Zp Gets Yf Z8 Zr X3 Z9 Zj Wa Zy
attribute [local irreducible] Zz Yo
theorem Zgl (T : Nat) (E : Nat → Addr) (bp ba : Nat) (m : Pl) (L : Zb) (hG : Er T E [2, 6] L) (hl : m.b.length ≤ 1000000) : HC Tryz.prog 91 [pt bp 0] (Yo bp ba m :: L) (fun v L' =>
  if m.b.length < 216 then v = .tuple ⟨[.pointer none, eV T E (some 2)]⟩ ∧ L' = Yo bp ba m :: L else if m.off then v = .tuple ⟨[.pointer none, eV T E (some 6)]⟩ ∧ L' = Yo bp ba m :: L
  else ∃ bj, v = .tuple ⟨[pt bj 0, .nilIface]⟩ ∧ L' = jC bj bp ⟨Zv m.b, false⟩ :: Yo bp ba m :: L) := by
 have kb := Zdm bp ba m L
 have kp := Zdp bp ba m L
 by_cases h1 : m.b.length < 216
 ·simp only [if_pos h1]
  refine Za (fun _ _ => Tryz.call91 _ _) Tryz.func91 rfl Tryz.ntmps91 (Nat.le_of_ble_eq_true rfl) ?_; simp only [Ze, Nat.reduceAdd]
  repeat' (first | refine uN ?_ | refine Yb S ?_ | refine Yv S ?_ | refine uC (kb) ?_ | refine Yx (fun _ => kb) ?_ | refine Y0 (fun _ => kb) ?_ | refine Yz (fun _ => kb) ?_ | refine Yy (fun _ => kb) ?_ | (refine uB ?_; intro b) | refine dg S 100 (fun _ _ => ?_) | (refine uP ?_ ?_ <;> (intro h; ((try simp only [zs, ne_eq, and_true, true_and, eq_self, reduceCtorEq] at h); try exact zx))) | refine da 101 ?_ | fail)
  exact Zbm rfl ⟨rfl, rfl⟩
 ·simp only [if_neg h1]
  cases h2 : m.off with
  | true =>
   rw [h2] at kp
   simp only [if_true]
   refine Za (fun _ _ => Tryz.call91 _ _) Tryz.func91 rfl Tryz.ntmps91 (Nat.le_of_ble_eq_true rfl) ?_; simp only [Ze, Nat.reduceAdd]
   repeat' (first | refine uN ?_ | refine Yb S ?_ | refine Yv S ?_ | refine uC (kb) ?_ | refine uC (kp) ?_ | refine Yx (fun _ => kb) ?_ | refine Y0 (fun _ => kb) ?_ | refine Yz (fun _ => kb) ?_ | refine Yy (fun _ => kb) ?_ | refine Yx (fun _ => kp) ?_ | refine Y0 (fun _ => kp) ?_ | refine Yz (fun _ => kp) ?_ | refine Yy (fun _ => kp) ?_ | (refine uB ?_; intro b) | refine dg S 100 (fun _ _ => ?_) | (refine uP ?_ ?_ <;> (intro h; ((try simp only [zs, ne_eq, and_true, true_and, eq_self, reduceCtorEq] at h); try exact zx))) | refine da 101 ?_ | fail)
   exact Zbm rfl ⟨rfl, rfl⟩
  | false =>
   rw [h2] at kp
   simp only [Bool.false_eq_true, if_false]
   refine Za (fun _ _ => Tryz.call91 _ _) Tryz.func91 rfl Tryz.ntmps91 (Nat.le_of_ble_eq_true rfl) ?_; simp only [Ze, Nat.reduceAdd]
   repeat' (first | refine uN ?_ | refine Yb S ?_ | refine Yv S ?_ | refine uC (kb) ?_ | refine uC (kp) ?_ | refine Yx (fun _ => kb) ?_ | refine Y0 (fun _ => kb) ?_ | refine Yz (fun _ => kb) ?_ | refine Yy (fun _ => kb) ?_ | refine Yx (fun _ => kp) ?_ | refine Y0 (fun _ => kp) ?_ | refine Yz (fun _ => kp) ?_ | refine Yy (fun _ => kp) ?_ | (refine uB ?_; intro b) | refine dg S 100 (fun _ _ => ?_) | (refine uP ?_ ?_ <;> (intro h; ((try simp only [zs, ne_eq, and_true, true_and, eq_self, reduceCtorEq] at h); try exact zx))) | refine da 101 ?_ | fail)
   refine fw 1 ?_
   refine Zx (σ := Nat) (fun d => [(0, pt bp 0), (4, pt b 0), (28, iv d)]) (fun d => Yo bp ba m :: jC b bp ⟨lO m.b d, false⟩ :: L) (fun d => d ≤ 6) (fun d => 6 - d) 0 uS ?_ (by omega) ?_
   ·rw [jC_new]; exact List.Sublist.refl _
   intro d d1
   by_cases hd : d < 6
   ·rw [show lO m.b d = Zea m.b d 0 from if_pos hd]
    repeat' (first | refine uN ?_ | refine Yb S ?_ | refine Yv S ?_ | (refine uB ?_; intro b) | refine dg S 100 (fun _ _ => ?_) | (refine uP ?_ ?_ <;> (intro h; ((try simp only [zs, ne_eq, and_true, true_and, eq_self, reduceCtorEq] at h); try exact zx))) | refine da 101 ?_ | fail)
    refine Zx (σ := Nat) (fun k => [(0, pt bp 0), (4, pt b 0), (28, iv d), (5, iv d), (31, iv k)]) (fun k => Yo bp ba m :: jC b bp ⟨Zea m.b d k, false⟩ :: L) (fun k => k ≤ 2) (fun k => 2 - k) 0 uS (List.Sublist.refl _) (by omega) ?_
    intro k k1
    by_cases hk : k < 2
    ·have kr := Zf2 T E bp ba m ((2 * (d : Int) + (k : Int)) * 18) 18 (jC b bp ⟨Zea m.b d k, false⟩ :: L) (hG.cons _) hl
     rw [Zq1 m d k hd hk (by omega) h2] at kr
     have kh : ∀ L, HC Tryz.prog 130 [iv k, bs (Yu m.b (2 * d + k))] L (fun v L' => v = .agg ⟨Zsh (Yw k (Yu m.b (2 * d + k)))⟩ ∧ L' = L) := fun L => Zn0 _ _ L (Zcv _ _ (by omega) (by omega))
     have g1 := Zkw (bp := bp) (j := ⟨Zea m.b d k, false⟩) (lAt_get m.b d k)
     have p1 := jputs (bp := bp) (j := ⟨Zea m.b d k, false⟩) (d := d) (Yw k (Yu m.b (2 * d + k))) (by simp [lAt_len m.b d k (by omega)]; omega)
     repeat' (first | refine uN ?_ | refine Yb S ?_ | refine Yv S ?_ | refine uC (kr) ?_ | refine uC (kh _) ?_ | refine Yx (fun _ => kr) ?_ | refine Y0 (fun _ => kr) ?_ | refine Yz (fun _ => kr) ?_ | refine Yy (fun _ => kr) ?_ | refine Yx (fun _ => kh _) ?_ | refine Y0 (fun _ => kh _) ?_ | refine Yz (fun _ => kh _) ?_ | refine Yy (fun _ => kh _) ?_ | (refine uB ?_; intro b) | refine dg S 100 (fun _ _ => ?_) | (refine uP ?_ ?_ <;> (intro h; ((try simp only [zs, ne_eq, and_true, true_and, eq_self, reduceCtorEq] at h); try exact zx))) | refine da 101 ?_ | fail)
     ·refine Zl (k + 1) uS ?_ (by omega) (by omega)
      rw [← lAt_upd _ _ _ h]
      exact (List.Sublist.refl _).cons _
     ·refine Zl (k + 1) uS ?_ (by omega) (by omega)
      rw [← lAt_same _ _ _ h]
      exact (List.Sublist.refl _).cons _
    ·rw [show k = 2 by omega]
     repeat' (first | refine uN ?_ | refine Yb S ?_ | refine Yv S ?_ | (refine uB ?_; intro b) | refine dg S 100 (fun _ _ => ?_) | (refine uP ?_ ?_ <;> (intro h; ((try simp only [zs, ne_eq, and_true, true_and, eq_self, reduceCtorEq] at h); try exact zx))) | refine da 101 ?_ | fail)
     refine Zl (d + 1) uS ?_ (by omega) (by omega)
     rw [lO_next _ _ hd]
     exact List.Sublist.refl _
   ·rw [show d = 6 by omega]
    repeat' (first | refine uN ?_ | refine Yb S ?_ | refine Yv S ?_ | (refine uB ?_; intro b) | refine dg S 100 (fun _ _ => ?_) | (refine uP ?_ ?_ <;> (intro h; ((try simp only [zs, ne_eq, and_true, true_and, eq_self, reduceCtorEq] at h); try exact zx))) | refine da 101 ?_ | fail)
    refine Ve (L' := jC b bp ⟨Zv m.b, false⟩ :: Yo bp ba m :: L) ?_ ⟨b, rfl, rfl⟩
    rw [show lO m.b 6 = Zv m.b from rfl]
    exact LS.of_perm (by simp only [List.flatten_cons, ← List.append_assoc]; exact (List.perm_append_comm.append_right _))
end Go.HL
end

/-! JnE -/
section
namespace Go.HL
open Go Go.Proofs
set_option linter.unusedVariables false
set_option linter.unusedSimpArgs false

structure PlOk (m : Pl) : Prop where
 len : m.b.length ≤ 1000000
 lo : -1 ≤ m.cut
 hi : m.cut ≤ 9223372036854775807
theorem Znk {m : Pl} {a n : Int} (h : Vt m a n = none) : 0 ≤ a ∧ 0 ≤ n ∧ a + n ≤ m.b.length ∧ m.off = false := by
 unfold Vt at h
 split at h
 ·cases h
 ·split at h
  ·cases h
  ·exact ⟨by omega, by omega, by omega, by simp_all⟩
theorem Zop (m : Pl) (a : Int) (s : List UInt8) : (Xc m a s).1.b.length = m.b.length := by
 unfold Xc
 cases h : Vt m a s.length with
 | some e => rfl
 | none =>
  obtain ⟨h1, h2, h3, h4⟩ := Znk h
  exact Ze2 (by simp; omega)
theorem Zdb {m : Pl} (h : PlOk m) (a : Int) (s : List UInt8) : PlOk (Xc m a s).1 := by
 refine ⟨by rw [Zop]; exact h.len, ?_, ?_⟩
 all_goals
  have h1 := h.lo
  have h2 := h.hi
  unfold Xc
  cases hm : Vt m a s.length with
  | some e => assumption
  | none =>
   simp only [Zdk]
   split
   ·omega
   ·have : kM m s.length ≤ m.cut.toNat := by unfold kM; rw [if_neg (by assumption)]; omega
    omega
def Zc1 (deal : Int) (e : Ent) : Int := (2 * deal + e.n % 2) * 18
def Zh9 (m : Pl) (deal : Int) (e : Ent) : Pl × Option Nat := match (Un m (Zc1 deal e + 18 - 1) 1).2 with
 | some x => (m, some x)
 | none => if (Un m (Zc1 deal e + 18 - 1) 1).1 = [0] then (m, none) else Xc m (Zc1 deal e + 18 - 1) [0]
def Zgs (m : Pl) (deal : Int) (e : Ent) : Pl × Option Nat := match (Zh9 m deal e).2 with
 | some x => ((Zh9 m deal e).1, some x)
 | none => Xc (Zh9 m deal e).1 (Zc1 deal e) (Yl e)
def Zdy (m : Pl) (deal : Int) (e : Ent) : Pl × Option Nat := match (Zgs m deal e).2 with
 | some x => ((Zgs m deal e).1, some x)
 | none => Xc (Zgs m deal e).1 (Zc1 deal e + 18 - 1) Yj
theorem Zn7 {m : Pl} (h : PlOk m) (deal : Int) (e : Ent) : PlOk (Zh9 m deal e).1 := by
 unfold Zh9
 split
 ·exact h
 ·split
  ·exact h
  ·exact Zdb h _ _
theorem Znc {m : Pl} (h : PlOk m) (deal : Int) (e : Ent) : PlOk (Zgs m deal e).1 := by
 unfold Zgs
 split
 ·exact Zn7 h _ _
 ·exact Zdb (Zn7 h _ _) _ _
theorem jwM_ok {m : Pl} (h : PlOk m) (deal : Int) (e : Ent) : PlOk (Zdy m deal e).1 := by
 unfold Zdy
 split
 ·exact Znc h _ _
 ·exact Zdb (Znc h _ _) _ _
theorem Zay (e : Ent) : (Yl e).length = 17 := by simp [Yl, head, Xb]
theorem j0 (bp : Nat) (j : Jn) : (Zz bp j)[0 + 0]? = some (pt bp 0) := rfl
set_option maxHeartbeats 2000000 attribute [local irreducible] HW HO HQ HD HC QOp Has Upd Zp Gets Yf Z8 Zr X3 Z9 Zj Wa Zy
attribute [local irreducible] Zz Yo
theorem Zi3 (T : Nat) (E : Nat → Addr) (bj bp ba : Nat) (m : Pl) (j : Jn) (deal : Int) (e : Ent) (L : Zb) (hG : Er T E [2, 6] L) (hm : PlOk m) (hd : 0 ≤ deal ∧ deal < 6) (he : 0 ≤ e.n ∧ e.n ≤ 4294967296) :
  HC Tryz.prog 182 [pt bj 0, iv deal, .agg ⟨Zsh e⟩] (Yo bp ba m :: jC bj bp j :: L) (fun v L' => v = eV T E (Zdy m deal e).2 ∧ L' = Yo bp ba (Zdy m deal e).1 :: jC bj bp j :: L) := by
 have k1 : ∀ L, Er T E [2, 6] L → HC Tryz.prog 129 [pt bp 0, iv ((2 * deal + e.n % 2) * 18 + 18 - 1), iv 1] (Yo bp ba m :: L) (fun v L' => v = .tuple ⟨[bs (Un m (Zc1 deal e + 18 - 1) 1).1, eV T E (Un m (Zc1 deal e + 18 - 1) 1).2]⟩ ∧ L' = Yo bp ba m :: L) := fun L hg => Zf2 T E bp ba m (Zc1 deal e + 18 - 1) 1 L hg hm.len
 have g0 := j0 bp j
 have kb : ∀ L, HC Tryz.prog 160 [.agg ⟨Zsh e⟩] L (fun v L' => v = bs (Yl e) ∧ L' = L) := fun L => Zgd e L
 have lb := Zay e
 have o1 := Zn7 hm deal e
 have o2 := Znc hm deal e
 have w1 : ∀ L, Er T E [2, 6] L → HC Tryz.prog 192 [pt bp 0, iv ((2 * deal + e.n % 2) * 18 + 18 - 1), bs [0]] (Yo bp ba m :: L) (fun v L' => v = eV T E (Xc m (Zc1 deal e + 18 - 1) [0]).2 ∧ L' = Yo bp ba (Xc m (Zc1 deal e + 18 - 1) [0]).1 :: L) := fun L hg => Zaw T E bp ba m (Zc1 deal e + 18 - 1) [0] L hg hm.len (by simp) ⟨hm.lo, hm.hi⟩
 have w2 : ∀ L, Er T E [2, 6] L → HC Tryz.prog 192 [pt bp 0, iv ((2 * deal + e.n % 2) * 18), bs (Yl e)] (Yo bp ba (Zh9 m deal e).1 :: L) (fun v L' => v = eV T E (Xc (Zh9 m deal e).1 (Zc1 deal e) (Yl e)).2 ∧ L' = Yo bp ba (Xc (Zh9 m deal e).1 (Zc1 deal e) (Yl e)).1 :: L) := fun L hg => Zaw T E bp ba (Zh9 m deal e).1 (Zc1 deal e) (Yl e) L hg o1.len (by omega) ⟨o1.lo, o1.hi⟩
 have w3 : ∀ L, Er T E [2, 6] L → HC Tryz.prog 192 [pt bp 0, iv ((2 * deal + e.n % 2) * 18 + 18 - 1), bs [165]] (Yo bp ba (Zgs m deal e).1 :: L) (fun v L' => v = eV T E (Xc (Zgs m deal e).1 (Zc1 deal e + 18 - 1) [165]).2 ∧ L' = Yo bp ba (Xc (Zgs m deal e).1 (Zc1 deal e + 18 - 1) [165]).1 :: L) := fun L hg => Zaw T E bp ba (Zgs m deal e).1 (Zc1 deal e + 18 - 1) Yj L hg o2.len (by simp [Yj]) ⟨o2.lo, o2.hi⟩
 refine Za (fun _ _ => Tryz.call182 _ _) Tryz.func182 rfl Tryz.ntmps182 (Nat.le_of_ble_eq_true rfl) ?_; simp only [Ze, Nat.reduceAdd]
 repeat' (first | refine uN ?_ | refine Yb S ?_ | (refine uB ?_; intro b) | (refine uP ?_ ?_ <;> (intro h; ((try simp only [zs, ne_eq, and_true, true_and, eq_self, reduceCtorEq] at h); try exact zx))) | fail)
 refine fo 1 ?_
 have fin : ∀ (b : Nat) (o : Obj) (m' : Pl), LS (Yo bp ba m' :: jC bj bp j :: L).flatten (Yo bp ba m' :: [(b, o)] :: jC bj bp j :: L).flatten := fun b o m' => LS.boths _ (LS.skip _ (LS.refl _))
 cases h1 : (Un m (Zc1 deal e + 18 - 1) 1).2 with
 | some x =>
  have e1 : Zdy m deal e = (m, some x) := by simp [Zdy, Zgs, Zh9, h1]
  rw [h1] at k1
  refine gc (k1 _ ((hG.cons _).cons _)) ?_
  rintro v L' ⟨rfl, rfl⟩
  repeat' (first | refine uN ?_ | refine Yb S ?_ | (refine uB ?_; intro b) | (refine uP ?_ ?_ <;> (intro h; ((try simp only [zs, ne_eq, and_true, true_and, eq_self, reduceCtorEq] at h); try exact zx))) | fail)
  rw [e1]
  exact Xm (fin _ _ _) ⟨rfl, rfl⟩
 | none =>
  rw [h1] at k1
  refine gc (k1 _ ((hG.cons _).cons _)) ?_
  rintro v L' ⟨rfl, rfl⟩
  by_cases h0 : (Un m (Zc1 deal e + 18 - 1) 1).1 = [0]
  ·have e1 : Zh9 m deal e = (m, none) := by simp [Zh9, h1, h0]
   rw [e1] at w2
   repeat' (first | refine uN ?_ | refine Z0 S ?_ | refine uC (kb _) ?_ | refine Yx (fun _ => kb _) ?_ | refine Y0 (fun _ => kb _) ?_ | refine Yz (fun _ => kb _) ?_ | refine Yy (fun _ => kb _) ?_ | (refine uB ?_; intro b) | (refine uP ?_ ?_ <;> (intro h; ((try simp only [zs, ne_eq, and_true, true_and, eq_self, reduceCtorEq] at h); try exact zx))) | refine da 101 ?_ | fail)
   all_goals try exact absurd h0 h
   refine gc (w2 _ ((hG.cons _).cons _)) ?_
   rintro v L' ⟨rfl, rfl⟩
   have e2 : Zgs m deal e = Xc m (Zc1 deal e) (Yl e) := by simp [Zgs, e1]
   rw [← e2]
   cases h2 : (Zgs m deal e).2 with
   | some x =>
    have e3 : Zdy m deal e = ((Zgs m deal e).1, some x) := by simp [Zdy, h2]
    repeat' (first | refine uN ?_ | refine Z0 S ?_ | refine uC (kb _) ?_ | refine Yx (fun _ => kb _) ?_ | refine Y0 (fun _ => kb _) ?_ | refine Yz (fun _ => kb _) ?_ | refine Yy (fun _ => kb _) ?_ | (refine uB ?_; intro b) | (refine uP ?_ ?_ <;> (intro h; ((try simp only [zs, ne_eq, and_true, true_and, eq_self, reduceCtorEq] at h); try exact zx))) | refine da 101 ?_ | fail)
    rw [e3]
    exact Xm (fin _ _ _) ⟨rfl, rfl⟩
   | none =>
    have e3 : Zdy m deal e = Xc (Zgs m deal e).1 (Zc1 deal e + 18 - 1) [165] := by simp [Zdy, h2, Yj]
    rw [← e3] at w3
    repeat' (first | refine uN ?_ | refine Z0 S ?_ | refine uC (kb _) ?_ | refine Yx (fun _ => kb _) ?_ | refine Y0 (fun _ => kb _) ?_ | refine Yz (fun _ => kb _) ?_ | refine Yy (fun _ => kb _) ?_ | (refine uB ?_; intro b) | (refine uP ?_ ?_ <;> (intro h; ((try simp only [zs, ne_eq, and_true, true_and, eq_self, reduceCtorEq] at h); try exact zx))) | refine da 101 ?_ | fail)
    refine gc (w3 _ ((hG.cons _).cons _)) ?_
    rintro v L' ⟨rfl, rfl⟩
    repeat' (first | refine uN ?_ | refine Z0 S ?_ | refine uC (kb _) ?_ | refine Yx (fun _ => kb _) ?_ | refine Y0 (fun _ => kb _) ?_ | refine Yz (fun _ => kb _) ?_ | refine Yy (fun _ => kb _) ?_ | (refine uB ?_; intro b) | (refine uP ?_ ?_ <;> (intro h; ((try simp only [zs, ne_eq, and_true, true_and, eq_self, reduceCtorEq] at h); try exact zx))) | refine da 101 ?_ | fail)
    exact Xm (fin _ _ _) ⟨rfl, rfl⟩
  ·have e1 : Zh9 m deal e = Xc m (Zc1 deal e + 18 - 1) [0] := by simp [Zh9, h1, h0]
   rw [← e1] at w1
   repeat' (first | refine uN ?_ | refine Z0 S ?_ | refine uC (kb _) ?_ | refine Yx (fun _ => kb _) ?_ | refine Y0 (fun _ => kb _) ?_ | refine Yz (fun _ => kb _) ?_ | refine Yy (fun _ => kb _) ?_ | (refine uB ?_; intro b) | (refine uP ?_ ?_ <;> (intro h; ((try simp only [zs, ne_eq, and_true, true_and, eq_self, reduceCtorEq] at h); try exact zx))) | refine da 101 ?_ | fail)
   all_goals try exact absurd h h0
   refine gc (w1 _ ((hG.cons _).cons _)) ?_
   rintro v L' ⟨rfl, rfl⟩
   cases h4 : (Zh9 m deal e).2 with
   | some x =>
    have e3 : Zdy m deal e = ((Zh9 m deal e).1, some x) := by simp [Zdy, Zgs, h4]
    repeat' (first | refine uN ?_ | refine Z0 S ?_ | refine uC (kb _) ?_ | refine Yx (fun _ => kb _) ?_ | refine Y0 (fun _ => kb _) ?_ | refine Yz (fun _ => kb _) ?_ | refine Yy (fun _ => kb _) ?_ | (refine uB ?_; intro b) | (refine uP ?_ ?_ <;> (intro h; ((try simp only [zs, ne_eq, and_true, true_and, eq_self, reduceCtorEq] at h); try exact zx))) | refine da 101 ?_ | fail)
    rw [e3]
    exact Xm (fin _ _ _) ⟨rfl, rfl⟩
   | none =>
    have e2 : Zgs m deal e = Xc (Zh9 m deal e).1 (Zc1 deal e) (Yl e) := by simp [Zgs, h4]
    rw [← e2] at w2
    repeat' (first | refine uN ?_ | refine Z0 S ?_ | refine uC (kb _) ?_ | refine Yx (fun _ => kb _) ?_ | refine Y0 (fun _ => kb _) ?_ | refine Yz (fun _ => kb _) ?_ | refine Yy (fun _ => kb _) ?_ | (refine uB ?_; intro b) | (refine uP ?_ ?_ <;> (intro h; ((try simp only [zs, ne_eq, and_true, true_and, eq_self, reduceCtorEq] at h); try exact zx))) | refine da 101 ?_ | fail)
    refine gc (w2 _ ((hG.cons _).cons _)) ?_
    rintro v L' ⟨rfl, rfl⟩
    cases h2 : (Zgs m deal e).2 with
    | some x =>
     have e3 : Zdy m deal e = ((Zgs m deal e).1, some x) := by simp [Zdy, h2]
     repeat' (first | refine uN ?_ | refine Z0 S ?_ | refine uC (kb _) ?_ | refine Yx (fun _ => kb _) ?_ | refine Y0 (fun _ => kb _) ?_ | refine Yz (fun _ => kb _) ?_ | refine Yy (fun _ => kb _) ?_ | (refine uB ?_; intro b) | (refine uP ?_ ?_ <;> (intro h; ((try simp only [zs, ne_eq, and_true, true_and, eq_self, reduceCtorEq] at h); try exact zx))) | refine da 101 ?_ | fail)
     rw [e3]
     exact Xm (fin _ _ _) ⟨rfl, rfl⟩
    | none =>
     have e3 : Zdy m deal e = Xc (Zgs m deal e).1 (Zc1 deal e + 18 - 1) [165] := by simp [Zdy, h2, Yj]
     rw [← e3] at w3
     repeat' (first | refine uN ?_ | refine Z0 S ?_ | refine uC (kb _) ?_ | refine Yx (fun _ => kb _) ?_ | refine Y0 (fun _ => kb _) ?_ | refine Yz (fun _ => kb _) ?_ | refine Yy (fun _ => kb _) ?_ | (refine uB ?_; intro b) | (refine uP ?_ ?_ <;> (intro h; ((try simp only [zs, ne_eq, and_true, true_and, eq_self, reduceCtorEq] at h); try exact zx))) | refine da 101 ?_ | fail)
     refine gc (w3 _ ((hG.cons _).cons _)) ?_
     rintro v L' ⟨rfl, rfl⟩
     repeat' (first | refine uN ?_ | refine Z0 S ?_ | refine uC (kb _) ?_ | refine Yx (fun _ => kb _) ?_ | refine Y0 (fun _ => kb _) ?_ | refine Yz (fun _ => kb _) ?_ | refine Yy (fun _ => kb _) ?_ | (refine uB ?_; intro b) | (refine uP ?_ ?_ <;> (intro h; ((try simp only [zs, ne_eq, and_true, true_and, eq_self, reduceCtorEq] at h); try exact zx))) | refine da 101 ?_ | fail)
     exact Xm (fin _ _ _) ⟨rfl, rfl⟩
end Go.HL
end

/-! JnF -/
section
namespace Go.HL
open Go Go.Proofs
set_option linter.unusedVariables false
set_option linter.unusedSimpArgs false

def Uv (deal : Int) (s : St) : Prop := deal < 0 ∨ 6 ≤ deal ∨ s.ph < 0 ∨ 255 < s.ph ∨ s.pr < 0 ∨ s.att < 0 ∨ 1048576 < max s.pr s.att
instance (deal : Int) (s : St) : Decidable (Uv deal s) := by unfold Uv; infer_instance
instance : DecidableEq St := fun a b => decidable_of_iff (a.ph = b.ph ∧ a.pr = b.pr ∧ a.att = b.att) (by
 obtain ⟨a1, a2, a3⟩ := a
 obtain ⟨b1, b2, b3⟩ := b
 simp)
theorem St.ext3 {a b : St} (h : a.ph = b.ph ∧ a.pr = b.pr ∧ a.att = b.att) : a = b := by
 obtain ⟨a1, a2, a3⟩ := a
 obtain ⟨b1, b2, b3⟩ := b
 simp_all
def Wt (m : Pl) (j : Jn) (deal : Int) (s : St) : Pl × Jn × Option Nat :=
 if j.dead = true then (m, j, some 6) else if Uv deal s then (m, j, some 2) else
 if (j.l.getD deal.toNat Zm).s = s then (m, j, none) else
 if 4294967296 ≤ (j.l.getD deal.toNat Zm).n + 1 then (m, j, some 5) else
 match (Zdy m deal ⟨(j.l.getD deal.toNat Zm).n + 1, s⟩).2 with
 | some x => ((Zdy m deal ⟨(j.l.getD deal.toNat Zm).n + 1, s⟩).1, ⟨j.l, true⟩, some x)
 | none => ((Zdy m deal ⟨(j.l.getD deal.toNat Zm).n + 1, s⟩).1, ⟨j.l.set deal.toNat ⟨(j.l.getD deal.toNat Zm).n + 1, s⟩, j.dead⟩, none)
structure JnOk (j : Jn) : Prop where
 len : j.l.length = 6
 n0 : ∀ d, 0 ≤ (j.l.getD d Zm).n
 n1 : ∀ d, (j.l.getD d Zm).n ≤ 4294967296
set_option maxHeartbeats 2000000 attribute [local irreducible] HW HO HQ HD HC QOp Has Upd Zp Gets Yf Z8 Zr X3 Z9 Zj Wa Zy
attribute [local irreducible] Zz Yo
theorem Zqd (T : Nat) (E : Nat → Addr) (bj bp ba : Nat) (m : Pl) (j : Jn) (deal : Int) (s : St) (L : Zb) (hG : Er T E [2, 5, 6] L) (hm : PlOk m) (hj : JnOk j) :
  HC Tryz.prog 167 [pt bj 0, iv deal, .agg ⟨sc s⟩] (Yo bp ba m :: jC bj bp j :: L) (fun v L' => v = eV T E (Wt m j deal s).2.2 ∧ L' = Yo bp ba (Wt m j deal s).1 :: jC bj bp (Wt m j deal s).2.1 :: L) := by
 have gd := jdead (bp := bp) hj.len
 by_cases h1 : j.dead = true
 ·rw [h1] at gd
  rw [show Wt m j deal s = (m, j, some 6) from if_pos h1]
  refine Za (fun _ _ => Tryz.call167 _ _) Tryz.func167 rfl Tryz.ntmps167 (Nat.le_of_ble_eq_true rfl) ?_; simp only [Ze, Nat.reduceAdd]
  repeat' (first | refine uN ?_ | refine Z0 S ?_ | (refine uB ?_; intro b) | refine dg S 100 (fun _ _ => ?_) | (refine uP ?_ ?_ <;> (intro h; ((try simp only [zs, ne_eq, and_true, true_and, eq_self, reduceCtorEq] at h); try exact zx))) | refine da 101 ?_ | fail)
  exact Xm (LS.skip _ (LS.refl _)) ⟨rfl, rfl⟩
 by_cases h2 : Uv deal s
 ·rw [show j.dead = false by simpa using h1] at gd
  rw [show Wt m j deal s = (m, j, some 2) by unfold Wt; rw [if_neg h1, if_pos h2]]
  unfold Uv at h2
  refine Za (fun _ _ => Tryz.call167 _ _) Tryz.func167 rfl Tryz.ntmps167 (Nat.le_of_ble_eq_true rfl) ?_; simp only [Ze, Nat.reduceAdd]
  repeat' (first | refine uN ?_ | refine Z0 S ?_ | (refine uB ?_; intro b) | refine dg S 100 (fun _ _ => ?_) | (refine uP ?_ ?_ <;> (intro h; ((try simp only [zs, ne_eq, and_true, true_and, eq_self, reduceCtorEq] at h); try exact zx))) | refine da 101 ?_ | fail)
  all_goals exact Xm (LS.skip _ (LS.refl _)) ⟨rfl, rfl⟩
 rw [show j.dead = false by simpa using h1] at gd
 have hb := h2
 unfold Uv at hb
 obtain ⟨d, rfl⟩ := Int.eq_ofNat_of_zero_le (show 0 ≤ deal by omega)
 have hd : d < 6 := by omega
 have hlen := hj.len
 have n0 := hj.n0 d
 have n1 := hj.n1 d
 have hp : Wt m j d s = if (j.l.getD d Zm).s = s then (m, j, none) else if 4294967296 ≤ (j.l.getD d Zm).n + 1 then (m, j, some 5) else
   match (Zdy m d ⟨(j.l.getD d Zm).n + 1, s⟩).2 with
   | some x => ((Zdy m d ⟨(j.l.getD d Zm).n + 1, s⟩).1, ⟨j.l, true⟩, some x)
   | none => ((Zdy m d ⟨(j.l.getD d Zm).n + 1, s⟩).1, ⟨j.l.set d ⟨(j.l.getD d Zm).n + 1, s⟩, j.dead⟩, none) := by
  unfold Wt; rw [if_neg h1, if_neg h2]; rfl
 have he : j.l[d]? = some (j.l.getD d Zm) := by
  rw [List.getD, List.getElem?_eq_getElem (by omega)]; rfl
 have g1 := Zkw (bp := bp) he
 have g2 := Znp (bp := bp) he
 have pD := jputsD (bp := bp) hlen true
 have p1 := jputs (bp := bp) (j := j) (d := d) ⟨(j.l.getD d Zm).n + 1, s⟩ (by omega)
 have kw := Zi3 T E bj bp ba m j d ⟨(j.l.getD d Zm).n + 1, s⟩
 generalize hE : j.l.getD d Zm = e at *
 clear hj h2 he hE
 by_cases h3 : e.s = s
 ·rw [hp, if_pos h3]
  subst h3
  refine Za (fun _ _ => Tryz.call167 _ _) Tryz.func167 rfl Tryz.ntmps167 (Nat.le_of_ble_eq_true rfl) ?_; simp only [Ze, Nat.reduceAdd]
  repeat' (first | refine uN ?_ | refine Z0 S ?_ | (refine uB ?_; intro b) | refine dg S 100 (fun _ _ => ?_) | (refine uP ?_ ?_ <;> (intro h; ((try simp only [zs, ne_eq, and_true, true_and, eq_self, reduceCtorEq] at h); try exact zx))) | refine da 101 ?_ | fail)
  exact Xm (LS.skip _ (LS.refl _)) ⟨rfl, rfl⟩
 have h3' : ¬ (e.s.ph = s.ph ∧ e.s.pr = s.pr ∧ e.s.att = s.att) := fun h => h3 (St.ext3 h)
 by_cases h4 : 4294967296 ≤ e.n + 1
 ·rw [hp, if_neg h3, if_pos h4]
  refine Za (fun _ _ => Tryz.call167 _ _) Tryz.func167 rfl Tryz.ntmps167 (Nat.le_of_ble_eq_true rfl) ?_; simp only [Ze, Nat.reduceAdd]
  repeat' (first | refine uN ?_ | refine Z0 S ?_ | (refine uB ?_; intro b) | refine dg S 100 (fun _ _ => ?_) | (refine uP ?_ ?_ <;> (intro h; ((try simp only [zs, ne_eq, and_true, true_and, eq_self, reduceCtorEq] at h); try exact zx))) | refine da 101 ?_ | fail)
  exact Xm (LS.skip _ (LS.skip _ (LS.refl _))) ⟨rfl, rfl⟩
 ·rw [hp, if_neg h3, if_neg h4]
  have fin : ∀ (b b' : Nat) (o o' : Obj) (m' : Pl) (c : List Zn), LS (Yo bp ba m' :: c :: L).flatten (Yo bp ba m' :: c :: [(b, o)] :: [(b', o')] :: L).flatten := fun b b' o o' m' c => LS.boths _ (LS.boths _ (LS.skip _ (LS.skip _ (LS.refl _))))
  refine Za (fun _ _ => Tryz.call167 _ _) Tryz.func167 rfl Tryz.ntmps167 (Nat.le_of_ble_eq_true rfl) ?_; simp only [Ze, Nat.reduceAdd]
  repeat' (first | refine uN ?_ | refine Z0 S ?_ | (refine uB ?_; intro b) | refine dg S 100 (fun _ _ => ?_) | (refine uP ?_ ?_ <;> (intro h; ((try simp only [zs, ne_eq, and_true, true_and, eq_self, reduceCtorEq] at h); try exact zx))) | refine da 101 ?_ | fail)
  refine fo 3 ?_
  refine fo 3 ?_
  refine gc (kw _ ((hG.cons _).cons _).sub hm (by omega) (by simp only; omega)) ?_
  rintro v L' ⟨rfl, rfl⟩
  cases h5 : (Zdy m d ⟨e.n + 1, s⟩).2 with
  | some x =>
   repeat' (first | refine uN ?_ | refine Z0 S ?_ | (refine uB ?_; intro b) | refine dg S 100 (fun _ _ => ?_) | (refine uP ?_ ?_ <;> (intro h; ((try simp only [zs, ne_eq, and_true, true_and, eq_self, reduceCtorEq] at h); try exact zx))) | refine da 101 ?_ | fail)
   exact Xm (fin _ _ _ _ _ _) ⟨rfl, rfl⟩
  | none =>
   repeat' (first | refine uN ?_ | refine Z0 S ?_ | (refine uB ?_; intro b) | refine dg S 100 (fun _ _ => ?_) | (refine uP ?_ ?_ <;> (intro h; ((try simp only [zs, ne_eq, and_true, true_and, eq_self, reduceCtorEq] at h); try exact zx))) | refine da 101 ?_ | fail)
   exact Xm (fin _ _ _ _ _ _) ⟨rfl, rfl⟩
end Go.HL
end

/-! TabA -/
section
namespace Go.HL
open Go Go.Proofs
set_option linter.unusedVariables false
set_option linter.unusedSimpArgs false
set_option maxHeartbeats 2000000 attribute [local irreducible] HW HO HQ HD HC QOp Has Upd Zp Gets Yf Z8 Zr X3 Z9 Zj Wa Zy

def Vs (p : Int) : Int := if p = 4 then 2 else if p = 5 then 3 else 0
theorem Yd (p : Int) (L : Zb) : HC Tryz.prog 140 [iv p] L (fun v L' => v = iv (Vs p) ∧ L' = L) := by
 refine Za (fun _ _ => Tryz.call140 _ _) Tryz.func140 rfl Tryz.ntmps140 (Nat.le_of_ble_eq_true rfl) ?_; simp only [Ze, Nat.reduceAdd]
 repeat' (first | refine uN ?_ | (refine uP ?_ ?_ <;> (intro h; ((try simp only [zs, ne_eq, and_true, true_and, eq_self, reduceCtorEq] at h); try exact zx))) | fail)
 all_goals (refine Ys rfl rfl ?_ ⟨?_, rfl⟩; (next => (repeat (first | exact List.Sublist.refl _ | apply List.Sublist.cons))))
 all_goals simp [Vs, *]
def mayS (a b : Int) : Bool := decide ((0 ≤ a ∧ a ≤ 5 ∧ 0 ≤ b ∧ b ≤ 5) ∧ (a = b ∨ a = 0 ∨ (a ≠ 2 ∧ a ≠ 3 ∧ b ≠ 0 ∧ (a = 1 ∨ b ≠ 1))))
def Zj7 (xs : List St) (p : Int) : Bool := xs.any fun s => decide (s.ph = p)
def prep (s : St) : Bool := decide (s.ph = 4 ∨ s.ph = 5)
def Vw : List St → Int → Bool → Int × Bool
 | [], b, first => (b, first)
 | s :: r, b, first => if prep s then (if first || decide (b < s.att) then Vw r s.att false else Vw r b false) else Vw r b first
theorem Vy (r : List St) : ∀ (l : List St) (b : Int) (f : Bool), Vw (l ++ r) b f = Vw r (Vw l b f).1 (Vw l b f).2
 | [], b, f => rfl
 | s :: l, b, f => by
  simp only [List.cons_append, Vw]
  split
  ·split
   ·exact Vy r l _ _
   ·exact Vy r l _ _
  ·exact Vy r l _ _
def Y8 (xs : List St) : Int × Bool :=
 if Zj7 xs 2 then (2, true) else if Zj7 xs 3 then (3, true) else
 if xs.any (fun s => decide (s.ph = 4 ∧ s.att = (Vw xs 0 true).1)) then (4, false) else (5, false)
end Go.HL
end

/-! WcA -/
section
namespace Go.HL
open Go Go.Proofs
set_option linter.unusedVariables false
set_option linter.unusedSimpArgs false
def Ws (f : Fr) : Prop := f.fr < 0 ∨ 6 < f.fr ∨ f.to < 0 ∨ 6 < f.to ∨ f.dl < 0 ∨ 5 < f.dl ∨ f.kd < 1 ∨ 7 < f.kd ∨ f.att < 0 ∨ 1048576 < f.att ∨ f.s.pr < 0 ∨ 1048576 < f.s.pr ∨ f.s.att < 0 ∨ 1048576 < f.s.att ∨ f.s.ph < 0 ∨ 5 < f.s.ph
instance (f : Fr) : Decidable (Ws f) := by unfold Ws; infer_instance
def Zmw (f : Fr) : Option Nat := if Ws f then some 2 else none
set_option maxHeartbeats 2000000 attribute [local irreducible] HW HO HQ HD HC QOp Has Upd Zp Gets Yf Z8 Zr X3 Z9 Zj Wa Zy
set_option maxHeartbeats 1000000 in
theorem Zi0 (T : Nat) (E : Nat → Addr) (f : Fr) (L : Zb) (hG : Er T E [2] L) : HC Tryz.prog 165 [.agg ⟨fc f⟩] L (fun v L' => v = eV T E (Zmw f) ∧ L' = L) := by
 unfold Zmw
 refine Za (fun _ _ => Tryz.call165 _ _) Tryz.func165 rfl Tryz.ntmps165 (Nat.le_of_ble_eq_true rfl) ?_; simp only [Ze, Nat.reduceAdd]
 repeat' (first | refine uN ?_ | (refine uB ?_; intro b) | (refine uP ?_ ?_ <;> (intro h; ((try simp only [zs, ne_eq, and_true, true_and, eq_self, reduceCtorEq] at h); try exact zx))) | fail)
 refine Zqm 8 ?_
 repeat' (first | refine uN ?_ | (refine uB ?_; intro b) | (refine uP ?_ ?_ <;> (intro h; ((try simp only [zs, ne_eq, and_true, true_and, eq_self, reduceCtorEq] at h); try exact zx))) | fail)
 all_goals first
  | (exact Xm uZ ⟨by rw [if_pos (by unfold Ws; omega)], rfl⟩; done)
  | (exact Xm uZ ⟨by rw [if_neg (by unfold Ws; omega)], rfl⟩; done)
end Go.HL
end

/-! StA -/
section
namespace Go.HL
open Go Go.Proofs
set_option linter.unusedVariables false
set_option linter.unusedSimpArgs false
set_option maxHeartbeats 2000000 attribute [local irreducible] HW HO HQ HD HC QOp Has Upd Zp Gets Yf Z8 Zr X3 Z9 Zj Wa Zy
def Zed (sp bj mb : Nat) (id : Int) : List Zn := [(sp, .cells ⟨[pt bj 0, iv id, .map (some mb)]⟩ 150)]
def Zej (mb : Nat) (es : List MapEntry) (ck : Nat) : List Zn := [(mb, .map ⟨es⟩ ck)]
def Zfv (st : St) : Bool := decide (st.ph ≠ 2 ∧ st.ph ≠ 3)
def askM (ref : Int → Bool) (f : Fr) (st : St) : St := if st.ph = 0 then (if ref f.dl then { st with ph := 3 } else { st with ph := 1 }) else st
def Yr (ref : Int → Bool) (f : Fr) (st : St) : St × Int × Bool :=
 if f.kd = 1 then (askM ref f st, 2, decide ((askM ref f st).ph ≠ 3)) else
 if f.kd = 3 then ({ st with pr := max st.pr f.att }, 4, decide (st.pr < f.att)) else
 if f.kd = 5 then (if Vs f.s.ph = 0 then (st, 0, false) else if Zfv st = true ∧ st.pr ≤ f.att then (⟨f.s.ph, f.att, f.att⟩, 6, true) else (st, 6, false)) else
 if f.kd = 7 then (if Zfv st = true ∧ (f.s.ph = 2 ∨ f.s.ph = 3) then { st with ph := f.s.ph } else st, 0, false) else (st, 0, false)
set_option maxHeartbeats 1000000 in
theorem Znd (sp bj mb : Nat) (id : Int) (es : List MapEntry) (ck : Nat) (ref : Int → Bool) (f : Fr) (st : St) (L : Zb) (hF : Zy iv es ref) :
  HC Tryz.prog 166 [pt sp 0, .agg ⟨fc f⟩, .agg ⟨sc st⟩] (Zed sp bj mb id :: Zej mb es ck :: L) (fun v L' => v = .tuple ⟨[.agg ⟨sc (Yr ref f st).1⟩, iv (Yr ref f st).2.1, .bool (Yr ref f st).2.2]⟩ ∧ L' = Zed sp bj mb id :: Zej mb es ck :: L) := by
 unfold Yr
 have hop : ∀ b, Zfv st = b → (b = true ↔ st.ph ≠ 2 ∧ st.ph ≠ 3) := fun b h => by rw [← h]; simp [Zfv]
 generalize Zfv st = op at *
 replace hop := hop op rfl
 by_cases k1 : f.kd = 1
 ·rw [if_pos k1]
  unfold askM
  refine Za (fun _ _ => Tryz.call166 _ _) Tryz.func166 rfl Tryz.ntmps166 (Nat.le_of_ble_eq_true rfl) ?_; simp only [Ze, Nat.reduceAdd]
  repeat' (first | refine uN ?_ | refine Yb S ?_ | refine Yv S ?_ | (refine uB ?_; intro b) | (refine uP ?_ ?_ <;> (intro h; ((try simp only [zs, ne_eq, and_true, true_and, eq_self, reduceCtorEq] at h); try exact zx))) | refine da 101 ?_ | fail)
  all_goals refine sp3 (LS.skip _ (LS.skip _ (LS.skip _ (LS.refl _)))) ⟨?_, rfl⟩ (hx := Vu S (hg := Zd rfl (Zd rfl (Zd rfl Zw))))
  all_goals simp [sc, *]
 rw [if_neg k1]
 by_cases k3 : f.kd = 3
 ·rw [if_pos k3]
  refine Za (fun _ _ => Tryz.call166 _ _) Tryz.func166 rfl Tryz.ntmps166 (Nat.le_of_ble_eq_true rfl) ?_; simp only [Ze, Nat.reduceAdd]
  repeat' (first | refine uN ?_ | refine Yb S ?_ | refine Yv S ?_ | (refine uB ?_; intro b) | (refine uP ?_ ?_ <;> (intro h; ((try simp only [zs, ne_eq, and_true, true_and, eq_self, reduceCtorEq] at h); try exact zx))) | refine da 101 ?_ | fail)
  all_goals refine sp3 (LS.skip _ (LS.skip _ (LS.skip _ (LS.refl _)))) ⟨?_, rfl⟩ (hx := Vu S (hg := Zd rfl (Zd rfl (Zd rfl Zw))))
  all_goals simp [sc, *]
 rw [if_neg k3]
 by_cases k5 : f.kd = 5
 ·rw [if_pos k5]
  by_cases ha : Vs f.s.ph = 0
  ·rw [if_pos ha]
   refine Za (fun _ _ => Tryz.call166 _ _) Tryz.func166 rfl Tryz.ntmps166 (Nat.le_of_ble_eq_true rfl) ?_; simp only [Ze, Nat.reduceAdd]
   repeat' (first | refine uN ?_ | refine Yb S ?_ | refine Yv S ?_ | refine uC (Yd _ _) ?_ | refine Yx (fun _ => Yd _ _) ?_ | refine Y0 (fun _ => Yd _ _) ?_ | refine Yz (fun _ => Yd _ _) ?_ | refine Yy (fun _ => Yd _ _) ?_ | (refine uB ?_; intro b) | (refine uP ?_ ?_ <;> (intro h; ((try simp only [zs, ne_eq, and_true, true_and, eq_self, reduceCtorEq] at h); try exact zx))) | refine da 101 ?_ | fail)
   all_goals refine sp3 (LS.skip _ (LS.skip _ (LS.skip _ (LS.refl _)))) ⟨?_, rfl⟩ (hx := Vu S (hg := Zd rfl (Zd rfl (Zd rfl Zw))))
   all_goals simp [sc]
  ·rw [if_neg ha]
   refine Za (fun _ _ => Tryz.call166 _ _) Tryz.func166 rfl Tryz.ntmps166 (Nat.le_of_ble_eq_true rfl) ?_; simp only [Ze, Nat.reduceAdd]
   repeat' (first | refine uN ?_ | refine Yb S ?_ | refine Yv S ?_ | refine uC (Yd _ _) ?_ | refine Yx (fun _ => Yd _ _) ?_ | refine Y0 (fun _ => Yd _ _) ?_ | refine Yz (fun _ => Yd _ _) ?_ | refine Yy (fun _ => Yd _ _) ?_ | (refine uB ?_; intro b) | (refine uP ?_ ?_ <;> (intro h; ((try simp only [zs, ne_eq, and_true, true_and, eq_self, reduceCtorEq] at h); try exact zx))) | refine da 101 ?_ | fail)
   all_goals refine sp3 (LS.skip _ (LS.skip _ (LS.skip _ (LS.refl _)))) ⟨?_, rfl⟩ (hx := Vu S (hg := Zd rfl (Zd rfl (Zd rfl Zw))))
   all_goals simp [sc, hop, *]
 rw [if_neg k5]
 by_cases k7 : f.kd = 7
 ·rw [if_pos k7]
  refine Za (fun _ _ => Tryz.call166 _ _) Tryz.func166 rfl Tryz.ntmps166 (Nat.le_of_ble_eq_true rfl) ?_; simp only [Ze, Nat.reduceAdd]
  repeat' (first | refine uN ?_ | refine Yb S ?_ | refine Yv S ?_ | (refine uB ?_; intro b) | (refine uP ?_ ?_ <;> (intro h; ((try simp only [zs, ne_eq, and_true, true_and, eq_self, reduceCtorEq] at h); try exact zx))) | refine da 101 ?_ | fail)
  all_goals refine sp3 (LS.skip _ (LS.skip _ (LS.skip _ (LS.refl _)))) ⟨?_, rfl⟩ (hx := Vu S (hg := Zd rfl (Zd rfl (Zd rfl Zw))))
  all_goals simp [sc, hop, *]
 rw [if_neg k7]
 refine Za (fun _ _ => Tryz.call166 _ _) Tryz.func166 rfl Tryz.ntmps166 (Nat.le_of_ble_eq_true rfl) ?_; simp only [Ze, Nat.reduceAdd]
 repeat' (first | refine uN ?_ | refine Yb S ?_ | refine Yv S ?_ | (refine uB ?_; intro b) | (refine uP ?_ ?_ <;> (intro h; ((try simp only [zs, ne_eq, and_true, true_and, eq_self, reduceCtorEq] at h); try exact zx))) | refine da 101 ?_ | fail)
 all_goals refine sp3 (LS.skip _ (LS.skip _ (LS.skip _ (LS.refl _)))) ⟨?_, rfl⟩ (hx := Vu S (hg := Zd rfl (Zd rfl (Zd rfl Zw))))
 all_goals simp [sc]
end Go.HL
end

/-! StB -/
section
namespace Go.HL
open Go Go.Proofs
set_option linter.unusedVariables false
set_option linter.unusedSimpArgs false
def Zia (id : Int) (m : Pl) : Option Nat := if id < 0 ∨ 7 ≤ id then some 2 else if m.b.length < 216 then some 2 else if m.off then some 6 else none
set_option maxHeartbeats 2000000 attribute [local irreducible] HW HO HQ HD HC QOp Has Upd Zp Gets Yf Z8 Zr X3 Z9 Zj Wa Zy
attribute [local irreducible] Zz Yo
theorem Zd1 (bj bp : Nat) (j : Jn) (d : Nat) (L : Zb) (hb : Has L bj (.cells ⟨Zz bp j⟩ 197)) (hl : j.l.length = 6) (hd : d < 6) : HC Tryz.prog 113 [pt bj 0, iv d] L (fun v L' => v = .tuple ⟨[.agg ⟨sc (j.l.getD d Zm).s⟩, .nilIface]⟩ ∧ L' = L) := by
 refine hcHas (fun L => ?_) hb
 have he : j.l[d]? = some (j.l.getD d Zm) := by
  rw [List.getD, List.getElem?_eq_getElem (by omega)]; rfl
 have g1 := Zkw (bp := bp) he
 have g2 := Znp (bp := bp) he
 refine Za (fun _ _ => Tryz.call113 _ _) Tryz.func113 rfl Tryz.ntmps113 (Nat.le_of_ble_eq_true rfl) ?_; simp only [Ze, Nat.reduceAdd]
 repeat' (first | refine uN ?_ | refine Yb S ?_ | refine Yv S ?_ | (refine uB ?_; intro b) | refine dg S 100 (fun _ _ => ?_) | (refine uP ?_ ?_ <;> (intro h; ((try simp only [zs, ne_eq, and_true, true_and, eq_self, reduceCtorEq] at h); try exact zx))) | refine da 101 ?_ | fail)
 exact Ve (LS.skip _ (LS.refl _)) ⟨rfl, rfl⟩ (hx := Vu S (hg := Zd rfl (Zd rfl (Zd rfl Zw))))
theorem Ze9 (T : Nat) (E : Nat → Addr) (id : Int) (bp ba : Nat) (m : Pl) (L : Zb) (hG : Er T E [2, 3, 6] L) (hm : m.b.length ≤ 1000000) : HC Tryz.prog 33 [iv id, pt bp 0] (Yo bp ba m :: L) (fun v L' => match Zia id m with
  | some e => v = .tuple ⟨[.pointer none, eV T E (some e)]⟩ ∧ L' = Yo bp ba m :: L
  | none => ∃ sp bj mb, v = .tuple ⟨[pt sp 0, .nilIface]⟩ ∧ L' = Zed sp bj mb id :: Zej mb [] 0 :: Yo bp ba m :: jC bj bp ⟨Zv m.b, false⟩ :: L) := by
 have ko := Zgl T E bp ba m L hG.sub hm
 have hG2 := hG.cons (Yo bp ba m)
 unfold Zia
 by_cases h1 : id < 0 ∨ 7 ≤ id
 ·rw [if_pos h1]
  refine Za (fun _ _ => Tryz.call33 _ _) Tryz.func33 rfl Tryz.ntmps33 (Nat.le_of_ble_eq_true rfl) ?_; simp only [Ze, Nat.reduceAdd]
  repeat' (first | refine uN ?_ | refine Z0 S ?_ | (refine uB ?_; intro b) | refine dg S 100 (fun _ _ => ?_) | (refine uP ?_ ?_ <;> (intro h; ((try simp only [zs, ne_eq, and_true, true_and, eq_self, reduceCtorEq] at h); try exact zx))) | refine da 101 ?_ | fail)
  all_goals exact Ve (LS.refl _) ⟨rfl, rfl⟩
 rw [if_neg h1]
 by_cases h2 : m.b.length < 216
 ·simp only [if_pos h2] at ko ⊢
  refine Za (fun _ _ => Tryz.call33 _ _) Tryz.func33 rfl Tryz.ntmps33 (Nat.le_of_ble_eq_true rfl) ?_; simp only [Ze, Nat.reduceAdd]
  repeat' (first | refine uN ?_ | refine Z0 S ?_ | (refine uB ?_; intro b) | refine dg S 100 (fun _ _ => ?_) | (refine uP ?_ ?_ <;> (intro h; ((try simp only [zs, ne_eq, and_true, true_and, eq_self, reduceCtorEq] at h); try exact zx))) | refine da 101 ?_ | fail)
  refine gc ko ?_
  rintro v L' ⟨rfl, rfl⟩
  repeat' (first | refine uN ?_ | refine Z0 S ?_ | (refine uB ?_; intro b) | refine dg S 100 (fun _ _ => ?_) | (refine uP ?_ ?_ <;> (intro h; ((try simp only [zs, ne_eq, and_true, true_and, eq_self, reduceCtorEq] at h); try exact zx))) | refine da 101 ?_ | fail)
  exact Ve (LS.refl _) ⟨rfl, rfl⟩
 simp only [if_neg h2] at ko ⊢
 by_cases h3 : m.off = true
 ·simp only [if_pos h3] at ko ⊢
  refine Za (fun _ _ => Tryz.call33 _ _) Tryz.func33 rfl Tryz.ntmps33 (Nat.le_of_ble_eq_true rfl) ?_; simp only [Ze, Nat.reduceAdd]
  repeat' (first | refine uN ?_ | refine Z0 S ?_ | (refine uB ?_; intro b) | refine dg S 100 (fun _ _ => ?_) | (refine uP ?_ ?_ <;> (intro h; ((try simp only [zs, ne_eq, and_true, true_and, eq_self, reduceCtorEq] at h); try exact zx))) | refine da 101 ?_ | fail)
  refine gc ko ?_
  rintro v L' ⟨rfl, rfl⟩
  repeat' (first | refine uN ?_ | refine Z0 S ?_ | (refine uB ?_; intro b) | refine dg S 100 (fun _ _ => ?_) | (refine uP ?_ ?_ <;> (intro h; ((try simp only [zs, ne_eq, and_true, true_and, eq_self, reduceCtorEq] at h); try exact zx))) | refine da 101 ?_ | fail)
  exact Ve (LS.refl _) ⟨rfl, rfl⟩
 simp only [if_neg h3] at ko ⊢
 refine Za (fun _ _ => Tryz.call33 _ _) Tryz.func33 rfl Tryz.ntmps33 (Nat.le_of_ble_eq_true rfl) ?_; simp only [Ze, Nat.reduceAdd]
 repeat' (first | refine uN ?_ | refine Z0 S ?_ | (refine uB ?_; intro b) | refine dg S 100 (fun _ _ => ?_) | (refine uP ?_ ?_ <;> (intro h; ((try simp only [zs, ne_eq, and_true, true_and, eq_self, reduceCtorEq] at h); try exact zx))) | refine da 101 ?_ | fail)
 refine gc ko ?_
 rintro v L' ⟨bj, rfl, rfl⟩
 repeat' (first | refine uN ?_ | refine Z0 S ?_ | (refine uB ?_; intro b) | refine dg S 100 (fun _ _ => ?_) | (refine uP ?_ ?_ <;> (intro h; ((try simp only [zs, ne_eq, and_true, true_and, eq_self, reduceCtorEq] at h); try exact zx))) | refine da 101 ?_ | fail)
 exact Ve uL ⟨_, _, _, rfl, rfl⟩
theorem Zi8 (T : Nat) (E : Nat → Addr) (sp bj mb bp : Nat) (id : Int) (es : List MapEntry) (ck : Nat) (ref : Int → Bool) (j : Jn) (d : Int) (L : Zb) (hG : Er T E [2] L) (hl : j.l.length = 6) (hF : Zy iv es ref) :
  HC Tryz.prog 96 [pt sp 0, iv d] (Zed sp bj mb id :: Zej mb es ck :: jC bj bp j :: L) (fun v L' => if d < 0 ∨ 6 ≤ d then v = eV T E (some 2) ∧ L' = Zed sp bj mb id :: Zej mb es ck :: jC bj bp j :: L
   else ∃ es' ck', Zy iv es' (fun x => if x = d then true else ref x) ∧ v = .nilIface ∧ L' = Zed sp bj mb id :: Zej mb es' ck' :: jC bj bp j :: L) := by
 have kg := fun L hG => Zh8 T E bj bp j d L hG hl
 by_cases h : d < 0 ∨ 6 ≤ d
 ·simp only [if_pos h] at kg ⊢
  refine Za (fun _ _ => Tryz.call96 _ _) Tryz.func96 rfl Tryz.ntmps96 (Nat.le_of_ble_eq_true rfl) ?_; simp only [Ze, Nat.reduceAdd]
  repeat' (first | refine uN ?_ | (refine uB ?_; intro b) | (refine uP ?_ ?_ <;> (intro h; ((try simp only [zs, ne_eq, and_true, true_and, eq_self, reduceCtorEq] at h); try exact zx))) | fail)
  refine fo 2 ?_
  refine gc (kg _ ((hG.cons _).cons _)) ?_
  rintro v L' ⟨rfl, rfl⟩
  repeat' (first | refine uN ?_ | (refine uB ?_; intro b) | (refine uP ?_ ?_ <;> (intro h; ((try simp only [zs, ne_eq, and_true, true_and, eq_self, reduceCtorEq] at h); try exact zx))) | fail)
  exact Xm uL ⟨rfl, rfl⟩
 ·simp only [if_neg h] at kg ⊢
  refine Za (fun _ _ => Tryz.call96 _ _) Tryz.func96 rfl Tryz.ntmps96 (Nat.le_of_ble_eq_true rfl) ?_; simp only [Ze, Nat.reduceAdd]
  repeat' (first | refine uN ?_ | (refine uB ?_; intro b) | (refine uP ?_ ?_ <;> (intro h; ((try simp only [zs, ne_eq, and_true, true_and, eq_self, reduceCtorEq] at h); try exact zx))) | fail)
  refine fo 2 ?_
  refine gc (kg _ ((hG.cons _).cons _)) ?_
  rintro v L' ⟨rfl, rfl⟩
  repeat' (first | refine uN ?_ | (refine uB ?_; intro b) | (refine uP ?_ ?_ <;> (intro h; ((try simp only [zs, ne_eq, and_true, true_and, eq_self, reduceCtorEq] at h); try exact zx))) | fail)
  refine fo 3 ?_
  refine wmI S hF (fun es' ck' hF' => ?_)
  repeat' (first | refine uN ?_ | (refine uB ?_; intro b) | (refine uP ?_ ?_ <;> (intro h; ((try simp only [zs, ne_eq, and_true, true_and, eq_self, reduceCtorEq] at h); try exact zx))) | fail)
  exact Xm uL ⟨_, _, hF', rfl, rfl⟩
end Go.HL
end
