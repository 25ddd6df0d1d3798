/- Codes of errors: errors.Is and errors.As at the document's errors, and plain.Code. Conditions: none. -/
import Derived.Test.YtkookaogdkdegabDoorErB
namespace Go.HL
open Go Go.Proofs
set_option linter.unusedVariables false
set_option linter.unusedSimpArgs false
def all9 : List Nat := [1, 2, 3, 4, 5, 6, 7, 8, 9]
/-- the nine errors: their variables, their blocks; no two are one -/
structure Ez (T : Nat) (E : Nat → Addr) (L : Heap) : Prop where
  ty : T = 267
  errs : Er T E all9 L
  blk : ∀ c, List.elem c all9 = true → ∃ ca ta, Has L (E c).block (.cells ca ta (0, 0))
  one : ∀ c c', List.elem c all9 = true → List.elem c' all9 = true → E c = E c' → c = c'
  et : Gl L 9 (.iface 241 (.agg #[.pointer (some ⟨10, 37, none⟩)]))
theorem Ez.cons {T : Nat} {E : Nat → Addr} {L : Heap} (h : Ez T E L) (c : List Blk) : Ez T E (c :: L) :=
  ⟨h.ty, h.errs.cons c, fun k hk => let ⟨ca, ta, hb⟩ := h.blk k hk; ⟨ca, ta, has_next hb⟩, h.one, h.et.cons⟩
theorem Ez.mono {T : Nat} {E : Nat → Addr} {L L' : Heap} (h : Ez T E L) (hl : ∀ b o, Has L b o → Has L' b o) : Ez T E L' :=
  ⟨h.ty, h.errs.mono hl, fun k hk => let ⟨ca, ta, hb⟩ := h.blk k hk; ⟨ca, ta, hl _ _ hb⟩, h.one, h.et.mono hl⟩
theorem Ez.er {T : Nat} {E : Nat → Addr} {L : Heap} (h : Ez T E L) (cs : List Nat) (hm : (cs.all fun g => all9.elem g) = true := by rfl) : Er T E cs L := h.errs.sub hm
/-- an error: an errorString at an address; or a fault around one -/
theorem is_calls (a b : Addr) (L : Heap) (h : a = b ∨ (a ≠ b ∧ (∃ ca ta, Has L a.block (.cells ca ta (0, 0))) ∧ ∃ cb tb, Has L b.block (.cells cb tb (0, 0)))) :
    HC Tryd.prog 130 [.iface 267 (.pointer (some a)), .iface 267 (.pointer (some b))] L (fun v L' => v = .bool (decide (a = b)) ∧ L' = L) := by
  refine ⟨fun args w => Tryd.call130 args w, fun k w hs => ?_⟩
  rcases h with rfl | ⟨hne, ⟨ca, ta, ha⟩, cb, tb, hb⟩
  · exact (is_same a w).mono fun e w' ⟨he, hw⟩ => ⟨_, L, he, hw ▸ hs, by simp, rfl⟩
  · exact (is_other a b ca cb ta tb w hne (hs.heap ha) (hs.heap hb)).mono fun e w' ⟨he, hw⟩ => ⟨_, L, he, hw ▸ hs, by simp [hne], rfl⟩
theorem isw_calls (pb po : Nat) (a b : Addr) (l : List Value) (t : Nat) (fr : Nat × Nat) (L : Heap) (hp : Has L pb (.cells ⟨l⟩ t fr)) (hl : l[po + 1]? = some (.iface 267 (.pointer (some a)))) (h : a = b ∨ (a ≠ b ∧ (∃ ca ta, Has L a.block (.cells ca ta (0, 0))) ∧ ∃ cb tb, Has L b.block (.cells cb tb (0, 0)))) :
    HC Tryd.prog 130 [.iface 144 (pt pb po), .iface 267 (.pointer (some b))] L (fun v L' => v = .bool (decide (a = b)) ∧ L' = L) := by
  refine ⟨fun args w => Tryd.call130 args w, fun k w hs => ?_⟩
  have hc : w.cell? ⟨pb, po + 1, none⟩ = some (.iface 267 (.pointer (some a))) := by rw [hs.cell hp]; exact hl
  rcases h with rfl | ⟨hne, ⟨ca, ta, ha⟩, cb, tb, hb⟩
  · exact (is_wrap_same pb po a w hc).mono fun e w' ⟨he, hw⟩ => ⟨_, L, he, hw ▸ hs, by simp, rfl⟩
  · exact (is_wrap_other pb po b a ca cb ta tb w hc hne (hs.heap ha) (hs.heap hb)).mono fun e w' ⟨he, hw⟩ => ⟨_, L, he, hw ▸ hs, by simp [hne], rfl⟩
theorem Sat.news {k : Ctx} {w : World} {L : Heap} (h : Sat k w L) (o : Obj) : Sat k (w.alloc o) L := (h.new o).sub ((List.Sublist.refl _).cons _)
theorem Gl.cell {k : Ctx} {w : World} {L : Heap} {g : Nat} {v : Value} (hs : Sat k w L) (h : Gl L g v) : w.cell? ⟨g, 0, none⟩ = some v := by
  obtain ⟨l, E, fr, h1, h2⟩ := h
  rw [hs.cell h1]; exact h2
theorem as_miss_calls (e : Addr) (t : Addr) (L : Heap) (hg : Gl L 9 (.iface 241 (.agg #[.pointer (some ⟨10, 37, none⟩)]))) :
    HC Tryd.prog 129 [.iface 267 (.pointer (some e)), .iface 192 (.pointer (some t))] L (fun v L' => v = .bool false ∧ L' = L) := by
  refine ⟨fun args w => Tryd.call129 args w, fun k w hs => ?_⟩
  refine (as_miss e t w (hg.cell hs)).mono fun ev w' ⟨he, hw⟩ => ⟨_, L, he, ?_, rfl, rfl⟩
  rw [hw]
  exact ((hs.news _).news _).news _
theorem as_hit_calls (e : Addr) (b E : Nat) (old : Value) (L : Heap) (hg : Gl L 9 (.iface 241 (.agg #[.pointer (some ⟨10, 37, none⟩)]))) :
    HC Tryd.prog 129 [.iface 144 (.pointer (some e)), .iface 192 (pt b 0)] ([(b, .cells ⟨[old]⟩ E)] :: L) (fun v L' => v = .bool true ∧ L' = [(b, .cells ⟨[.pointer (some e)]⟩ E)] :: L) := by
  refine ⟨fun args w => Tryd.call129 args w, fun k w hs => ?_⟩
  have hb : w.heap[b]? = some (.cells ⟨[old]⟩ E) := hs.heap has_here
  refine (as_hit e ⟨b, 0, none⟩ old w (hg.cons.cell hs) (by rw [hs.cell has_here]; rfl) (by simp [World.frozen?, hb])).mono fun ev w' ⟨he, hw⟩ => ⟨_, [(b, .cells ⟨[.pointer (some e)]⟩ E)] :: L, he, ?_, rfl, rfl⟩
  rw [hw]
  have h2 := (((hs.news (.cells #[.pointer (some ⟨b, 0, none⟩)] 192)).news (.cells #[.pointer (some ⟨10, 192, none⟩), .pointer (some ⟨w.heap.size, 0, none⟩), .int .u64 150] 219)).news (.cells #[.pointer (some ⟨10, 192, none⟩), .pointer (some ⟨w.heap.size, 0, none⟩), .int .u64 150] 219)).news (.cells #[.pointer (some e)] 144)
  have hb2 := h2.heap has_here
  exact h2.upd upd_here rfl rfl rfl (setCell_heap hb2 0 _) (fun j hj => heap_setCell_other _ _ j _ hj)
/-- errors of the document, plain or at a place -/
def faC (pb : Nat) (at_ : Int) (T : Nat) (E : Nat → Addr) (c : Option Nat) : List Blk := [(pb, .cells ⟨[iv at_, eV T E c]⟩ 146)]
attribute [local irreducible] HW HO HQ HD HC QOp Has Upd Puts Gets seqQ blkQ loopQ fnQ actQ nextP unQ MapF
theorem code_nil (L : Heap) : HC Tryd.prog 86 [.nilIface] L (fun v L' => v = .tuple ⟨[iv 0, iv (-1)]⟩ ∧ L' = L) := by
  refine hc_enter (fun _ _ => Tryd.call86 _ _) Tryd.func86 rfl Tryd.ntmps86 (Nat.le_of_ble_eq_true rfl) ?_; simp only [args0, Nat.reduceAdd]
  repeat' (first | (show HW _ _ _ _ _ _; first | apply hw_seq | apply hw_region | apply hw_block | apply hw_exit | refine g_t ?_ | refine g_f ?_ | (refine g_b (fun h => ?_) (fun h => ?_) <;> ((try simp only [Bool.not_eq_eq_eq_not, Bool.not_true, Bool.not_false, decide_eq_true_eq, decide_eq_false_iff_not, Decidable.not_not, ne_eq, Bool.and_eq_true, beq_iff_eq, and_true, true_and, eq_self, decide_true, Bool.and_true, Bool.true_and, reduceCtorEq, not_true_eq_false, not_false_eq_true] at h); (try (exfalso; first | omega | with_reducible exact h (by assumption) | with_reducible exact absurd h (by assumption))))) | apply hw_skip | apply hw_ret) | (show HO _ _ _ _ _ _ _; first | apply ho_nil | refine g_q (qe S) ?_ | refine g_q (qg S) ?_ | refine g_q (ql S) ?_ | refine wa S (fun b => ?_) | refine wS S (fun b => ?_) | refine wSa S (fun b => ?_) | refine wSn S (fun b => ?_)) | apply seqQ_normal | apply seqQ_ret | apply seqQ_exit | apply blkQ_here | refine g_bx ?_ | apply blkQ_ret | apply blkQ_normal | apply loopQ_ret | apply loopQ_exit | apply unQ_ret | apply unQ_exit | apply unQ_succ)
  exact sp2 (LS.refl _) ⟨rfl, rfl⟩
def eL (T : Nat) (E : Nat → Addr) : List Value := all9.map fun c => eV T E (some c)
theorem eL_get {T : Nat} {E : Nat → Addr} {i : Nat} (h : i < 9) : (eL T E)[0 + (i : Int).toNat]? = some (errV T E (i + 1)) := by
  have : ∀ i, i < 9 → (all9.map fun c => eV T E (some c))[i]? = some (errV T E (i + 1)) := by
    intro i h
    match i, h with
    | 0, _ => rfl
    | 1, _ => rfl
    | 2, _ => rfl
    | 3, _ => rfl
    | 4, _ => rfl
    | 5, _ => rfl
    | 6, _ => rfl
    | 7, _ => rfl
    | 8, _ => rfl
  simpa [eL] using this i h
theorem elem9 {i : Nat} (h : i < 9) : List.elem (i + 1) all9 = true := by
  have : ∀ i, i < 9 → List.elem (i + 1) all9 = true := by decide
  exact this i h
theorem code_calls (T : Nat) (E : Nat → Addr) (c : Nat) (L : Heap) (hE : Ez T E L) (hc : List.elem c all9 = true) : HC Tryd.prog 86 [eV T E (some c)] L (fun v L' => v = .tuple ⟨[iv c, iv (-1)]⟩ ∧ L' = L) := by
  have hT := hE.ty
  have hG := hE.errs
  have hA := as_miss_calls (E c)
  have hI : ∀ i L', Ez T E L' → i < 9 → HC Tryd.prog 130 [eV T E (some c), errV T E (i + 1)] L' (fun v L2 => v = .bool (decide (E c = E (i + 1))) ∧ L2 = L') := fun i L' h9 hi => by
    subst hT
    refine is_calls (E c) (E (i + 1)) L' ?_
    by_cases he : E c = E (i + 1)
    · exact .inl he
    · exact .inr ⟨he, h9.blk c hc, h9.blk (i + 1) (elem9 hi)⟩
  subst hT
  refine hc_enter (fun _ _ => Tryd.call86 _ _) Tryd.func86 rfl Tryd.ntmps86 (Nat.le_of_ble_eq_true rfl) ?_; simp only [args0, Nat.reduceAdd]
  repeat' (first | (show HW _ _ _ _ _ _; first | apply hw_seq | apply hw_region | apply hw_block | apply hw_exit | refine g_t ?_ | refine g_f ?_ | (refine g_b (fun h => ?_) (fun h => ?_) <;> ((try simp only [Bool.not_eq_eq_eq_not, Bool.not_true, Bool.not_false, decide_eq_true_eq, decide_eq_false_iff_not, Decidable.not_not, ne_eq, Bool.and_eq_true, beq_iff_eq, and_true, true_and, eq_self, decide_true, Bool.and_true, Bool.true_and, reduceCtorEq, not_true_eq_false, not_false_eq_true] at h); (try (exfalso; first | omega | with_reducible exact h (by assumption) | with_reducible exact absurd h (by assumption))))) | apply hw_skip | apply hw_ret) | (show HO _ _ _ _ _ _ _; first | apply ho_nil | refine g_q (qe S) ?_ | refine g_q (qg S) ?_ | refine g_q (ql S) ?_ | refine wa S (fun b => ?_) | refine wS S (fun b => ?_) | refine wSa S (fun b => ?_) | refine wSn S (fun b => ?_)) | apply seqQ_normal | apply seqQ_ret | apply seqQ_exit | apply blkQ_here | refine g_bx ?_ | apply blkQ_ret | apply blkQ_normal | apply loopQ_ret | apply loopQ_exit | apply unQ_ret | apply unQ_exit | apply unQ_succ)
  refine gc (hA ⟨b, 0, none⟩ _ hE.et.cons) ?_
  rintro v L' ⟨rfl, rfl⟩
  have hG2 := hG.cons [(b, .cells ⟨[.pointer none]⟩ 144)]
  repeat' (first | (show HW _ _ _ _ _ _; first | apply hw_seq | apply hw_region | apply hw_block | apply hw_exit | refine g_t ?_ | refine g_f ?_ | (refine g_b (fun h => ?_) (fun h => ?_) <;> ((try simp only [Bool.not_eq_eq_eq_not, Bool.not_true, Bool.not_false, decide_eq_true_eq, decide_eq_false_iff_not, Decidable.not_not, ne_eq, Bool.and_eq_true, beq_iff_eq, and_true, true_and, eq_self, decide_true, Bool.and_true, Bool.true_and, reduceCtorEq, not_true_eq_false, not_false_eq_true] at h); (try (exfalso; first | omega | with_reducible exact h (by assumption) | with_reducible exact absurd h (by assumption))))) | apply hw_skip | apply hw_ret) | (show HO _ _ _ _ _ _ _; first | apply ho_nil | refine g_q (qe S) ?_ | refine g_q (qg S) ?_ | refine g_q (ql S) ?_ | refine wa S (fun b => ?_) | refine wS S (fun b => ?_) | refine wSa S (fun b => ?_) | refine wSn S (fun b => ?_)) | apply seqQ_normal | apply seqQ_ret | apply seqQ_exit | apply blkQ_here | refine g_bx ?_ | apply blkQ_ret | apply blkQ_normal | apply loopQ_ret | apply loopQ_exit | apply unQ_ret | apply unQ_exit | apply unQ_succ)
  rename_i b0
  refine hw_loop (σ := Nat) (fun i => [(0, eV 267 E (some c)), (3, iv (-1)), (25, sl b 0 9 9), (26, iv 9), (27, iv i)]) (fun _ => [(b, .cells ⟨eL 267 E⟩ 37)] :: [(b0, .cells ⟨[.pointer none]⟩ 144)] :: L) (fun i => i ≤ 8 ∧ i < c) (fun i => 9 - i) 0 (by repeat (first | exact trivial | refine ⟨rfl, ?_⟩)) (List.Sublist.refl _) ⟨by omega, ?_⟩ ?_
  · cases c with
    | zero => exact absurd hc (by decide)
    | succ c => omega
  rintro i ⟨h8, hlt⟩
  have g := eL_get (T := 267) (E := E) (show i < 9 by omega)
  have hz := hI i _ ((hE.cons [(b0, .cells ⟨[.pointer none]⟩ 144)]).cons [(b, .cells ⟨eL 267 E⟩ 37)]) (by omega)
  repeat' (first | (show HW _ _ _ _ _ _; first | apply hw_seq | apply hw_region | apply hw_block | apply hw_exit | refine g_t ?_ | refine g_f ?_ | (refine g_b (fun h => ?_) (fun h => ?_) <;> ((try simp only [Bool.not_eq_eq_eq_not, Bool.not_true, Bool.not_false, decide_eq_true_eq, decide_eq_false_iff_not, Decidable.not_not, ne_eq, Bool.and_eq_true, beq_iff_eq, and_true, true_and, eq_self, decide_true, Bool.and_true, Bool.true_and, reduceCtorEq, not_true_eq_false, not_false_eq_true] at h); (try (exfalso; first | omega | with_reducible exact h (by assumption) | with_reducible exact absurd h (by assumption))))) | apply hw_skip | apply hw_ret) | (show HO _ _ _ _ _ _ _; first | apply ho_nil | refine g_q (qe S) ?_ | refine g_q (qg S) ?_ | refine g_q (ql S) ?_ | refine g_q (qC (hz)) ?_ | refine wa S (fun b => ?_) | refine wS S (fun b => ?_) | refine wSa S (fun b => ?_) | refine wSn S (fun b => ?_)) | apply seqQ_normal | apply seqQ_ret | apply seqQ_exit | apply blkQ_here | refine g_bx ?_ | apply blkQ_ret | apply blkQ_normal | apply loopQ_ret | apply loopQ_exit | apply unQ_ret | apply unQ_exit | apply unQ_succ)
  · obtain rfl := hE.one c (i + 1) hc (elem9 (by omega)) h
    exact sp2 (by repeat (first | exact LS.refl _ | apply LS.k | apply LS.c)) ⟨rfl, rfl⟩
  · have hne : c ≠ i + 1 := fun e => h (congrArg E e)
    have h10 : c < 10 := by
      have := List.elem_iff.1 hc
      simp [all9] at this
      omega
    exact loopQ_normal (i + 1) (by repeat (first | exact trivial | refine ⟨rfl, ?_⟩)) (List.Sublist.refl _) ⟨by omega, by omega⟩ (by omega)
theorem codeF_calls (T : Nat) (E : Nat → Addr) (c : Nat) (pb : Nat) (at_ : Int) (fr : Nat × Nat) (t : Nat) (L : Heap) (hE : Ez T E L) (hc : List.elem c all9 = true) (hp : Has L pb (.cells ⟨[iv at_, eV T E (some c)]⟩ t fr)) :
    HC Tryd.prog 86 [.iface 144 (pt pb 0)] L (fun v L' => v = .tuple ⟨[iv c, iv at_]⟩ ∧ L' = L) := by
  have hT := hE.ty
  have hG := hE.errs
  have hA := as_hit_calls ⟨pb, 0, none⟩
  have hI : ∀ i L', Ez T E L' → Has L' pb (.cells ⟨[iv at_, eV T E (some c)]⟩ t fr) → i < 9 → HC Tryd.prog 130 [.iface 144 (pt pb 0), errV T E (i + 1)] L' (fun v L2 => v = .bool (decide (E c = E (i + 1))) ∧ L2 = L') := fun i L' h9 hp' hi => by
    subst hT
    refine isw_calls pb 0 (E c) (E (i + 1)) _ t fr L' hp' rfl ?_
    by_cases he : E c = E (i + 1)
    · exact .inl he
    · exact .inr ⟨he, h9.blk c hc, h9.blk (i + 1) (elem9 hi)⟩
  subst hT
  refine hc_enter (fun _ _ => Tryd.call86 _ _) Tryd.func86 rfl Tryd.ntmps86 (Nat.le_of_ble_eq_true rfl) ?_; simp only [args0, Nat.reduceAdd]
  repeat' (first | (show HW _ _ _ _ _ _; first | apply hw_seq | apply hw_region | apply hw_block | apply hw_exit | refine g_t ?_ | refine g_f ?_ | (refine g_b (fun h => ?_) (fun h => ?_) <;> ((try simp only [Bool.not_eq_eq_eq_not, Bool.not_true, Bool.not_false, decide_eq_true_eq, decide_eq_false_iff_not, Decidable.not_not, ne_eq, Bool.and_eq_true, beq_iff_eq, and_true, true_and, eq_self, decide_true, Bool.and_true, Bool.true_and, reduceCtorEq, not_true_eq_false, not_false_eq_true] at h); (try (exfalso; first | omega | with_reducible exact h (by assumption) | with_reducible exact absurd h (by assumption))))) | apply hw_skip | apply hw_ret) | (show HO _ _ _ _ _ _ _; first | apply ho_nil | refine g_q (qe S) ?_ | refine g_q (qg S) ?_ | refine g_q (ql S) ?_ | refine wa S (fun b => ?_) | refine wS S (fun b => ?_) | refine wSa S (fun b => ?_) | refine wSn S (fun b => ?_)) | apply seqQ_normal | apply seqQ_ret | apply seqQ_exit | apply blkQ_here | refine g_bx ?_ | apply blkQ_ret | apply blkQ_normal | apply loopQ_ret | apply loopQ_exit | apply unQ_ret | apply unQ_exit | apply unQ_succ)
  refine gc (hA b _ _ _ hE.et) ?_
  rintro v L' ⟨rfl, rfl⟩
  have hG2 := hG.cons [(b, .cells ⟨[.pointer (some ⟨pb, 0, none⟩)]⟩ 144)]
  repeat' (first | (show HW _ _ _ _ _ _; first | apply hw_seq | apply hw_region | apply hw_block | apply hw_exit | refine g_t ?_ | refine g_f ?_ | (refine g_b (fun h => ?_) (fun h => ?_) <;> ((try simp only [Bool.not_eq_eq_eq_not, Bool.not_true, Bool.not_false, decide_eq_true_eq, decide_eq_false_iff_not, Decidable.not_not, ne_eq, Bool.and_eq_true, beq_iff_eq, and_true, true_and, eq_self, decide_true, Bool.and_true, Bool.true_and, reduceCtorEq, not_true_eq_false, not_false_eq_true] at h); (try (exfalso; first | omega | with_reducible exact h (by assumption) | with_reducible exact absurd h (by assumption))))) | apply hw_skip | apply hw_ret) | (show HO _ _ _ _ _ _ _; first | apply ho_nil | refine g_q (qe S) ?_ | refine g_q (qg S) ?_ | refine g_q (ql S) ?_ | refine wa S (fun b => ?_) | refine wS S (fun b => ?_) | refine wSa S (fun b => ?_) | refine wSn S (fun b => ?_)) | apply seqQ_normal | apply seqQ_ret | apply seqQ_exit | apply blkQ_here | refine g_bx ?_ | apply blkQ_ret | apply blkQ_normal | apply loopQ_ret | apply loopQ_exit | apply unQ_ret | apply unQ_exit | apply unQ_succ)
  rename_i b0
  refine hw_loop (σ := Nat) (fun i => [(0, .iface 144 (pt pb 0)), (3, iv at_), (25, sl b 0 9 9), (26, iv 9), (27, iv i)]) (fun _ => [(b, .cells ⟨eL 267 E⟩ 37)] :: [(b0, .cells ⟨[.pointer (some ⟨pb, 0, none⟩)]⟩ 144)] :: L) (fun i => i ≤ 8 ∧ i < c) (fun i => 9 - i) 0 (by repeat (first | exact trivial | refine ⟨rfl, ?_⟩)) (List.Sublist.refl _) ⟨by omega, ?_⟩ ?_
  · cases c with
    | zero => exact absurd hc (by decide)
    | succ c => omega
  rintro i ⟨h8, hlt⟩
  have g := eL_get (T := 267) (E := E) (show i < 9 by omega)
  have hz := hI i _ ((hE.cons [(b0, .cells ⟨[.pointer (some ⟨pb, 0, none⟩)]⟩ 144)]).cons [(b, .cells ⟨eL 267 E⟩ 37)]) (has_next (has_next hp)) (by omega)
  repeat' (first | (show HW _ _ _ _ _ _; first | apply hw_seq | apply hw_region | apply hw_block | apply hw_exit | refine g_t ?_ | refine g_f ?_ | (refine g_b (fun h => ?_) (fun h => ?_) <;> ((try simp only [Bool.not_eq_eq_eq_not, Bool.not_true, Bool.not_false, decide_eq_true_eq, decide_eq_false_iff_not, Decidable.not_not, ne_eq, Bool.and_eq_true, beq_iff_eq, and_true, true_and, eq_self, decide_true, Bool.and_true, Bool.true_and, reduceCtorEq, not_true_eq_false, not_false_eq_true] at h); (try (exfalso; first | omega | with_reducible exact h (by assumption) | with_reducible exact absurd h (by assumption))))) | apply hw_skip | apply hw_ret) | (show HO _ _ _ _ _ _ _; first | apply ho_nil | refine g_q (qe S) ?_ | refine g_q (qg S) ?_ | refine g_q (ql S) ?_ | refine g_q (qC (hz)) ?_ | refine wa S (fun b => ?_) | refine wS S (fun b => ?_) | refine wSa S (fun b => ?_) | refine wSn S (fun b => ?_)) | apply seqQ_normal | apply seqQ_ret | apply seqQ_exit | apply blkQ_here | refine g_bx ?_ | apply blkQ_ret | apply blkQ_normal | apply loopQ_ret | apply loopQ_exit | apply unQ_ret | apply unQ_exit | apply unQ_succ)
  · obtain rfl := hE.one c (i + 1) hc (elem9 (by omega)) h
    exact sp2 (by repeat (first | exact LS.refl _ | apply LS.k | apply LS.c)) ⟨rfl, rfl⟩
  · have hne : c ≠ i + 1 := fun e => h (congrArg E e)
    have h10 : c < 10 := by
      have := List.elem_iff.1 hc
      simp [all9] at this
      omega
    exact loopQ_normal (i + 1) (by repeat (first | exact trivial | refine ⟨rfl, ?_⟩)) (List.Sublist.refl _) ⟨by omega, by omega⟩ (by omega)
/-- an error's number: 0, or its code -/
def cdN : Option Nat → Int
  | none => 0
  | some c => c
def okE : Option Nat → Prop
  | none => True
  | some c => List.elem c all9 = true
theorem code_all (T : Nat) (E : Nat → Addr) (e : Option Nat) (L : Heap) (hE : Ez T E L) (he : okE e) : HC Tryd.prog 86 [eV T E e] L (fun v L' => v = .tuple ⟨[iv (cdN e), iv (-1)]⟩ ∧ L' = L) := by
  cases e with
  | none => exact code_nil L
  | some c => exact code_calls T E c L hE he
end Go.HL
