/- Chapter 3: a journal: opened; a state of it. Conditions: none. -/
import Derived.Test.YtkookaogdkdegabDoorJnB
namespace Go.HL
open Go Go.Proofs
set_option linter.unusedVariables false
set_option linter.unusedSimpArgs false

structure Jn where
  l : List Ent
  dead : Bool
def jcells (bp : Nat) (j : Jn) : List Value := [pt bp 0] ++ (j.l.map enL).flatten ++ [.bool j.dead]
def jC (bj bp : Nat) (j : Jn) : List Blk := [(bj, .cells ⟨jcells bp j⟩ 160)]
def zeroE : Ent := ⟨0, 0, 0, 0⟩
def updE (e0 e : Ent) : Ent := if e0.n < e.n then e else e0
def slot (b : List UInt8) (i : Nat) : List UInt8 := (b.drop (i * 18)).take 18
def partE (b : List UInt8) (d : Nat) : Nat → Ent
  | 0 => zeroE
  | k + 1 => updE (partE b d k) (heldM k (slot b (2 * d + k)))
def dealM (b : List UInt8) (d : Nat) : Ent := partE b d 2
def openM (b : List UInt8) : List Ent := (List.range 6).map (dealM b)
def lAt (b : List UInt8) (d k : Nat) : List Ent := (List.range d).map (dealM b) ++ partE b d k :: List.replicate (5 - d) zeroE
theorem lAt_len (b : List UInt8) (d k : Nat) (h : d ≤ 5) : (lAt b d k).length = 6 := by simp [lAt]; omega
theorem lAt_get (b : List UInt8) (d k : Nat) : (lAt b d k)[d]? = some (partE b d k) := by
  rw [lAt, List.getElem?_append_right (by simp)]
  simp
theorem lAt_set (b : List UInt8) (d k : Nat) (e : Ent) (h : e = partE b d (k + 1)) : (lAt b d k).set d e = lAt b d (k + 1) := by
  subst h
  rw [lAt, List.set_append_right _ _ (by simp)]
  simp [lAt]
theorem lAt_next (b : List UInt8) (d : Nat) (h : d < 5) : lAt b d 2 = lAt b (d + 1) 0 := by
  simp only [lAt, List.range_succ, List.map_append, List.map_cons, List.map_nil, List.append_assoc, List.cons_append, List.nil_append, partE]
  rw [show 5 - d = (5 - (d + 1)) + 1 by omega, List.replicate_succ]
  rfl
theorem lAt_last (b : List UInt8) : lAt b 5 2 = openM b := by
  simp [lAt, openM, List.range_succ, dealM]
theorem enL_len (e : Ent) : (enL e).length = 4 := rfl
theorem jgets {bp : Nat} {j : Jn} {d : Nat} {e : Ent} (h : j.l[d]? = some e) : Gets (jcells bp j) (0 + 1 + (d : Int).toNat * 4) (enL e) := by
  have := gets_row (enc := enL) (sz := 4) enL_len j.l [.bool j.dead] [pt bp 0] d e h
  simpa [jcells] using this
theorem jgetsS {bp : Nat} {j : Jn} {d : Nat} {e : Ent} (h : j.l[d]? = some e) : Gets (jcells bp j) (0 + 1 + (d : Int).toNat * 4 + 1) (sc e.s) := fun k v hk => by
  have := jgets (bp := bp) h (k + 1) v (by simpa [enL, sc] using hk)
  rw [show 0 + 1 + (d : Int).toNat * 4 + 1 + k = 0 + 1 + (d : Int).toNat * 4 + (k + 1) by omega]
  exact this
theorem jputs {bp : Nat} {j : Jn} {d : Nat} (e : Ent) (h : d < j.l.length) : Puts (jcells bp j) (0 + 1 + (d : Int).toNat * 4) (enL e) (jcells bp ⟨j.l.set d e, j.dead⟩) := by
  have := puts_row (enc := enL) (sz := 4) enL_len j.l [.bool j.dead] [pt bp 0] d (0 + 1 + (d : Int).toNat * 4) e h (by simp)
  exact this
theorem jdead {bp : Nat} {j : Jn} (h : j.l.length = 6) : (jcells bp j)[0 + 25]? = some (.bool j.dead) := by
  unfold jcells
  rw [List.getElem?_append_right (by simp [flat_length enL_len, h])]
  simp [flat_length enL_len, h]
theorem jputsD {bp : Nat} {j : Jn} (h : j.l.length = 6) (b : Bool) : Puts (jcells bp j) (0 + 25) [.bool b] (jcells bp ⟨j.l, b⟩) := by
  have e : jcells bp ⟨j.l, b⟩ = (jcells bp j).set (0 + 25) (.bool b) := by
    unfold jcells
    rw [List.set_append_right _ _ (by simp [flat_length enL_len, h])]
    simp [flat_length enL_len, h]
  rw [e]
  exact puts_set (by simp [jcells, flat_length enL_len, h])
attribute [local irreducible] HW HO HQ HD HC QOp Has Upd Puts Gets seqQ blkQ loopQ fnQ actQ nextP unQ MapF
attribute [local irreducible] jcells
theorem get_calls (T : Nat) (E : Nat → Addr) (bj bp : Nat) (j : Jn) (d : Int) (L : Heap) (hG : Er T E [2] L) (hl : j.l.length = 6) : HC Tryd.prog 53 [pt bj 0, iv d] (jC bj bp j :: L) (fun v L' => L' = jC bj bp j :: L ∧
    if d < 0 ∨ 6 ≤ d then v = .tuple ⟨[.agg ⟨[iv 0, iv 0, iv 0]⟩, eV T E (some 2)]⟩ else v = .tuple ⟨[.agg ⟨sc (j.l.getD d.toNat zeroE).s⟩, .nilIface]⟩) := by
  by_cases h0 : d < 0 ∨ 6 ≤ d
  · simp only [if_pos h0]
    refine hc_enter (fun _ _ => Tryd.call53 _ _) Tryd.func53 rfl Tryd.ntmps53 (Nat.le_of_ble_eq_true rfl) ?_; simp only [args0, Nat.reduceAdd]
    repeat' (first | (show HW _ _ _ _ _ _; first | apply hw_seq | apply hw_region | refine g_t ?_ | refine g_f ?_ | (refine g_b (fun h => ?_) (fun h => ?_) <;> ((try simp only [Bool.not_eq_eq_eq_not, Bool.not_true, Bool.not_false, decide_eq_true_eq, decide_eq_false_iff_not, Decidable.not_not, ne_eq, Bool.and_eq_true, beq_iff_eq, and_true, true_and, eq_self, decide_true, Bool.and_true, Bool.true_and, reduceCtorEq, not_true_eq_false, not_false_eq_true] at h); (try (exfalso; first | omega | with_reducible exact h (by assumption) | with_reducible exact absurd h (by assumption))))) | apply hw_skip | apply hw_ret | refine g_k S ?_ | refine g_w S ?_) | (show HO _ _ _ _ _ _ _; first | apply ho_nil | refine g_q (qe S) ?_ | refine g_q (qg S) ?_ | refine g_q (qs S) ?_ | refine g_q (qb S) ?_ | refine g_q (qbA S) ?_ | refine g_n ?_ | refine g_on ?_ | (refine g_s (fun h => ?_) (fun h => ?_) <;> ((try simp only [Bool.not_eq_eq_eq_not, Bool.not_true, Bool.not_false, decide_eq_true_eq, decide_eq_false_iff_not, Decidable.not_not, ne_eq, Bool.and_eq_true, beq_iff_eq, and_true, true_and, eq_self, decide_true, Bool.and_true, Bool.true_and, reduceCtorEq, not_true_eq_false, not_false_eq_true] at h); (try (exfalso; first | omega | with_reducible exact h (by assumption) | with_reducible exact absurd h (by assumption))))) | refine wa S (fun b => ?_) | refine ws S ?_) | (show HQ _ _ _ _ _ _ _; first | apply hq_nil | refine k_q (qe S) ?_ | refine k_q (qg S) ?_ | refine k_q (qs S) ?_ | refine k_q (qb S) ?_ | refine k_q (qbA S) ?_ | refine k_n ?_ | (refine k_s (fun h => ?_) (fun h => ?_) <;> ((try simp only [Bool.not_eq_eq_eq_not, Bool.not_true, Bool.not_false, decide_eq_true_eq, decide_eq_false_iff_not, Decidable.not_not, ne_eq, Bool.and_eq_true, beq_iff_eq, and_true, true_and, eq_self, decide_true, Bool.and_true, Bool.true_and, reduceCtorEq, not_true_eq_false, not_false_eq_true] at h); (try (exfalso; first | omega | with_reducible exact h (by assumption) | with_reducible exact absurd h (by assumption)))))) | (show HD _ _ _ _ _ _ _ _; first | apply hd_nil | refine d_q 100 (by exact rfl) (fun _ => qe S) ?_ | refine d_q 100 (by exact rfl) (fun _ => qb S) ?_ | refine d_q 100 (by exact rfl) (fun _ => qbA S) ?_ | refine ds S 100 ?_ | refine dg S 100 (fun _ _ => ?_) | refine d_n 100 ?_ | (refine d_sp 100 (fun h => ?_) (fun h => ?_) <;> ((try simp only [Bool.not_eq_eq_eq_not, Bool.not_true, Bool.not_false, decide_eq_true_eq, decide_eq_false_iff_not, Decidable.not_not, ne_eq, Bool.and_eq_true, beq_iff_eq, and_true, true_and, eq_self, decide_true, Bool.and_true, Bool.true_and, reduceCtorEq, not_true_eq_false, not_false_eq_true] at h); (try (exfalso; first | omega | with_reducible exact h (by assumption) | with_reducible exact absurd h (by assumption))))) | refine da 101 ?_) | refine dx ?_ | apply dx0 | refine dxd ?_ | refine dxk ?_ | apply seqQ_normal | apply seqQ_ret)
    · exact sp2 (LS.skip _ (LS.refl _)) ⟨rfl, rfl⟩ (hx := rcell S (hg := gets_cons rfl (gets_cons rfl (gets_cons rfl gets_nil))))
    · exact sp2 (LS.skip _ (LS.refl _)) ⟨rfl, rfl⟩ (hx := rcell S (hg := gets_cons rfl (gets_cons rfl (gets_cons rfl gets_nil))))
  · simp only [if_neg h0]
    obtain ⟨d, rfl⟩ := Int.eq_ofNat_of_zero_le (show 0 ≤ d by omega)
    have he : j.l[d]? = some (j.l.getD d zeroE) := by
      rw [List.getD, List.getElem?_eq_getElem (by omega)]; rfl
    have g1 := jgets (bp := bp) he
    have g2 := jgetsS (bp := bp) he
    refine hc_enter (fun _ _ => Tryd.call53 _ _) Tryd.func53 rfl Tryd.ntmps53 (Nat.le_of_ble_eq_true rfl) ?_; simp only [args0, Nat.reduceAdd]
    repeat' (first | (show HW _ _ _ _ _ _; first | apply hw_seq | apply hw_region | refine g_t ?_ | refine g_f ?_ | (refine g_b (fun h => ?_) (fun h => ?_) <;> ((try simp only [Bool.not_eq_eq_eq_not, Bool.not_true, Bool.not_false, decide_eq_true_eq, decide_eq_false_iff_not, Decidable.not_not, ne_eq, Bool.and_eq_true, beq_iff_eq, and_true, true_and, eq_self, decide_true, Bool.and_true, Bool.true_and, reduceCtorEq, not_true_eq_false, not_false_eq_true] at h); (try (exfalso; first | omega | with_reducible exact h (by assumption) | with_reducible exact absurd h (by assumption))))) | apply hw_skip | apply hw_ret | refine g_k S ?_ | refine g_w S ?_) | (show HO _ _ _ _ _ _ _; first | apply ho_nil | refine g_q (qe S) ?_ | refine g_q (qg S) ?_ | refine g_q (qs S) ?_ | refine g_q (qb S) ?_ | refine g_q (qbA S) ?_ | refine g_n ?_ | refine g_on ?_ | (refine g_s (fun h => ?_) (fun h => ?_) <;> ((try simp only [Bool.not_eq_eq_eq_not, Bool.not_true, Bool.not_false, decide_eq_true_eq, decide_eq_false_iff_not, Decidable.not_not, ne_eq, Bool.and_eq_true, beq_iff_eq, and_true, true_and, eq_self, decide_true, Bool.and_true, Bool.true_and, reduceCtorEq, not_true_eq_false, not_false_eq_true] at h); (try (exfalso; first | omega | with_reducible exact h (by assumption) | with_reducible exact absurd h (by assumption))))) | refine wa S (fun b => ?_) | refine ws S ?_) | (show HQ _ _ _ _ _ _ _; first | apply hq_nil | refine k_q (qe S) ?_ | refine k_q (qg S) ?_ | refine k_q (qs S) ?_ | refine k_q (qb S) ?_ | refine k_q (qbA S) ?_ | refine k_n ?_ | (refine k_s (fun h => ?_) (fun h => ?_) <;> ((try simp only [Bool.not_eq_eq_eq_not, Bool.not_true, Bool.not_false, decide_eq_true_eq, decide_eq_false_iff_not, Decidable.not_not, ne_eq, Bool.and_eq_true, beq_iff_eq, and_true, true_and, eq_self, decide_true, Bool.and_true, Bool.true_and, reduceCtorEq, not_true_eq_false, not_false_eq_true] at h); (try (exfalso; first | omega | with_reducible exact h (by assumption) | with_reducible exact absurd h (by assumption)))))) | (show HD _ _ _ _ _ _ _ _; first | apply hd_nil | refine d_q 100 (by exact rfl) (fun _ => qe S) ?_ | refine d_q 100 (by exact rfl) (fun _ => qb S) ?_ | refine d_q 100 (by exact rfl) (fun _ => qbA S) ?_ | refine ds S 100 ?_ | refine dg S 100 (fun _ _ => ?_) | refine d_n 100 ?_ | (refine d_sp 100 (fun h => ?_) (fun h => ?_) <;> ((try simp only [Bool.not_eq_eq_eq_not, Bool.not_true, Bool.not_false, decide_eq_true_eq, decide_eq_false_iff_not, Decidable.not_not, ne_eq, Bool.and_eq_true, beq_iff_eq, and_true, true_and, eq_self, decide_true, Bool.and_true, Bool.true_and, reduceCtorEq, not_true_eq_false, not_false_eq_true] at h); (try (exfalso; first | omega | with_reducible exact h (by assumption) | with_reducible exact absurd h (by assumption))))) | refine da 101 ?_) | refine dx ?_ | apply dx0 | refine dxd ?_ | refine dxk ?_ | apply seqQ_normal | apply seqQ_ret)
    refine sp2 (LS.skip _ (LS.refl _)) ⟨rfl, ?_⟩ (hx := rcell S (hg := gets_cons rfl (gets_cons rfl (gets_cons rfl gets_nil))))
    simp [sc]
end Go.HL
