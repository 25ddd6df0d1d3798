/- Chapter 5: what table's functions, and the document's, compute. Conditions: none. -/
import Derived.Test.YtkookaogdkdegaaDoorSeat
namespace Go.HL
open Go Go.Proofs
set_option linter.unusedVariables false
set_option linter.unusedSimpArgs false
attribute [local irreducible] HW HO HQ HD HC QOp Has Upd Puts Gets seqQ blkQ loopQ fnQ actQ nextP unQ MapF

def afterS (p : Int) : Int := if p = 4 then 2 else if p = 5 then 3 else 0
theorem after_calls (p : Int) (L : Heap) : HC Tryd.prog 68 [iv p] L (fun v L' => v = iv (afterS p) ∧ L' = L) := by
  refine hc_enter (fun _ _ => Tryd.call68 _ _) Tryd.func68 rfl Tryd.ntmps68 (Nat.le_of_ble_eq_true rfl) ?_; simp only [args0, Nat.reduceAdd]
  repeat' (first | (show HW _ _ _ _ _ _; first | apply hw_seq | apply hw_region | apply hw_block | apply hw_exit | refine g_t ?_ | refine g_f ?_ | (refine g_b (fun h => ?_) (fun h => ?_) <;> ((try simp only [Bool.not_eq_eq_eq_not, Bool.not_true, Bool.not_false, decide_eq_true_eq, decide_eq_false_iff_not, Decidable.not_not, ne_eq, Bool.and_eq_true, beq_iff_eq, and_true, true_and, eq_self, decide_true, Bool.and_true, Bool.true_and, reduceCtorEq, not_true_eq_false, not_false_eq_true] at h); (try (exfalso; first | omega | with_reducible exact h (by assumption) | with_reducible exact absurd h (by assumption))))) | apply hw_skip | apply hw_ret) | (show HO _ _ _ _ _ _ _; first | apply ho_nil | refine g_q (qe S) ?_) | apply seqQ_normal | apply seqQ_ret | apply seqQ_exit | apply blkQ_here | refine g_bx ?_ | apply blkQ_ret | apply blkQ_normal)
  all_goals (refine fn_ret1 rfl rfl ?_ ⟨?_, rfl⟩; (next => (repeat (first | exact List.Sublist.refl _ | apply List.Sublist.cons))))
  all_goals simp [afterS, *]
theorem afterOf_calls (p : Int) (L : Heap) : HC Tryd.prog 34 [iv p] L (fun v L' => v = iv (afterS p) ∧ L' = L) := by
  refine hc_enter (fun _ _ => Tryd.call34 _ _) Tryd.func34 rfl Tryd.ntmps34 (Nat.le_of_ble_eq_true rfl) ?_; simp only [args0, Nat.reduceAdd]
  repeat' (first | (show HW _ _ _ _ _ _; first | apply hw_seq | apply hw_region | refine g_t ?_ | refine g_f ?_ | (refine g_b (fun h => ?_) (fun h => ?_) <;> ((try simp only [Bool.not_eq_eq_eq_not, Bool.not_true, Bool.not_false, decide_eq_true_eq, decide_eq_false_iff_not, Decidable.not_not, ne_eq, Bool.and_eq_true, beq_iff_eq, and_true, true_and, eq_self, decide_true, Bool.and_true, Bool.true_and, reduceCtorEq, not_true_eq_false, not_false_eq_true] at h); (try (exfalso; first | omega | with_reducible exact h (by assumption) | with_reducible exact absurd h (by assumption))))) | apply hw_skip | apply hw_ret) | (show HO _ _ _ _ _ _ _; first | apply ho_nil | refine g_q (qe S) ?_) | apply seqQ_normal | apply seqQ_ret)
  all_goals (refine fn_ret1 rfl rfl ?_ ⟨?_, rfl⟩; (next => (repeat (first | exact List.Sublist.refl _ | apply List.Sublist.cons))))
  all_goals simp [afterS, *]

def mayS (a b : Int) : Bool := decide ((0 ≤ a ∧ a ≤ 5 ∧ 0 ≤ b ∧ b ≤ 5) ∧ (a = b ∨ a = 0 ∨ (a ≠ 2 ∧ a ≠ 3 ∧ b ≠ 0 ∧ (a = 1 ∨ b ≠ 1))))
theorem mayOf_calls (a b : Int) (L : Heap) : HC Tryd.prog 45 [iv a, iv b] L (fun v L' => v = .bool (mayS a b) ∧ L' = L) := by
  refine hc_enter (fun _ _ => Tryd.call45 _ _) Tryd.func45 rfl Tryd.ntmps45 (Nat.le_of_ble_eq_true rfl) ?_; simp only [args0, Nat.reduceAdd]
  repeat' (first | (show HW _ _ _ _ _ _; first | apply hw_seq | apply hw_region | apply hw_block | apply hw_exit | refine g_t ?_ | refine g_f ?_ | (refine g_b (fun h => ?_) (fun h => ?_) <;> ((try simp only [Bool.not_eq_eq_eq_not, Bool.not_true, Bool.not_false, decide_eq_true_eq, decide_eq_false_iff_not, Decidable.not_not, ne_eq, Bool.and_eq_true, beq_iff_eq, and_true, true_and, eq_self, decide_true, Bool.and_true, Bool.true_and, reduceCtorEq, not_true_eq_false, not_false_eq_true] at h); (try (exfalso; first | omega | with_reducible exact h (by assumption) | with_reducible exact absurd h (by assumption))))) | apply hw_skip | apply hw_ret) | (show HO _ _ _ _ _ _ _; first | apply ho_nil | refine g_q (qe S) ?_ | refine g_n ?_ | refine g_on ?_ | (refine g_s (fun h => ?_) (fun h => ?_) <;> ((try simp only [Bool.not_eq_eq_eq_not, Bool.not_true, Bool.not_false, decide_eq_true_eq, decide_eq_false_iff_not, Decidable.not_not, ne_eq, Bool.and_eq_true, beq_iff_eq, and_true, true_and, eq_self, decide_true, Bool.and_true, Bool.true_and, reduceCtorEq, not_true_eq_false, not_false_eq_true] at h); (try (exfalso; first | omega | with_reducible exact h (by assumption) | with_reducible exact absurd h (by assumption)))))) | apply seqQ_normal | apply seqQ_ret | apply seqQ_exit | apply blkQ_here | refine g_bx ?_ | apply blkQ_ret | apply blkQ_normal)
  all_goals (refine fn_ret1 rfl rfl ?_ ⟨?_, rfl⟩; (next => (repeat (first | exact List.Sublist.refl _ | apply List.Sublist.cons))))
  all_goals (refine congrArg Value.bool ?_; first | (refine Eq.symm (decide_eq_true ?_); omega) | (refine Eq.symm (decide_eq_false ?_); omega) | (refine decide_eq_decide.2 ?_; omega))
def toldS (xs : List St) (p : Int) : Bool := xs.any fun s => decide (s.ph = p)
theorem toldS_snoc (xs : List St) (s : St) (p : Int) : toldS (xs ++ [s]) p = (toldS xs p || decide (s.ph = p)) := by simp [toldS]
theorem toldS_of {xs : List St} {p : Int} {j : Nat} (h : j < xs.length) (hp : (xs[j]).ph = p) : toldS xs p = true := by
  simp only [toldS, List.any_eq_true, decide_eq_true_eq]
  exact ⟨xs[j], List.getElem_mem h, hp⟩
def prep (s : St) : Bool := decide (s.ph = 4 ∨ s.ph = 5)
/-- the greatest attempt of those that are prepared; 0 if there are none -/
def bestS : List St → Int → Bool → Int × Bool
  | [], b, first => (b, first)
  | s :: r, b, first => if prep s then (if first || decide (b < s.att) then bestS r s.att false else bestS r b false) else bestS r b first
theorem bestS_append (r : List St) : ∀ (l : List St) (b : Int) (f : Bool), bestS (l ++ r) b f = bestS r (bestS l b f).1 (bestS l b f).2
  | [], b, f => rfl
  | s :: l, b, f => by
    simp only [List.cons_append, bestS]
    split
    · split
      · exact bestS_append r l _ _
      · exact bestS_append r l _ _
    · exact bestS_append r l _ _
def chooseS (xs : List St) : Int × Bool :=
  if toldS xs 2 then (2, true) else if toldS xs 3 then (3, true) else
  if xs.any (fun s => decide (s.ph = 4 ∧ s.att = (bestS xs 0 true).1)) then (4, false) else (5, false)
end Go.HL
