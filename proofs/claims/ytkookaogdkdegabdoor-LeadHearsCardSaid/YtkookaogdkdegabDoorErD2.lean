/- An error's number, as the statements of chapters' part 2 ask for it. Conditions: none. -/
import Derived.Test.YtkookaogdkdegabDoorErC
namespace Go.HL
open Go Go.Proofs
set_option linter.unusedVariables false
set_option linter.unusedSimpArgs false
attribute [local irreducible] HW HO HQ HD HC QOp Has Upd Puts Gets seqQ blkQ loopQ fnQ actQ nextP unQ MapF
theorem coded2_calls (T : Nat) (E : Nat → Addr) (e : Option Nat) (k : Int) (L : Heap) (hE : Ez T E L) (he : okE e) : HC Tryd.prog 66 [eV T E e, iv k] L (fun v L' => v = .bool (decide (cdN e = k)) ∧ L' = L) := by
  have hc := code_all T E e L hE he
  refine hc_enter (fun _ _ => Tryd.call66 _ _) Tryd.func66 rfl Tryd.ntmps66 (Nat.le_of_ble_eq_true rfl) ?_; simp only [args0, Nat.reduceAdd]
  repeat' (first | (show HW _ _ _ _ _ _; first | apply hw_seq | apply hw_region | apply hw_ret) | (show HO _ _ _ _ _ _ _; first | apply ho_nil | refine g_q (qe S) ?_ | refine g_q (qC (hc)) ?_ | refine g_n ?_ | refine g_on ?_ | (refine g_s (fun h => ?_) (fun h => ?_) <;> ((try simp only [Bool.not_eq_eq_eq_not, Bool.not_true, Bool.not_false, decide_eq_true_eq, decide_eq_false_iff_not, Decidable.not_not, ne_eq, Bool.and_eq_true, beq_iff_eq, and_true, true_and, eq_self, decide_true, Bool.and_true, Bool.true_and, reduceCtorEq, not_true_eq_false, not_false_eq_true] at h); (try (exfalso; first | omega | with_reducible exact h (by assumption) | with_reducible exact absurd h (by assumption)))))) | apply seqQ_normal | apply seqQ_ret)
  all_goals (refine sp1 (by repeat (first | exact LS.refl _ | apply LS.k | apply LS.c)) ⟨?_, rfl⟩; simp [*])
end Go.HL
