/- An error held against the document's fault, where they are the same. Conditions: none. -/
import Derived.Test.YtkookaogdkdegabDoorFvA
import Derived.Test.YtkookaogdkdegabDoorErD3
namespace Go.HL
open Go Go.Proofs
set_option linter.unusedVariables false
set_option linter.unusedSimpArgs false
attribute [local irreducible] HW HO HQ HD HC QOp Has Upd Puts Gets seqQ blkQ loopQ fnQ actQ nextP unQ MapF
theorem faulted3_bare (T : Nat) (E : Nat → Addr) (e : Option Nat) (L : Heap) (hE : Ez T E L) (he : okE e) (x : Int) (hx : e = none ∨ x = -1) : HC Tryd.prog 17 [eV T E e, .agg ⟨[iv (cdN e), iv x]⟩] L (fun v L' => v = .bool true ∧ L' = L) := by
  have hc := fun c => code_all T E e (c :: L) (hE.cons c) he
  refine hc_enter (fun _ _ => Tryd.call17 _ _) Tryd.func17 rfl Tryd.ntmps17 (Nat.le_of_ble_eq_true rfl) ?_; simp only [args0, Nat.reduceAdd]
  rcases hx with rfl | rfl
  · repeat' (first | (show HW _ _ _ _ _ _; first | apply hw_seq | apply hw_region | apply hw_ret) | (show HO _ _ _ _ _ _ _; first | apply ho_nil | refine g_q (qe S) ?_ | refine g_q (ql S) ?_ | refine g_q (qC (hc _)) ?_ | refine g_n ?_ | refine g_on ?_ | (refine g_s (fun h => ?_) (fun h => ?_) <;> ((try simp only [Bool.not_eq_eq_eq_not, Bool.not_true, Bool.not_false, decide_eq_true_eq, decide_eq_false_iff_not, Decidable.not_not, ne_eq, Bool.and_eq_true, beq_iff_eq, and_true, true_and, eq_self, decide_true, Bool.and_true, Bool.true_and, reduceCtorEq, not_true_eq_false, not_false_eq_true] at h); (try (exfalso; first | omega | with_reducible exact h (by assumption) | with_reducible exact absurd h (by assumption))))) | refine wb (fun b => ?_)) | apply seqQ_normal | apply seqQ_ret)
    all_goals first | contradiction | exact sp1 (by repeat (first | exact LS.refl _ | apply LS.k | apply LS.c)) ⟨rfl, rfl⟩ | (refine sp1 (by repeat (first | exact LS.refl _ | apply LS.k | apply LS.c)) ⟨?_, rfl⟩; simp_all [cdN])
  · repeat' (first | (show HW _ _ _ _ _ _; first | apply hw_seq | apply hw_region | apply hw_ret) | (show HO _ _ _ _ _ _ _; first | apply ho_nil | refine g_q (qe S) ?_ | refine g_q (ql S) ?_ | refine g_q (qC (hc _)) ?_ | refine g_n ?_ | refine g_on ?_ | (refine g_s (fun h => ?_) (fun h => ?_) <;> ((try simp only [Bool.not_eq_eq_eq_not, Bool.not_true, Bool.not_false, decide_eq_true_eq, decide_eq_false_iff_not, Decidable.not_not, ne_eq, Bool.and_eq_true, beq_iff_eq, and_true, true_and, eq_self, decide_true, Bool.and_true, Bool.true_and, reduceCtorEq, not_true_eq_false, not_false_eq_true] at h); (try (exfalso; first | omega | with_reducible exact h (by assumption) | with_reducible exact absurd h (by assumption))))) | refine wb (fun b => ?_)) | apply seqQ_normal | apply seqQ_ret)
    all_goals first | contradiction | exact sp1 (by repeat (first | exact LS.refl _ | apply LS.k | apply LS.c)) ⟨rfl, rfl⟩ | (refine sp1 (by repeat (first | exact LS.refl _ | apply LS.k | apply LS.c)) ⟨?_, rfl⟩; simp_all [cdN])
theorem faulted3_at (T : Nat) (E : Nat → Addr) (c : Nat) (x : Int) (pb : Nat) (L : Heap) (hE : Ez T E L) (hc : List.elem c all9 = true) (hp : Has L pb (.cells ⟨[iv x, eV T E (some c)]⟩ 146)) : HC Tryd.prog 17 [.iface 144 (pt pb 0), .agg ⟨[iv c, iv x]⟩] L (fun v L' => v = .bool true ∧ L' = L) := by
  have hk := fun q => codeF_calls T E c pb x (0, 0) _ (q :: L) (hE.cons q) hc (has_next hp)
  refine hc_enter (fun _ _ => Tryd.call17 _ _) Tryd.func17 rfl Tryd.ntmps17 (Nat.le_of_ble_eq_true rfl) ?_; simp only [args0, Nat.reduceAdd]
  repeat' (first | (show HW _ _ _ _ _ _; first | apply hw_seq | apply hw_region | apply hw_ret) | (show HO _ _ _ _ _ _ _; first | apply ho_nil | refine g_q (qe S) ?_ | refine g_q (ql S) ?_ | refine g_q (qC (hk _)) ?_ | refine g_n ?_ | refine g_on ?_ | (refine g_s (fun h => ?_) (fun h => ?_) <;> ((try simp only [Bool.not_eq_eq_eq_not, Bool.not_true, Bool.not_false, decide_eq_true_eq, decide_eq_false_iff_not, Decidable.not_not, ne_eq, Bool.and_eq_true, beq_iff_eq, and_true, true_and, eq_self, decide_true, Bool.and_true, Bool.true_and, reduceCtorEq, not_true_eq_false, not_false_eq_true] at h); (try (exfalso; first | omega | with_reducible exact h (by assumption) | with_reducible exact absurd h (by assumption))))) | refine wb (fun b => ?_)) | apply seqQ_normal | apply seqQ_ret)
  all_goals first | contradiction | exact sp1 (by repeat (first | exact LS.refl _ | apply LS.k | apply LS.c)) ⟨rfl, rfl⟩ | (refine sp1 (by repeat (first | exact LS.refl _ | apply LS.k | apply LS.c)) ⟨?_, rfl⟩; simp_all)
theorem faulted3_any (T : Nat) (E : Nat → Addr) (v : Value) (code at_ : Int) (c : List Blk) (L : Heap) (hE : Ez T E L) (h : FV T E v code at_ c) : HC Tryd.prog 17 [v, .agg ⟨[iv code, iv at_]⟩] (c :: L) (fun v L' => v = .bool true ∧ L' = c :: L) := by
  rcases h with ⟨e, he, rfl, rfl, hx, rfl⟩ | ⟨pb, k, hk, rfl, rfl, rfl⟩
  · exact faulted3_bare T E e _ (hE.cons _) he at_ hx
  · exact faulted3_at T E k at_ pb _ (hE.cons _) hk has_here
theorem coded3_any (T : Nat) (E : Nat → Addr) (v : Value) (code : Int) (c : List Blk) (L : Heap) (hE : Ez T E L) (h : FV T E v code (-1) c) : HC Tryd.prog 85 [v, iv code] (c :: L) (fun v L' => v = .bool true ∧ L' = c :: L) := by
  rcases h with ⟨e, he, rfl, rfl, hx, rfl⟩ | ⟨pb, k, hk, rfl, rfl, rfl⟩
  · have := coded3_calls T E e (cdN e) ([] :: L) (hE.cons _) he
    simpa using this
  · have hc := codeF_calls T E k pb (-1) (0, 0) _ (faC pb (-1) T E (some k) :: L) (hE.cons _) hk has_here
    refine hc_enter (fun _ _ => Tryd.call85 _ _) Tryd.func85 rfl Tryd.ntmps85 (Nat.le_of_ble_eq_true rfl) ?_; simp only [args0, Nat.reduceAdd]
    repeat' (first | (show HW _ _ _ _ _ _; first | apply hw_seq | apply hw_region | apply hw_ret) | (show HO _ _ _ _ _ _ _; first | apply ho_nil | refine g_q (qe S) ?_ | refine g_q (qC (hc)) ?_ | refine g_n ?_ | refine g_on ?_ | (refine g_s (fun h => ?_) (fun h => ?_) <;> ((try simp only [Bool.not_eq_eq_eq_not, Bool.not_true, Bool.not_false, decide_eq_true_eq, decide_eq_false_iff_not, Decidable.not_not, ne_eq, Bool.and_eq_true, beq_iff_eq, and_true, true_and, eq_self, decide_true, Bool.and_true, Bool.true_and, reduceCtorEq, not_true_eq_false, not_false_eq_true] at h); (try (exfalso; first | omega | with_reducible exact h (by assumption) | with_reducible exact absurd h (by assumption)))))) | apply seqQ_normal | apply seqQ_ret)
    all_goals first | contradiction | exact sp1 (by repeat (first | exact LS.refl _ | apply LS.k | apply LS.c)) ⟨rfl, rfl⟩ | (refine sp1 (by repeat (first | exact LS.refl _ | apply LS.k | apply LS.c)) ⟨?_, rfl⟩; simp_all)
end Go.HL
