/- The document's answer: frames held against frames. Conditions: none. -/
import Derived.Test.YtkookaogdkdegabDoorRfA
namespace Go.HL
open Go Go.Proofs
set_option linter.unusedVariables false
set_option linter.unusedSimpArgs false
theorem Fr.ext9 {a b : Fr} (h : a.fr = b.fr ∧ a.to = b.to ∧ a.dl = b.dl ∧ a.kd = b.kd ∧ a.att = b.att ∧ a.yes = b.yes ∧ a.s.ph = b.s.ph ∧ a.s.pr = b.s.pr ∧ a.s.att = b.s.att) : a = b := by
  obtain ⟨_, _, _, _, _, _, _, _, _⟩ := a
  obtain ⟨_, _, _, _, _, _, _, _, _⟩ := b
  simp only at h
  obtain ⟨rfl, rfl, rfl, rfl, rfl, rfl, rfl, rfl, rfl⟩ := h
  rfl
attribute [local irreducible] HW HO HQ HD HC QOp Has Upd Puts Gets seqQ blkQ loopQ fnQ actQ nextP unQ MapF
theorem sameFrames_calls (a a2 : Option Addr) (cap cap2 : Nat) (xs ys : List Fr) (L : Heap) (hR : Rd fc 9 L a xs) (hR2 : Rd fc 9 L a2 ys) (hl : xs.length ≤ 1000000) :
    HC Tryd.prog 68 [.slice a xs.length cap, .slice a2 ys.length cap2] L (fun v L' => v = .bool (decide (xs = ys)) ∧ L' = L) := by
  refine hc_enter (fun _ _ => Tryd.call68 _ _) Tryd.func68 rfl Tryd.ntmps68 (Nat.le_of_ble_eq_true rfl) ?_; simp only [args0, Nat.reduceAdd]
  repeat' (first | (show HW _ _ _ _ _ _; first | apply hw_seq | apply hw_region | apply hw_block | apply hw_exit | refine g_t ?_ | refine g_f ?_ | (refine g_b (fun h => ?_) (fun h => ?_) <;> ((try simp only [Bool.not_eq_eq_eq_not, Bool.not_true, Bool.not_false, decide_eq_true_eq, decide_eq_false_iff_not, Decidable.not_not, ne_eq, Bool.and_eq_true, beq_iff_eq, and_true, true_and, eq_self, decide_true, Bool.and_true, Bool.true_and, reduceCtorEq, not_true_eq_false, not_false_eq_true] at h); (try (exfalso; first | omega | with_reducible exact h (by assumption) | with_reducible exact absurd h (by assumption))))) | apply hw_skip | apply hw_ret | refine g_k S ?_) | (show HO _ _ _ _ _ _ _; first | apply ho_nil | refine g_q (qe S) ?_ | refine g_q (qs S) ?_ | refine g_q (qB S) ?_) | (show HQ _ _ _ _ _ _ _; first | apply hq_nil | refine k_q (qe S) ?_ | refine k_q (qs S) ?_ | refine k_q (qB S) ?_) | apply seqQ_normal | apply seqQ_ret | apply seqQ_exit | apply blkQ_here | refine g_bx ?_ | apply blkQ_ret | apply blkQ_normal | apply loopQ_ret | apply loopQ_exit | apply unQ_ret | apply unQ_exit | apply unQ_succ)
  · exact sp1 (LS.refl _) ⟨by rw [decide_eq_false]; intro e; subst e; exact absurd rfl ‹_›, rfl⟩
  refine hw_loop (σ := Nat) (fun i => [(0, .slice a xs.length cap), (1, .slice a2 ys.length cap2), (5, iv i)]) (fun _ => L) (fun i => i ≤ xs.length ∧ xs.take i = ys.take i) (fun i => xs.length - i) 0 (by repeat (first | exact trivial | refine ⟨rfl, ?_⟩)) (List.Sublist.refl _) ⟨by omega, by simp⟩ ?_
  rintro i ⟨h1, h2⟩
  by_cases hlt : i < xs.length
  · obtain ⟨b, ia, l, E, fr, rfl, hb, hg⟩ := hR.at (j := (i : Int)) (by omega) (by omega)
    obtain ⟨b2, ia2, l2, E2, fr2, rfl, hb2, hg2⟩ := hR2.at (j := (i : Int)) (by omega) (by omega)
    have ex : xs[(i : Int).toNat]'(by omega) = xs[i] := rfl
    have ey : ys[(i : Int).toNat]'(by omega) = ys[i]'(by omega) := rfl
    rw [ex] at hg
    rw [ey] at hg2
    have hst := take_eq_succ (xs := xs) (ys := ys) hlt (by omega)
    have hne : xs[i] ≠ ys[i]'(by omega) → xs ≠ ys := fun h e => h (by subst e; rfl)
    generalize xs[i] = x at *
    generalize ys[i]'(by omega) = y at *
    repeat' (first | (show HW _ _ _ _ _ _; first | apply hw_seq | apply hw_region | apply hw_block | apply hw_exit | refine g_t ?_ | refine g_f ?_ | (refine g_b (fun h => ?_) (fun h => ?_) <;> ((try simp only [Bool.not_eq_eq_eq_not, Bool.not_true, Bool.not_false, decide_eq_true_eq, decide_eq_false_iff_not, Decidable.not_not, ne_eq, Bool.and_eq_true, beq_iff_eq, and_true, true_and, eq_self, decide_true, Bool.and_true, Bool.true_and, reduceCtorEq, not_true_eq_false, not_false_eq_true] at h); (try (exfalso; first | omega | with_reducible exact h (by assumption) | with_reducible exact absurd h (by assumption))))) | apply hw_skip | apply hw_ret | refine g_k S ?_) | (show HO _ _ _ _ _ _ _; first | apply ho_nil | refine g_q (qe S) ?_ | refine g_q (qs S) ?_ | refine g_q (qB S) ?_) | (show HQ _ _ _ _ _ _ _; first | apply hq_nil | refine k_q (qe S) ?_ | refine k_q (qs S) ?_ | refine k_q (qB S) ?_) | apply seqQ_normal | apply seqQ_ret | apply seqQ_exit | apply blkQ_here | refine g_bx ?_ | apply blkQ_ret | apply blkQ_normal | apply loopQ_ret | apply loopQ_exit | apply unQ_ret | apply unQ_exit | apply unQ_succ)
    · refine sp1 (LS.refl _) ⟨?_, rfl⟩
      rw [decide_eq_false (hne (fun e => by subst e; simp at h))]
    · have e : x = y := Fr.ext9 (by simpa using h)
      exact loopQ_normal (i + 1) (by repeat (first | exact trivial | refine ⟨rfl, ?_⟩)) (List.Sublist.refl _) ⟨by omega, hst.2 ⟨h2, e⟩⟩ (by omega)
  · repeat' (first | (show HW _ _ _ _ _ _; first | apply hw_seq | apply hw_region | apply hw_block | apply hw_exit | refine g_t ?_ | refine g_f ?_ | (refine g_b (fun h => ?_) (fun h => ?_) <;> ((try simp only [Bool.not_eq_eq_eq_not, Bool.not_true, Bool.not_false, decide_eq_true_eq, decide_eq_false_iff_not, Decidable.not_not, ne_eq, Bool.and_eq_true, beq_iff_eq, and_true, true_and, eq_self, decide_true, Bool.and_true, Bool.true_and, reduceCtorEq, not_true_eq_false, not_false_eq_true] at h); (try (exfalso; first | omega | with_reducible exact h (by assumption) | with_reducible exact absurd h (by assumption))))) | apply hw_skip | apply hw_ret | refine g_k S ?_) | (show HO _ _ _ _ _ _ _; first | apply ho_nil | refine g_q (qe S) ?_ | refine g_q (qs S) ?_ | refine g_q (qB S) ?_) | (show HQ _ _ _ _ _ _ _; first | apply hq_nil | refine k_q (qe S) ?_ | refine k_q (qs S) ?_ | refine k_q (qB S) ?_) | apply seqQ_normal | apply seqQ_ret | apply seqQ_exit | apply blkQ_here | refine g_bx ?_ | apply blkQ_ret | apply blkQ_normal | apply loopQ_ret | apply loopQ_exit | apply unQ_ret | apply unQ_exit | apply unQ_succ)
    refine sp1 (LS.refl _) ⟨?_, rfl⟩
    rw [decide_eq_true]
    have e1 : xs.take i = xs := List.take_of_length_le (by omega)
    have e2 : ys.take i = ys := List.take_of_length_le (by omega)
    rw [← e1, h2, e2]
end Go.HL
