/- Chapter 1: WeightsSets, walked. Conditions: none. -/
import Derived.Test.YtkookaogdkdegabDoorWnA
namespace Go.HL
open Go Go.Proofs
set_option linter.unusedVariables false
set_option linter.unusedSimpArgs false
theorem cdN'_eq (e : Option Nat) : cdN' e = cdN e := by cases e <;> rfl
theorem checkW_ok (ws : List Int) : okE (checkW ws) := by
  unfold checkW
  split
  · exact rfl
  · split
    · exact rfl
    · split
      · exact rfl
      · trivial
theorem sumW_ok (ws : List Int) (s : Int) : okE (sumW ws s).2 := by
  have := checkW_ok ws
  unfold sumW
  split
  · rename_i h; rw [h] at this; exact this
  · split
    · exact rfl
    · trivial
theorem enough_some {ws : List Int} {s : Int} {e : Nat} (h : (enoughW ws s).2 = some e) : (enoughW ws s).1 = false := by
  unfold enoughW at *
  split
  · rfl
  · rename_i n hs
    rw [hs] at h
    have h2 := (sumW_none (ws := ws) (set := s) (by rw [hs])).1
    rw [all_none h2] at h
    cases h
attribute [local irreducible] HW HO HQ HD HC QOp Has Upd Puts Gets seqQ blkQ loopQ fnQ actQ nextP unQ MapF
theorem weightsSets_calls (T : Nat) (E : Nat → Addr) (a : Option Addr) (cap : Nat) (xs : List Int) (s : Int) (L : Heap) (hE : Ez T E L) (hR : Rd ic 1 L a xs) (hs : s ≤ 9223372036854775807) :
    HC Tryd.prog 7 [.slice a xs.length cap, iv s] L (fun v L' => v = .bool true ∧ L' = L) := by
  have hG := hE.er [2, 3, 4]
  refine hc_enter (fun _ _ => Tryd.call7 _ _) Tryd.func7 rfl Tryd.ntmps7 (Nat.le_of_ble_eq_true rfl) ?_; simp only [args0, Nat.reduceAdd]
  repeat' (first | (show HW _ _ _ _ _ _; first | apply hw_seq | apply hw_region | refine g_t ?_ | refine g_f ?_ | (refine g_b (fun h => ?_) (fun h => ?_) <;> ((try simp only [Bool.not_eq_eq_eq_not, Bool.not_true, Bool.not_false, decide_eq_true_eq, decide_eq_false_iff_not, Decidable.not_not, ne_eq, Bool.and_eq_true, beq_iff_eq, and_true, true_and, eq_self, decide_true, Bool.and_true, Bool.true_and, reduceCtorEq, not_true_eq_false, not_false_eq_true] at h); (try (exfalso; first | omega | with_reducible exact h (by assumption) | with_reducible exact absurd h (by assumption))))) | apply hw_skip | apply hw_ret) | (show HO _ _ _ _ _ _ _; first | apply ho_nil | refine g_q (qe S) ?_ | refine g_q (qn S) ?_ | refine g_q (qC (heavier_calls T E _ hG)) ?_ | refine g_n ?_ | refine g_on ?_ | (refine g_s (fun h => ?_) (fun h => ?_) <;> ((try simp only [Bool.not_eq_eq_eq_not, Bool.not_true, Bool.not_false, decide_eq_true_eq, decide_eq_false_iff_not, Decidable.not_not, ne_eq, Bool.and_eq_true, beq_iff_eq, and_true, true_and, eq_self, decide_true, Bool.and_true, Bool.true_and, reduceCtorEq, not_true_eq_false, not_false_eq_true] at h); (try (exfalso; first | omega | with_reducible exact h (by assumption) | with_reducible exact absurd h (by assumption)))))) | apply seqQ_normal | apply seqQ_ret)
  · exact sp1 (by repeat (first | exact LS.refl _ | apply LS.k | apply LS.c)) ⟨rfl, rfl⟩
  have hl : xs.length ≤ 1000000 := by omega
  (refine gc (ownInts_calls _ _ _ _ hR hl) ?_)
  rintro v L' ⟨o1, ho, rfl⟩
  obtain ⟨a1, cap1, rfl, hR1⟩ := Own.rd (L := L) (enc := ic) (fun _ => rfl) ho rfl
  have k1 := sum_calls T E a1 cap1 xs s _ (hG.cons _) hR1 hl hs
  repeat' (first | (show HW _ _ _ _ _ _; first | apply hw_seq | apply hw_region | refine g_t ?_ | refine g_f ?_ | (refine g_b (fun h => ?_) (fun h => ?_) <;> ((try simp only [Bool.not_eq_eq_eq_not, Bool.not_true, Bool.not_false, decide_eq_true_eq, decide_eq_false_iff_not, Decidable.not_not, ne_eq, Bool.and_eq_true, beq_iff_eq, and_true, true_and, eq_self, decide_true, Bool.and_true, Bool.true_and, reduceCtorEq, not_true_eq_false, not_false_eq_true] at h); (try (exfalso; first | omega | with_reducible exact h (by assumption) | with_reducible exact absurd h (by assumption))))) | apply hw_skip | apply hw_ret) | (show HO _ _ _ _ _ _ _; first | apply ho_nil | refine g_q (qe S) ?_ | refine g_q (qn S) ?_ | refine g_q (qC (k1)) ?_ | refine g_n ?_ | refine g_on ?_ | (refine g_s (fun h => ?_) (fun h => ?_) <;> ((try simp only [Bool.not_eq_eq_eq_not, Bool.not_true, Bool.not_false, decide_eq_true_eq, decide_eq_false_iff_not, Decidable.not_not, ne_eq, Bool.and_eq_true, beq_iff_eq, and_true, true_and, eq_self, decide_true, Bool.and_true, Bool.true_and, reduceCtorEq, not_true_eq_false, not_false_eq_true] at h); (try (exfalso; first | omega | with_reducible exact h (by assumption) | with_reducible exact absurd h (by assumption)))))) | apply seqQ_normal | apply seqQ_ret)
  clear k1
  (refine gc (ownInts_calls _ _ _ _ (hR.cons _) hl) ?_)
  rintro v L' ⟨o2, ho, rfl⟩
  obtain ⟨a2, cap2, rfl, hR2⟩ := Own.rd (L := o1 :: L) (enc := ic) (fun _ => rfl) ho rfl
  have k2 := enough_calls T E a2 cap2 xs s _ ((hG.cons _).cons _) hR2 hl hs
  repeat' (first | (show HW _ _ _ _ _ _; first | apply hw_seq | apply hw_region | refine g_t ?_ | refine g_f ?_ | (refine g_b (fun h => ?_) (fun h => ?_) <;> ((try simp only [Bool.not_eq_eq_eq_not, Bool.not_true, Bool.not_false, decide_eq_true_eq, decide_eq_false_iff_not, Decidable.not_not, ne_eq, Bool.and_eq_true, beq_iff_eq, and_true, true_and, eq_self, decide_true, Bool.and_true, Bool.true_and, reduceCtorEq, not_true_eq_false, not_false_eq_true] at h); (try (exfalso; first | omega | with_reducible exact h (by assumption) | with_reducible exact absurd h (by assumption))))) | apply hw_skip | apply hw_ret) | (show HO _ _ _ _ _ _ _; first | apply ho_nil | refine g_q (qe S) ?_ | refine g_q (qn S) ?_ | refine g_q (qC (k2)) ?_ | refine g_n ?_ | refine g_on ?_ | (refine g_s (fun h => ?_) (fun h => ?_) <;> ((try simp only [Bool.not_eq_eq_eq_not, Bool.not_true, Bool.not_false, decide_eq_true_eq, decide_eq_false_iff_not, Decidable.not_not, ne_eq, Bool.and_eq_true, beq_iff_eq, and_true, true_and, eq_self, decide_true, Bool.and_true, Bool.true_and, reduceCtorEq, not_true_eq_false, not_false_eq_true] at h); (try (exfalso; first | omega | with_reducible exact h (by assumption) | with_reducible exact absurd h (by assumption)))))) | apply seqQ_normal | apply seqQ_ret)
  clear k2
  (refine gc (ownInts_calls _ _ _ _ ((hR.cons _).cons _) hl) ?_)
  rintro v L' ⟨o3, ho, rfl⟩
  obtain ⟨a3, cap3, rfl, hR3⟩ := Own.rd (L := o2 :: o1 :: L) (enc := ic) (fun _ => rfl) ho rfl
  have k3 := needed_calls T E a3 cap3 xs s _ (((hG.cons _).cons _).cons _) hR3 hl hs
  repeat' (first | (show HW _ _ _ _ _ _; first | apply hw_seq | apply hw_region | refine g_t ?_ | refine g_f ?_ | (refine g_b (fun h => ?_) (fun h => ?_) <;> ((try simp only [Bool.not_eq_eq_eq_not, Bool.not_true, Bool.not_false, decide_eq_true_eq, decide_eq_false_iff_not, Decidable.not_not, ne_eq, Bool.and_eq_true, beq_iff_eq, and_true, true_and, eq_self, decide_true, Bool.and_true, Bool.true_and, reduceCtorEq, not_true_eq_false, not_false_eq_true] at h); (try (exfalso; first | omega | with_reducible exact h (by assumption) | with_reducible exact absurd h (by assumption))))) | apply hw_skip | apply hw_ret) | (show HO _ _ _ _ _ _ _; first | apply ho_nil | refine g_q (qe S) ?_ | refine g_q (qn S) ?_ | refine g_q (qC (k3)) ?_ | refine g_n ?_ | refine g_on ?_ | (refine g_s (fun h => ?_) (fun h => ?_) <;> ((try simp only [Bool.not_eq_eq_eq_not, Bool.not_true, Bool.not_false, decide_eq_true_eq, decide_eq_false_iff_not, Decidable.not_not, ne_eq, Bool.and_eq_true, beq_iff_eq, and_true, true_and, eq_self, decide_true, Bool.and_true, Bool.true_and, reduceCtorEq, not_true_eq_false, not_false_eq_true] at h); (try (exfalso; first | omega | with_reducible exact h (by assumption) | with_reducible exact absurd h (by assumption)))))) | apply seqQ_normal | apply seqQ_ret)
  clear k3
  (refine gc (ownInts_calls _ _ _ _ (((hR.cons _).cons _).cons _) hl) ?_)
  rintro v L' ⟨o4, ho, rfl⟩
  obtain ⟨a4, cap4, rfl, hR4⟩ := Own.rd (L := o3 :: o2 :: o1 :: L) (enc := ic) (fun _ => rfl) ho rfl
  have hE4 := (((hE.cons o1).cons o2).cons o3).cons o4
  have hR5 := (((hR.cons o1).cons o2).cons o3).cons o4
  have k4 := check_calls T E a4 cap4 xs _ ((((hG.cons _).cons _).cons _).cons _) hR4 hl
  have k5 := weightsError_calls a cap xs _ hR5
  rw [cdN'_eq] at k5
  have k6 := coded1_calls T E (checkW xs) (cdN (checkW xs)) _ hE4 (checkW_ok xs)
  rw [decide_eq_true rfl] at k6
  have k7 := setError_calls a cap xs s _ hR5 hs
  rw [cdN'_eq] at k7
  have k8 := coded1_calls T E (sumW xs s).2 (cdN (sumW xs s).2) _ hE4 (sumW_ok xs s)
  rw [decide_eq_true rfl] at k8
  cases he : (sumW xs s).2 with
  | some e =>
    have e2 : (enoughW xs s).2 = some e := by rw [enough_e, he]
    have e1 := enough_some e2
    have e3 := sum_some he
    have e4 : neededW xs s = (0, some e) := by unfold neededW; rw [e2]
    have e5 : 0 < cdN (some e) := by
      have := sumW_ok xs s
      rw [he] at this
      cases e with
      | zero => exact absurd (show List.elem 0 all9 = true from this) (by decide)
      | succ n => show (0 : Int) < ((n + 1 : Nat) : Int); omega
    rw [he] at k7 k8
    rw [e2, e1, e3, e4]
    repeat' (first | (show HW _ _ _ _ _ _; first | apply hw_seq | apply hw_region | refine g_t ?_ | refine g_f ?_ | (refine g_b (fun h => ?_) (fun h => ?_) <;> ((try simp only [Bool.not_eq_eq_eq_not, Bool.not_true, Bool.not_false, decide_eq_true_eq, decide_eq_false_iff_not, Decidable.not_not, ne_eq, Bool.and_eq_true, beq_iff_eq, and_true, true_and, eq_self, decide_true, Bool.and_true, Bool.true_and, reduceCtorEq, not_true_eq_false, not_false_eq_true] at h); (try (exfalso; first | omega | with_reducible exact h (by assumption) | with_reducible exact absurd h (by assumption))))) | apply hw_skip | apply hw_ret) | (show HO _ _ _ _ _ _ _; first | apply ho_nil | refine g_q (qe S) ?_ | refine g_q (qn S) ?_ | refine g_q (qC (k4)) ?_ | refine g_q (qC (k5)) ?_ | refine g_q (qC (k6)) ?_ | refine g_q (qC (k7)) ?_ | refine g_q (qC (k8)) ?_ | refine g_n ?_ | refine g_on ?_ | (refine g_s (fun h => ?_) (fun h => ?_) <;> ((try simp only [Bool.not_eq_eq_eq_not, Bool.not_true, Bool.not_false, decide_eq_true_eq, decide_eq_false_iff_not, Decidable.not_not, ne_eq, Bool.and_eq_true, beq_iff_eq, and_true, true_and, eq_self, decide_true, Bool.and_true, Bool.true_and, reduceCtorEq, not_true_eq_false, not_false_eq_true] at h); (try (exfalso; first | omega | with_reducible exact h (by assumption) | with_reducible exact absurd h (by assumption)))))) | apply seqQ_normal | apply seqQ_ret)
    all_goals first | exact sp1 (L' := L) (by repeat (first | (with_reducible first | refine LS.p0 ?_ | refine LS.p1 ?_ | refine LS.p2 ?_ | refine LS.p3 ?_ | refine LS.p4 ?_ | refine LS.p5 ?_ | refine LS.p6 ?_ | refine LS.p7 ?_ | refine LS.p8 ?_ | refine LS.p9 ?_ | refine LS.p10 ?_ | refine LS.p11 ?_ | refine LS.p12 ?_ | refine LS.e ?_ | exact LS.refl _) | refine LS.p0 ?_ | refine LS.p1 ?_ | refine LS.p2 ?_ | refine LS.p3 ?_ | refine LS.p4 ?_ | refine LS.p5 ?_ | refine LS.p6 ?_ | refine LS.p7 ?_ | refine LS.p8 ?_ | refine LS.p9 ?_ | refine LS.p10 ?_ | refine LS.p11 ?_ | refine LS.p12 ?_ | (with_reducible refine LS.c ?_))) ⟨rfl, rfl⟩ | (exfalso; omega)
  | none =>
    have e2 : (enoughW xs s).2 = none := by rw [enough_e, he]
    obtain ⟨hc, n, rfl, hn⟩ := en_none e2
    obtain ⟨c1, c2, c3, c4⟩ := check_none hc
    have e1 : (enoughW xs (n : Int)).1 = quor xs n := by rw [en_ok hc hn]
    have e3 : (sumW xs (n : Int)).1 = wsum xs n := (sumW_none he).2.2.2
    have e4 : neededW xs (n : Int) = (((needW xs n : Nat) : Int), none) := by unfold neededW; rw [e2]; rfl
    have k9 := rSum_calls a cap xs n _ hR5 c2 c3 hs
    have k10 := rEnough_calls a cap xs n _ hR5 c2 c3 hs
    have k11 := rNeeded_calls a cap xs n _ hR5 c2 c3 hn
    rw [he] at k7
    rw [e2, e1, e3, e4]
    repeat' (first | (show HW _ _ _ _ _ _; first | apply hw_seq | apply hw_region | refine g_t ?_ | refine g_f ?_ | (refine g_b (fun h => ?_) (fun h => ?_) <;> ((try simp only [Bool.not_eq_eq_eq_not, Bool.not_true, Bool.not_false, decide_eq_true_eq, decide_eq_false_iff_not, Decidable.not_not, ne_eq, Bool.and_eq_true, beq_iff_eq, and_true, true_and, eq_self, decide_true, Bool.and_true, Bool.true_and, reduceCtorEq, not_true_eq_false, not_false_eq_true] at h); (try (exfalso; first | omega | with_reducible exact h (by assumption) | with_reducible exact absurd h (by assumption))))) | apply hw_skip | apply hw_ret) | (show HO _ _ _ _ _ _ _; first | apply ho_nil | refine g_q (qe S) ?_ | refine g_q (qn S) ?_ | refine g_q (qC (k4)) ?_ | refine g_q (qC (k5)) ?_ | refine g_q (qC (k6)) ?_ | refine g_q (qC (k7)) ?_ | refine g_q (qC (k9)) ?_ | refine g_q (qC (k10)) ?_ | refine g_q (qC (k11)) ?_ | refine g_n ?_ | refine g_on ?_ | (refine g_s (fun h => ?_) (fun h => ?_) <;> ((try simp only [Bool.not_eq_eq_eq_not, Bool.not_true, Bool.not_false, decide_eq_true_eq, decide_eq_false_iff_not, Decidable.not_not, ne_eq, Bool.and_eq_true, beq_iff_eq, and_true, true_and, eq_self, decide_true, Bool.and_true, Bool.true_and, reduceCtorEq, not_true_eq_false, not_false_eq_true] at h); (try (exfalso; first | omega | with_reducible exact h (by assumption) | with_reducible exact absurd h (by assumption)))))) | apply seqQ_normal | apply seqQ_ret)
    all_goals first | exact absurd ‹(0 : Int) < cdN none› (by decide) | exact sp1 (L' := L) (by repeat (first | (with_reducible first | refine LS.p0 ?_ | refine LS.p1 ?_ | refine LS.p2 ?_ | refine LS.p3 ?_ | refine LS.p4 ?_ | refine LS.p5 ?_ | refine LS.p6 ?_ | refine LS.p7 ?_ | refine LS.p8 ?_ | refine LS.p9 ?_ | refine LS.p10 ?_ | refine LS.p11 ?_ | refine LS.p12 ?_ | refine LS.e ?_ | exact LS.refl _) | refine LS.p0 ?_ | refine LS.p1 ?_ | refine LS.p2 ?_ | refine LS.p3 ?_ | refine LS.p4 ?_ | refine LS.p5 ?_ | refine LS.p6 ?_ | refine LS.p7 ?_ | refine LS.p8 ?_ | refine LS.p9 ?_ | refine LS.p10 ?_ | refine LS.p11 ?_ | refine LS.p12 ?_ | (with_reducible refine LS.c ?_))) ⟨rfl, rfl⟩ | exact sp1 (L' := L) (by repeat (first | (with_reducible first | refine LS.p0 ?_ | refine LS.p1 ?_ | refine LS.p2 ?_ | refine LS.p3 ?_ | refine LS.p4 ?_ | refine LS.p5 ?_ | refine LS.p6 ?_ | refine LS.p7 ?_ | refine LS.p8 ?_ | refine LS.p9 ?_ | refine LS.p10 ?_ | refine LS.p11 ?_ | refine LS.p12 ?_ | refine LS.e ?_ | exact LS.refl _) | refine LS.p0 ?_ | refine LS.p1 ?_ | refine LS.p2 ?_ | refine LS.p3 ?_ | refine LS.p4 ?_ | refine LS.p5 ?_ | refine LS.p6 ?_ | refine LS.p7 ?_ | refine LS.p8 ?_ | refine LS.p9 ?_ | refine LS.p10 ?_ | refine LS.p11 ?_ | refine LS.p12 ?_ | (with_reducible refine LS.c ?_))) ⟨congrArg Value.bool (decide_eq_true rfl), rfl⟩ | (exfalso; omega)
end Go.HL
