/- Chapter 4, WireCodes and WireReads, walked. Conditions: none. -/
import Derived.Test.YtkookaogdkdegabDoorWrD
import Derived.Test.YtkookaogdkdegabDoorWrE
import Derived.Test.YtkookaogdkdegabDoorErD1
namespace Go.HL
open Go Go.Proofs
set_option linter.unusedVariables false
set_option linter.unusedSimpArgs false
theorem cdF_eq (e : Option Nat) : cdF e = cdN e := by cases e <;> rfl
def fr0 : Fr := ⟨1, 2, 0, 2, 0, true, ⟨0, 0, 0⟩⟩
theorem fr0_ok : ¬badF fr0 := by decide
theorem frameE_ok (f : Fr) : okE (frameE f) := by
  unfold frameE
  split
  · exact rfl
  · trivial
theorem decM_ok (s : List UInt8) : okE (decM s).2 := by
  unfold decM
  split
  · exact rfl
  split
  · exact rfl
  split
  · exact rfl
  split
  · exact rfl
  · trivial
attribute [local irreducible] HW HO HQ HD HC QOp Has Upd Puts Gets seqQ blkQ loopQ fnQ actQ nextP unQ MapF
attribute [local irreducible] encS decM crc lowB
theorem framed_calls (T : Nat) (E : Nat → Addr) (L : Heap) (hE : Ez T E L) : HC Tryd.prog 23 [] L (fun v L' => v = .bool true ∧ L' = L) := by
  have k1 := encode_calls T E fr0
  have k2 := decode_calls T E (encS fr0)
  have k3 := wcheck_calls T E fr0
  have hl := encS_len fr0
  rw [dec_enc fr0_ok] at k2
  unfold frameE at k1 k3
  simp only [if_neg fr0_ok] at k1 k3
  generalize encS fr0 = s at *
  refine hc_enter (fun _ _ => Tryd.call23 _ _) Tryd.func23 rfl Tryd.ntmps23 (Nat.le_of_ble_eq_true rfl) ?_; simp only [args0, Nat.reduceAdd]
  have hG := hE.errs
  repeat' (first | (show HW _ _ _ _ _ _; first | apply hw_seq | apply hw_region | apply hw_ret) | (show HO _ _ _ _ _ _ _; first | apply ho_nil | refine g_q (qe S) ?_ | refine g_q (qs S) ?_ | refine g_q (qb S) ?_ | refine g_q (qbA S) ?_ | refine g_q (qA S) ?_ | refine g_q (qC (k1 _ ((hE.cons _).er [2]))) ?_ | refine g_q (qC (k2 _ ((hE.cons _).er [1, 2, 7]) (by omega))) ?_ | refine g_q (qC (k3 _ (((hE.cons _).cons _).er [2]))) ?_ | refine g_n ?_ | refine g_on ?_ | (refine g_s (fun h => ?_) (fun h => ?_) <;> ((try simp only [Bool.not_eq_eq_eq_not, Bool.not_true, Bool.not_false, decide_eq_true_eq, decide_eq_false_iff_not, Decidable.not_not, ne_eq, Bool.and_eq_true, beq_iff_eq, and_true, true_and, eq_self, decide_true, Bool.and_true, Bool.true_and, reduceCtorEq, not_true_eq_false, not_false_eq_true] at h); (try (exfalso; first | omega | with_reducible exact h (by assumption) | with_reducible exact absurd h (by assumption))))) | refine wa S (fun b => ?_) | refine ws S ?_) | apply seqQ_normal | apply seqQ_ret)
  exact sp1 (by repeat (first | exact LS.refl _ | apply LS.k | apply LS.c)) ⟨rfl, rfl⟩
theorem wireCodes_calls (T : Nat) (E : Nat → Addr) (f : Fr) (L : Heap) (hE : Ez T E L) : HC Tryd.prog 4 [.agg ⟨fc f⟩] L (fun v L' => v = .bool true ∧ L' = L) := by
  have kf := fun L hE => framed_calls T E L hE
  have k1 := encode_calls T E f
  have k3 := wcheck_calls T E f
  have k4 := fun L => rferr_calls f L
  have k5 := fun L hE => coded1_calls T E (frameE f) (cdN (frameE f)) L hE (frameE_ok f)
  rw [cdF_eq] at k4
  refine hc_enter (fun _ _ => Tryd.call4 _ _) Tryd.func4 rfl Tryd.ntmps4 (Nat.le_of_ble_eq_true rfl) ?_; simp only [args0, Nat.reduceAdd]
  by_cases hb : badF f
  · unfold frameE at k1 k3 k4 k5
    simp only [if_pos hb] at k1 k3 k4 k5
    repeat' (first | (show HW _ _ _ _ _ _; first | apply hw_seq | apply hw_region | refine g_t ?_ | refine g_f ?_ | (refine g_b (fun h => ?_) (fun h => ?_) <;> ((try simp only [Bool.not_eq_eq_eq_not, Bool.not_true, Bool.not_false, decide_eq_true_eq, decide_eq_false_iff_not, Decidable.not_not, ne_eq, Bool.and_eq_true, beq_iff_eq, and_true, true_and, eq_self, decide_true, Bool.and_true, Bool.true_and, reduceCtorEq, not_true_eq_false, not_false_eq_true] at h); (try (exfalso; first | omega | with_reducible exact h (by assumption) | with_reducible exact absurd h (by assumption))))) | apply hw_skip | apply hw_ret) | (show HO _ _ _ _ _ _ _; first | apply ho_nil | refine g_q (qe S) ?_ | refine g_q (qs S) ?_ | refine g_q (qn S) ?_ | refine g_q (qA S) ?_ | refine g_q (qC (kf _ (hE.cons _))) ?_ | refine g_q (qC (k1 _ ((hE.cons _).er [2]))) ?_ | refine g_q (qC (k3 _ ((hE.cons _).er [2]))) ?_ | refine g_q (qC (k4 _)) ?_ | refine g_q (qC (k5 _ (hE.cons _))) ?_ | refine g_n ?_ | refine g_on ?_ | (refine g_s (fun h => ?_) (fun h => ?_) <;> ((try simp only [Bool.not_eq_eq_eq_not, Bool.not_true, Bool.not_false, decide_eq_true_eq, decide_eq_false_iff_not, Decidable.not_not, ne_eq, Bool.and_eq_true, beq_iff_eq, and_true, true_and, eq_self, decide_true, Bool.and_true, Bool.true_and, reduceCtorEq, not_true_eq_false, not_false_eq_true] at h); (try (exfalso; first | omega | with_reducible exact h (by assumption) | with_reducible exact absurd h (by assumption))))) | refine wa S (fun b => ?_) | refine wb (fun b => ?_) | refine ws S ?_) | apply seqQ_normal | apply seqQ_ret)
    · exact sp1 (by repeat (first | exact LS.refl _ | apply LS.k | apply LS.c)) ⟨rfl, rfl⟩
    · exact absurd (show (0 : Int) < cdN (some 2) by decide) h
  · have k2 := decode_calls T E (encS f)
    rw [dec_enc hb] at k2
    have hl := encS_len f
    have k6 := fun L => frameText_calls f L hb
    unfold frameE at k1 k3 k4 k5
    simp only [if_neg hb] at k1 k3 k4 k5
    generalize encS f = s at *
    repeat' (first | (show HW _ _ _ _ _ _; first | apply hw_seq | apply hw_region | refine g_t ?_ | refine g_f ?_ | (refine g_b (fun h => ?_) (fun h => ?_) <;> ((try simp only [Bool.not_eq_eq_eq_not, Bool.not_true, Bool.not_false, decide_eq_true_eq, decide_eq_false_iff_not, Decidable.not_not, ne_eq, Bool.and_eq_true, beq_iff_eq, and_true, true_and, eq_self, decide_true, Bool.and_true, Bool.true_and, reduceCtorEq, not_true_eq_false, not_false_eq_true] at h); (try (exfalso; first | omega | with_reducible exact h (by assumption) | with_reducible exact absurd h (by assumption))))) | apply hw_skip | apply hw_ret) | (show HO _ _ _ _ _ _ _; first | apply ho_nil | refine g_q (qe S) ?_ | refine g_q (qs S) ?_ | refine g_q (qn S) ?_ | refine g_q (qA S) ?_ | refine g_q (qC (kf _ (hE.cons _))) ?_ | refine g_q (qC (k1 _ ((hE.cons _).er [2]))) ?_ | refine g_q (qC (k3 _ ((hE.cons _).er [2]))) ?_ | refine g_q (qC (k4 _)) ?_ | refine g_q (qC (k5 _ (hE.cons _))) ?_ | refine g_q (qC (k2 _ ((hE.cons _).er [1, 2, 7]) (by omega))) ?_ | refine g_q (qC (k6 _)) ?_ | refine g_n ?_ | refine g_on ?_ | (refine g_s (fun h => ?_) (fun h => ?_) <;> ((try simp only [Bool.not_eq_eq_eq_not, Bool.not_true, Bool.not_false, decide_eq_true_eq, decide_eq_false_iff_not, Decidable.not_not, ne_eq, Bool.and_eq_true, beq_iff_eq, and_true, true_and, eq_self, decide_true, Bool.and_true, Bool.true_and, reduceCtorEq, not_true_eq_false, not_false_eq_true] at h); (try (exfalso; first | omega | with_reducible exact h (by assumption) | with_reducible exact absurd h (by assumption))))) | refine wa S (fun b => ?_) | refine wb (fun b => ?_) | refine ws S ?_) | apply seqQ_normal | apply seqQ_ret)
    · exact absurd h (show ¬(0 : Int) < cdN none by decide)
    · refine sp1 (by repeat (first | exact LS.refl _ | apply LS.k | apply LS.c)) ⟨congrArg Value.bool ?_, rfl⟩
      simp
theorem decM_pos {s : List UInt8} {f : Fr} {e : Nat} (h : decM s = (f, some e)) : 0 < e := by
  have := decM_ok s
  rw [h] at this
  have h2 : List.elem e all9 = true := this
  cases e with
  | zero => exact absurd h2 (by decide)
  | succ n => omega
set_option maxHeartbeats 2000000 in
theorem wireReads_calls (T : Nat) (E : Nat → Addr) (s : List UInt8) (sl1 : Bool) (L : Heap) (hE : Ez T E L) : HC Tryd.prog 5 [bs s, .bool sl1] L (fun v L' => v = .bool true ∧ L' = L) := by
  have kf := fun L hE => framed_calls T E L hE
  refine hc_enter (fun _ _ => Tryd.call5 _ _) Tryd.func5 rfl Tryd.ntmps5 (Nat.le_of_ble_eq_true rfl) ?_; simp only [args0, Nat.reduceAdd]
  by_cases hs : 200 < s.length
  · repeat' (first | (show HW _ _ _ _ _ _; first | apply hw_seq | apply hw_region | refine g_t ?_ | refine g_f ?_ | (refine g_b (fun h => ?_) (fun h => ?_) <;> ((try simp only [Bool.not_eq_eq_eq_not, Bool.not_true, Bool.not_false, decide_eq_true_eq, decide_eq_false_iff_not, Decidable.not_not, ne_eq, Bool.and_eq_true, beq_iff_eq, and_true, true_and, eq_self, decide_true, Bool.and_true, Bool.true_and, reduceCtorEq, not_true_eq_false, not_false_eq_true] at h); (try (exfalso; first | omega | with_reducible exact h (by assumption) | with_reducible exact absurd h (by assumption))))) | apply hw_skip | apply hw_ret) | (show HO _ _ _ _ _ _ _; first | apply ho_nil | refine g_q (qe S) ?_ | refine g_q (qs S) ?_ | refine g_q (qn S) ?_ | refine g_q (qB S) ?_ | refine g_q (qC (kf _ hE)) ?_ | refine g_n ?_ | refine g_on ?_ | (refine g_s (fun h => ?_) (fun h => ?_) <;> ((try simp only [Bool.not_eq_eq_eq_not, Bool.not_true, Bool.not_false, decide_eq_true_eq, decide_eq_false_iff_not, Decidable.not_not, ne_eq, Bool.and_eq_true, beq_iff_eq, and_true, true_and, eq_self, decide_true, Bool.and_true, Bool.true_and, reduceCtorEq, not_true_eq_false, not_false_eq_true] at h); (try (exfalso; first | omega | with_reducible exact h (by assumption) | with_reducible exact absurd h (by assumption))))) | refine wa S (fun b => ?_) | refine ws S ?_) | apply seqQ_normal | apply seqQ_ret)
    all_goals first | exact sp1 (by repeat (first | exact LS.refl _ | apply LS.k | apply LS.c)) ⟨rfl, rfl⟩ | omega
  have k7 := rcrc_calls s
  have k8 := rlow_calls (crc s)
  have hcl : ((crc s : Nat) : Int) < 4294967296 := by unfold crc; omega
  have hc0 : 0 ≤ ((crc s : Nat) : Int) := by omega
  have hll := lowB_len (crc s)
  apply once_o (ι := List UInt8) (fun t => t.length ≤ 1000) (fun t => [(0, bs t), (27, bs t)]) (fun _ => L)
  · intro key
    cases sl1 with
    | true =>
      repeat' (first | (show HW _ _ _ _ _ _; first | apply hw_seq | apply hw_region | refine g_t ?_ | refine g_f ?_ | (refine g_b (fun h => ?_) (fun h => ?_) <;> ((try simp only [Bool.not_eq_eq_eq_not, Bool.not_true, Bool.not_false, decide_eq_true_eq, decide_eq_false_iff_not, Decidable.not_not, ne_eq, Bool.and_eq_true, beq_iff_eq, and_true, true_and, eq_self, decide_true, Bool.and_true, Bool.true_and, reduceCtorEq, not_true_eq_false, not_false_eq_true] at h); (try (exfalso; first | omega | with_reducible exact h (by assumption) | with_reducible exact absurd h (by assumption))))) | apply hw_skip | apply hw_ret) | (show HO _ _ _ _ _ _ _; first | apply ho_nil | refine g_q (qe S) ?_ | refine g_q (qs S) ?_ | refine g_q (qn S) ?_ | refine g_q (qB S) ?_ | refine g_q (qC (kf _ hE)) ?_ | refine g_q (qC (k7 _ (by omega))) ?_ | refine g_q (qC (k8 _ hc0 hcl)) ?_ | refine g_n ?_ | refine g_on ?_ | (refine g_s (fun h => ?_) (fun h => ?_) <;> ((try simp only [Bool.not_eq_eq_eq_not, Bool.not_true, Bool.not_false, decide_eq_true_eq, decide_eq_false_iff_not, Decidable.not_not, ne_eq, Bool.and_eq_true, beq_iff_eq, and_true, true_and, eq_self, decide_true, Bool.and_true, Bool.true_and, reduceCtorEq, not_true_eq_false, not_false_eq_true] at h); (try (exfalso; first | omega | with_reducible exact h (by assumption) | with_reducible exact absurd h (by assumption))))) | refine wa S (fun b => ?_) | refine ws S ?_) | apply seqQ_normal | apply seqQ_ret)
      exact ho_sp (ho_sub (key (s ++ lowB (crc s)) (by simp; omega)) (by repeat (first | exact trivial | refine ⟨rfl, ?_⟩))) (by repeat (first | (with_reducible first | refine LS.p0 ?_ | refine LS.p1 ?_ | refine LS.p2 ?_ | refine LS.p3 ?_ | refine LS.p4 ?_ | refine LS.p5 ?_ | refine LS.p6 ?_ | refine LS.p7 ?_ | refine LS.p8 ?_ | refine LS.p9 ?_ | refine LS.p10 ?_ | refine LS.p11 ?_ | refine LS.p12 ?_ | refine LS.e ?_ | exact LS.refl _) | refine LS.p0 ?_ | refine LS.p1 ?_ | refine LS.p2 ?_ | refine LS.p3 ?_ | refine LS.p4 ?_ | refine LS.p5 ?_ | refine LS.p6 ?_ | refine LS.p7 ?_ | refine LS.p8 ?_ | refine LS.p9 ?_ | refine LS.p10 ?_ | refine LS.p11 ?_ | refine LS.p12 ?_ | (with_reducible refine LS.c ?_)))
    | false =>
      repeat' (first | (show HW _ _ _ _ _ _; first | apply hw_seq | apply hw_region | refine g_t ?_ | refine g_f ?_ | (refine g_b (fun h => ?_) (fun h => ?_) <;> ((try simp only [Bool.not_eq_eq_eq_not, Bool.not_true, Bool.not_false, decide_eq_true_eq, decide_eq_false_iff_not, Decidable.not_not, ne_eq, Bool.and_eq_true, beq_iff_eq, and_true, true_and, eq_self, decide_true, Bool.and_true, Bool.true_and, reduceCtorEq, not_true_eq_false, not_false_eq_true] at h); (try (exfalso; first | omega | with_reducible exact h (by assumption) | with_reducible exact absurd h (by assumption))))) | apply hw_skip | apply hw_ret) | (show HO _ _ _ _ _ _ _; first | apply ho_nil | refine g_q (qe S) ?_ | refine g_q (qs S) ?_ | refine g_q (qn S) ?_ | refine g_q (qB S) ?_ | refine g_q (qC (kf _ hE)) ?_ | refine g_n ?_ | refine g_on ?_ | (refine g_s (fun h => ?_) (fun h => ?_) <;> ((try simp only [Bool.not_eq_eq_eq_not, Bool.not_true, Bool.not_false, decide_eq_true_eq, decide_eq_false_iff_not, Decidable.not_not, ne_eq, Bool.and_eq_true, beq_iff_eq, and_true, true_and, eq_self, decide_true, Bool.and_true, Bool.true_and, reduceCtorEq, not_true_eq_false, not_false_eq_true] at h); (try (exfalso; first | omega | with_reducible exact h (by assumption) | with_reducible exact absurd h (by assumption))))) | refine wa S (fun b => ?_) | refine ws S ?_) | apply seqQ_normal | apply seqQ_ret)
      exact ho_sp (ho_sub (key s (by omega)) (by repeat (first | exact trivial | refine ⟨rfl, ?_⟩))) (by repeat (first | (with_reducible first | refine LS.p0 ?_ | refine LS.p1 ?_ | refine LS.p2 ?_ | refine LS.p3 ?_ | refine LS.p4 ?_ | refine LS.p5 ?_ | refine LS.p6 ?_ | refine LS.p7 ?_ | refine LS.p8 ?_ | refine LS.p9 ?_ | refine LS.p10 ?_ | refine LS.p11 ?_ | refine LS.p12 ?_ | refine LS.e ?_ | exact LS.refl _) | refine LS.p0 ?_ | refine LS.p1 ?_ | refine LS.p2 ?_ | refine LS.p3 ?_ | refine LS.p4 ?_ | refine LS.p5 ?_ | refine LS.p6 ?_ | refine LS.p7 ?_ | refine LS.p8 ?_ | refine LS.p9 ?_ | refine LS.p10 ?_ | refine LS.p11 ?_ | refine LS.p12 ?_ | (with_reducible refine LS.c ?_)))
  · intro t ht
    have k2 := decode_calls T E t
    have k4 := frameOf_calls t
    rw [cdF_eq] at k4
    have hk := decM_ok t
    cases hd : decM t with
    | mk f eo =>
      rw [hd] at k2 k4 hk
      have k5 := fun L hE => coded1_calls T E eo (cdN eo) L hE hk
      simp only at k2 k4
      cases eo with
      | some e =>
        have he := decM_pos hd
        repeat' (first | (show HW _ _ _ _ _ _; first | apply hw_seq | apply hw_region | refine g_t ?_ | refine g_f ?_ | (refine g_b (fun h => ?_) (fun h => ?_) <;> ((try simp only [Bool.not_eq_eq_eq_not, Bool.not_true, Bool.not_false, decide_eq_true_eq, decide_eq_false_iff_not, Decidable.not_not, ne_eq, Bool.and_eq_true, beq_iff_eq, and_true, true_and, eq_self, decide_true, Bool.and_true, Bool.true_and, reduceCtorEq, not_true_eq_false, not_false_eq_true] at h); (try (exfalso; first | omega | with_reducible exact h (by assumption) | with_reducible exact absurd h (by assumption))))) | apply hw_skip | apply hw_ret) | (show HO _ _ _ _ _ _ _; first | apply ho_nil | refine g_q (qe S) ?_ | refine g_q (qs S) ?_ | refine g_q (qn S) ?_ | refine g_q (qB S) ?_ | refine g_q (qC (k2 _ (hE.er [1, 2, 7]) (by omega))) ?_ | refine g_q (qC (k4 _ (by omega))) ?_ | refine g_q (qC (k5 _ ((hE.cons _).cons _))) ?_ | refine g_n ?_ | refine g_on ?_ | (refine g_s (fun h => ?_) (fun h => ?_) <;> ((try simp only [Bool.not_eq_eq_eq_not, Bool.not_true, Bool.not_false, decide_eq_true_eq, decide_eq_false_iff_not, Decidable.not_not, ne_eq, Bool.and_eq_true, beq_iff_eq, and_true, true_and, eq_self, decide_true, Bool.and_true, Bool.true_and, reduceCtorEq, not_true_eq_false, not_false_eq_true] at h); (try (exfalso; first | omega | with_reducible exact h (by assumption) | with_reducible exact absurd h (by assumption))))) | refine wa S (fun b => ?_) | refine ws S ?_) | apply seqQ_normal | apply seqQ_ret)
        · exact absurd (beq_self_eq_true f.yes) (by rw [h]; decide)
        · exact sp1 (L' := L) (by repeat (first | (with_reducible first | refine LS.p0 ?_ | refine LS.p1 ?_ | refine LS.p2 ?_ | refine LS.p3 ?_ | refine LS.p4 ?_ | refine LS.p5 ?_ | refine LS.p6 ?_ | refine LS.p7 ?_ | refine LS.p8 ?_ | refine LS.p9 ?_ | refine LS.p10 ?_ | refine LS.p11 ?_ | refine LS.p12 ?_ | refine LS.e ?_ | exact LS.refl _) | refine LS.p0 ?_ | refine LS.p1 ?_ | refine LS.p2 ?_ | refine LS.p3 ?_ | refine LS.p4 ?_ | refine LS.p5 ?_ | refine LS.p6 ?_ | refine LS.p7 ?_ | refine LS.p8 ?_ | refine LS.p9 ?_ | refine LS.p10 ?_ | refine LS.p11 ?_ | refine LS.p12 ?_ | (with_reducible refine LS.c ?_))) ⟨rfl, rfl⟩
        · exact absurd (show (0 : Int) < cdN (some e) by simp only [cdN]; omega) h
      | none =>
        obtain ⟨h1, h2⟩ := enc_dec hd
        have k6 := encode_calls T E f
        unfold frameE at k6
        simp only [if_neg h2, h1] at k6
        repeat' (first | (show HW _ _ _ _ _ _; first | apply hw_seq | apply hw_region | refine g_t ?_ | refine g_f ?_ | (refine g_b (fun h => ?_) (fun h => ?_) <;> ((try simp only [Bool.not_eq_eq_eq_not, Bool.not_true, Bool.not_false, decide_eq_true_eq, decide_eq_false_iff_not, Decidable.not_not, ne_eq, Bool.and_eq_true, beq_iff_eq, and_true, true_and, eq_self, decide_true, Bool.and_true, Bool.true_and, reduceCtorEq, not_true_eq_false, not_false_eq_true] at h); (try (exfalso; first | omega | with_reducible exact h (by assumption) | with_reducible exact absurd h (by assumption))))) | apply hw_skip | apply hw_ret) | (show HO _ _ _ _ _ _ _; first | apply ho_nil | refine g_q (qe S) ?_ | refine g_q (qs S) ?_ | refine g_q (qn S) ?_ | refine g_q (qB S) ?_ | refine g_q (qC (k2 _ (hE.er [1, 2, 7]) (by omega))) ?_ | refine g_q (qC (k4 _ (by omega))) ?_ | refine g_q (qC (k5 _ ((hE.cons _).cons _))) ?_ | refine g_q (qC (k6 _ (((hE.cons _).cons _).er [2]))) ?_ | refine g_n ?_ | refine g_on ?_ | (refine g_s (fun h => ?_) (fun h => ?_) <;> ((try simp only [Bool.not_eq_eq_eq_not, Bool.not_true, Bool.not_false, decide_eq_true_eq, decide_eq_false_iff_not, Decidable.not_not, ne_eq, Bool.and_eq_true, beq_iff_eq, and_true, true_and, eq_self, decide_true, Bool.and_true, Bool.true_and, reduceCtorEq, not_true_eq_false, not_false_eq_true] at h); (try (exfalso; first | omega | with_reducible exact h (by assumption) | with_reducible exact absurd h (by assumption))))) | refine wa S (fun b => ?_) | refine ws S ?_) | apply seqQ_normal | apply seqQ_ret)
        · exact absurd (beq_self_eq_true f.yes) (by rw [h]; decide)
        · exact absurd h (show ¬(0 : Int) < cdN none by decide)
        · exact sp1 (L' := L) (by repeat (first | (with_reducible first | refine LS.p0 ?_ | refine LS.p1 ?_ | refine LS.p2 ?_ | refine LS.p3 ?_ | refine LS.p4 ?_ | refine LS.p5 ?_ | refine LS.p6 ?_ | refine LS.p7 ?_ | refine LS.p8 ?_ | refine LS.p9 ?_ | refine LS.p10 ?_ | refine LS.p11 ?_ | refine LS.p12 ?_ | refine LS.e ?_ | exact LS.refl _) | refine LS.p0 ?_ | refine LS.p1 ?_ | refine LS.p2 ?_ | refine LS.p3 ?_ | refine LS.p4 ?_ | refine LS.p5 ?_ | refine LS.p6 ?_ | refine LS.p7 ?_ | refine LS.p8 ?_ | refine LS.p9 ?_ | refine LS.p10 ?_ | refine LS.p11 ?_ | refine LS.p12 ?_ | (with_reducible refine LS.c ?_))) ⟨congrArg Value.bool (decide_eq_true rfl), rfl⟩
end Go.HL
