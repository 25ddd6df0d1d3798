/- Chapter 7: LeadStale, walked. Conditions: none. -/
import Derived.Test.YtkookaogdkdegabDoorLdD
import Derived.Test.YtkookaogdkdegabDoorRfW
import Derived.Test.YtkookaogdkdegabDoorRfF
namespace Go.HL
open Go Go.Proofs
set_option linter.unusedVariables false
set_option linter.unusedSimpArgs false
attribute [local irreducible] HW HO HQ HD HC QOp Has Upd Puts Gets seqQ blkQ loopQ fnQ actQ nextP unQ MapF
theorem leads_calls (T : Nat) (E : Nat → Addr) (L : Heap) (hG : Er T E [2, 3, 4] L) : HC Tryd.prog 62 [] L (fun v L' => v = .bool true ∧ L' = L) := by
  have kb := fun a L hG hR => begin_calls T E 0 0 a 1 [1] L hG hR (by decide)
  rw [show leadE 0 0 [1] 0 = none by decide] at kb
  refine hc_enter (fun _ _ => Tryd.call62 _ _) Tryd.func62 rfl Tryd.ntmps62 (Nat.le_of_ble_eq_true rfl) ?_; simp only [args0, Nat.reduceAdd]
  repeat' (first | (show HW _ _ _ _ _ _; first | apply hw_seq | apply hw_region | refine g_t ?_ | refine g_f ?_ | (refine g_b (fun h => ?_) (fun h => ?_) <;> ((try simp only [Bool.not_eq_eq_eq_not, Bool.not_true, Bool.not_false, decide_eq_true_eq, decide_eq_false_iff_not, Decidable.not_not, ne_eq, Bool.and_eq_true, beq_iff_eq, and_true, true_and, eq_self, decide_true, Bool.and_true, Bool.true_and, reduceCtorEq, not_true_eq_false, not_false_eq_true] at h); (try (exfalso; first | omega | with_reducible exact h (by assumption) | with_reducible exact absurd h (by assumption))))) | apply hw_skip | apply hw_ret) | (show HO _ _ _ _ _ _ _; first | apply ho_nil | refine g_q (qe S) ?_ | refine g_q (ql S) ?_ | refine g_q (qb S) ?_ | refine g_q (qbA S) ?_ | refine g_n ?_ | refine g_on ?_ | (refine g_s (fun h => ?_) (fun h => ?_) <;> ((try simp only [Bool.not_eq_eq_eq_not, Bool.not_true, Bool.not_false, decide_eq_true_eq, decide_eq_false_iff_not, Decidable.not_not, ne_eq, Bool.and_eq_true, beq_iff_eq, and_true, true_and, eq_self, decide_true, Bool.and_true, Bool.true_and, reduceCtorEq, not_true_eq_false, not_false_eq_true] at h); (try (exfalso; first | omega | with_reducible exact h (by assumption) | with_reducible exact absurd h (by assumption))))) | refine wS S (fun b => ?_) | refine wSa S (fun b => ?_) | refine wSn S (fun b => ?_)) | apply seqQ_normal | apply seqQ_ret)
  refine gc (kb (some ⟨b, 0, none⟩) _ (hG.cons _) (rd_new _ has_here rfl)) ?_
  rintro v L' ⟨lp, wv, wc, rfl, hm, rfl⟩
  have kq := lstate_calls lp wv wc (newLd 0 0 [1] 0 2)
  repeat' (first | (show HW _ _ _ _ _ _; first | apply hw_seq | apply hw_region | refine g_t ?_ | refine g_f ?_ | (refine g_b (fun h => ?_) (fun h => ?_) <;> ((try simp only [Bool.not_eq_eq_eq_not, Bool.not_true, Bool.not_false, decide_eq_true_eq, decide_eq_false_iff_not, Decidable.not_not, ne_eq, Bool.and_eq_true, beq_iff_eq, and_true, true_and, eq_self, decide_true, Bool.and_true, Bool.true_and, reduceCtorEq, not_true_eq_false, not_false_eq_true] at h); (try (exfalso; first | omega | with_reducible exact h (by assumption) | with_reducible exact absurd h (by assumption))))) | apply hw_skip | apply hw_ret) | (show HO _ _ _ _ _ _ _; first | apply ho_nil | refine g_q (qe S) ?_ | refine g_q (ql S) ?_ | refine g_q (qb S) ?_ | refine g_q (qbA S) ?_ | refine g_q (qC (hq1 kq 0)) ?_ | refine g_n ?_ | refine g_on ?_ | (refine g_s (fun h => ?_) (fun h => ?_) <;> ((try simp only [Bool.not_eq_eq_eq_not, Bool.not_true, Bool.not_false, decide_eq_true_eq, decide_eq_false_iff_not, Decidable.not_not, ne_eq, Bool.and_eq_true, beq_iff_eq, and_true, true_and, eq_self, decide_true, Bool.and_true, Bool.true_and, reduceCtorEq, not_true_eq_false, not_false_eq_true] at h); (try (exfalso; first | omega | with_reducible exact h (by assumption) | with_reducible exact absurd h (by assumption))))) | refine wS S (fun b => ?_) | refine wSa S (fun b => ?_) | refine wSn S (fun b => ?_)) | apply seqQ_normal | apply seqQ_ret)
  refine gc (start_calls lp wv wc _ _ hm) ?_
  rintro v L' ⟨c, hv, rfl⟩
  obtain ⟨a1, cap1, rfl, -, hR1⟩ := hv.rd fc_len
  rw [show (startM (newLd 0 0 [1] 0 2)).length = 1 by decide]
  repeat' (first | (show HW _ _ _ _ _ _; first | apply hw_seq | apply hw_region | refine g_t ?_ | refine g_f ?_ | (refine g_b (fun h => ?_) (fun h => ?_) <;> ((try simp only [Bool.not_eq_eq_eq_not, Bool.not_true, Bool.not_false, decide_eq_true_eq, decide_eq_false_iff_not, Decidable.not_not, ne_eq, Bool.and_eq_true, beq_iff_eq, and_true, true_and, eq_self, decide_true, Bool.and_true, Bool.true_and, reduceCtorEq, not_true_eq_false, not_false_eq_true] at h); (try (exfalso; first | omega | with_reducible exact h (by assumption) | with_reducible exact absurd h (by assumption))))) | apply hw_skip | apply hw_ret) | (show HO _ _ _ _ _ _ _; first | apply ho_nil | refine g_q (qe S) ?_ | refine g_q (ql S) ?_ | refine g_q (qb S) ?_ | refine g_q (qbA S) ?_ | refine g_n ?_ | refine g_on ?_ | (refine g_s (fun h => ?_) (fun h => ?_) <;> ((try simp only [Bool.not_eq_eq_eq_not, Bool.not_true, Bool.not_false, decide_eq_true_eq, decide_eq_false_iff_not, Decidable.not_not, ne_eq, Bool.and_eq_true, beq_iff_eq, and_true, true_and, eq_self, decide_true, Bool.and_true, Bool.true_and, reduceCtorEq, not_true_eq_false, not_false_eq_true] at h); (try (exfalso; first | omega | with_reducible exact h (by assumption) | with_reducible exact absurd h (by assumption))))) | refine wS S (fun b => ?_) | refine wSa S (fun b => ?_) | refine wSn S (fun b => ?_)) | apply seqQ_normal | apply seqQ_ret)
  refine fo 1 ?_
  have kh := hear_calls T E lp wv wc (newLd 0 0 [1] 0 2) ⟨0, 0, 0, 2, 0, true, zeroS⟩
  generalize hr : hearM (newLd 0 0 [1] 0 2) ⟨0, 0, 0, 2, 0, true, zeroS⟩ = r at kh
  refine gc (kh _ ((hG.cons _).cons _) hm (by decide)) ?_
  rintro v L' ⟨c2, hv2, rfl⟩
  have hr2 : r.2 = [⟨0, 0, 0, 5, 0, false, ⟨4, 0, 0⟩⟩] := by rw [← hr]; decide
  have hr1 : r.1.state = sPrep := by rw [← hr]; rfl
  rw [hr2] at hv2
  obtain ⟨a2, cap2, rfl, -, hR2⟩ := hv2.rd fc_len
  obtain ⟨b2, i2, l2, E2, fr2, rfl, hb2, hg2⟩ := (hR2 (ldC lp wv wc r.1 :: c :: [(b, .cells ⟨[iv 1]⟩ 3)] :: L)).at (j := 0) (by omega) (by simp)
  have kq2 := lstate_calls lp wv wc r.1
  rw [hr1] at kq2
  have g3 := hg2.at (j := 3) (v := iv 5) rfl
  have g4 := hg2.at (j := 6) (v := iv 4) rfl
  repeat' (first | (show HW _ _ _ _ _ _; first | apply hw_seq | apply hw_region | refine g_t ?_ | refine g_f ?_ | (refine g_b (fun h => ?_) (fun h => ?_) <;> ((try simp only [Bool.not_eq_eq_eq_not, Bool.not_true, Bool.not_false, decide_eq_true_eq, decide_eq_false_iff_not, Decidable.not_not, ne_eq, Bool.and_eq_true, beq_iff_eq, and_true, true_and, eq_self, decide_true, Bool.and_true, Bool.true_and, reduceCtorEq, not_true_eq_false, not_false_eq_true] at h); (try (exfalso; first | omega | with_reducible exact h (by assumption) | with_reducible exact absurd h (by assumption))))) | apply hw_skip | apply hw_ret) | (show HO _ _ _ _ _ _ _; first | apply ho_nil | refine g_q (qe S) ?_ | refine g_q (ql S) ?_ | refine g_q (qb S) ?_ | refine g_q (qbA S) ?_ | refine g_q (qC (hq1 kq2 1)) ?_ | refine g_n ?_ | refine g_on ?_ | (refine g_s (fun h => ?_) (fun h => ?_) <;> ((try simp only [Bool.not_eq_eq_eq_not, Bool.not_true, Bool.not_false, decide_eq_true_eq, decide_eq_false_iff_not, Decidable.not_not, ne_eq, Bool.and_eq_true, beq_iff_eq, and_true, true_and, eq_self, decide_true, Bool.and_true, Bool.true_and, reduceCtorEq, not_true_eq_false, not_false_eq_true] at h); (try (exfalso; first | omega | with_reducible exact h (by assumption) | with_reducible exact absurd h (by assumption))))) | refine wS S (fun b => ?_) | refine wSa S (fun b => ?_) | refine wSn S (fun b => ?_)) | apply seqQ_normal | apply seqQ_ret)
  exact sp1 (by repeat (first | exact LS.refl _ | apply LS.k | apply LS.c)) ⟨congrArg Value.bool (decide_eq_true (show sPrep = sPrep from rfl)), rfl⟩
structure LdIs (ws : List Int) (id deal att : Int) (m : Ld) : Prop where
  hid : m.id = id
  hdl : m.deal = deal
  hat : m.att = att
  hw : m.w = ws
  htl : m.told.length = 7
  hhd : m.heard < 2 ^ ws.length
theorem LdIs.ok {w : List Int} {id deal att : Int} {m m' : Ld} {wv : Value} {wc : List Blk} (h : LdIs w id deal att m) (h' : LdIs w id deal att m') (ho : LdOk wv wc m) : LdOk wv wc m' := ho.of (by rw [h.hw, h'.hw]) (by rw [h.htl, h'.htl])
theorem LdIs.done {w : List Int} {id deal att : Int} {m : Ld} (h : LdIs w id deal att m) : LdIs w id deal att (doneM m) := ⟨h.hid, h.hdl, h.hat, h.hw, h.htl, h.hhd⟩
theorem LdIs.prep {w : List Int} {id deal att : Int} {m : Ld} (h : LdIs w id deal att m) (p : Int) : LdIs w id deal att (prepM m p) := ⟨h.hid, h.hdl, h.hat, h.hw, h.htl, Nat.two_pow_pos _⟩
theorem LdIs.m1 {w : List Int} {id deal att : Int} {m : Ld} (h : LdIs w id deal att m) (f : Fr) : LdIs w id deal att (m1M m f) := by
  unfold m1M; split
  · exact h
  · exact ⟨h.hid, h.hdl, h.hat, h.hw, h.htl, h.hhd⟩
theorem LdIs.m2 {w : List Int} {id deal att : Int} {m : Ld} (h : LdIs w id deal att m) (f : Fr) (hf : fitsM m f) : LdIs w id deal att (m2M m f) := by
  have h1 := h.m1 f
  refine ⟨h1.hid, h1.hdl, h1.hat, h1.hw, ?_, ?_⟩
  · simp [m2M, h.htl]
  · have := hf.2.2.2.2.2.1
    have := hf.2.2.2.2.1
    rw [h.hw] at *
    exact heard_lt h.hhd (by omega)
theorem LdIs.count {w : List Int} {id deal att : Int} {m : Ld} (h : LdIs w id deal att m) : LdIs w id deal att (countM m).1 := by
  unfold countM
  split
  · exact h.prep _
  split
  · exact h
  split
  · exact h.done
  split
  · exact h.done
  · exact h.prep _
theorem LdIs.hear {w : List Int} {id deal att : Int} {m : Ld} (h : LdIs w id deal att m) (f : Fr) : LdIs w id deal att (hearM m f).1 := by
  unfold hearM
  split
  · exact h
  rename_i hw
  have hf : fitsM m f := by
    by_cases hf : fitsM m f
    · exact hf
    · exact absurd (.inr hf) hw
  split
  · unfold noM
    have h1 := h.m1 f
    split
    · exact h1.done
    · exact ⟨h1.hid, h1.hdl, h1.hat, h1.hw, h1.htl, h1.hhd⟩
  · exact (h.m2 f hf).count
theorem allM_len (m : Ld) (k p : Int) : (allM m k p).length ≤ m.w.length := flat_len_le (allF m k p) (allF_le m k p) m.w.length
theorem hear_len (m : Ld) (f : Fr) : (hearM m f).2.length ≤ m.w.length := by
  have e1 : (m1M m f).w = m.w := by unfold m1M; split <;> rfl
  have e2 : (m2M m f).w = m.w := e1
  unfold hearM
  split
  · simp
  split
  · unfold noM
    split
    · have := allM_len (doneM (m1M m f)) 7 3
      rw [show (doneM (m1M m f)).w = m.w from e1] at this
      exact this
    · simp
  · unfold countM
    have hp : ∀ p, (preM (m2M m f) p).2.length ≤ m.w.length := fun p => by
      have := allM_len (prepM (m2M m f) p) 5 p
      rw [show (prepM (m2M m f) p).w = m.w from e1] at this
      exact this
    have hd : ∀ p, (decdM (m2M m f) p).2.length ≤ m.w.length := fun p => by
      have := allM_len (doneM (m2M m f)) 7 p
      rw [show (doneM (m2M m f)).w = m.w from e1] at this
      exact this
    split
    · exact hp _
    split
    · simp
    split
    · exact hd _
    split
    · exact hd _
    · exact hp _
theorem newLd_is {w : List Int} (id deal att wait : Int) : LdIs w id deal att (newLd id deal w att wait) := ⟨rfl, rfl, rfl, rfl, rfl, Nat.two_pow_pos _⟩
end Go.HL
