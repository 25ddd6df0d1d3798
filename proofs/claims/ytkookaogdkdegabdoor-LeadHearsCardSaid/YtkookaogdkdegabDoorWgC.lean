/- Chapter 1: weights: the two laws, walked. Conditions: none. -/
import Derived.Test.YtkookaogdkdegabDoorWgB
namespace Go.HL
open Go Go.Proofs
set_option linter.unusedVariables false
set_option linter.unusedSimpArgs false
attribute [local irreducible] HW HO HQ HD HC QOp Has Upd Puts Gets seqQ blkQ loopQ fnQ actQ nextP unQ MapF

theorem rd_new {L : Heap} {b E : Nat} {fr : Nat × Nat} {vs : List Value} (xs : List Int) (hb : Has L b (.cells ⟨vs⟩ E fr)) (h : vs = (xs.map ic).flatten) : Rd ic 1 L (some ⟨b, 0, none⟩) xs := by
  subst h
  refine .inr ⟨b, 0, _, E, fr, rfl, hb, fun k x hx => ?_⟩
  have := gets_row (enc := ic) (sz := 1) (fun _ => rfl) xs [] [] k x hx
  simpa using this
theorem ownInts_calls (a : Option Addr) (cap : Nat) (xs : List Int) (L : Heap) (hR : Rd ic 1 L a xs) (hl : xs.length ≤ 1000000) :
    HC Tryd.prog 35 [.slice a xs.length cap] L (fun v L' => ∃ c, Own 3 1 v xs.length (xs.map ic).flatten c ∧ L' = c :: L) := by
  refine hc_enter (fun _ _ => Tryd.call35 _ _) Tryd.func35 rfl Tryd.ntmps35 (Nat.le_of_ble_eq_true rfl) ?_; simp only [args0, Nat.reduceAdd]
  repeat' (first | (show HW _ _ _ _ _ _; first | apply hw_seq | apply hw_region | apply hw_ret) | (show HO _ _ _ _ _ _ _; first | apply ho_nil | refine g_q (qe S) ?_) | apply seqQ_normal | apply seqQ_ret)
  refine ho_nilc ?_
  (apply o_append S; (case hx => exact rfl); (case hy => exact rfl); (case ht => exact rfl); (case he => exact rfl); (case hz => exact rfl); (case hzs => exact rfl); (case hzl => exact rfl); (case hn => exact rfl))
  (case ho => exact own_nil)
  (case hs => exact src_of_rd (fun _ => rfl) (hR.cons _))
  (case h1 => exact cells_flat (fun _ => rfl) xs)
  (case hby => omega)
  (case hmax => omega)
  intro v' c' ho
  repeat' (first | (show HW _ _ _ _ _ _; first | apply hw_seq | apply hw_region | apply hw_ret) | (show HO _ _ _ _ _ _ _; first | apply ho_nil | refine g_q (qe S) ?_) | apply seqQ_normal | apply seqQ_ret)
  refine fn_ret1 rfl rfl (List.Sublist.refl _) ⟨c', by simpa using ho, rfl⟩
theorem pow_le30 {n : Nat} (h : n ≤ 30) : (2 : Int) ^ n ≤ 1073741824 ∧ 1 ≤ (2 : Int) ^ n := by
  have h1 : (2 : Nat) ^ n ≤ 2 ^ 30 := Nat.pow_le_pow_right (by decide) h
  have h2 := Nat.two_pow_pos n
  have e : (2 : Int) ^ n = ((2 ^ n : Nat) : Int) := by simp
  rw [e]
  generalize (2 : Nat) ^ n = q at *
  omega
theorem two_calls (n : Nat) (hn : n ≤ 30) (L : Heap) : HC Tryd.prog 45 [iv n] L (fun v L' => v = iv (2 ^ n) ∧ L' = L) := by
  refine hc_enter (fun _ _ => Tryd.call45 _ _) Tryd.func45 rfl Tryd.ntmps45 (Nat.le_of_ble_eq_true rfl) ?_; simp only [args0, Nat.reduceAdd]
  repeat' (first | (show HW _ _ _ _ _ _; first | apply hw_seq | apply hw_region | apply hw_block | apply hw_exit | refine g_t ?_ | refine g_f ?_ | (refine g_b (fun h => ?_) (fun h => ?_) <;> ((try simp only [Bool.not_eq_eq_eq_not, Bool.not_true, Bool.not_false, decide_eq_true_eq, decide_eq_false_iff_not, Decidable.not_not, ne_eq, Bool.and_eq_true, beq_iff_eq, and_true, true_and, eq_self, decide_true, Bool.and_true, Bool.true_and, reduceCtorEq, not_true_eq_false, not_false_eq_true] at h); (try (exfalso; first | omega | with_reducible exact h (by assumption) | with_reducible exact absurd h (by assumption))))) | apply hw_skip | apply hw_ret) | (show HO _ _ _ _ _ _ _; first | apply ho_nil | refine g_q (qe S) ?_) | apply seqQ_normal | apply seqQ_ret | apply seqQ_exit | apply blkQ_here | refine g_bx ?_ | apply blkQ_ret | apply blkQ_normal | apply loopQ_ret | apply loopQ_exit | apply unQ_ret | apply unQ_exit | apply unQ_succ)
  refine hw_loop (σ := Int × Int) (fun s => [(0, iv n), (3, iv s.2), (4, iv s.1)]) (fun _ => L) (fun s => 0 ≤ s.1 ∧ s.1 ≤ n ∧ s.2 = 2 ^ s.1.toNat) (fun s => (n - s.1).toNat) (0, 1) (by repeat (first | exact trivial | refine ⟨rfl, ?_⟩)) (List.Sublist.refl _) ⟨by simp, by simp, by simp⟩ ?_
  rintro ⟨j, m⟩ ⟨j0, j1, hm⟩
  simp only at j0 j1 hm
  have hp := pow_le30 (n := j.toNat) (by omega)
  rw [← hm] at hp
  by_cases hlt : j < n
  · repeat' (first | (show HW _ _ _ _ _ _; first | apply hw_seq | apply hw_region | apply hw_block | apply hw_exit | refine g_t ?_ | refine g_f ?_ | (refine g_b (fun h => ?_) (fun h => ?_) <;> ((try simp only [Bool.not_eq_eq_eq_not, Bool.not_true, Bool.not_false, decide_eq_true_eq, decide_eq_false_iff_not, Decidable.not_not, ne_eq, Bool.and_eq_true, beq_iff_eq, and_true, true_and, eq_self, decide_true, Bool.and_true, Bool.true_and, reduceCtorEq, not_true_eq_false, not_false_eq_true] at h); (try (exfalso; first | omega | with_reducible exact h (by assumption) | with_reducible exact absurd h (by assumption))))) | apply hw_skip | apply hw_ret) | (show HO _ _ _ _ _ _ _; first | apply ho_nil | refine g_q (qe S) ?_) | apply seqQ_normal | apply seqQ_ret | apply seqQ_exit | apply blkQ_here | refine g_bx ?_ | apply blkQ_ret | apply blkQ_normal | apply loopQ_ret | apply loopQ_exit | apply unQ_ret | apply unQ_exit | apply unQ_succ)
    refine loopQ_normal (j + 1, _) (by repeat (first | exact trivial | refine ⟨rfl, ?_⟩)) (List.Sublist.refl _) ⟨by show 0 ≤ j + 1; omega, by show j + 1 ≤ (n : Int); omega, ?_⟩ (by show (n - (j + 1)).toNat < (n - j).toNat; omega)
    show 2 * m = 2 ^ (j + 1).toNat
    rw [show (j + 1).toNat = j.toNat + 1 by omega, Int.pow_succ, hm]
    omega
  · repeat' (first | (show HW _ _ _ _ _ _; first | apply hw_seq | apply hw_region | apply hw_block | apply hw_exit | refine g_t ?_ | refine g_f ?_ | (refine g_b (fun h => ?_) (fun h => ?_) <;> ((try simp only [Bool.not_eq_eq_eq_not, Bool.not_true, Bool.not_false, decide_eq_true_eq, decide_eq_false_iff_not, Decidable.not_not, ne_eq, Bool.and_eq_true, beq_iff_eq, and_true, true_and, eq_self, decide_true, Bool.and_true, Bool.true_and, reduceCtorEq, not_true_eq_false, not_false_eq_true] at h); (try (exfalso; first | omega | with_reducible exact h (by assumption) | with_reducible exact absurd h (by assumption))))) | apply hw_skip | apply hw_ret) | (show HO _ _ _ _ _ _ _; first | apply ho_nil | refine g_q (qe S) ?_) | apply seqQ_normal | apply seqQ_ret | apply seqQ_exit | apply blkQ_here | refine g_bx ?_ | apply blkQ_ret | apply blkQ_normal | apply loopQ_ret | apply loopQ_exit | apply unQ_ret | apply unQ_exit | apply unQ_succ)
    (refine fn_ret1 rfl rfl ?_ ⟨?_, rfl⟩; (next => (repeat (first | exact List.Sublist.refl _ | apply List.Sublist.cons))))
    rw [hm, show j.toNat = n by omega]
theorem heavier_calls (T : Nat) (E : Nat → Addr) (L : Heap) (hG : Er T E [2, 3, 4] L) : HC Tryd.prog 33 [] L (fun v L' => v = .bool true ∧ L' = L) := by
  refine hc_enter (fun _ _ => Tryd.call33 _ _) Tryd.func33 rfl Tryd.ntmps33 (Nat.le_of_ble_eq_true rfl) ?_; simp only [args0, Nat.reduceAdd]
  repeat' (first | (show HW _ _ _ _ _ _; first | apply hw_seq | apply hw_region | apply hw_ret) | (show HO _ _ _ _ _ _ _; first | apply ho_nil | refine g_q (qe S) ?_ | refine g_n ?_ | refine g_on ?_ | (refine g_s (fun h => ?_) (fun h => ?_) <;> ((try simp only [Bool.not_eq_eq_eq_not, Bool.not_true, Bool.not_false, decide_eq_true_eq, decide_eq_false_iff_not, Decidable.not_not, ne_eq, Bool.and_eq_true, beq_iff_eq, and_true, true_and, eq_self, decide_true, Bool.and_true, Bool.true_and, reduceCtorEq, not_true_eq_false, not_false_eq_true] at h); (try (exfalso; first | omega | with_reducible exact h (by assumption) | with_reducible exact absurd h (by assumption))))) | refine wS S (fun b => ?_) | refine wSa S (fun b => ?_) | refine wSn S (fun b => ?_)) | apply seqQ_normal | apply seqQ_ret)
  have hR : Rd ic 1 ([(b, .cells ⟨[iv 1, iv 1, iv 1]⟩ 3)] :: L) (some ⟨b, 0, none⟩) [1, 1, 1] := rd_new _ has_here rfl
  have hk := enough_calls T E (some ⟨b, 0, none⟩) 3 [1, 1, 1] 5 _ (hG.cons _) hR (by simp) (by omega)
  have e : enoughW [1, 1, 1] 5 = (true, none) := by decide +kernel
  rw [e] at hk
  repeat' (first | (show HW _ _ _ _ _ _; first | apply hw_seq | apply hw_region | apply hw_ret) | (show HO _ _ _ _ _ _ _; first | apply ho_nil | refine g_q (qe S) ?_ | refine g_q (qC (hk)) ?_ | refine g_n ?_ | refine g_on ?_ | (refine g_s (fun h => ?_) (fun h => ?_) <;> ((try simp only [Bool.not_eq_eq_eq_not, Bool.not_true, Bool.not_false, decide_eq_true_eq, decide_eq_false_iff_not, Decidable.not_not, ne_eq, Bool.and_eq_true, beq_iff_eq, and_true, true_and, eq_self, decide_true, Bool.and_true, Bool.true_and, reduceCtorEq, not_true_eq_false, not_false_eq_true] at h); (try (exfalso; first | omega | with_reducible exact h (by assumption) | with_reducible exact absurd h (by assumption))))) | refine wS S (fun b => ?_) | refine wSa S (fun b => ?_) | refine wSn S (fun b => ?_)) | apply seqQ_normal | apply seqQ_ret)
  rename_i b1
  have hR2 : Rd ic 1 ([(b, .cells ⟨[iv 1]⟩ 3)] :: [(b1, .cells ⟨[iv 1, iv 1, iv 1]⟩ 3)] :: L) (some ⟨b, 0, none⟩) [1] := rd_new _ has_here rfl
  have hk2 := check_calls T E (some ⟨b, 0, none⟩) 1 [1] _ ((hG.cons _).cons _) hR2 (by simp)
  have e2 : checkW [1] = none := by decide +kernel
  rw [e2] at hk2
  repeat' (first | (show HW _ _ _ _ _ _; first | apply hw_seq | apply hw_region | apply hw_ret) | (show HO _ _ _ _ _ _ _; first | apply ho_nil | refine g_q (qe S) ?_ | refine g_q (qC (hk2)) ?_ | refine g_n ?_ | refine g_on ?_ | (refine g_s (fun h => ?_) (fun h => ?_) <;> ((try simp only [Bool.not_eq_eq_eq_not, Bool.not_true, Bool.not_false, decide_eq_true_eq, decide_eq_false_iff_not, Decidable.not_not, ne_eq, Bool.and_eq_true, beq_iff_eq, and_true, true_and, eq_self, decide_true, Bool.and_true, Bool.true_and, reduceCtorEq, not_true_eq_false, not_false_eq_true] at h); (try (exfalso; first | omega | with_reducible exact h (by assumption) | with_reducible exact absurd h (by assumption))))) | refine wS S (fun b => ?_) | refine wSa S (fun b => ?_) | refine wSn S (fun b => ?_)) | apply seqQ_normal | apply seqQ_ret)
  (refine fn_ret1 rfl rfl ?_ ⟨?_, rfl⟩; (next => (repeat (first | exact List.Sublist.refl _ | apply List.Sublist.cons))))
  rfl
end Go.HL
