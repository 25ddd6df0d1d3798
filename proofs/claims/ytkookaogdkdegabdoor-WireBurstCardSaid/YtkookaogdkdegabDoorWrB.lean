/- Chapter 4: a frame as bytes, and back. Conditions: none. -/
import Derived.Test.YtkookaogdkdegabDoorWrA
import Derived.Test.YtkookaogdkdegabDoorWcA
namespace Go.HL
open Go Go.Proofs
set_option linter.unusedVariables false
set_option linter.unusedSimpArgs false
def yesN (b : Bool) : Int := if b then 1 else 0
def encA (f : Fr) : List UInt8 := numB f.fr 1 ++ numB f.to 1 ++ numB f.dl 1 ++ numB f.kd 1 ++ numB f.att 4
def encB (f : Fr) : List UInt8 := numB (yesN f.yes) 1 ++ numB f.s.ph 1 ++ numB f.s.pr 4 ++ numB f.s.att 4
def encT (f : Fr) : List UInt8 := encA f ++ encB f
def encS (f : Fr) : List UInt8 := encT f ++ lowB (crc (encT f))
theorem encA_len (f : Fr) : (encA f).length = 8 := by simp [encA, numB_len]
theorem encB_len (f : Fr) : (encB f).length = 10 := by simp [encB, numB_len]
theorem encT_len (f : Fr) : (encT f).length = 18 := by simp [encT, encA_len, encB_len]
theorem encS_len (f : Fr) : (encS f).length = 22 := by simp [encS, encT_len, lowB]
theorem lowB_len (n : Int) : (lowB n).length = 4 := rfl
theorem numB_one (z : Int) : numB z 1 = [bt z 0] := rfl
def cdF : Option Nat → Int
  | none => 0
  | some c => c
def fld (s : List UInt8) (a b : Nat) : Int := (rdN ((s.take b).drop a) : Nat)
def frOf (s : List UInt8) : Fr := ⟨fld s 0 1, fld s 1 2, fld s 2 3, fld s 3 4, fld s 4 8, decide (fld s 8 9 = 1), ⟨fld s 9 10, fld s 10 14, fld s 14 18⟩⟩
def decM (s : List UInt8) : Fr × Option Nat := if s.length ≠ 22 then (zeroF, some 1) else if lowB (crc (s.take 18)) ≠ s.drop 18 then (zeroF, some 7) else if 1 < fld s 8 9 then (zeroF, some 1) else if badF (frOf s) then (zeroF, some 2) else (frOf s, none)
attribute [local irreducible] HW HO HQ HD HC QOp Has Upd Puts Gets seqQ blkQ loopQ fnQ actQ nextP unQ MapF
attribute [local irreducible] numB crc encA encB
theorem encode_calls (T : Nat) (E : Nat → Addr) (f : Fr) (L : Heap) (hG : Er T E [2] L) : HC Tryd.prog 24 [.agg ⟨fc f⟩] L (fun v L' => v = .tuple ⟨[bs (if badF f then [] else encS f), eV T E (frameE f)]⟩ ∧ L' = L) := by
  have kc := fun L hG => wcheck_calls T E f L hG
  unfold frameE at *
  refine hc_enter (fun _ _ => Tryd.call24 _ _) Tryd.func24 rfl Tryd.ntmps24 (Nat.le_of_ble_eq_true rfl) ?_; simp only [args0, Nat.reduceAdd]
  by_cases hb : badF f
  · simp only [if_pos hb] at kc ⊢
    repeat' (first | (show HW _ _ _ _ _ _; first | apply hw_seq | apply hw_region | refine g_t ?_ | refine g_f ?_ | (refine g_b (fun h => ?_) (fun h => ?_) <;> ((try simp only [Bool.not_eq_eq_eq_not, Bool.not_true, Bool.not_false, decide_eq_true_eq, decide_eq_false_iff_not, Decidable.not_not, ne_eq, Bool.and_eq_true, beq_iff_eq, and_true, true_and, eq_self, decide_true, Bool.and_true, Bool.true_and, reduceCtorEq, not_true_eq_false, not_false_eq_true] at h); (try (exfalso; first | omega | with_reducible exact h (by assumption) | with_reducible exact absurd h (by assumption))))) | apply hw_skip | apply hw_ret | refine g_k S ?_) | (show HO _ _ _ _ _ _ _; first | apply ho_nil | refine g_q (qe S) ?_ | refine g_q (ql S) ?_ | refine g_q (qs S) ?_ | refine g_q (qC (kc _ (hG.cons _))) ?_ | refine wb (fun b => ?_)) | (show HQ _ _ _ _ _ _ _; first | apply hq_nil | refine k_q (qe S) ?_ | refine k_q (ql S) ?_ | refine k_q (qs S) ?_ | refine k_q (qC (kc _ (hG.cons _))) ?_) | apply seqQ_normal | apply seqQ_ret)
    exact sp2 (by repeat (first | exact LS.refl _ | apply LS.k | apply LS.c)) ⟨rfl, rfl⟩
  simp only [if_neg hb] at kc ⊢
  have n1 : ∀ z L, HC Tryd.prog 90 [iv z, iv 1] L (fun v L' => v = bs (numB z 1) ∧ L' = L) := fun z L => number_calls z 1 L (by decide)
  have n4 : ∀ z L, HC Tryd.prog 90 [iv z, iv 4] L (fun v L' => v = bs (numB z 4) ∧ L' = L) := fun z L => number_calls z 4 L (by decide)
  have a1 := numB_len f.fr 1
  have a2 := numB_len f.to 1
  have a3 := numB_len f.dl 1
  have a4 := numB_len f.kd 1
  have a5 := numB_len f.att 4
  have a6 := numB_len 1 1
  have a7 := numB_len 0 1
  have a8 := numB_len f.s.ph 1
  have a9 := numB_len f.s.pr 4
  have a10 := numB_len f.s.att 4
  have e1 : encA f = numB f.fr 1 ++ numB f.to 1 ++ numB f.dl 1 ++ numB f.kd 1 ++ numB f.att 4 := by unfold encA; rfl
  have e2 : ∀ y, yesN f.yes = y → encB f = numB y 1 ++ numB f.s.ph 1 ++ numB f.s.pr 4 ++ numB f.s.att 4 := by rintro y rfl; unfold encB; rfl
  repeat' (first | (show HW _ _ _ _ _ _; first | apply hw_seq | apply hw_region | refine g_t ?_ | refine g_f ?_ | (refine g_b (fun h => ?_) (fun h => ?_) <;> ((try simp only [Bool.not_eq_eq_eq_not, Bool.not_true, Bool.not_false, decide_eq_true_eq, decide_eq_false_iff_not, Decidable.not_not, ne_eq, Bool.and_eq_true, beq_iff_eq, and_true, true_and, eq_self, decide_true, Bool.and_true, Bool.true_and, reduceCtorEq, not_true_eq_false, not_false_eq_true] at h); (try (exfalso; first | omega | with_reducible exact h (by assumption) | with_reducible exact absurd h (by assumption))))) | apply hw_skip | apply hw_ret | refine g_k S ?_) | (show HO _ _ _ _ _ _ _; first | apply ho_nil | refine g_q (qe S) ?_ | refine g_q (ql S) ?_ | refine g_q (qs S) ?_ | refine g_q (qC (kc _ (hG.cons _))) ?_ | refine g_q (qC (n1 _ _)) ?_ | refine g_q (qC (n4 _ _)) ?_ | refine wb (fun b => ?_)) | (show HQ _ _ _ _ _ _ _; first | apply hq_nil | refine k_q (qe S) ?_ | refine k_q (ql S) ?_ | refine k_q (qs S) ?_ | refine k_q (qC (kc _ (hG.cons _))) ?_ | refine k_q (qC (n1 _ _)) ?_ | refine k_q (qC (n4 _ _)) ?_) | apply seqQ_normal | apply seqQ_ret)
  · have hy : yesN f.yes = 1 := by unfold yesN; rw [h]; rfl
    rw [← e1, ← e2 _ hy, show encA f ++ encB f = encT f from rfl]
    have ht := encT_len f
    have hl := lowB_len (crc (encT f))
    unfold encS
    generalize encT f = t at *
    repeat' (first | (show HW _ _ _ _ _ _; first | apply hw_seq | apply hw_region | refine g_t ?_ | refine g_f ?_ | (refine g_b (fun h => ?_) (fun h => ?_) <;> ((try simp only [Bool.not_eq_eq_eq_not, Bool.not_true, Bool.not_false, decide_eq_true_eq, decide_eq_false_iff_not, Decidable.not_not, ne_eq, Bool.and_eq_true, beq_iff_eq, and_true, true_and, eq_self, decide_true, Bool.and_true, Bool.true_and, reduceCtorEq, not_true_eq_false, not_false_eq_true] at h); (try (exfalso; first | omega | with_reducible exact h (by assumption) | with_reducible exact absurd h (by assumption))))) | apply hw_skip | apply hw_ret | refine g_k S ?_) | (show HO _ _ _ _ _ _ _; first | apply ho_nil | refine g_q (qe S) ?_ | refine g_q (ql S) ?_ | refine g_q (qs S) ?_ | refine g_q (qC (jsum_calls t _ (by omega))) ?_ | refine g_q (qC (wlow_calls _ _)) ?_ | refine wb (fun b => ?_)) | (show HQ _ _ _ _ _ _ _; first | apply hq_nil | refine k_q (qe S) ?_ | refine k_q (ql S) ?_ | refine k_q (qs S) ?_ | refine k_q (qC (jsum_calls t _ (by omega))) ?_ | refine k_q (qC (wlow_calls _ _)) ?_) | apply seqQ_normal | apply seqQ_ret)
    exact sp2 (by repeat (first | exact LS.refl _ | apply LS.k | apply LS.c)) ⟨rfl, rfl⟩
  · have hy : yesN f.yes = 0 := by unfold yesN; rw [h]; rfl
    rw [← e1, ← e2 _ hy, show encA f ++ encB f = encT f from rfl]
    have ht := encT_len f
    have hl := lowB_len (crc (encT f))
    unfold encS
    generalize encT f = t at *
    repeat' (first | (show HW _ _ _ _ _ _; first | apply hw_seq | apply hw_region | refine g_t ?_ | refine g_f ?_ | (refine g_b (fun h => ?_) (fun h => ?_) <;> ((try simp only [Bool.not_eq_eq_eq_not, Bool.not_true, Bool.not_false, decide_eq_true_eq, decide_eq_false_iff_not, Decidable.not_not, ne_eq, Bool.and_eq_true, beq_iff_eq, and_true, true_and, eq_self, decide_true, Bool.and_true, Bool.true_and, reduceCtorEq, not_true_eq_false, not_false_eq_true] at h); (try (exfalso; first | omega | with_reducible exact h (by assumption) | with_reducible exact absurd h (by assumption))))) | apply hw_skip | apply hw_ret | refine g_k S ?_) | (show HO _ _ _ _ _ _ _; first | apply ho_nil | refine g_q (qe S) ?_ | refine g_q (ql S) ?_ | refine g_q (qs S) ?_ | refine g_q (qC (jsum_calls t _ (by omega))) ?_ | refine g_q (qC (wlow_calls _ _)) ?_ | refine wb (fun b => ?_)) | (show HQ _ _ _ _ _ _ _; first | apply hq_nil | refine k_q (qe S) ?_ | refine k_q (ql S) ?_ | refine k_q (qs S) ?_ | refine k_q (qC (jsum_calls t _ (by omega))) ?_ | refine k_q (qC (wlow_calls _ _)) ?_) | apply seqQ_normal | apply seqQ_ret)
    exact sp2 (by repeat (first | exact LS.refl _ | apply LS.k | apply LS.c)) ⟨rfl, rfl⟩
theorem rferr_calls (f : Fr) (L : Heap) : HC Tryd.prog 25 [.agg ⟨fc f⟩] L (fun v L' => v = iv (cdF (frameE f)) ∧ L' = L) := by
  unfold frameE
  refine hc_enter (fun _ _ => Tryd.call25 _ _) Tryd.func25 rfl Tryd.ntmps25 (Nat.le_of_ble_eq_true rfl) ?_; simp only [args0, Nat.reduceAdd]
  by_cases hb : badF f
  · rw [if_pos hb]
    repeat' (first | (show HW _ _ _ _ _ _; first | apply hw_seq | apply hw_region | refine g_t ?_ | refine g_f ?_ | (refine g_b (fun h => ?_) (fun h => ?_) <;> ((try simp only [Bool.not_eq_eq_eq_not, Bool.not_true, Bool.not_false, decide_eq_true_eq, decide_eq_false_iff_not, Decidable.not_not, ne_eq, Bool.and_eq_true, beq_iff_eq, and_true, true_and, eq_self, decide_true, Bool.and_true, Bool.true_and, reduceCtorEq, not_true_eq_false, not_false_eq_true] at h); (try (exfalso; first | omega | with_reducible exact h (by assumption) | with_reducible exact absurd h (by assumption))))) | apply hw_skip | apply hw_ret) | (show HO _ _ _ _ _ _ _; first | apply ho_nil | refine g_q (qe S) ?_ | refine g_q (ql S) ?_ | refine g_n ?_ | refine g_on ?_ | (refine g_s (fun h => ?_) (fun h => ?_) <;> ((try simp only [Bool.not_eq_eq_eq_not, Bool.not_true, Bool.not_false, decide_eq_true_eq, decide_eq_false_iff_not, Decidable.not_not, ne_eq, Bool.and_eq_true, beq_iff_eq, and_true, true_and, eq_self, decide_true, Bool.and_true, Bool.true_and, reduceCtorEq, not_true_eq_false, not_false_eq_true] at h); (try (exfalso; first | omega | with_reducible exact h (by assumption) | with_reducible exact absurd h (by assumption))))) | refine wb (fun b => ?_)) | apply seqQ_normal | apply seqQ_ret)
    all_goals first | exact sp1 (by repeat (first | exact LS.refl _ | apply LS.k | apply LS.c)) ⟨rfl, rfl⟩ | (exfalso; unfold badF at hb; omega)
  · rw [if_neg hb]
    repeat' (first | (show HW _ _ _ _ _ _; first | apply hw_seq | apply hw_region | refine g_t ?_ | refine g_f ?_ | (refine g_b (fun h => ?_) (fun h => ?_) <;> ((try simp only [Bool.not_eq_eq_eq_not, Bool.not_true, Bool.not_false, decide_eq_true_eq, decide_eq_false_iff_not, Decidable.not_not, ne_eq, Bool.and_eq_true, beq_iff_eq, and_true, true_and, eq_self, decide_true, Bool.and_true, Bool.true_and, reduceCtorEq, not_true_eq_false, not_false_eq_true] at h); (try (exfalso; first | omega | with_reducible exact h (by assumption) | with_reducible exact absurd h (by assumption))))) | apply hw_skip | apply hw_ret) | (show HO _ _ _ _ _ _ _; first | apply ho_nil | refine g_q (qe S) ?_ | refine g_q (ql S) ?_ | refine g_n ?_ | refine g_on ?_ | (refine g_s (fun h => ?_) (fun h => ?_) <;> ((try simp only [Bool.not_eq_eq_eq_not, Bool.not_true, Bool.not_false, decide_eq_true_eq, decide_eq_false_iff_not, Decidable.not_not, ne_eq, Bool.and_eq_true, beq_iff_eq, and_true, true_and, eq_self, decide_true, Bool.and_true, Bool.true_and, reduceCtorEq, not_true_eq_false, not_false_eq_true] at h); (try (exfalso; first | omega | with_reducible exact h (by assumption) | with_reducible exact absurd h (by assumption))))) | refine wb (fun b => ?_)) | apply seqQ_normal | apply seqQ_ret)
    all_goals first | exact sp1 (by repeat (first | exact LS.refl _ | apply LS.k | apply LS.c)) ⟨rfl, rfl⟩ | (exfalso; unfold badF at hb; omega)
theorem frameText_calls (f : Fr) (L : Heap) (hb : ¬badF f) : HC Tryd.prog 29 [.agg ⟨fc f⟩] L (fun v L' => v = bs (encS f) ∧ L' = L) := by
  have n1 : ∀ z L, HC Tryd.prog 95 [iv z] L (fun v L' => v = bs (numB z 1) ∧ L' = L) := fun z L => by rw [numB_one]; exact rbyte_calls z L
  have n4 : ∀ z L, 0 ≤ z → z ≤ 9223372036854775807 → HC Tryd.prog 96 [iv z, iv 4] L (fun v L' => v = bs (numB z 4) ∧ L' = L) := fun z L h0 h1 => rwide_calls z 4 L h0 h1 (by decide)
  have hb2 : 0 ≤ f.att ∧ f.att ≤ 9223372036854775807 ∧ 0 ≤ f.s.pr ∧ f.s.pr ≤ 9223372036854775807 ∧ 0 ≤ f.s.att ∧ f.s.att ≤ 9223372036854775807 := by unfold badF at hb; omega
  obtain ⟨u1, u2, u3, u4, u5, u6⟩ := hb2
  have a1 := numB_len f.fr 1
  have a2 := numB_len f.to 1
  have a3 := numB_len f.dl 1
  have a4 := numB_len f.kd 1
  have a5 := numB_len f.att 4
  have a6 := numB_len 1 1
  have a7 := numB_len 0 1
  have a8 := numB_len f.s.ph 1
  have a9 := numB_len f.s.pr 4
  have a10 := numB_len f.s.att 4
  have e2 : ∀ y, yesN f.yes = y → encT f = numB f.fr 1 ++ numB f.to 1 ++ numB f.dl 1 ++ numB f.kd 1 ++ numB f.att 4 ++ numB y 1 ++ numB f.s.ph 1 ++ numB f.s.pr 4 ++ numB f.s.att 4 := by
    rintro y rfl
    unfold encT encA encB
    simp only [List.append_assoc]
  have hcl : crc (encT f) < 4294967296 := by unfold crc; omega
  refine hc_enter (fun _ _ => Tryd.call29 _ _) Tryd.func29 rfl Tryd.ntmps29 (Nat.le_of_ble_eq_true rfl) ?_; simp only [args0, Nat.reduceAdd]
  repeat' (first | (show HW _ _ _ _ _ _; first | apply hw_seq | apply hw_region | refine g_t ?_ | refine g_f ?_ | (refine g_b (fun h => ?_) (fun h => ?_) <;> ((try simp only [Bool.not_eq_eq_eq_not, Bool.not_true, Bool.not_false, decide_eq_true_eq, decide_eq_false_iff_not, Decidable.not_not, ne_eq, Bool.and_eq_true, beq_iff_eq, and_true, true_and, eq_self, decide_true, Bool.and_true, Bool.true_and, reduceCtorEq, not_true_eq_false, not_false_eq_true] at h); (try (exfalso; first | omega | with_reducible exact h (by assumption) | with_reducible exact absurd h (by assumption))))) | apply hw_skip | apply hw_ret | refine g_k S ?_) | (show HO _ _ _ _ _ _ _; first | apply ho_nil | refine g_q (qe S) ?_ | refine g_q (ql S) ?_ | refine g_q (qC (n1 _ _)) ?_ | refine g_q (qC (n4 _ _ u1 u2)) ?_ | refine g_q (qC (n4 _ _ u3 u4)) ?_ | refine g_q (qC (n4 _ _ u5 u6)) ?_ | refine wb (fun b => ?_)) | (show HQ _ _ _ _ _ _ _; first | apply hq_nil | refine k_q (qe S) ?_ | refine k_q (ql S) ?_ | refine k_q (qC (n1 _ _)) ?_ | refine k_q (qC (n4 _ _ u1 u2)) ?_ | refine k_q (qC (n4 _ _ u3 u4)) ?_ | refine k_q (qC (n4 _ _ u5 u6)) ?_) | apply seqQ_normal | apply seqQ_ret)
  · have hy : yesN f.yes = 1 := by unfold yesN; rw [h]; rfl
    rw [← e2 _ hy]
    have ht := encT_len f
    have hl := lowB_len (crc (encT f))
    unfold encS
    generalize encT f = t at *
    repeat' (first | (show HW _ _ _ _ _ _; first | apply hw_seq | apply hw_region | refine g_t ?_ | refine g_f ?_ | (refine g_b (fun h => ?_) (fun h => ?_) <;> ((try simp only [Bool.not_eq_eq_eq_not, Bool.not_true, Bool.not_false, decide_eq_true_eq, decide_eq_false_iff_not, Decidable.not_not, ne_eq, Bool.and_eq_true, beq_iff_eq, and_true, true_and, eq_self, decide_true, Bool.and_true, Bool.true_and, reduceCtorEq, not_true_eq_false, not_false_eq_true] at h); (try (exfalso; first | omega | with_reducible exact h (by assumption) | with_reducible exact absurd h (by assumption))))) | apply hw_skip | apply hw_ret | refine g_k S ?_) | (show HO _ _ _ _ _ _ _; first | apply ho_nil | refine g_q (qe S) ?_ | refine g_q (ql S) ?_ | refine g_q (qC (rcrc_calls t _ (by omega))) ?_ | refine g_q (qC (rlow_calls (crc t) _ (by omega) (by omega))) ?_ | refine wb (fun b => ?_)) | (show HQ _ _ _ _ _ _ _; first | apply hq_nil | refine k_q (qe S) ?_ | refine k_q (ql S) ?_ | refine k_q (qC (rcrc_calls t _ (by omega))) ?_ | refine k_q (qC (rlow_calls (crc t) _ (by omega) (by omega))) ?_) | apply seqQ_normal | apply seqQ_ret)
    exact sp1 (by repeat (first | exact LS.refl _ | apply LS.k | apply LS.c)) ⟨rfl, rfl⟩
  · have hy : yesN f.yes = 0 := by unfold yesN; rw [h]; rfl
    rw [← e2 _ hy]
    have ht := encT_len f
    have hl := lowB_len (crc (encT f))
    unfold encS
    generalize encT f = t at *
    repeat' (first | (show HW _ _ _ _ _ _; first | apply hw_seq | apply hw_region | refine g_t ?_ | refine g_f ?_ | (refine g_b (fun h => ?_) (fun h => ?_) <;> ((try simp only [Bool.not_eq_eq_eq_not, Bool.not_true, Bool.not_false, decide_eq_true_eq, decide_eq_false_iff_not, Decidable.not_not, ne_eq, Bool.and_eq_true, beq_iff_eq, and_true, true_and, eq_self, decide_true, Bool.and_true, Bool.true_and, reduceCtorEq, not_true_eq_false, not_false_eq_true] at h); (try (exfalso; first | omega | with_reducible exact h (by assumption) | with_reducible exact absurd h (by assumption))))) | apply hw_skip | apply hw_ret | refine g_k S ?_) | (show HO _ _ _ _ _ _ _; first | apply ho_nil | refine g_q (qe S) ?_ | refine g_q (ql S) ?_ | refine g_q (qC (rcrc_calls t _ (by omega))) ?_ | refine g_q (qC (rlow_calls (crc t) _ (by omega) (by omega))) ?_ | refine wb (fun b => ?_)) | (show HQ _ _ _ _ _ _ _; first | apply hq_nil | refine k_q (qe S) ?_ | refine k_q (ql S) ?_ | refine k_q (qC (rcrc_calls t _ (by omega))) ?_ | refine k_q (qC (rlow_calls (crc t) _ (by omega) (by omega))) ?_) | apply seqQ_normal | apply seqQ_ret)
    exact sp1 (by repeat (first | exact LS.refl _ | apply LS.k | apply LS.c)) ⟨rfl, rfl⟩
end Go.HL
