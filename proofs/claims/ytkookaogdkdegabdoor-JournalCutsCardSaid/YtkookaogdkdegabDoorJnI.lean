/- Chapter 3: JournalLast, walked. Conditions: none. -/
import Derived.Test.YtkookaogdkdegabDoorJnH
namespace Go.HL
open Go Go.Proofs
set_option linter.unusedVariables false
set_option linter.unusedSimpArgs false

structure PutA where
  d : Int
  s : St
  cut : Int
  boot : Bool
def paL (a : PutA) : List Value := [iv a.d, iv a.s.ph, iv a.s.pr, iv a.s.att, iv a.cut, .bool a.boot]
theorem put_first : (putM ⟨zeros 512, false, -1⟩ ⟨openM (zeros 512), false⟩ 5 ⟨1, 2, 3⟩).2.2 = none := by
  rcases put_on (good_new (n := 512) (by decide) (by decide)) 5 ⟨1, 2, 3⟩ with ⟨h1, h2, h3⟩ | h
  · exfalso
    unfold putM at h3
    rw [open_zeros (by decide)] at h3
    simp only [Bool.false_eq_true, if_false] at h3
    rw [if_neg (by decide), if_neg (by decide), if_neg (by decide)] at h3
    split at h3
    · cases h3
    · have := congrArg (fun j => (j.l.getD 5 zeroE).n) h3
      exact absurd this (by decide)
  · exact h.1
theorem pa_st {l : List Value} {i : Nat} {x : PutA} (h : Gets l i (paL x)) : Gets l (i + 1) (sc x.s) := fun k v hk => by
  have := h (k + 1) v (by
    match k with
    | 0 => simpa [sc, paL] using hk
    | 1 => simpa [sc, paL] using hk
    | 2 => simpa [sc, paL] using hk
    | k + 3 => simp [sc] at hk)
  rw [show i + 1 + k = i + (k + 1) by omega]
  exact this
attribute [local irreducible] HW HO HQ HD HC QOp Has Upd Puts Gets seqQ blkQ loopQ fnQ actQ nextP unQ MapF
attribute [local irreducible] jcells plC zeros openM putM
theorem written_calls (T : Nat) (E : Nat → Addr) (L : Heap) (hG : Er T E [2, 5, 6] L) : HC Tryd.prog 47 [] L (fun v L' => v = .bool true ∧ L' = L) := by
  have k1 := new_calls T E 512 L hG.sub
  rw [show newP 512 = some ⟨zeros 512, false, -1⟩ from rfl] at k1
  refine hc_enter (fun _ _ => Tryd.call47 _ _) Tryd.func47 rfl Tryd.ntmps47 (Nat.le_of_ble_eq_true rfl) ?_; simp only [args0, Nat.reduceAdd]
  refine hw_sp (L' := L) ?_ (LS.refl _)
  repeat' (first | (show HW _ _ _ _ _ _; first | apply hw_seq | apply hw_region | refine g_t ?_ | refine g_f ?_ | (refine g_b (fun h => ?_) (fun h => ?_) <;> ((try simp only [Bool.not_eq_eq_eq_not, Bool.not_true, Bool.not_false, decide_eq_true_eq, decide_eq_false_iff_not, Decidable.not_not, ne_eq, Bool.and_eq_true, beq_iff_eq, and_true, true_and, eq_self, decide_true, Bool.and_true, Bool.true_and, reduceCtorEq, not_true_eq_false, not_false_eq_true] at h); (try (exfalso; first | omega | with_reducible exact h (by assumption) | with_reducible exact absurd h (by assumption))))) | apply hw_skip | apply hw_ret | refine g_d S ?_) | (show HO _ _ _ _ _ _ _; first | apply ho_nil | refine g_q (qe S) ?_ | refine g_q (qs S) ?_ | refine g_q (qb S) ?_ | refine g_q (qbA S) ?_ | refine g_q (qA S) ?_ | refine g_n ?_ | refine g_on ?_ | (refine g_s (fun h => ?_) (fun h => ?_) <;> ((try simp only [Bool.not_eq_eq_eq_not, Bool.not_true, Bool.not_false, decide_eq_true_eq, decide_eq_false_iff_not, Decidable.not_not, ne_eq, Bool.and_eq_true, beq_iff_eq, and_true, true_and, eq_self, decide_true, Bool.and_true, Bool.true_and, reduceCtorEq, not_true_eq_false, not_false_eq_true] at h); (try (exfalso; first | omega | with_reducible exact h (by assumption) | with_reducible exact absurd h (by assumption))))) | refine wa S (fun b => ?_) | refine ws S ?_) | (show HD _ _ _ _ _ _ _ _; first | apply hd_nil | refine d_q 100 (by exact rfl) (fun _ => qe S) ?_ | refine d_q 100 (by exact rfl) (fun _ => qb S) ?_ | refine d_q 100 (by exact rfl) (fun _ => qbA S) ?_ | refine d_q 100 (by exact rfl) (fun _ => qA S) ?_ | refine ds S 100 ?_ | refine d_n 100 ?_ | (refine d_sp 100 (fun h => ?_) (fun h => ?_) <;> ((try simp only [Bool.not_eq_eq_eq_not, Bool.not_true, Bool.not_false, decide_eq_true_eq, decide_eq_false_iff_not, Decidable.not_not, ne_eq, Bool.and_eq_true, beq_iff_eq, and_true, true_and, eq_self, decide_true, Bool.and_true, Bool.true_and, reduceCtorEq, not_true_eq_false, not_false_eq_true] at h); (try (exfalso; first | omega | with_reducible exact h (by assumption) | with_reducible exact absurd h (by assumption))))) | refine da 101 ?_) | refine dx ?_ | apply dx0 | refine dxd ?_ | refine dxk ?_ | apply seqQ_normal | apply seqQ_ret)
  refine gc k1 ?_
  rintro v L' ⟨bp, ba, rfl, rfl⟩
  repeat' (first | (show HW _ _ _ _ _ _; first | apply hw_seq | apply hw_region | refine g_t ?_ | refine g_f ?_ | (refine g_b (fun h => ?_) (fun h => ?_) <;> ((try simp only [Bool.not_eq_eq_eq_not, Bool.not_true, Bool.not_false, decide_eq_true_eq, decide_eq_false_iff_not, Decidable.not_not, ne_eq, Bool.and_eq_true, beq_iff_eq, and_true, true_and, eq_self, decide_true, Bool.and_true, Bool.true_and, reduceCtorEq, not_true_eq_false, not_false_eq_true] at h); (try (exfalso; first | omega | with_reducible exact h (by assumption) | with_reducible exact absurd h (by assumption))))) | apply hw_skip | apply hw_ret | refine g_d S ?_) | (show HO _ _ _ _ _ _ _; first | apply ho_nil | refine g_q (qe S) ?_ | refine g_q (qs S) ?_ | refine g_q (qb S) ?_ | refine g_q (qbA S) ?_ | refine g_q (qA S) ?_ | refine g_n ?_ | refine g_on ?_ | (refine g_s (fun h => ?_) (fun h => ?_) <;> ((try simp only [Bool.not_eq_eq_eq_not, Bool.not_true, Bool.not_false, decide_eq_true_eq, decide_eq_false_iff_not, Decidable.not_not, ne_eq, Bool.and_eq_true, beq_iff_eq, and_true, true_and, eq_self, decide_true, Bool.and_true, Bool.true_and, reduceCtorEq, not_true_eq_false, not_false_eq_true] at h); (try (exfalso; first | omega | with_reducible exact h (by assumption) | with_reducible exact absurd h (by assumption))))) | refine wa S (fun b => ?_) | refine ws S ?_) | (show HD _ _ _ _ _ _ _ _; first | apply hd_nil | refine d_q 100 (by exact rfl) (fun _ => qe S) ?_ | refine d_q 100 (by exact rfl) (fun _ => qb S) ?_ | refine d_q 100 (by exact rfl) (fun _ => qbA S) ?_ | refine d_q 100 (by exact rfl) (fun _ => qA S) ?_ | refine ds S 100 ?_ | refine d_n 100 ?_ | (refine d_sp 100 (fun h => ?_) (fun h => ?_) <;> ((try simp only [Bool.not_eq_eq_eq_not, Bool.not_true, Bool.not_false, decide_eq_true_eq, decide_eq_false_iff_not, Decidable.not_not, ne_eq, Bool.and_eq_true, beq_iff_eq, and_true, true_and, eq_self, decide_true, Bool.and_true, Bool.true_and, reduceCtorEq, not_true_eq_false, not_false_eq_true] at h); (try (exfalso; first | omega | with_reducible exact h (by assumption) | with_reducible exact absurd h (by assumption))))) | refine da 101 ?_) | refine dx ?_ | apply dx0 | refine dxd ?_ | refine dxk ?_ | apply seqQ_normal | apply seqQ_ret)
  have hg := good_new (n := 512) (by decide) (by decide)
  have k2 := open_calls T E bp ba ⟨zeros 512, false, -1⟩ L hG.sub (by show (zeros 512).length ≤ _; rw [zeros_len]; decide)
  simp only [zeros_len, show ¬ (512 < 216) by decide, if_false, Bool.false_eq_true] at k2
  refine gc k2 ?_
  rintro v L' ⟨bj, rfl, rfl⟩
  repeat' (first | (show HW _ _ _ _ _ _; first | apply hw_seq | apply hw_region | refine g_t ?_ | refine g_f ?_ | (refine g_b (fun h => ?_) (fun h => ?_) <;> ((try simp only [Bool.not_eq_eq_eq_not, Bool.not_true, Bool.not_false, decide_eq_true_eq, decide_eq_false_iff_not, Decidable.not_not, ne_eq, Bool.and_eq_true, beq_iff_eq, and_true, true_and, eq_self, decide_true, Bool.and_true, Bool.true_and, reduceCtorEq, not_true_eq_false, not_false_eq_true] at h); (try (exfalso; first | omega | with_reducible exact h (by assumption) | with_reducible exact absurd h (by assumption))))) | apply hw_skip | apply hw_ret | refine g_d S ?_) | (show HO _ _ _ _ _ _ _; first | apply ho_nil | refine g_q (qe S) ?_ | refine g_q (qs S) ?_ | refine g_q (qb S) ?_ | refine g_q (qbA S) ?_ | refine g_q (qA S) ?_ | refine g_n ?_ | refine g_on ?_ | (refine g_s (fun h => ?_) (fun h => ?_) <;> ((try simp only [Bool.not_eq_eq_eq_not, Bool.not_true, Bool.not_false, decide_eq_true_eq, decide_eq_false_iff_not, Decidable.not_not, ne_eq, Bool.and_eq_true, beq_iff_eq, and_true, true_and, eq_self, decide_true, Bool.and_true, Bool.true_and, reduceCtorEq, not_true_eq_false, not_false_eq_true] at h); (try (exfalso; first | omega | with_reducible exact h (by assumption) | with_reducible exact absurd h (by assumption))))) | refine wa S (fun b => ?_) | refine ws S ?_) | (show HD _ _ _ _ _ _ _ _; first | apply hd_nil | refine d_q 100 (by exact rfl) (fun _ => qe S) ?_ | refine d_q 100 (by exact rfl) (fun _ => qb S) ?_ | refine d_q 100 (by exact rfl) (fun _ => qbA S) ?_ | refine d_q 100 (by exact rfl) (fun _ => qA S) ?_ | refine ds S 100 ?_ | refine d_n 100 ?_ | (refine d_sp 100 (fun h => ?_) (fun h => ?_) <;> ((try simp only [Bool.not_eq_eq_eq_not, Bool.not_true, Bool.not_false, decide_eq_true_eq, decide_eq_false_iff_not, Decidable.not_not, ne_eq, Bool.and_eq_true, beq_iff_eq, and_true, true_and, eq_self, decide_true, Bool.and_true, Bool.true_and, reduceCtorEq, not_true_eq_false, not_false_eq_true] at h); (try (exfalso; first | omega | with_reducible exact h (by assumption) | with_reducible exact absurd h (by assumption))))) | refine da 101 ?_) | refine dx ?_ | apply dx0 | refine dxd ?_ | refine dxk ?_ | apply seqQ_normal | apply seqQ_ret)
  refine fo 1 ?_
  refine fo 2 ?_
  have hp := put_first
  rcases put_on hg 5 ⟨1, 2, 3⟩ with ⟨h1, -⟩ | ⟨-, -, -, hg2, -, -, hs, -⟩
  · exact absurd hp h1
  refine gc (put_calls T E bj bp ba _ _ 5 ⟨1, 2, 3⟩ _ (hG.cons _) hg.ok.1 hg.ok.2) ?_
  rintro v L' ⟨rfl, rfl⟩
  rw [hp]
  generalize (putM ⟨zeros 512, false, -1⟩ ⟨openM (zeros 512), false⟩ 5 ⟨1, 2, 3⟩).1 = m2 at *
  generalize (putM ⟨zeros 512, false, -1⟩ ⟨openM (zeros 512), false⟩ 5 ⟨1, 2, 3⟩).2.1 = j2 at *
  repeat' (first | (show HW _ _ _ _ _ _; first | apply hw_seq | apply hw_region | refine g_t ?_ | refine g_f ?_ | (refine g_b (fun h => ?_) (fun h => ?_) <;> ((try simp only [Bool.not_eq_eq_eq_not, Bool.not_true, Bool.not_false, decide_eq_true_eq, decide_eq_false_iff_not, Decidable.not_not, ne_eq, Bool.and_eq_true, beq_iff_eq, and_true, true_and, eq_self, decide_true, Bool.and_true, Bool.true_and, reduceCtorEq, not_true_eq_false, not_false_eq_true] at h); (try (exfalso; first | omega | with_reducible exact h (by assumption) | with_reducible exact absurd h (by assumption))))) | apply hw_skip | apply hw_ret | refine g_d S ?_) | (show HO _ _ _ _ _ _ _; first | apply ho_nil | refine g_q (qe S) ?_ | refine g_q (qs S) ?_ | refine g_q (qb S) ?_ | refine g_q (qbA S) ?_ | refine g_q (qA S) ?_ | refine g_n ?_ | refine g_on ?_ | (refine g_s (fun h => ?_) (fun h => ?_) <;> ((try simp only [Bool.not_eq_eq_eq_not, Bool.not_true, Bool.not_false, decide_eq_true_eq, decide_eq_false_iff_not, Decidable.not_not, ne_eq, Bool.and_eq_true, beq_iff_eq, and_true, true_and, eq_self, decide_true, Bool.and_true, Bool.true_and, reduceCtorEq, not_true_eq_false, not_false_eq_true] at h); (try (exfalso; first | omega | with_reducible exact h (by assumption) | with_reducible exact absurd h (by assumption))))) | refine wa S (fun b => ?_) | refine ws S ?_) | (show HD _ _ _ _ _ _ _ _; first | apply hd_nil | refine d_q 100 (by exact rfl) (fun _ => qe S) ?_ | refine d_q 100 (by exact rfl) (fun _ => qb S) ?_ | refine d_q 100 (by exact rfl) (fun _ => qbA S) ?_ | refine d_q 100 (by exact rfl) (fun _ => qA S) ?_ | refine ds S 100 ?_ | refine d_n 100 ?_ | (refine d_sp 100 (fun h => ?_) (fun h => ?_) <;> ((try simp only [Bool.not_eq_eq_eq_not, Bool.not_true, Bool.not_false, decide_eq_true_eq, decide_eq_false_iff_not, Decidable.not_not, ne_eq, Bool.and_eq_true, beq_iff_eq, and_true, true_and, eq_self, decide_true, Bool.and_true, Bool.true_and, reduceCtorEq, not_true_eq_false, not_false_eq_true] at h); (try (exfalso; first | omega | with_reducible exact h (by assumption) | with_reducible exact absurd h (by assumption))))) | refine da 101 ?_) | refine dx ?_ | apply dx0 | refine dxd ?_ | refine dxk ?_ | apply seqQ_normal | apply seqQ_ret)
  refine fo 1 ?_
  have k4 := get_calls T E bj bp j2 5 (plC bp ba m2 :: [(b, .cells ⟨[iv 1, iv 2, iv 3]⟩ 34)] :: L) ((hG.sub.cons _).cons _) hg2.ok.2.len
  simp only [show ¬ ((5 : Int) < 0 ∨ 6 ≤ (5 : Int)) by decide, if_false, hs] at k4
  refine gc k4 ?_
  rintro v L' ⟨rfl, rfl⟩
  repeat' (first | (show HW _ _ _ _ _ _; first | apply hw_seq | apply hw_region | refine g_t ?_ | refine g_f ?_ | (refine g_b (fun h => ?_) (fun h => ?_) <;> ((try simp only [Bool.not_eq_eq_eq_not, Bool.not_true, Bool.not_false, decide_eq_true_eq, decide_eq_false_iff_not, Decidable.not_not, ne_eq, Bool.and_eq_true, beq_iff_eq, and_true, true_and, eq_self, decide_true, Bool.and_true, Bool.true_and, reduceCtorEq, not_true_eq_false, not_false_eq_true] at h); (try (exfalso; first | omega | with_reducible exact h (by assumption) | with_reducible exact absurd h (by assumption))))) | apply hw_skip | apply hw_ret | refine g_d S ?_) | (show HO _ _ _ _ _ _ _; first | apply ho_nil | refine g_q (qe S) ?_ | refine g_q (qs S) ?_ | refine g_q (qb S) ?_ | refine g_q (qbA S) ?_ | refine g_q (qA S) ?_ | refine g_n ?_ | refine g_on ?_ | (refine g_s (fun h => ?_) (fun h => ?_) <;> ((try simp only [Bool.not_eq_eq_eq_not, Bool.not_true, Bool.not_false, decide_eq_true_eq, decide_eq_false_iff_not, Decidable.not_not, ne_eq, Bool.and_eq_true, beq_iff_eq, and_true, true_and, eq_self, decide_true, Bool.and_true, Bool.true_and, reduceCtorEq, not_true_eq_false, not_false_eq_true] at h); (try (exfalso; first | omega | with_reducible exact h (by assumption) | with_reducible exact absurd h (by assumption))))) | refine wa S (fun b => ?_) | refine ws S ?_) | (show HD _ _ _ _ _ _ _ _; first | apply hd_nil | refine d_q 100 (by exact rfl) (fun _ => qe S) ?_ | refine d_q 100 (by exact rfl) (fun _ => qb S) ?_ | refine d_q 100 (by exact rfl) (fun _ => qbA S) ?_ | refine d_q 100 (by exact rfl) (fun _ => qA S) ?_ | refine ds S 100 ?_ | refine d_n 100 ?_ | (refine d_sp 100 (fun h => ?_) (fun h => ?_) <;> ((try simp only [Bool.not_eq_eq_eq_not, Bool.not_true, Bool.not_false, decide_eq_true_eq, decide_eq_false_iff_not, Decidable.not_not, ne_eq, Bool.and_eq_true, beq_iff_eq, and_true, true_and, eq_self, decide_true, Bool.and_true, Bool.true_and, reduceCtorEq, not_true_eq_false, not_false_eq_true] at h); (try (exfalso; first | omega | with_reducible exact h (by assumption) | with_reducible exact absurd h (by assumption))))) | refine da 101 ?_) | refine dx ?_ | apply dx0 | refine dxd ?_ | refine dxk ?_ | apply seqQ_normal | apply seqQ_ret)
  exact sp1 (by repeat (first | exact LS.refl _ | apply LS.k | apply LS.c)) ⟨rfl, rfl⟩
theorem st_flat (xs : List St) (k : Nat) (s : St) (h : xs[k]? = some s) : Gets ((xs.map sc).flatten) (0 + (k : Int).toNat * 3) (sc s) := by
  have := gets_row (enc := sc) (sz := 3) (fun _ => rfl) xs [] [] k s h
  simpa using this
theorem st_puts (xs : List St) (k : Nat) (s : St) (h : k < xs.length) : Puts ((xs.map sc).flatten) (0 + (k : Int).toNat * 3) (sc s) (((xs.set k s).map sc).flatten) := by
  have := puts_row (enc := sc) (sz := 3) (fun _ => rfl) xs [] [] k (0 + (k : Int).toNat * 3) s h (by simp)
  simpa using this
end Go.HL
