/- Texts laid into one, without what the claim does not use. Conditions: none. -/
import Derived.Test.YtkookaogdkdegabDoorMSaB
/-! StA -/
section
namespace Go.HL
open Go Go.Proofs
set_option linter.unusedVariables false
set_option linter.unusedSimpArgs false
attribute [local irreducible] HW HO HQ HD HC QOp Has Upd Puts Gets seqQ blkQ loopQ fnQ actQ nextP unQ MapF
/-- a site: its journal, its number; the deals that it refuses -/
def siC (sp bj mb : Nat) (id : Int) : List Blk := [(sp, .cells ⟨[pt bj 0, iv id, .map (some mb)]⟩ 183)]
def mpC (mb : Nat) (es : List MapEntry) (ck : Nat) : List Blk := [(mb, .map ⟨es⟩ ck)]
def openS (st : St) : Bool := decide (st.ph ≠ 2 ∧ st.ph ≠ 3)
def askM (ref : Int → Bool) (f : Fr) (st : St) : St := if st.ph = 0 then (if ref f.dl then { st with ph := 3 } else { st with ph := 1 }) else st
/-- the state behind a frame, the answer's kind, whether it is yes -/
def turnM (ref : Int → Bool) (f : Fr) (st : St) : St × Int × Bool :=
  if f.kd = 1 then (askM ref f st, 2, decide ((askM ref f st).ph ≠ 3)) else
  if f.kd = 3 then ({ st with pr := max st.pr f.att }, 4, decide (st.pr < f.att)) else
  if f.kd = 5 then (if afterS f.s.ph = 0 then (st, 0, false) else if openS st = true ∧ st.pr ≤ f.att then (⟨f.s.ph, f.att, f.att⟩, 6, true) else (st, 6, false)) else
  if f.kd = 7 then (if openS st = true ∧ (f.s.ph = 2 ∨ f.s.ph = 3) then { st with ph := f.s.ph } else st, 0, false) else (st, 0, false)
set_option maxHeartbeats 1000000 in
theorem turn_calls (sp bj mb : Nat) (id : Int) (es : List MapEntry) (ck : Nat) (ref : Int → Bool) (f : Fr) (st : St) (L : Heap) (hF : MapF iv es ref) :
    HC Tryd.prog 125 [pt sp 0, .agg ⟨fc f⟩, .agg ⟨sc st⟩] (siC sp bj mb id :: mpC mb es ck :: L) (fun v L' => v = .tuple ⟨[.agg ⟨sc (turnM ref f st).1⟩, iv (turnM ref f st).2.1, .bool (turnM ref f st).2.2]⟩ ∧ L' = siC sp bj mb id :: mpC mb es ck :: L) := by
  unfold turnM
  have hop : ∀ b, openS st = b → (b = true ↔ st.ph ≠ 2 ∧ st.ph ≠ 3) := fun b h => by rw [← h]; simp [openS]
  generalize openS st = op at *
  replace hop := hop op rfl
  by_cases k1 : f.kd = 1
  · rw [if_pos k1]
    unfold askM
    refine hc_enter (fun _ _ => Tryd.call125 _ _) Tryd.func125 rfl Tryd.ntmps125 (Nat.le_of_ble_eq_true rfl) ?_; simp only [args0, Nat.reduceAdd]
    repeat' (first | (show HW _ _ _ _ _ _; first | apply hw_seq | apply hw_region | apply hw_block | apply hw_exit | refine g_t ?_ | refine g_f ?_ | (refine g_b (fun h => ?_) (fun h => ?_) <;> ((try simp only [Bool.not_eq_eq_eq_not, Bool.not_true, Bool.not_false, decide_eq_true_eq, decide_eq_false_iff_not, Decidable.not_not, ne_eq, Bool.and_eq_true, beq_iff_eq, and_true, true_and, eq_self, decide_true, Bool.and_true, Bool.true_and, reduceCtorEq, not_true_eq_false, not_false_eq_true] at h); (try (exfalso; first | omega | with_reducible exact h (by assumption) | with_reducible exact absurd h (by assumption))))) | apply hw_skip | apply hw_ret | refine g_k S ?_ | refine g_w S ?_) | (show HO _ _ _ _ _ _ _; first | apply ho_nil | refine g_q (qe S) ?_ | refine g_q (ql S) ?_ | refine g_q (qs S) ?_ | refine g_q (qb S) ?_ | refine g_q (qbA S) ?_ | refine g_q (qmI S) ?_ | refine g_n ?_ | refine g_on ?_ | (refine g_s (fun h => ?_) (fun h => ?_) <;> ((try simp only [Bool.not_eq_eq_eq_not, Bool.not_true, Bool.not_false, decide_eq_true_eq, decide_eq_false_iff_not, Decidable.not_not, ne_eq, Bool.and_eq_true, beq_iff_eq, and_true, true_and, eq_self, decide_true, Bool.and_true, Bool.true_and, reduceCtorEq, not_true_eq_false, not_false_eq_true] at h); (try (exfalso; first | omega | with_reducible exact h (by assumption) | with_reducible exact absurd h (by assumption))))) | refine wa S (fun b => ?_) | refine wb (fun b => ?_) | refine ws S ?_) | (show HQ _ _ _ _ _ _ _; first | apply hq_nil | refine k_q (qe S) ?_ | refine k_q (ql S) ?_ | refine k_q (qs S) ?_ | refine k_q (qb S) ?_ | refine k_q (qbA S) ?_ | refine k_q (qmI S) ?_ | refine k_n ?_ | (refine k_s (fun h => ?_) (fun h => ?_) <;> ((try simp only [Bool.not_eq_eq_eq_not, Bool.not_true, Bool.not_false, decide_eq_true_eq, decide_eq_false_iff_not, Decidable.not_not, ne_eq, Bool.and_eq_true, beq_iff_eq, and_true, true_and, eq_self, decide_true, Bool.and_true, Bool.true_and, reduceCtorEq, not_true_eq_false, not_false_eq_true] at h); (try (exfalso; first | omega | with_reducible exact h (by assumption) | with_reducible exact absurd h (by assumption)))))) | (show HD _ _ _ _ _ _ _ _; first | apply hd_nil | refine d_q 100 (by exact rfl) (fun _ => qe S) ?_ | refine d_q 100 (by exact rfl) (fun _ => qb S) ?_ | refine d_q 100 (by exact rfl) (fun _ => qbA S) ?_ | refine d_q 100 (by exact rfl) (fun _ => qmI S) ?_ | refine dl S 100 ?_ | refine ds S 100 ?_ | refine d_n 100 ?_ | (refine d_sp 100 (fun h => ?_) (fun h => ?_) <;> ((try simp only [Bool.not_eq_eq_eq_not, Bool.not_true, Bool.not_false, decide_eq_true_eq, decide_eq_false_iff_not, Decidable.not_not, ne_eq, Bool.and_eq_true, beq_iff_eq, and_true, true_and, eq_self, decide_true, Bool.and_true, Bool.true_and, reduceCtorEq, not_true_eq_false, not_false_eq_true] at h); (try (exfalso; first | omega | with_reducible exact h (by assumption) | with_reducible exact absurd h (by assumption))))) | refine da 101 ?_) | refine dx ?_ | apply dx0 | refine dxd ?_ | refine dxk ?_ | apply seqQ_normal | apply seqQ_ret | apply seqQ_exit | apply blkQ_here | refine g_bx ?_ | apply blkQ_ret | apply blkQ_normal)
    all_goals refine sp3 (LS.skip _ (LS.skip _ (LS.skip _ (LS.refl _)))) ⟨?_, rfl⟩ (hx := rcell S (hg := gets_cons rfl (gets_cons rfl (gets_cons rfl gets_nil))))
    all_goals simp [sc, *]
  rw [if_neg k1]
  by_cases k3 : f.kd = 3
  · rw [if_pos k3]
    refine hc_enter (fun _ _ => Tryd.call125 _ _) Tryd.func125 rfl Tryd.ntmps125 (Nat.le_of_ble_eq_true rfl) ?_; simp only [args0, Nat.reduceAdd]
    repeat' (first | (show HW _ _ _ _ _ _; first | apply hw_seq | apply hw_region | apply hw_block | apply hw_exit | refine g_t ?_ | refine g_f ?_ | (refine g_b (fun h => ?_) (fun h => ?_) <;> ((try simp only [Bool.not_eq_eq_eq_not, Bool.not_true, Bool.not_false, decide_eq_true_eq, decide_eq_false_iff_not, Decidable.not_not, ne_eq, Bool.and_eq_true, beq_iff_eq, and_true, true_and, eq_self, decide_true, Bool.and_true, Bool.true_and, reduceCtorEq, not_true_eq_false, not_false_eq_true] at h); (try (exfalso; first | omega | with_reducible exact h (by assumption) | with_reducible exact absurd h (by assumption))))) | apply hw_skip | apply hw_ret | refine g_k S ?_ | refine g_w S ?_) | (show HO _ _ _ _ _ _ _; first | apply ho_nil | refine g_q (qe S) ?_ | refine g_q (ql S) ?_ | refine g_q (qs S) ?_ | refine g_q (qb S) ?_ | refine g_q (qbA S) ?_ | refine g_q (qmI S) ?_ | refine g_n ?_ | refine g_on ?_ | (refine g_s (fun h => ?_) (fun h => ?_) <;> ((try simp only [Bool.not_eq_eq_eq_not, Bool.not_true, Bool.not_false, decide_eq_true_eq, decide_eq_false_iff_not, Decidable.not_not, ne_eq, Bool.and_eq_true, beq_iff_eq, and_true, true_and, eq_self, decide_true, Bool.and_true, Bool.true_and, reduceCtorEq, not_true_eq_false, not_false_eq_true] at h); (try (exfalso; first | omega | with_reducible exact h (by assumption) | with_reducible exact absurd h (by assumption))))) | refine wa S (fun b => ?_) | refine wb (fun b => ?_) | refine ws S ?_) | (show HQ _ _ _ _ _ _ _; first | apply hq_nil | refine k_q (qe S) ?_ | refine k_q (ql S) ?_ | refine k_q (qs S) ?_ | refine k_q (qb S) ?_ | refine k_q (qbA S) ?_ | refine k_q (qmI S) ?_ | refine k_n ?_ | (refine k_s (fun h => ?_) (fun h => ?_) <;> ((try simp only [Bool.not_eq_eq_eq_not, Bool.not_true, Bool.not_false, decide_eq_true_eq, decide_eq_false_iff_not, Decidable.not_not, ne_eq, Bool.and_eq_true, beq_iff_eq, and_true, true_and, eq_self, decide_true, Bool.and_true, Bool.true_and, reduceCtorEq, not_true_eq_false, not_false_eq_true] at h); (try (exfalso; first | omega | with_reducible exact h (by assumption) | with_reducible exact absurd h (by assumption)))))) | (show HD _ _ _ _ _ _ _ _; first | apply hd_nil | refine d_q 100 (by exact rfl) (fun _ => qe S) ?_ | refine d_q 100 (by exact rfl) (fun _ => qb S) ?_ | refine d_q 100 (by exact rfl) (fun _ => qbA S) ?_ | refine d_q 100 (by exact rfl) (fun _ => qmI S) ?_ | refine dl S 100 ?_ | refine ds S 100 ?_ | refine d_n 100 ?_ | (refine d_sp 100 (fun h => ?_) (fun h => ?_) <;> ((try simp only [Bool.not_eq_eq_eq_not, Bool.not_true, Bool.not_false, decide_eq_true_eq, decide_eq_false_iff_not, Decidable.not_not, ne_eq, Bool.and_eq_true, beq_iff_eq, and_true, true_and, eq_self, decide_true, Bool.and_true, Bool.true_and, reduceCtorEq, not_true_eq_false, not_false_eq_true] at h); (try (exfalso; first | omega | with_reducible exact h (by assumption) | with_reducible exact absurd h (by assumption))))) | refine da 101 ?_) | refine dx ?_ | apply dx0 | refine dxd ?_ | refine dxk ?_ | apply seqQ_normal | apply seqQ_ret | apply seqQ_exit | apply blkQ_here | refine g_bx ?_ | apply blkQ_ret | apply blkQ_normal)
    all_goals refine sp3 (LS.skip _ (LS.skip _ (LS.skip _ (LS.refl _)))) ⟨?_, rfl⟩ (hx := rcell S (hg := gets_cons rfl (gets_cons rfl (gets_cons rfl gets_nil))))
    all_goals simp [sc, *]
  rw [if_neg k3]
  by_cases k5 : f.kd = 5
  · rw [if_pos k5]
    by_cases ha : afterS f.s.ph = 0
    · rw [if_pos ha]
      refine hc_enter (fun _ _ => Tryd.call125 _ _) Tryd.func125 rfl Tryd.ntmps125 (Nat.le_of_ble_eq_true rfl) ?_; simp only [args0, Nat.reduceAdd]
      repeat' (first | (show HW _ _ _ _ _ _; first | apply hw_seq | apply hw_region | apply hw_block | apply hw_exit | refine g_t ?_ | refine g_f ?_ | (refine g_b (fun h => ?_) (fun h => ?_) <;> ((try simp only [Bool.not_eq_eq_eq_not, Bool.not_true, Bool.not_false, decide_eq_true_eq, decide_eq_false_iff_not, Decidable.not_not, ne_eq, Bool.and_eq_true, beq_iff_eq, and_true, true_and, eq_self, decide_true, Bool.and_true, Bool.true_and, reduceCtorEq, not_true_eq_false, not_false_eq_true] at h); (try (exfalso; first | omega | with_reducible exact h (by assumption) | with_reducible exact absurd h (by assumption))))) | apply hw_skip | apply hw_ret | refine g_k S ?_ | refine g_w S ?_) | (show HO _ _ _ _ _ _ _; first | apply ho_nil | refine g_q (qe S) ?_ | refine g_q (ql S) ?_ | refine g_q (qs S) ?_ | refine g_q (qb S) ?_ | refine g_q (qbA S) ?_ | refine g_q (qmI S) ?_ | refine g_q (qC (after_calls _ _)) ?_ | refine g_n ?_ | refine g_on ?_ | (refine g_s (fun h => ?_) (fun h => ?_) <;> ((try simp only [Bool.not_eq_eq_eq_not, Bool.not_true, Bool.not_false, decide_eq_true_eq, decide_eq_false_iff_not, Decidable.not_not, ne_eq, Bool.and_eq_true, beq_iff_eq, and_true, true_and, eq_self, decide_true, Bool.and_true, Bool.true_and, reduceCtorEq, not_true_eq_false, not_false_eq_true] at h); (try (exfalso; first | omega | with_reducible exact h (by assumption) | with_reducible exact absurd h (by assumption))))) | refine wa S (fun b => ?_) | refine wb (fun b => ?_) | refine ws S ?_) | (show HQ _ _ _ _ _ _ _; first | apply hq_nil | refine k_q (qe S) ?_ | refine k_q (ql S) ?_ | refine k_q (qs S) ?_ | refine k_q (qb S) ?_ | refine k_q (qbA S) ?_ | refine k_q (qmI S) ?_ | refine k_q (qC (after_calls _ _)) ?_ | refine k_n ?_ | (refine k_s (fun h => ?_) (fun h => ?_) <;> ((try simp only [Bool.not_eq_eq_eq_not, Bool.not_true, Bool.not_false, decide_eq_true_eq, decide_eq_false_iff_not, Decidable.not_not, ne_eq, Bool.and_eq_true, beq_iff_eq, and_true, true_and, eq_self, decide_true, Bool.and_true, Bool.true_and, reduceCtorEq, not_true_eq_false, not_false_eq_true] at h); (try (exfalso; first | omega | with_reducible exact h (by assumption) | with_reducible exact absurd h (by assumption)))))) | (show HD _ _ _ _ _ _ _ _; first | apply hd_nil | refine d_q 100 (by exact rfl) (fun _ => qe S) ?_ | refine d_q 100 (by exact rfl) (fun _ => qb S) ?_ | refine d_q 100 (by exact rfl) (fun _ => qbA S) ?_ | refine d_q 100 (by exact rfl) (fun _ => qmI S) ?_ | refine dl S 100 ?_ | refine ds S 100 ?_ | refine d_n 100 ?_ | (refine d_sp 100 (fun h => ?_) (fun h => ?_) <;> ((try simp only [Bool.not_eq_eq_eq_not, Bool.not_true, Bool.not_false, decide_eq_true_eq, decide_eq_false_iff_not, Decidable.not_not, ne_eq, Bool.and_eq_true, beq_iff_eq, and_true, true_and, eq_self, decide_true, Bool.and_true, Bool.true_and, reduceCtorEq, not_true_eq_false, not_false_eq_true] at h); (try (exfalso; first | omega | with_reducible exact h (by assumption) | with_reducible exact absurd h (by assumption))))) | refine d_q 0 (by exact rfl) (fun _ => qC (after_calls _ _)) ?_ | refine d_q 1 (by exact rfl) (fun _ => qC (after_calls _ _)) ?_ | refine d_q 2 (by exact rfl) (fun _ => qC (after_calls _ _)) ?_ | refine d_q 3 (by exact rfl) (fun _ => qC (after_calls _ _)) ?_ | refine da 101 ?_) | refine dx ?_ | apply dx0 | refine dxd ?_ | refine dxk ?_ | apply seqQ_normal | apply seqQ_ret | apply seqQ_exit | apply blkQ_here | refine g_bx ?_ | apply blkQ_ret | apply blkQ_normal)
      all_goals refine sp3 (LS.skip _ (LS.skip _ (LS.skip _ (LS.refl _)))) ⟨?_, rfl⟩ (hx := rcell S (hg := gets_cons rfl (gets_cons rfl (gets_cons rfl gets_nil))))
      all_goals simp [sc]
    · rw [if_neg ha]
      refine hc_enter (fun _ _ => Tryd.call125 _ _) Tryd.func125 rfl Tryd.ntmps125 (Nat.le_of_ble_eq_true rfl) ?_; simp only [args0, Nat.reduceAdd]
      repeat' (first | (show HW _ _ _ _ _ _; first | apply hw_seq | apply hw_region | apply hw_block | apply hw_exit | refine g_t ?_ | refine g_f ?_ | (refine g_b (fun h => ?_) (fun h => ?_) <;> ((try simp only [Bool.not_eq_eq_eq_not, Bool.not_true, Bool.not_false, decide_eq_true_eq, decide_eq_false_iff_not, Decidable.not_not, ne_eq, Bool.and_eq_true, beq_iff_eq, and_true, true_and, eq_self, decide_true, Bool.and_true, Bool.true_and, reduceCtorEq, not_true_eq_false, not_false_eq_true] at h); (try (exfalso; first | omega | with_reducible exact h (by assumption) | with_reducible exact absurd h (by assumption))))) | apply hw_skip | apply hw_ret | refine g_k S ?_ | refine g_w S ?_) | (show HO _ _ _ _ _ _ _; first | apply ho_nil | refine g_q (qe S) ?_ | refine g_q (ql S) ?_ | refine g_q (qs S) ?_ | refine g_q (qb S) ?_ | refine g_q (qbA S) ?_ | refine g_q (qmI S) ?_ | refine g_q (qC (after_calls _ _)) ?_ | refine g_n ?_ | refine g_on ?_ | (refine g_s (fun h => ?_) (fun h => ?_) <;> ((try simp only [Bool.not_eq_eq_eq_not, Bool.not_true, Bool.not_false, decide_eq_true_eq, decide_eq_false_iff_not, Decidable.not_not, ne_eq, Bool.and_eq_true, beq_iff_eq, and_true, true_and, eq_self, decide_true, Bool.and_true, Bool.true_and, reduceCtorEq, not_true_eq_false, not_false_eq_true] at h); (try (exfalso; first | omega | with_reducible exact h (by assumption) | with_reducible exact absurd h (by assumption))))) | refine wa S (fun b => ?_) | refine wb (fun b => ?_) | refine ws S ?_) | (show HQ _ _ _ _ _ _ _; first | apply hq_nil | refine k_q (qe S) ?_ | refine k_q (ql S) ?_ | refine k_q (qs S) ?_ | refine k_q (qb S) ?_ | refine k_q (qbA S) ?_ | refine k_q (qmI S) ?_ | refine k_q (qC (after_calls _ _)) ?_ | refine k_n ?_ | (refine k_s (fun h => ?_) (fun h => ?_) <;> ((try simp only [Bool.not_eq_eq_eq_not, Bool.not_true, Bool.not_false, decide_eq_true_eq, decide_eq_false_iff_not, Decidable.not_not, ne_eq, Bool.and_eq_true, beq_iff_eq, and_true, true_and, eq_self, decide_true, Bool.and_true, Bool.true_and, reduceCtorEq, not_true_eq_false, not_false_eq_true] at h); (try (exfalso; first | omega | with_reducible exact h (by assumption) | with_reducible exact absurd h (by assumption)))))) | (show HD _ _ _ _ _ _ _ _; first | apply hd_nil | refine d_q 100 (by exact rfl) (fun _ => qe S) ?_ | refine d_q 100 (by exact rfl) (fun _ => qb S) ?_ | refine d_q 100 (by exact rfl) (fun _ => qbA S) ?_ | refine d_q 100 (by exact rfl) (fun _ => qmI S) ?_ | refine dl S 100 ?_ | refine ds S 100 ?_ | refine d_n 100 ?_ | (refine d_sp 100 (fun h => ?_) (fun h => ?_) <;> ((try simp only [Bool.not_eq_eq_eq_not, Bool.not_true, Bool.not_false, decide_eq_true_eq, decide_eq_false_iff_not, Decidable.not_not, ne_eq, Bool.and_eq_true, beq_iff_eq, and_true, true_and, eq_self, decide_true, Bool.and_true, Bool.true_and, reduceCtorEq, not_true_eq_false, not_false_eq_true] at h); (try (exfalso; first | omega | with_reducible exact h (by assumption) | with_reducible exact absurd h (by assumption))))) | refine d_q 0 (by exact rfl) (fun _ => qC (after_calls _ _)) ?_ | refine d_q 1 (by exact rfl) (fun _ => qC (after_calls _ _)) ?_ | refine d_q 2 (by exact rfl) (fun _ => qC (after_calls _ _)) ?_ | refine d_q 3 (by exact rfl) (fun _ => qC (after_calls _ _)) ?_ | refine da 101 ?_) | refine dx ?_ | apply dx0 | refine dxd ?_ | refine dxk ?_ | apply seqQ_normal | apply seqQ_ret | apply seqQ_exit | apply blkQ_here | refine g_bx ?_ | apply blkQ_ret | apply blkQ_normal)
      all_goals refine sp3 (LS.skip _ (LS.skip _ (LS.skip _ (LS.refl _)))) ⟨?_, rfl⟩ (hx := rcell S (hg := gets_cons rfl (gets_cons rfl (gets_cons rfl gets_nil))))
      all_goals simp [sc, hop, *]
  rw [if_neg k5]
  by_cases k7 : f.kd = 7
  · rw [if_pos k7]
    refine hc_enter (fun _ _ => Tryd.call125 _ _) Tryd.func125 rfl Tryd.ntmps125 (Nat.le_of_ble_eq_true rfl) ?_; simp only [args0, Nat.reduceAdd]
    repeat' (first | (show HW _ _ _ _ _ _; first | apply hw_seq | apply hw_region | apply hw_block | apply hw_exit | refine g_t ?_ | refine g_f ?_ | (refine g_b (fun h => ?_) (fun h => ?_) <;> ((try simp only [Bool.not_eq_eq_eq_not, Bool.not_true, Bool.not_false, decide_eq_true_eq, decide_eq_false_iff_not, Decidable.not_not, ne_eq, Bool.and_eq_true, beq_iff_eq, and_true, true_and, eq_self, decide_true, Bool.and_true, Bool.true_and, reduceCtorEq, not_true_eq_false, not_false_eq_true] at h); (try (exfalso; first | omega | with_reducible exact h (by assumption) | with_reducible exact absurd h (by assumption))))) | apply hw_skip | apply hw_ret | refine g_k S ?_ | refine g_w S ?_) | (show HO _ _ _ _ _ _ _; first | apply ho_nil | refine g_q (qe S) ?_ | refine g_q (ql S) ?_ | refine g_q (qs S) ?_ | refine g_q (qb S) ?_ | refine g_q (qbA S) ?_ | refine g_q (qmI S) ?_ | refine g_n ?_ | refine g_on ?_ | (refine g_s (fun h => ?_) (fun h => ?_) <;> ((try simp only [Bool.not_eq_eq_eq_not, Bool.not_true, Bool.not_false, decide_eq_true_eq, decide_eq_false_iff_not, Decidable.not_not, ne_eq, Bool.and_eq_true, beq_iff_eq, and_true, true_and, eq_self, decide_true, Bool.and_true, Bool.true_and, reduceCtorEq, not_true_eq_false, not_false_eq_true] at h); (try (exfalso; first | omega | with_reducible exact h (by assumption) | with_reducible exact absurd h (by assumption))))) | refine wa S (fun b => ?_) | refine wb (fun b => ?_) | refine ws S ?_) | (show HQ _ _ _ _ _ _ _; first | apply hq_nil | refine k_q (qe S) ?_ | refine k_q (ql S) ?_ | refine k_q (qs S) ?_ | refine k_q (qb S) ?_ | refine k_q (qbA S) ?_ | refine k_q (qmI S) ?_ | refine k_n ?_ | (refine k_s (fun h => ?_) (fun h => ?_) <;> ((try simp only [Bool.not_eq_eq_eq_not, Bool.not_true, Bool.not_false, decide_eq_true_eq, decide_eq_false_iff_not, Decidable.not_not, ne_eq, Bool.and_eq_true, beq_iff_eq, and_true, true_and, eq_self, decide_true, Bool.and_true, Bool.true_and, reduceCtorEq, not_true_eq_false, not_false_eq_true] at h); (try (exfalso; first | omega | with_reducible exact h (by assumption) | with_reducible exact absurd h (by assumption)))))) | (show HD _ _ _ _ _ _ _ _; first | apply hd_nil | refine d_q 100 (by exact rfl) (fun _ => qe S) ?_ | refine d_q 100 (by exact rfl) (fun _ => qb S) ?_ | refine d_q 100 (by exact rfl) (fun _ => qbA S) ?_ | refine d_q 100 (by exact rfl) (fun _ => qmI S) ?_ | refine dl S 100 ?_ | refine ds S 100 ?_ | refine d_n 100 ?_ | (refine d_sp 100 (fun h => ?_) (fun h => ?_) <;> ((try simp only [Bool.not_eq_eq_eq_not, Bool.not_true, Bool.not_false, decide_eq_true_eq, decide_eq_false_iff_not, Decidable.not_not, ne_eq, Bool.and_eq_true, beq_iff_eq, and_true, true_and, eq_self, decide_true, Bool.and_true, Bool.true_and, reduceCtorEq, not_true_eq_false, not_false_eq_true] at h); (try (exfalso; first | omega | with_reducible exact h (by assumption) | with_reducible exact absurd h (by assumption))))) | refine da 101 ?_) | refine dx ?_ | apply dx0 | refine dxd ?_ | refine dxk ?_ | apply seqQ_normal | apply seqQ_ret | apply seqQ_exit | apply blkQ_here | refine g_bx ?_ | apply blkQ_ret | apply blkQ_normal)
    all_goals refine sp3 (LS.skip _ (LS.skip _ (LS.skip _ (LS.refl _)))) ⟨?_, rfl⟩ (hx := rcell S (hg := gets_cons rfl (gets_cons rfl (gets_cons rfl gets_nil))))
    all_goals simp [sc, hop, *]
  rw [if_neg k7]
  refine hc_enter (fun _ _ => Tryd.call125 _ _) Tryd.func125 rfl Tryd.ntmps125 (Nat.le_of_ble_eq_true rfl) ?_; simp only [args0, Nat.reduceAdd]
  repeat' (first | (show HW _ _ _ _ _ _; first | apply hw_seq | apply hw_region | apply hw_block | apply hw_exit | refine g_t ?_ | refine g_f ?_ | (refine g_b (fun h => ?_) (fun h => ?_) <;> ((try simp only [Bool.not_eq_eq_eq_not, Bool.not_true, Bool.not_false, decide_eq_true_eq, decide_eq_false_iff_not, Decidable.not_not, ne_eq, Bool.and_eq_true, beq_iff_eq, and_true, true_and, eq_self, decide_true, Bool.and_true, Bool.true_and, reduceCtorEq, not_true_eq_false, not_false_eq_true] at h); (try (exfalso; first | omega | with_reducible exact h (by assumption) | with_reducible exact absurd h (by assumption))))) | apply hw_skip | apply hw_ret | refine g_k S ?_ | refine g_w S ?_) | (show HO _ _ _ _ _ _ _; first | apply ho_nil | refine g_q (qe S) ?_ | refine g_q (ql S) ?_ | refine g_q (qs S) ?_ | refine g_q (qb S) ?_ | refine g_q (qbA S) ?_ | refine g_q (qmI S) ?_ | refine g_n ?_ | refine g_on ?_ | (refine g_s (fun h => ?_) (fun h => ?_) <;> ((try simp only [Bool.not_eq_eq_eq_not, Bool.not_true, Bool.not_false, decide_eq_true_eq, decide_eq_false_iff_not, Decidable.not_not, ne_eq, Bool.and_eq_true, beq_iff_eq, and_true, true_and, eq_self, decide_true, Bool.and_true, Bool.true_and, reduceCtorEq, not_true_eq_false, not_false_eq_true] at h); (try (exfalso; first | omega | with_reducible exact h (by assumption) | with_reducible exact absurd h (by assumption))))) | refine wa S (fun b => ?_) | refine wb (fun b => ?_) | refine ws S ?_) | (show HQ _ _ _ _ _ _ _; first | apply hq_nil | refine k_q (qe S) ?_ | refine k_q (ql S) ?_ | refine k_q (qs S) ?_ | refine k_q (qb S) ?_ | refine k_q (qbA S) ?_ | refine k_q (qmI S) ?_ | refine k_n ?_ | (refine k_s (fun h => ?_) (fun h => ?_) <;> ((try simp only [Bool.not_eq_eq_eq_not, Bool.not_true, Bool.not_false, decide_eq_true_eq, decide_eq_false_iff_not, Decidable.not_not, ne_eq, Bool.and_eq_true, beq_iff_eq, and_true, true_and, eq_self, decide_true, Bool.and_true, Bool.true_and, reduceCtorEq, not_true_eq_false, not_false_eq_true] at h); (try (exfalso; first | omega | with_reducible exact h (by assumption) | with_reducible exact absurd h (by assumption)))))) | (show HD _ _ _ _ _ _ _ _; first | apply hd_nil | refine d_q 100 (by exact rfl) (fun _ => qe S) ?_ | refine d_q 100 (by exact rfl) (fun _ => qb S) ?_ | refine d_q 100 (by exact rfl) (fun _ => qbA S) ?_ | refine d_q 100 (by exact rfl) (fun _ => qmI S) ?_ | refine dl S 100 ?_ | refine ds S 100 ?_ | refine d_n 100 ?_ | (refine d_sp 100 (fun h => ?_) (fun h => ?_) <;> ((try simp only [Bool.not_eq_eq_eq_not, Bool.not_true, Bool.not_false, decide_eq_true_eq, decide_eq_false_iff_not, Decidable.not_not, ne_eq, Bool.and_eq_true, beq_iff_eq, and_true, true_and, eq_self, decide_true, Bool.and_true, Bool.true_and, reduceCtorEq, not_true_eq_false, not_false_eq_true] at h); (try (exfalso; first | omega | with_reducible exact h (by assumption) | with_reducible exact absurd h (by assumption))))) | refine da 101 ?_) | refine dx ?_ | apply dx0 | refine dxd ?_ | refine dxk ?_ | apply seqQ_normal | apply seqQ_ret | apply seqQ_exit | apply blkQ_here | refine g_bx ?_ | apply blkQ_ret | apply blkQ_normal)
  all_goals refine sp3 (LS.skip _ (LS.skip _ (LS.skip _ (LS.refl _)))) ⟨?_, rfl⟩ (hx := rcell S (hg := gets_cons rfl (gets_cons rfl (gets_cons rfl gets_nil))))
  all_goals simp [sc]
end Go.HL
end

/-! StB -/
section
namespace Go.HL
open Go Go.Proofs
set_option linter.unusedVariables false
set_option linter.unusedSimpArgs false
def siteE (id : Int) (m : Pl) : Option Nat := if id < 0 ∨ 7 ≤ id then some 2 else if m.b.length < 216 then some 2 else if m.off then some 6 else none
attribute [local irreducible] HW HO HQ HD HC QOp Has Upd Puts Gets seqQ blkQ loopQ fnQ actQ nextP unQ MapF
attribute [local irreducible] jcells plC
theorem getOk_calls (bj bp : Nat) (j : Jn) (d : Nat) (L : Heap) (hb : Has L bj (.cells ⟨jcells bp j⟩ 160)) (hl : j.l.length = 6) (hd : d < 6) : HC Tryd.prog 53 [pt bj 0, iv d] L (fun v L' => v = .tuple ⟨[.agg ⟨sc (j.l.getD d zeroE).s⟩, .nilIface]⟩ ∧ L' = L) := by
  refine hcHas (fun L => ?_) hb
  have he : j.l[d]? = some (j.l.getD d zeroE) := by
    rw [List.getD, List.getElem?_eq_getElem (by omega)]; rfl
  have g1 := jgets (bp := bp) he
  have g2 := jgetsS (bp := bp) he
  refine hc_enter (fun _ _ => Tryd.call53 _ _) Tryd.func53 rfl Tryd.ntmps53 (Nat.le_of_ble_eq_true rfl) ?_; simp only [args0, Nat.reduceAdd]
  repeat' (first | (show HW _ _ _ _ _ _; first | apply hw_seq | apply hw_region | refine g_t ?_ | refine g_f ?_ | (refine g_b (fun h => ?_) (fun h => ?_) <;> ((try simp only [Bool.not_eq_eq_eq_not, Bool.not_true, Bool.not_false, decide_eq_true_eq, decide_eq_false_iff_not, Decidable.not_not, ne_eq, Bool.and_eq_true, beq_iff_eq, and_true, true_and, eq_self, decide_true, Bool.and_true, Bool.true_and, reduceCtorEq, not_true_eq_false, not_false_eq_true] at h); (try (exfalso; first | omega | with_reducible exact h (by assumption) | with_reducible exact absurd h (by assumption))))) | apply hw_skip | apply hw_ret | refine g_k S ?_ | refine g_w S ?_) | (show HO _ _ _ _ _ _ _; first | apply ho_nil | refine g_q (qe S) ?_ | refine g_q (qg S) ?_ | refine g_q (qs S) ?_ | refine g_q (qb S) ?_ | refine g_q (qbA S) ?_ | refine g_n ?_ | refine g_on ?_ | (refine g_s (fun h => ?_) (fun h => ?_) <;> ((try simp only [Bool.not_eq_eq_eq_not, Bool.not_true, Bool.not_false, decide_eq_true_eq, decide_eq_false_iff_not, Decidable.not_not, ne_eq, Bool.and_eq_true, beq_iff_eq, and_true, true_and, eq_self, decide_true, Bool.and_true, Bool.true_and, reduceCtorEq, not_true_eq_false, not_false_eq_true] at h); (try (exfalso; first | omega | with_reducible exact h (by assumption) | with_reducible exact absurd h (by assumption))))) | refine wa S (fun b => ?_) | refine ws S ?_) | (show HQ _ _ _ _ _ _ _; first | apply hq_nil | refine k_q (qe S) ?_ | refine k_q (qg S) ?_ | refine k_q (qs S) ?_ | refine k_q (qb S) ?_ | refine k_q (qbA S) ?_ | refine k_n ?_ | (refine k_s (fun h => ?_) (fun h => ?_) <;> ((try simp only [Bool.not_eq_eq_eq_not, Bool.not_true, Bool.not_false, decide_eq_true_eq, decide_eq_false_iff_not, Decidable.not_not, ne_eq, Bool.and_eq_true, beq_iff_eq, and_true, true_and, eq_self, decide_true, Bool.and_true, Bool.true_and, reduceCtorEq, not_true_eq_false, not_false_eq_true] at h); (try (exfalso; first | omega | with_reducible exact h (by assumption) | with_reducible exact absurd h (by assumption)))))) | (show HD _ _ _ _ _ _ _ _; first | apply hd_nil | refine d_q 100 (by exact rfl) (fun _ => qe S) ?_ | refine d_q 100 (by exact rfl) (fun _ => qb S) ?_ | refine d_q 100 (by exact rfl) (fun _ => qbA S) ?_ | refine ds S 100 ?_ | refine dg S 100 (fun _ _ => ?_) | refine d_n 100 ?_ | (refine d_sp 100 (fun h => ?_) (fun h => ?_) <;> ((try simp only [Bool.not_eq_eq_eq_not, Bool.not_true, Bool.not_false, decide_eq_true_eq, decide_eq_false_iff_not, Decidable.not_not, ne_eq, Bool.and_eq_true, beq_iff_eq, and_true, true_and, eq_self, decide_true, Bool.and_true, Bool.true_and, reduceCtorEq, not_true_eq_false, not_false_eq_true] at h); (try (exfalso; first | omega | with_reducible exact h (by assumption) | with_reducible exact absurd h (by assumption))))) | refine da 101 ?_) | refine dx ?_ | apply dx0 | refine dxd ?_ | refine dxk ?_ | apply seqQ_normal | apply seqQ_ret)
  exact sp2 (LS.skip _ (LS.refl _)) ⟨rfl, rfl⟩ (hx := rcell S (hg := gets_cons rfl (gets_cons rfl (gets_cons rfl gets_nil))))
theorem snew_calls (T : Nat) (E : Nat → Addr) (id : Int) (bp ba : Nat) (m : Pl) (L : Heap) (hG : Er T E [2, 3, 6] L) (hm : m.b.length ≤ 1000000) : HC Tryd.prog 76 [iv id, pt bp 0] (plC bp ba m :: L) (fun v L' => match siteE id m with
    | some e => v = .tuple ⟨[.pointer none, eV T E (some e)]⟩ ∧ L' = plC bp ba m :: L
    | none => ∃ sp bj mb, v = .tuple ⟨[pt sp 0, .nilIface]⟩ ∧ L' = siC sp bj mb id :: mpC mb [] 0 :: plC bp ba m :: jC bj bp ⟨openM m.b, false⟩ :: L) := by
  have ko := open_calls T E bp ba m L hG.sub hm
  have hG2 := hG.cons (plC bp ba m)
  unfold siteE
  by_cases h1 : id < 0 ∨ 7 ≤ id
  · rw [if_pos h1]
    refine hc_enter (fun _ _ => Tryd.call76 _ _) Tryd.func76 rfl Tryd.ntmps76 (Nat.le_of_ble_eq_true rfl) ?_; simp only [args0, Nat.reduceAdd]
    repeat' (first | (show HW _ _ _ _ _ _; first | apply hw_seq | apply hw_region | refine g_t ?_ | refine g_f ?_ | (refine g_b (fun h => ?_) (fun h => ?_) <;> ((try simp only [Bool.not_eq_eq_eq_not, Bool.not_true, Bool.not_false, decide_eq_true_eq, decide_eq_false_iff_not, Decidable.not_not, ne_eq, Bool.and_eq_true, beq_iff_eq, and_true, true_and, eq_self, decide_true, Bool.and_true, Bool.true_and, reduceCtorEq, not_true_eq_false, not_false_eq_true] at h); (try (exfalso; first | omega | with_reducible exact h (by assumption) | with_reducible exact absurd h (by assumption))))) | apply hw_skip | apply hw_ret | refine g_d S ?_) | (show HO _ _ _ _ _ _ _; first | apply ho_nil | refine g_q (qe S) ?_ | refine g_q (qg S) ?_ | refine g_q (qb S) ?_ | refine g_q (qbA S) ?_ | refine g_n ?_ | refine g_on ?_ | (refine g_s (fun h => ?_) (fun h => ?_) <;> ((try simp only [Bool.not_eq_eq_eq_not, Bool.not_true, Bool.not_false, decide_eq_true_eq, decide_eq_false_iff_not, Decidable.not_not, ne_eq, Bool.and_eq_true, beq_iff_eq, and_true, true_and, eq_self, decide_true, Bool.and_true, Bool.true_and, reduceCtorEq, not_true_eq_false, not_false_eq_true] at h); (try (exfalso; first | omega | with_reducible exact h (by assumption) | with_reducible exact absurd h (by assumption))))) | refine wb (fun b => ?_) | refine wMk (fun b => ?_)) | (show HD _ _ _ _ _ _ _ _; first | apply hd_nil | refine d_q 100 (by exact rfl) (fun _ => qe S) ?_ | refine d_q 100 (by exact rfl) (fun _ => qb S) ?_ | refine d_q 100 (by exact rfl) (fun _ => qbA S) ?_ | refine dg S 100 (fun _ _ => ?_) | refine d_n 100 ?_ | (refine d_sp 100 (fun h => ?_) (fun h => ?_) <;> ((try simp only [Bool.not_eq_eq_eq_not, Bool.not_true, Bool.not_false, decide_eq_true_eq, decide_eq_false_iff_not, Decidable.not_not, ne_eq, Bool.and_eq_true, beq_iff_eq, and_true, true_and, eq_self, decide_true, Bool.and_true, Bool.true_and, reduceCtorEq, not_true_eq_false, not_false_eq_true] at h); (try (exfalso; first | omega | with_reducible exact h (by assumption) | with_reducible exact absurd h (by assumption))))) | refine da 101 ?_) | refine dx ?_ | apply dx0 | refine dxd ?_ | refine dxk ?_ | apply seqQ_normal | apply seqQ_ret)
    all_goals exact sp2 (LS.refl _) ⟨rfl, rfl⟩
  rw [if_neg h1]
  by_cases h2 : m.b.length < 216
  · simp only [if_pos h2] at ko ⊢
    refine hc_enter (fun _ _ => Tryd.call76 _ _) Tryd.func76 rfl Tryd.ntmps76 (Nat.le_of_ble_eq_true rfl) ?_; simp only [args0, Nat.reduceAdd]
    repeat' (first | (show HW _ _ _ _ _ _; first | apply hw_seq | apply hw_region | refine g_t ?_ | refine g_f ?_ | (refine g_b (fun h => ?_) (fun h => ?_) <;> ((try simp only [Bool.not_eq_eq_eq_not, Bool.not_true, Bool.not_false, decide_eq_true_eq, decide_eq_false_iff_not, Decidable.not_not, ne_eq, Bool.and_eq_true, beq_iff_eq, and_true, true_and, eq_self, decide_true, Bool.and_true, Bool.true_and, reduceCtorEq, not_true_eq_false, not_false_eq_true] at h); (try (exfalso; first | omega | with_reducible exact h (by assumption) | with_reducible exact absurd h (by assumption))))) | apply hw_skip | apply hw_ret | refine g_d S ?_) | (show HO _ _ _ _ _ _ _; first | apply ho_nil | refine g_q (qe S) ?_ | refine g_q (qg S) ?_ | refine g_q (qb S) ?_ | refine g_q (qbA S) ?_ | refine g_n ?_ | refine g_on ?_ | (refine g_s (fun h => ?_) (fun h => ?_) <;> ((try simp only [Bool.not_eq_eq_eq_not, Bool.not_true, Bool.not_false, decide_eq_true_eq, decide_eq_false_iff_not, Decidable.not_not, ne_eq, Bool.and_eq_true, beq_iff_eq, and_true, true_and, eq_self, decide_true, Bool.and_true, Bool.true_and, reduceCtorEq, not_true_eq_false, not_false_eq_true] at h); (try (exfalso; first | omega | with_reducible exact h (by assumption) | with_reducible exact absurd h (by assumption))))) | refine wb (fun b => ?_) | refine wMk (fun b => ?_)) | (show HD _ _ _ _ _ _ _ _; first | apply hd_nil | refine d_q 100 (by exact rfl) (fun _ => qe S) ?_ | refine d_q 100 (by exact rfl) (fun _ => qb S) ?_ | refine d_q 100 (by exact rfl) (fun _ => qbA S) ?_ | refine dg S 100 (fun _ _ => ?_) | refine d_n 100 ?_ | (refine d_sp 100 (fun h => ?_) (fun h => ?_) <;> ((try simp only [Bool.not_eq_eq_eq_not, Bool.not_true, Bool.not_false, decide_eq_true_eq, decide_eq_false_iff_not, Decidable.not_not, ne_eq, Bool.and_eq_true, beq_iff_eq, and_true, true_and, eq_self, decide_true, Bool.and_true, Bool.true_and, reduceCtorEq, not_true_eq_false, not_false_eq_true] at h); (try (exfalso; first | omega | with_reducible exact h (by assumption) | with_reducible exact absurd h (by assumption))))) | refine da 101 ?_) | refine dx ?_ | apply dx0 | refine dxd ?_ | refine dxk ?_ | apply seqQ_normal | apply seqQ_ret)
    refine gc ko ?_
    rintro v L' ⟨rfl, rfl⟩
    repeat' (first | (show HW _ _ _ _ _ _; first | apply hw_seq | apply hw_region | refine g_t ?_ | refine g_f ?_ | (refine g_b (fun h => ?_) (fun h => ?_) <;> ((try simp only [Bool.not_eq_eq_eq_not, Bool.not_true, Bool.not_false, decide_eq_true_eq, decide_eq_false_iff_not, Decidable.not_not, ne_eq, Bool.and_eq_true, beq_iff_eq, and_true, true_and, eq_self, decide_true, Bool.and_true, Bool.true_and, reduceCtorEq, not_true_eq_false, not_false_eq_true] at h); (try (exfalso; first | omega | with_reducible exact h (by assumption) | with_reducible exact absurd h (by assumption))))) | apply hw_skip | apply hw_ret | refine g_d S ?_) | (show HO _ _ _ _ _ _ _; first | apply ho_nil | refine g_q (qe S) ?_ | refine g_q (qg S) ?_ | refine g_q (qb S) ?_ | refine g_q (qbA S) ?_ | refine g_n ?_ | refine g_on ?_ | (refine g_s (fun h => ?_) (fun h => ?_) <;> ((try simp only [Bool.not_eq_eq_eq_not, Bool.not_true, Bool.not_false, decide_eq_true_eq, decide_eq_false_iff_not, Decidable.not_not, ne_eq, Bool.and_eq_true, beq_iff_eq, and_true, true_and, eq_self, decide_true, Bool.and_true, Bool.true_and, reduceCtorEq, not_true_eq_false, not_false_eq_true] at h); (try (exfalso; first | omega | with_reducible exact h (by assumption) | with_reducible exact absurd h (by assumption))))) | refine wb (fun b => ?_) | refine wMk (fun b => ?_)) | (show HD _ _ _ _ _ _ _ _; first | apply hd_nil | refine d_q 100 (by exact rfl) (fun _ => qe S) ?_ | refine d_q 100 (by exact rfl) (fun _ => qb S) ?_ | refine d_q 100 (by exact rfl) (fun _ => qbA S) ?_ | refine dg S 100 (fun _ _ => ?_) | refine d_n 100 ?_ | (refine d_sp 100 (fun h => ?_) (fun h => ?_) <;> ((try simp only [Bool.not_eq_eq_eq_not, Bool.not_true, Bool.not_false, decide_eq_true_eq, decide_eq_false_iff_not, Decidable.not_not, ne_eq, Bool.and_eq_true, beq_iff_eq, and_true, true_and, eq_self, decide_true, Bool.and_true, Bool.true_and, reduceCtorEq, not_true_eq_false, not_false_eq_true] at h); (try (exfalso; first | omega | with_reducible exact h (by assumption) | with_reducible exact absurd h (by assumption))))) | refine da 101 ?_) | refine dx ?_ | apply dx0 | refine dxd ?_ | refine dxk ?_ | apply seqQ_normal | apply seqQ_ret)
    exact sp2 (LS.refl _) ⟨rfl, rfl⟩
  simp only [if_neg h2] at ko ⊢
  by_cases h3 : m.off = true
  · simp only [if_pos h3] at ko ⊢
    refine hc_enter (fun _ _ => Tryd.call76 _ _) Tryd.func76 rfl Tryd.ntmps76 (Nat.le_of_ble_eq_true rfl) ?_; simp only [args0, Nat.reduceAdd]
    repeat' (first | (show HW _ _ _ _ _ _; first | apply hw_seq | apply hw_region | refine g_t ?_ | refine g_f ?_ | (refine g_b (fun h => ?_) (fun h => ?_) <;> ((try simp only [Bool.not_eq_eq_eq_not, Bool.not_true, Bool.not_false, decide_eq_true_eq, decide_eq_false_iff_not, Decidable.not_not, ne_eq, Bool.and_eq_true, beq_iff_eq, and_true, true_and, eq_self, decide_true, Bool.and_true, Bool.true_and, reduceCtorEq, not_true_eq_false, not_false_eq_true] at h); (try (exfalso; first | omega | with_reducible exact h (by assumption) | with_reducible exact absurd h (by assumption))))) | apply hw_skip | apply hw_ret | refine g_d S ?_) | (show HO _ _ _ _ _ _ _; first | apply ho_nil | refine g_q (qe S) ?_ | refine g_q (qg S) ?_ | refine g_q (qb S) ?_ | refine g_q (qbA S) ?_ | refine g_n ?_ | refine g_on ?_ | (refine g_s (fun h => ?_) (fun h => ?_) <;> ((try simp only [Bool.not_eq_eq_eq_not, Bool.not_true, Bool.not_false, decide_eq_true_eq, decide_eq_false_iff_not, Decidable.not_not, ne_eq, Bool.and_eq_true, beq_iff_eq, and_true, true_and, eq_self, decide_true, Bool.and_true, Bool.true_and, reduceCtorEq, not_true_eq_false, not_false_eq_true] at h); (try (exfalso; first | omega | with_reducible exact h (by assumption) | with_reducible exact absurd h (by assumption))))) | refine wb (fun b => ?_) | refine wMk (fun b => ?_)) | (show HD _ _ _ _ _ _ _ _; first | apply hd_nil | refine d_q 100 (by exact rfl) (fun _ => qe S) ?_ | refine d_q 100 (by exact rfl) (fun _ => qb S) ?_ | refine d_q 100 (by exact rfl) (fun _ => qbA S) ?_ | refine dg S 100 (fun _ _ => ?_) | refine d_n 100 ?_ | (refine d_sp 100 (fun h => ?_) (fun h => ?_) <;> ((try simp only [Bool.not_eq_eq_eq_not, Bool.not_true, Bool.not_false, decide_eq_true_eq, decide_eq_false_iff_not, Decidable.not_not, ne_eq, Bool.and_eq_true, beq_iff_eq, and_true, true_and, eq_self, decide_true, Bool.and_true, Bool.true_and, reduceCtorEq, not_true_eq_false, not_false_eq_true] at h); (try (exfalso; first | omega | with_reducible exact h (by assumption) | with_reducible exact absurd h (by assumption))))) | refine da 101 ?_) | refine dx ?_ | apply dx0 | refine dxd ?_ | refine dxk ?_ | apply seqQ_normal | apply seqQ_ret)
    refine gc ko ?_
    rintro v L' ⟨rfl, rfl⟩
    repeat' (first | (show HW _ _ _ _ _ _; first | apply hw_seq | apply hw_region | refine g_t ?_ | refine g_f ?_ | (refine g_b (fun h => ?_) (fun h => ?_) <;> ((try simp only [Bool.not_eq_eq_eq_not, Bool.not_true, Bool.not_false, decide_eq_true_eq, decide_eq_false_iff_not, Decidable.not_not, ne_eq, Bool.and_eq_true, beq_iff_eq, and_true, true_and, eq_self, decide_true, Bool.and_true, Bool.true_and, reduceCtorEq, not_true_eq_false, not_false_eq_true] at h); (try (exfalso; first | omega | with_reducible exact h (by assumption) | with_reducible exact absurd h (by assumption))))) | apply hw_skip | apply hw_ret | refine g_d S ?_) | (show HO _ _ _ _ _ _ _; first | apply ho_nil | refine g_q (qe S) ?_ | refine g_q (qg S) ?_ | refine g_q (qb S) ?_ | refine g_q (qbA S) ?_ | refine g_n ?_ | refine g_on ?_ | (refine g_s (fun h => ?_) (fun h => ?_) <;> ((try simp only [Bool.not_eq_eq_eq_not, Bool.not_true, Bool.not_false, decide_eq_true_eq, decide_eq_false_iff_not, Decidable.not_not, ne_eq, Bool.and_eq_true, beq_iff_eq, and_true, true_and, eq_self, decide_true, Bool.and_true, Bool.true_and, reduceCtorEq, not_true_eq_false, not_false_eq_true] at h); (try (exfalso; first | omega | with_reducible exact h (by assumption) | with_reducible exact absurd h (by assumption))))) | refine wb (fun b => ?_) | refine wMk (fun b => ?_)) | (show HD _ _ _ _ _ _ _ _; first | apply hd_nil | refine d_q 100 (by exact rfl) (fun _ => qe S) ?_ | refine d_q 100 (by exact rfl) (fun _ => qb S) ?_ | refine d_q 100 (by exact rfl) (fun _ => qbA S) ?_ | refine dg S 100 (fun _ _ => ?_) | refine d_n 100 ?_ | (refine d_sp 100 (fun h => ?_) (fun h => ?_) <;> ((try simp only [Bool.not_eq_eq_eq_not, Bool.not_true, Bool.not_false, decide_eq_true_eq, decide_eq_false_iff_not, Decidable.not_not, ne_eq, Bool.and_eq_true, beq_iff_eq, and_true, true_and, eq_self, decide_true, Bool.and_true, Bool.true_and, reduceCtorEq, not_true_eq_false, not_false_eq_true] at h); (try (exfalso; first | omega | with_reducible exact h (by assumption) | with_reducible exact absurd h (by assumption))))) | refine da 101 ?_) | refine dx ?_ | apply dx0 | refine dxd ?_ | refine dxk ?_ | apply seqQ_normal | apply seqQ_ret)
    exact sp2 (LS.refl _) ⟨rfl, rfl⟩
  simp only [if_neg h3] at ko ⊢
  refine hc_enter (fun _ _ => Tryd.call76 _ _) Tryd.func76 rfl Tryd.ntmps76 (Nat.le_of_ble_eq_true rfl) ?_; simp only [args0, Nat.reduceAdd]
  repeat' (first | (show HW _ _ _ _ _ _; first | apply hw_seq | apply hw_region | refine g_t ?_ | refine g_f ?_ | (refine g_b (fun h => ?_) (fun h => ?_) <;> ((try simp only [Bool.not_eq_eq_eq_not, Bool.not_true, Bool.not_false, decide_eq_true_eq, decide_eq_false_iff_not, Decidable.not_not, ne_eq, Bool.and_eq_true, beq_iff_eq, and_true, true_and, eq_self, decide_true, Bool.and_true, Bool.true_and, reduceCtorEq, not_true_eq_false, not_false_eq_true] at h); (try (exfalso; first | omega | with_reducible exact h (by assumption) | with_reducible exact absurd h (by assumption))))) | apply hw_skip | apply hw_ret | refine g_d S ?_) | (show HO _ _ _ _ _ _ _; first | apply ho_nil | refine g_q (qe S) ?_ | refine g_q (qg S) ?_ | refine g_q (qb S) ?_ | refine g_q (qbA S) ?_ | refine g_n ?_ | refine g_on ?_ | (refine g_s (fun h => ?_) (fun h => ?_) <;> ((try simp only [Bool.not_eq_eq_eq_not, Bool.not_true, Bool.not_false, decide_eq_true_eq, decide_eq_false_iff_not, Decidable.not_not, ne_eq, Bool.and_eq_true, beq_iff_eq, and_true, true_and, eq_self, decide_true, Bool.and_true, Bool.true_and, reduceCtorEq, not_true_eq_false, not_false_eq_true] at h); (try (exfalso; first | omega | with_reducible exact h (by assumption) | with_reducible exact absurd h (by assumption))))) | refine wb (fun b => ?_) | refine wMk (fun b => ?_)) | (show HD _ _ _ _ _ _ _ _; first | apply hd_nil | refine d_q 100 (by exact rfl) (fun _ => qe S) ?_ | refine d_q 100 (by exact rfl) (fun _ => qb S) ?_ | refine d_q 100 (by exact rfl) (fun _ => qbA S) ?_ | refine dg S 100 (fun _ _ => ?_) | refine d_n 100 ?_ | (refine d_sp 100 (fun h => ?_) (fun h => ?_) <;> ((try simp only [Bool.not_eq_eq_eq_not, Bool.not_true, Bool.not_false, decide_eq_true_eq, decide_eq_false_iff_not, Decidable.not_not, ne_eq, Bool.and_eq_true, beq_iff_eq, and_true, true_and, eq_self, decide_true, Bool.and_true, Bool.true_and, reduceCtorEq, not_true_eq_false, not_false_eq_true] at h); (try (exfalso; first | omega | with_reducible exact h (by assumption) | with_reducible exact absurd h (by assumption))))) | refine da 101 ?_) | refine dx ?_ | apply dx0 | refine dxd ?_ | refine dxk ?_ | apply seqQ_normal | apply seqQ_ret)
  refine gc ko ?_
  rintro v L' ⟨bj, rfl, rfl⟩
  repeat' (first | (show HW _ _ _ _ _ _; first | apply hw_seq | apply hw_region | refine g_t ?_ | refine g_f ?_ | (refine g_b (fun h => ?_) (fun h => ?_) <;> ((try simp only [Bool.not_eq_eq_eq_not, Bool.not_true, Bool.not_false, decide_eq_true_eq, decide_eq_false_iff_not, Decidable.not_not, ne_eq, Bool.and_eq_true, beq_iff_eq, and_true, true_and, eq_self, decide_true, Bool.and_true, Bool.true_and, reduceCtorEq, not_true_eq_false, not_false_eq_true] at h); (try (exfalso; first | omega | with_reducible exact h (by assumption) | with_reducible exact absurd h (by assumption))))) | apply hw_skip | apply hw_ret | refine g_d S ?_) | (show HO _ _ _ _ _ _ _; first | apply ho_nil | refine g_q (qe S) ?_ | refine g_q (qg S) ?_ | refine g_q (qb S) ?_ | refine g_q (qbA S) ?_ | refine g_n ?_ | refine g_on ?_ | (refine g_s (fun h => ?_) (fun h => ?_) <;> ((try simp only [Bool.not_eq_eq_eq_not, Bool.not_true, Bool.not_false, decide_eq_true_eq, decide_eq_false_iff_not, Decidable.not_not, ne_eq, Bool.and_eq_true, beq_iff_eq, and_true, true_and, eq_self, decide_true, Bool.and_true, Bool.true_and, reduceCtorEq, not_true_eq_false, not_false_eq_true] at h); (try (exfalso; first | omega | with_reducible exact h (by assumption) | with_reducible exact absurd h (by assumption))))) | refine wb (fun b => ?_) | refine wMk (fun b => ?_)) | (show HD _ _ _ _ _ _ _ _; first | apply hd_nil | refine d_q 100 (by exact rfl) (fun _ => qe S) ?_ | refine d_q 100 (by exact rfl) (fun _ => qb S) ?_ | refine d_q 100 (by exact rfl) (fun _ => qbA S) ?_ | refine dg S 100 (fun _ _ => ?_) | refine d_n 100 ?_ | (refine d_sp 100 (fun h => ?_) (fun h => ?_) <;> ((try simp only [Bool.not_eq_eq_eq_not, Bool.not_true, Bool.not_false, decide_eq_true_eq, decide_eq_false_iff_not, Decidable.not_not, ne_eq, Bool.and_eq_true, beq_iff_eq, and_true, true_and, eq_self, decide_true, Bool.and_true, Bool.true_and, reduceCtorEq, not_true_eq_false, not_false_eq_true] at h); (try (exfalso; first | omega | with_reducible exact h (by assumption) | with_reducible exact absurd h (by assumption))))) | refine da 101 ?_) | refine dx ?_ | apply dx0 | refine dxd ?_ | refine dxk ?_ | apply seqQ_normal | apply seqQ_ret)
  exact sp2 (by repeat (first | (with_reducible first | refine LS.p0 ?_ | refine LS.p1 ?_ | refine LS.p2 ?_ | refine LS.p3 ?_ | refine LS.p4 ?_ | refine LS.p5 ?_ | refine LS.p6 ?_ | refine LS.p7 ?_ | refine LS.p8 ?_ | refine LS.p9 ?_ | refine LS.p10 ?_ | refine LS.p11 ?_ | refine LS.p12 ?_ | refine LS.e ?_ | exact LS.refl _) | refine LS.p0 ?_ | refine LS.p1 ?_ | refine LS.p2 ?_ | refine LS.p3 ?_ | refine LS.p4 ?_ | refine LS.p5 ?_ | refine LS.p6 ?_ | refine LS.p7 ?_ | refine LS.p8 ?_ | refine LS.p9 ?_ | refine LS.p10 ?_ | refine LS.p11 ?_ | refine LS.p12 ?_ | (with_reducible refine LS.c ?_))) ⟨_, _, _, rfl, rfl⟩
theorem sstate_calls (T : Nat) (E : Nat → Addr) (sp bj mb bp : Nat) (id : Int) (j : Jn) (d : Int) (L : Heap) (hG : Er T E [2] L) (hl : j.l.length = 6) : HC Tryd.prog 81 [pt sp 0, iv d] (siC sp bj mb id :: jC bj bp j :: L) (fun v L' => L' = siC sp bj mb id :: jC bj bp j :: L ∧
    if d < 0 ∨ 6 ≤ d then v = .tuple ⟨[.agg ⟨[iv 0, iv 0, iv 0]⟩, eV T E (some 2)]⟩ else v = .tuple ⟨[.agg ⟨sc (j.l.getD d.toNat zeroE).s⟩, .nilIface]⟩) := by
  have kg := fun L hG => get_calls T E bj bp j d L hG hl
  by_cases h : d < 0 ∨ 6 ≤ d
  · simp only [if_pos h] at kg ⊢
    refine hc_enter (fun _ _ => Tryd.call81 _ _) Tryd.func81 rfl Tryd.ntmps81 (Nat.le_of_ble_eq_true rfl) ?_; simp only [args0, Nat.reduceAdd]
    repeat' (first | (show HW _ _ _ _ _ _; first | apply hw_seq | apply hw_region | apply hw_ret) | (show HO _ _ _ _ _ _ _; first | apply ho_nil | refine g_q (qe S) ?_ | refine g_q (ql S) ?_ | refine wa S (fun b => ?_) | refine ws S ?_) | apply seqQ_normal | apply seqQ_ret)
    refine fo 2 ?_
    refine gc (kg _ ((hG.cons _).cons _)) ?_
    rintro v L' ⟨rfl, rfl⟩
    repeat' (first | (show HW _ _ _ _ _ _; first | apply hw_seq | apply hw_region | apply hw_ret) | (show HO _ _ _ _ _ _ _; first | apply ho_nil | refine g_q (qe S) ?_ | refine g_q (ql S) ?_ | refine wa S (fun b => ?_) | refine ws S ?_) | apply seqQ_normal | apply seqQ_ret)
    exact sp2 (by repeat (first | (with_reducible first | refine LS.p0 ?_ | refine LS.p1 ?_ | refine LS.p2 ?_ | refine LS.p3 ?_ | refine LS.p4 ?_ | refine LS.p5 ?_ | refine LS.p6 ?_ | refine LS.p7 ?_ | refine LS.p8 ?_ | refine LS.p9 ?_ | refine LS.p10 ?_ | refine LS.p11 ?_ | refine LS.p12 ?_ | refine LS.e ?_ | exact LS.refl _) | refine LS.p0 ?_ | refine LS.p1 ?_ | refine LS.p2 ?_ | refine LS.p3 ?_ | refine LS.p4 ?_ | refine LS.p5 ?_ | refine LS.p6 ?_ | refine LS.p7 ?_ | refine LS.p8 ?_ | refine LS.p9 ?_ | refine LS.p10 ?_ | refine LS.p11 ?_ | refine LS.p12 ?_ | (with_reducible refine LS.c ?_))) ⟨rfl, rfl⟩ (hx := rcell S (hg := gets_cons rfl (gets_cons rfl (gets_cons rfl gets_nil))))
  · simp only [if_neg h] at kg ⊢
    refine hc_enter (fun _ _ => Tryd.call81 _ _) Tryd.func81 rfl Tryd.ntmps81 (Nat.le_of_ble_eq_true rfl) ?_; simp only [args0, Nat.reduceAdd]
    repeat' (first | (show HW _ _ _ _ _ _; first | apply hw_seq | apply hw_region | apply hw_ret) | (show HO _ _ _ _ _ _ _; first | apply ho_nil | refine g_q (qe S) ?_ | refine g_q (ql S) ?_ | refine wa S (fun b => ?_) | refine ws S ?_) | apply seqQ_normal | apply seqQ_ret)
    refine fo 2 ?_
    refine gc (kg _ ((hG.cons _).cons _)) ?_
    rintro v L' ⟨rfl, rfl⟩
    repeat' (first | (show HW _ _ _ _ _ _; first | apply hw_seq | apply hw_region | apply hw_ret) | (show HO _ _ _ _ _ _ _; first | apply ho_nil | refine g_q (qe S) ?_ | refine g_q (ql S) ?_ | refine wa S (fun b => ?_) | refine ws S ?_) | apply seqQ_normal | apply seqQ_ret)
    exact sp2 (by repeat (first | (with_reducible first | refine LS.p0 ?_ | refine LS.p1 ?_ | refine LS.p2 ?_ | refine LS.p3 ?_ | refine LS.p4 ?_ | refine LS.p5 ?_ | refine LS.p6 ?_ | refine LS.p7 ?_ | refine LS.p8 ?_ | refine LS.p9 ?_ | refine LS.p10 ?_ | refine LS.p11 ?_ | refine LS.p12 ?_ | refine LS.e ?_ | exact LS.refl _) | refine LS.p0 ?_ | refine LS.p1 ?_ | refine LS.p2 ?_ | refine LS.p3 ?_ | refine LS.p4 ?_ | refine LS.p5 ?_ | refine LS.p6 ?_ | refine LS.p7 ?_ | refine LS.p8 ?_ | refine LS.p9 ?_ | refine LS.p10 ?_ | refine LS.p11 ?_ | refine LS.p12 ?_ | (with_reducible refine LS.c ?_))) ⟨rfl, rfl⟩ (hx := rcell S (hg := gets_cons rfl (gets_cons rfl (gets_cons rfl gets_nil))))
theorem refuse_calls (T : Nat) (E : Nat → Addr) (sp bj mb bp : Nat) (id : Int) (es : List MapEntry) (ck : Nat) (ref : Int → Bool) (j : Jn) (d : Int) (L : Heap) (hG : Er T E [2] L) (hl : j.l.length = 6) (hF : MapF iv es ref) :
    HC Tryd.prog 78 [pt sp 0, iv d] (siC sp bj mb id :: mpC mb es ck :: jC bj bp j :: L) (fun v L' => if d < 0 ∨ 6 ≤ d then v = eV T E (some 2) ∧ L' = siC sp bj mb id :: mpC mb es ck :: jC bj bp j :: L
      else ∃ es' ck', MapF iv es' (fun x => if x = d then true else ref x) ∧ v = .nilIface ∧ L' = siC sp bj mb id :: mpC mb es' ck' :: jC bj bp j :: L) := by
  have kg := fun L hG => get_calls T E bj bp j d L hG hl
  by_cases h : d < 0 ∨ 6 ≤ d
  · simp only [if_pos h] at kg ⊢
    refine hc_enter (fun _ _ => Tryd.call78 _ _) Tryd.func78 rfl Tryd.ntmps78 (Nat.le_of_ble_eq_true rfl) ?_; simp only [args0, Nat.reduceAdd]
    repeat' (first | (show HW _ _ _ _ _ _; first | apply hw_seq | apply hw_region | refine g_t ?_ | refine g_f ?_ | (refine g_b (fun h => ?_) (fun h => ?_) <;> ((try simp only [Bool.not_eq_eq_eq_not, Bool.not_true, Bool.not_false, decide_eq_true_eq, decide_eq_false_iff_not, Decidable.not_not, ne_eq, Bool.and_eq_true, beq_iff_eq, and_true, true_and, eq_self, decide_true, Bool.and_true, Bool.true_and, reduceCtorEq, not_true_eq_false, not_false_eq_true] at h); (try (exfalso; first | omega | with_reducible exact h (by assumption) | with_reducible exact absurd h (by assumption))))) | apply hw_skip | apply hw_ret) | (show HO _ _ _ _ _ _ _; first | apply ho_nil | refine g_q (qe S) ?_ | refine g_q (ql S) ?_ | refine wa S (fun b => ?_) | refine ws S ?_) | apply seqQ_normal | apply seqQ_ret)
    refine fo 2 ?_
    refine gc (kg _ ((hG.cons _).cons _)) ?_
    rintro v L' ⟨rfl, rfl⟩
    repeat' (first | (show HW _ _ _ _ _ _; first | apply hw_seq | apply hw_region | refine g_t ?_ | refine g_f ?_ | (refine g_b (fun h => ?_) (fun h => ?_) <;> ((try simp only [Bool.not_eq_eq_eq_not, Bool.not_true, Bool.not_false, decide_eq_true_eq, decide_eq_false_iff_not, Decidable.not_not, ne_eq, Bool.and_eq_true, beq_iff_eq, and_true, true_and, eq_self, decide_true, Bool.and_true, Bool.true_and, reduceCtorEq, not_true_eq_false, not_false_eq_true] at h); (try (exfalso; first | omega | with_reducible exact h (by assumption) | with_reducible exact absurd h (by assumption))))) | apply hw_skip | apply hw_ret) | (show HO _ _ _ _ _ _ _; first | apply ho_nil | refine g_q (qe S) ?_ | refine g_q (ql S) ?_ | refine wa S (fun b => ?_) | refine ws S ?_) | apply seqQ_normal | apply seqQ_ret)
    exact sp1 (by repeat (first | (with_reducible first | refine LS.p0 ?_ | refine LS.p1 ?_ | refine LS.p2 ?_ | refine LS.p3 ?_ | refine LS.p4 ?_ | refine LS.p5 ?_ | refine LS.p6 ?_ | refine LS.p7 ?_ | refine LS.p8 ?_ | refine LS.p9 ?_ | refine LS.p10 ?_ | refine LS.p11 ?_ | refine LS.p12 ?_ | refine LS.e ?_ | exact LS.refl _) | refine LS.p0 ?_ | refine LS.p1 ?_ | refine LS.p2 ?_ | refine LS.p3 ?_ | refine LS.p4 ?_ | refine LS.p5 ?_ | refine LS.p6 ?_ | refine LS.p7 ?_ | refine LS.p8 ?_ | refine LS.p9 ?_ | refine LS.p10 ?_ | refine LS.p11 ?_ | refine LS.p12 ?_ | (with_reducible refine LS.c ?_))) ⟨rfl, rfl⟩
  · simp only [if_neg h] at kg ⊢
    refine hc_enter (fun _ _ => Tryd.call78 _ _) Tryd.func78 rfl Tryd.ntmps78 (Nat.le_of_ble_eq_true rfl) ?_; simp only [args0, Nat.reduceAdd]
    repeat' (first | (show HW _ _ _ _ _ _; first | apply hw_seq | apply hw_region | refine g_t ?_ | refine g_f ?_ | (refine g_b (fun h => ?_) (fun h => ?_) <;> ((try simp only [Bool.not_eq_eq_eq_not, Bool.not_true, Bool.not_false, decide_eq_true_eq, decide_eq_false_iff_not, Decidable.not_not, ne_eq, Bool.and_eq_true, beq_iff_eq, and_true, true_and, eq_self, decide_true, Bool.and_true, Bool.true_and, reduceCtorEq, not_true_eq_false, not_false_eq_true] at h); (try (exfalso; first | omega | with_reducible exact h (by assumption) | with_reducible exact absurd h (by assumption))))) | apply hw_skip | apply hw_ret) | (show HO _ _ _ _ _ _ _; first | apply ho_nil | refine g_q (qe S) ?_ | refine g_q (ql S) ?_ | refine wa S (fun b => ?_) | refine ws S ?_) | apply seqQ_normal | apply seqQ_ret)
    refine fo 2 ?_
    refine gc (kg _ ((hG.cons _).cons _)) ?_
    rintro v L' ⟨rfl, rfl⟩
    repeat' (first | (show HW _ _ _ _ _ _; first | apply hw_seq | apply hw_region | refine g_t ?_ | refine g_f ?_ | (refine g_b (fun h => ?_) (fun h => ?_) <;> ((try simp only [Bool.not_eq_eq_eq_not, Bool.not_true, Bool.not_false, decide_eq_true_eq, decide_eq_false_iff_not, Decidable.not_not, ne_eq, Bool.and_eq_true, beq_iff_eq, and_true, true_and, eq_self, decide_true, Bool.and_true, Bool.true_and, reduceCtorEq, not_true_eq_false, not_false_eq_true] at h); (try (exfalso; first | omega | with_reducible exact h (by assumption) | with_reducible exact absurd h (by assumption))))) | apply hw_skip | apply hw_ret) | (show HO _ _ _ _ _ _ _; first | apply ho_nil | refine g_q (qe S) ?_ | refine g_q (ql S) ?_ | refine wa S (fun b => ?_) | refine ws S ?_) | apply seqQ_normal | apply seqQ_ret)
    refine fo 3 ?_
    refine wmI S hF (fun es' ck' hF' => ?_)
    repeat' (first | (show HW _ _ _ _ _ _; first | apply hw_seq | apply hw_region | refine g_t ?_ | refine g_f ?_ | (refine g_b (fun h => ?_) (fun h => ?_) <;> ((try simp only [Bool.not_eq_eq_eq_not, Bool.not_true, Bool.not_false, decide_eq_true_eq, decide_eq_false_iff_not, Decidable.not_not, ne_eq, Bool.and_eq_true, beq_iff_eq, and_true, true_and, eq_self, decide_true, Bool.and_true, Bool.true_and, reduceCtorEq, not_true_eq_false, not_false_eq_true] at h); (try (exfalso; first | omega | with_reducible exact h (by assumption) | with_reducible exact absurd h (by assumption))))) | apply hw_skip | apply hw_ret) | (show HO _ _ _ _ _ _ _; first | apply ho_nil | refine g_q (qe S) ?_ | refine g_q (ql S) ?_ | refine wa S (fun b => ?_) | refine ws S ?_) | apply seqQ_normal | apply seqQ_ret)
    exact sp1 (by repeat (first | (with_reducible first | refine LS.p0 ?_ | refine LS.p1 ?_ | refine LS.p2 ?_ | refine LS.p3 ?_ | refine LS.p4 ?_ | refine LS.p5 ?_ | refine LS.p6 ?_ | refine LS.p7 ?_ | refine LS.p8 ?_ | refine LS.p9 ?_ | refine LS.p10 ?_ | refine LS.p11 ?_ | refine LS.p12 ?_ | refine LS.e ?_ | exact LS.refl _) | refine LS.p0 ?_ | refine LS.p1 ?_ | refine LS.p2 ?_ | refine LS.p3 ?_ | refine LS.p4 ?_ | refine LS.p5 ?_ | refine LS.p6 ?_ | refine LS.p7 ?_ | refine LS.p8 ?_ | refine LS.p9 ?_ | refine LS.p10 ?_ | refine LS.p11 ?_ | refine LS.p12 ?_ | (with_reducible refine LS.c ?_))) ⟨_, _, hF', rfl, rfl⟩
end Go.HL
end

/-! LdA -/
section
namespace Go.HL
open Go Go.Proofs
set_option linter.unusedVariables false
set_option linter.unusedSimpArgs false
abbrev FrVec (v : Value) (xs : List Fr) (c : List Blk) : Prop := Vec 45 9 fc v xs c
theorem fc_len (f : Fr) : (fc f).length = 9 := rfl
structure Ld where
  id : Int
  deal : Int
  att : Int
  w : List Int
  state : List UInt8
  wait : Int
  heard : Nat
  told : List St
  phase : Int
  seen : Int
def ldA (wv : Value) (m : Ld) : List Value := [iv m.id, iv m.deal, iv m.att, wv, bs m.state, iv m.wait, iv m.heard]
def ldL (wv : Value) (m : Ld) : List Value := ldA wv m ++ (m.told.map sc).flatten ++ [iv m.phase, iv m.seen]
attribute [local irreducible] HW HO HQ HD HC QOp Has Upd Puts Gets seqQ blkQ loopQ fnQ actQ nextP unQ MapF
attribute [local irreducible] ldL
end Go.HL
end

/-! StC -/
section
namespace Go.HL
open Go Go.Proofs
set_option linter.unusedVariables false
set_option linter.unusedSimpArgs false
/-- what a site hears: its plate, its journal, what it answers, its error -/
def siteM (id : Int) (ref : Int → Bool) (m : Pl) (j : Jn) (f : Fr) : Pl × Jn × List Fr × Option Nat :=
  if badF f then (m, j, [], some 2) else if f.to ≠ id then (m, j, [], some 3) else
  match (putM m j f.dl (turnM ref f (j.l.getD f.dl.toNat zeroE).s).1).2.2 with
  | some e => ((putM m j f.dl (turnM ref f (j.l.getD f.dl.toNat zeroE).s).1).1, (putM m j f.dl (turnM ref f (j.l.getD f.dl.toNat zeroE).s).1).2.1, [], some e)
  | none => ((putM m j f.dl (turnM ref f (j.l.getD f.dl.toNat zeroE).s).1).1, (putM m j f.dl (turnM ref f (j.l.getD f.dl.toNat zeroE).s).1).2.1,
    if (turnM ref f (j.l.getD f.dl.toNat zeroE).s).2.1 = 0 then [] else [⟨id, f.fr, f.dl, (turnM ref f (j.l.getD f.dl.toNat zeroE).s).2.1, f.att, (turnM ref f (j.l.getD f.dl.toNat zeroE).s).2.2, (turnM ref f (j.l.getD f.dl.toNat zeroE).s).1⟩], none)
theorem vec_one {α : Type} {E sz : Nat} {enc : α → List Value} {b : Nat} (x : α) (hsz : (enc x).length = sz) : Vec E sz enc (sl b 0 1 1) [x] [(b, .cells ⟨enc x⟩ E)] :=
  .inr ⟨b, 1, [], rfl, by simp, by simp [hsz], by simp, by simp [hsz]⟩
attribute [local irreducible] HW HO HQ HD HC QOp Has Upd Puts Gets seqQ blkQ loopQ fnQ actQ nextP unQ MapF
attribute [local irreducible] jcells plC putM turnM
set_option maxHeartbeats 1000000 in
theorem shear_calls (T : Nat) (E : Nat → Addr) (sp bj mb bp ba : Nat) (id : Int) (es : List MapEntry) (ck : Nat) (ref : Int → Bool) (m : Pl) (j : Jn) (f : Fr) (L : Heap) (hG : Er T E [2, 3, 5, 6] L) (hF : MapF iv es ref) (hm : PlOk m) (hj : JnOk j) :
    HC Tryd.prog 79 [pt sp 0, .agg ⟨fc f⟩] (siC sp bj mb id :: mpC mb es ck :: plC bp ba m :: jC bj bp j :: L) (fun v L' => ∃ fv c, v = .tuple ⟨[fv, eV T E (siteM id ref m j f).2.2.2]⟩ ∧ FrVec fv (siteM id ref m j f).2.2.1 c ∧
      L' = siC sp bj mb id :: mpC mb es ck :: plC bp ba (siteM id ref m j f).1 :: jC bj bp (siteM id ref m j f).2.1 :: c :: L) := by
  have hG4 := (((hG.cons (jC bj bp j)).cons (plC bp ba m)).cons (mpC mb es ck)).cons (siC sp bj mb id)
  have kc := fun L hG => wcheck_calls T E f L hG
  unfold siteM frameE at *
  by_cases hb : badF f
  · simp only [if_pos hb] at kc ⊢
    refine hc_enter (fun _ _ => Tryd.call79 _ _) Tryd.func79 rfl Tryd.ntmps79 (Nat.le_of_ble_eq_true rfl) ?_; simp only [args0, Nat.reduceAdd]
    repeat' (first | (show HW _ _ _ _ _ _; first | apply hw_seq | apply hw_region | refine g_t ?_ | refine g_f ?_ | (refine g_b (fun h => ?_) (fun h => ?_) <;> ((try simp only [Bool.not_eq_eq_eq_not, Bool.not_true, Bool.not_false, decide_eq_true_eq, decide_eq_false_iff_not, Decidable.not_not, ne_eq, Bool.and_eq_true, beq_iff_eq, and_true, true_and, eq_self, decide_true, Bool.and_true, Bool.true_and, reduceCtorEq, not_true_eq_false, not_false_eq_true] at h); (try (exfalso; first | omega | with_reducible exact h (by assumption) | with_reducible exact absurd h (by assumption))))) | apply hw_skip | apply hw_ret | refine g_k S ?_ | refine g_w S ?_) | (show HO _ _ _ _ _ _ _; first | apply ho_nil | refine g_q (qe S) ?_ | refine g_q (qg S) ?_ | refine g_q (ql S) ?_ | refine g_q (qs S) ?_ | refine g_q (qb S) ?_ | refine g_q (qbA S) ?_ | refine g_q (qC (kc _ (hG4.sub.cons _))) ?_ | refine wa S (fun b => ?_) | refine wb (fun b => ?_) | refine ws S ?_ | refine wS S (fun b => ?_) | refine wSa S (fun b => ?_) | refine wSn S (fun b => ?_)) | (show HQ _ _ _ _ _ _ _; first | apply hq_nil | refine k_q (qe S) ?_ | refine k_q (qg S) ?_ | refine k_q (ql S) ?_ | refine k_q (qs S) ?_ | refine k_q (qb S) ?_ | refine k_q (qbA S) ?_ | refine k_q (qC (kc _ (hG4.sub.cons _))) ?_) | (show HD _ _ _ _ _ _ _ _; first | apply hd_nil | refine d_q 100 (by exact rfl) (fun _ => qe S) ?_ | refine d_q 100 (by exact rfl) (fun _ => qb S) ?_ | refine d_q 100 (by exact rfl) (fun _ => qbA S) ?_ | refine dl S 100 ?_ | refine ds S 100 ?_ | refine dg S 100 (fun _ _ => ?_) | refine d_q 0 (by exact rfl) (fun _ => qC (kc _ (hG4.sub.cons _))) ?_ | refine d_q 1 (by exact rfl) (fun _ => qC (kc _ (hG4.sub.cons _))) ?_ | refine d_q 2 (by exact rfl) (fun _ => qC (kc _ (hG4.sub.cons _))) ?_ | refine d_q 3 (by exact rfl) (fun _ => qC (kc _ (hG4.sub.cons _))) ?_ | refine da 101 ?_) | refine dx ?_ | apply dx0 | refine dxd ?_ | refine dxk ?_ | apply seqQ_normal | apply seqQ_ret)
    exact sp2 (L' := siC sp bj mb id :: mpC mb es ck :: plC bp ba m :: jC bj bp j :: [] :: L) (LS.skip _ (LS.refl _)) ⟨_, [], rfl, vec_nil, rfl⟩
  simp only [if_neg hb] at kc ⊢
  by_cases hto : f.to = id
  · simp only [ne_eq, hto, not_true_eq_false, if_false]
    unfold badF at hb
    obtain ⟨fr0, to0, dl0, kd0, at0, ys0, fs0⟩ := f
    simp only at hb hto ⊢
    subst hto
    obtain ⟨d, rfl⟩ := Int.eq_ofNat_of_zero_le (show 0 ≤ dl0 by omega)
    have hd6 : d < 6 := by omega
    clear hb
    simp only [Int.toNat_natCast]
    have kg := fun L h => getOk_calls bj bp j d L h hj.len hd6
    generalize hst : (j.l.getD d zeroE).s = st at *
    have kt := fun L => turn_calls sp bj mb to0 es ck ref ⟨fr0, to0, d, kd0, at0, ys0, fs0⟩ st L hF
    generalize htr : turnM ref ⟨fr0, to0, d, kd0, at0, ys0, fs0⟩ st = tr at *
    have kp := put_calls T E bj bp ba m j d tr.1
    generalize hpr : putM m j d tr.1 = pr at *
    refine hc_enter (fun _ _ => Tryd.call79 _ _) Tryd.func79 rfl Tryd.ntmps79 (Nat.le_of_ble_eq_true rfl) ?_; simp only [args0, Nat.reduceAdd]
    repeat' (first | (show HW _ _ _ _ _ _; first | apply hw_seq | apply hw_region | refine g_t ?_ | refine g_f ?_ | (refine g_b (fun h => ?_) (fun h => ?_) <;> ((try simp only [Bool.not_eq_eq_eq_not, Bool.not_true, Bool.not_false, decide_eq_true_eq, decide_eq_false_iff_not, Decidable.not_not, ne_eq, Bool.and_eq_true, beq_iff_eq, and_true, true_and, eq_self, decide_true, Bool.and_true, Bool.true_and, reduceCtorEq, not_true_eq_false, not_false_eq_true] at h); (try (exfalso; first | omega | with_reducible exact h (by assumption) | with_reducible exact absurd h (by assumption))))) | apply hw_skip | apply hw_ret | refine g_k S ?_ | refine g_w S ?_) | (show HO _ _ _ _ _ _ _; first | apply ho_nil | refine g_q (qe S) ?_ | refine g_q (qg S) ?_ | refine g_q (ql S) ?_ | refine g_q (qs S) ?_ | refine g_q (qb S) ?_ | refine g_q (qbA S) ?_ | refine g_q (qC (kc _ (hG4.sub.cons _))) ?_ | refine wa S (fun b => ?_) | refine wb (fun b => ?_) | refine ws S ?_ | refine wS S (fun b => ?_) | refine wSa S (fun b => ?_) | refine wSn S (fun b => ?_)) | (show HQ _ _ _ _ _ _ _; first | apply hq_nil | refine k_q (qe S) ?_ | refine k_q (qg S) ?_ | refine k_q (ql S) ?_ | refine k_q (qs S) ?_ | refine k_q (qb S) ?_ | refine k_q (qbA S) ?_ | refine k_q (qC (kc _ (hG4.sub.cons _))) ?_) | (show HD _ _ _ _ _ _ _ _; first | apply hd_nil | refine d_q 100 (by exact rfl) (fun _ => qe S) ?_ | refine d_q 100 (by exact rfl) (fun _ => qb S) ?_ | refine d_q 100 (by exact rfl) (fun _ => qbA S) ?_ | refine dl S 100 ?_ | refine ds S 100 ?_ | refine dg S 100 (fun _ _ => ?_) | refine d_q 0 (by exact rfl) (fun _ => qC (kc _ (hG4.sub.cons _))) ?_ | refine d_q 1 (by exact rfl) (fun _ => qC (kc _ (hG4.sub.cons _))) ?_ | refine d_q 2 (by exact rfl) (fun _ => qC (kc _ (hG4.sub.cons _))) ?_ | refine d_q 3 (by exact rfl) (fun _ => qC (kc _ (hG4.sub.cons _))) ?_ | refine da 101 ?_) | refine dx ?_ | apply dx0 | refine dxd ?_ | refine dxk ?_ | apply seqQ_normal | apply seqQ_ret)
    refine dcF 0 [(bj, .cells ⟨jcells bp j⟩ 160)] (fun L hL => kg L (hL _ (List.mem_singleton.2 rfl))) (fun p hp => by
      rw [List.mem_singleton.1 hp]
      exact has_next (has_next (has_next (has_next has_here)))) ?_
    simp only [List.map_cons, List.map_nil, List.cons_append, List.nil_append]
    repeat' (first | (show HW _ _ _ _ _ _; first | apply hw_seq | apply hw_region | refine g_t ?_ | refine g_f ?_ | (refine g_b (fun h => ?_) (fun h => ?_) <;> ((try simp only [Bool.not_eq_eq_eq_not, Bool.not_true, Bool.not_false, decide_eq_true_eq, decide_eq_false_iff_not, Decidable.not_not, ne_eq, Bool.and_eq_true, beq_iff_eq, and_true, true_and, eq_self, decide_true, Bool.and_true, Bool.true_and, reduceCtorEq, not_true_eq_false, not_false_eq_true] at h); (try (exfalso; first | omega | with_reducible exact h (by assumption) | with_reducible exact absurd h (by assumption))))) | apply hw_skip | apply hw_ret | refine g_k S ?_ | refine g_w S ?_) | (show HO _ _ _ _ _ _ _; first | apply ho_nil | refine g_q (qe S) ?_ | refine g_q (qg S) ?_ | refine g_q (ql S) ?_ | refine g_q (qs S) ?_ | refine g_q (qb S) ?_ | refine g_q (qbA S) ?_ | refine g_q (qC (kc _ (hG4.sub.cons _))) ?_ | refine wa S (fun b => ?_) | refine wb (fun b => ?_) | refine ws S ?_ | refine wS S (fun b => ?_) | refine wSa S (fun b => ?_) | refine wSn S (fun b => ?_)) | (show HQ _ _ _ _ _ _ _; first | apply hq_nil | refine k_q (qe S) ?_ | refine k_q (qg S) ?_ | refine k_q (ql S) ?_ | refine k_q (qs S) ?_ | refine k_q (qb S) ?_ | refine k_q (qbA S) ?_ | refine k_q (qC (kc _ (hG4.sub.cons _))) ?_) | (show HD _ _ _ _ _ _ _ _; first | apply hd_nil | refine d_q 100 (by exact rfl) (fun _ => qe S) ?_ | refine d_q 100 (by exact rfl) (fun _ => qb S) ?_ | refine d_q 100 (by exact rfl) (fun _ => qbA S) ?_ | refine dl S 100 ?_ | refine ds S 100 ?_ | refine dg S 100 (fun _ _ => ?_) | refine d_q 0 (by exact rfl) (fun _ => qC (kc _ (hG4.sub.cons _))) ?_ | refine d_q 1 (by exact rfl) (fun _ => qC (kc _ (hG4.sub.cons _))) ?_ | refine d_q 2 (by exact rfl) (fun _ => qC (kc _ (hG4.sub.cons _))) ?_ | refine d_q 3 (by exact rfl) (fun _ => qC (kc _ (hG4.sub.cons _))) ?_ | refine da 101 ?_) | refine dx ?_ | apply dx0 | refine dxd ?_ | refine dxk ?_ | apply seqQ_normal | apply seqQ_ret)
    repeat' (first | (show HW _ _ _ _ _ _; first | apply hw_seq | apply hw_region | refine g_t ?_ | refine g_f ?_ | (refine g_b (fun h => ?_) (fun h => ?_) <;> ((try simp only [Bool.not_eq_eq_eq_not, Bool.not_true, Bool.not_false, decide_eq_true_eq, decide_eq_false_iff_not, Decidable.not_not, ne_eq, Bool.and_eq_true, beq_iff_eq, and_true, true_and, eq_self, decide_true, Bool.and_true, Bool.true_and, reduceCtorEq, not_true_eq_false, not_false_eq_true] at h); (try (exfalso; first | omega | with_reducible exact h (by assumption) | with_reducible exact absurd h (by assumption))))) | apply hw_skip | apply hw_ret | refine g_d S ?_) | (show HO _ _ _ _ _ _ _; first | apply ho_nil | refine g_q (qe S) ?_ | refine g_q (qg S) ?_ | refine g_q (ql S) ?_ | refine g_q (qs S) ?_ | refine g_q (qb S) ?_ | refine g_q (qbA S) ?_ | refine g_q (qC (hq2 kt 2 2)) ?_ | refine wa S (fun b => ?_) | refine wb (fun b => ?_) | refine ws S ?_ | refine wS S (fun b => ?_) | refine wSa S (fun b => ?_) | refine wSn S (fun b => ?_)) | (show HD _ _ _ _ _ _ _ _; first | apply hd_nil | refine d_q 100 (by exact rfl) (fun _ => qe S) ?_ | refine d_q 100 (by exact rfl) (fun _ => qb S) ?_ | refine d_q 100 (by exact rfl) (fun _ => qbA S) ?_ | refine dl S 100 ?_ | refine ds S 100 ?_ | refine dg S 100 (fun _ _ => ?_) | refine d_q 0 (by exact rfl) (fun _ => qC (hq2 kt 2 2)) ?_ | refine d_q 1 (by exact rfl) (fun _ => qC (hq2 kt 2 2)) ?_ | refine d_q 2 (by exact rfl) (fun _ => qC (hq2 kt 2 2)) ?_ | refine d_q 3 (by exact rfl) (fun _ => qC (hq2 kt 2 2)) ?_ | refine da 101 ?_) | refine dx ?_ | apply dx0 | refine dxd ?_ | refine dxk ?_ | apply seqQ_normal | apply seqQ_ret)
    refine fo 6 ?_
    refine fo 6 ?_
    refine gc (kp _ (((((hG.cons _).cons _).cons _).cons _).cons _).sub hm hj) ?_
    rintro v L' ⟨rfl, rfl⟩
    cases he : pr.2.2 with
    | some e =>
      simp only
      repeat' (first | (show HW _ _ _ _ _ _; first | apply hw_seq | apply hw_region | refine g_t ?_ | refine g_f ?_ | (refine g_b (fun h => ?_) (fun h => ?_) <;> ((try simp only [Bool.not_eq_eq_eq_not, Bool.not_true, Bool.not_false, decide_eq_true_eq, decide_eq_false_iff_not, Decidable.not_not, ne_eq, Bool.and_eq_true, beq_iff_eq, and_true, true_and, eq_self, decide_true, Bool.and_true, Bool.true_and, reduceCtorEq, not_true_eq_false, not_false_eq_true] at h); (try (exfalso; first | omega | with_reducible exact h (by assumption) | with_reducible exact absurd h (by assumption))))) | apply hw_skip | apply hw_ret | refine g_d S ?_) | (show HO _ _ _ _ _ _ _; first | apply ho_nil | refine g_q (qe S) ?_ | refine g_q (qg S) ?_ | refine g_q (ql S) ?_ | refine g_q (qs S) ?_ | refine g_q (qb S) ?_ | refine g_q (qbA S) ?_ | refine wa S (fun b => ?_) | refine wb (fun b => ?_) | refine ws S ?_ | refine wS S (fun b => ?_) | refine wSa S (fun b => ?_) | refine wSn S (fun b => ?_)) | (show HD _ _ _ _ _ _ _ _; first | apply hd_nil | refine d_q 100 (by exact rfl) (fun _ => qe S) ?_ | refine d_q 100 (by exact rfl) (fun _ => qb S) ?_ | refine d_q 100 (by exact rfl) (fun _ => qbA S) ?_ | refine dl S 100 ?_ | refine ds S 100 ?_ | refine dg S 100 (fun _ _ => ?_) | refine da 101 ?_) | refine dx ?_ | apply dx0 | refine dxd ?_ | refine dxk ?_ | apply seqQ_normal | apply seqQ_ret)
      exact sp2 (L' := siC sp bj mb to0 :: mpC mb es ck :: plC bp ba pr.1 :: jC bj bp pr.2.1 :: [] :: L) (by repeat (first | (with_reducible first | refine LS.p0 ?_ | refine LS.p1 ?_ | refine LS.p2 ?_ | refine LS.p3 ?_ | refine LS.p4 ?_ | refine LS.p5 ?_ | refine LS.p6 ?_ | refine LS.p7 ?_ | refine LS.p8 ?_ | refine LS.p9 ?_ | refine LS.p10 ?_ | refine LS.p11 ?_ | refine LS.p12 ?_ | refine LS.e ?_ | exact LS.refl _) | refine LS.p0 ?_ | refine LS.p1 ?_ | refine LS.p2 ?_ | refine LS.p3 ?_ | refine LS.p4 ?_ | refine LS.p5 ?_ | refine LS.p6 ?_ | refine LS.p7 ?_ | refine LS.p8 ?_ | refine LS.p9 ?_ | refine LS.p10 ?_ | refine LS.p11 ?_ | refine LS.p12 ?_ | (with_reducible refine LS.c ?_))) ⟨_, [], rfl, vec_nil, rfl⟩
    | none =>
      simp only
      by_cases hk : tr.2.1 = 0
      · simp only [if_pos hk]
        repeat' (first | (show HW _ _ _ _ _ _; first | apply hw_seq | apply hw_region | refine g_t ?_ | refine g_f ?_ | (refine g_b (fun h => ?_) (fun h => ?_) <;> ((try simp only [Bool.not_eq_eq_eq_not, Bool.not_true, Bool.not_false, decide_eq_true_eq, decide_eq_false_iff_not, Decidable.not_not, ne_eq, Bool.and_eq_true, beq_iff_eq, and_true, true_and, eq_self, decide_true, Bool.and_true, Bool.true_and, reduceCtorEq, not_true_eq_false, not_false_eq_true] at h); (try (exfalso; first | omega | with_reducible exact h (by assumption) | with_reducible exact absurd h (by assumption))))) | apply hw_skip | apply hw_ret | refine g_d S ?_) | (show HO _ _ _ _ _ _ _; first | apply ho_nil | refine g_q (qe S) ?_ | refine g_q (qg S) ?_ | refine g_q (ql S) ?_ | refine g_q (qs S) ?_ | refine g_q (qb S) ?_ | refine g_q (qbA S) ?_ | refine wa S (fun b => ?_) | refine wb (fun b => ?_) | refine ws S ?_ | refine wS S (fun b => ?_) | refine wSa S (fun b => ?_) | refine wSn S (fun b => ?_)) | (show HD _ _ _ _ _ _ _ _; first | apply hd_nil | refine d_q 100 (by exact rfl) (fun _ => qe S) ?_ | refine d_q 100 (by exact rfl) (fun _ => qb S) ?_ | refine d_q 100 (by exact rfl) (fun _ => qbA S) ?_ | refine dl S 100 ?_ | refine ds S 100 ?_ | refine dg S 100 (fun _ _ => ?_) | refine da 101 ?_) | refine dx ?_ | apply dx0 | refine dxd ?_ | refine dxk ?_ | apply seqQ_normal | apply seqQ_ret)
        exact sp2 (L' := siC sp bj mb to0 :: mpC mb es ck :: plC bp ba pr.1 :: jC bj bp pr.2.1 :: [] :: L) (by repeat (first | (with_reducible first | refine LS.p0 ?_ | refine LS.p1 ?_ | refine LS.p2 ?_ | refine LS.p3 ?_ | refine LS.p4 ?_ | refine LS.p5 ?_ | refine LS.p6 ?_ | refine LS.p7 ?_ | refine LS.p8 ?_ | refine LS.p9 ?_ | refine LS.p10 ?_ | refine LS.p11 ?_ | refine LS.p12 ?_ | refine LS.e ?_ | exact LS.refl _) | refine LS.p0 ?_ | refine LS.p1 ?_ | refine LS.p2 ?_ | refine LS.p3 ?_ | refine LS.p4 ?_ | refine LS.p5 ?_ | refine LS.p6 ?_ | refine LS.p7 ?_ | refine LS.p8 ?_ | refine LS.p9 ?_ | refine LS.p10 ?_ | refine LS.p11 ?_ | refine LS.p12 ?_ | (with_reducible refine LS.c ?_))) ⟨_, [], rfl, vec_nil, rfl⟩
      · simp only [if_neg hk]
        repeat' (first | (show HW _ _ _ _ _ _; first | apply hw_seq | apply hw_region | refine g_t ?_ | refine g_f ?_ | (refine g_b (fun h => ?_) (fun h => ?_) <;> ((try simp only [Bool.not_eq_eq_eq_not, Bool.not_true, Bool.not_false, decide_eq_true_eq, decide_eq_false_iff_not, Decidable.not_not, ne_eq, Bool.and_eq_true, beq_iff_eq, and_true, true_and, eq_self, decide_true, Bool.and_true, Bool.true_and, reduceCtorEq, not_true_eq_false, not_false_eq_true] at h); (try (exfalso; first | omega | with_reducible exact h (by assumption) | with_reducible exact absurd h (by assumption))))) | apply hw_skip | apply hw_ret | refine g_d S ?_) | (show HO _ _ _ _ _ _ _; first | apply ho_nil | refine g_q (qe S) ?_ | refine g_q (qg S) ?_ | refine g_q (ql S) ?_ | refine g_q (qs S) ?_ | refine g_q (qb S) ?_ | refine g_q (qbA S) ?_ | refine wa S (fun b => ?_) | refine wb (fun b => ?_) | refine ws S ?_ | refine wS S (fun b => ?_) | refine wSa S (fun b => ?_) | refine wSn S (fun b => ?_)) | (show HD _ _ _ _ _ _ _ _; first | apply hd_nil | refine d_q 100 (by exact rfl) (fun _ => qe S) ?_ | refine d_q 100 (by exact rfl) (fun _ => qb S) ?_ | refine d_q 100 (by exact rfl) (fun _ => qbA S) ?_ | refine dl S 100 ?_ | refine ds S 100 ?_ | refine dg S 100 (fun _ _ => ?_) | refine da 101 ?_) | refine dx ?_ | apply dx0 | refine dxd ?_ | refine dxk ?_ | apply seqQ_normal | apply seqQ_ret)
        exact sp2 (L' := siC sp bj mb to0 :: mpC mb es ck :: plC bp ba pr.1 :: jC bj bp pr.2.1 :: [(b, .cells ⟨fc ⟨to0, fr0, d, tr.2.1, at0, tr.2.2, tr.1⟩⟩ 45)] :: L) (LS.p6 (LS.p6 (LS.p1 (LS.p1 (LS.p0 (LS.c (LS.c (LS.c (LS.refl _))))))))) ⟨_, _, rfl, vec_one _ rfl, rfl⟩
  · simp only [ne_eq, hto, not_false_eq_true, if_true]
    refine hc_enter (fun _ _ => Tryd.call79 _ _) Tryd.func79 rfl Tryd.ntmps79 (Nat.le_of_ble_eq_true rfl) ?_; simp only [args0, Nat.reduceAdd]
    repeat' (first | (show HW _ _ _ _ _ _; first | apply hw_seq | apply hw_region | refine g_t ?_ | refine g_f ?_ | (refine g_b (fun h => ?_) (fun h => ?_) <;> ((try simp only [Bool.not_eq_eq_eq_not, Bool.not_true, Bool.not_false, decide_eq_true_eq, decide_eq_false_iff_not, Decidable.not_not, ne_eq, Bool.and_eq_true, beq_iff_eq, and_true, true_and, eq_self, decide_true, Bool.and_true, Bool.true_and, reduceCtorEq, not_true_eq_false, not_false_eq_true] at h); (try (exfalso; first | omega | with_reducible exact h (by assumption) | with_reducible exact absurd h (by assumption))))) | apply hw_skip | apply hw_ret | refine g_k S ?_ | refine g_w S ?_) | (show HO _ _ _ _ _ _ _; first | apply ho_nil | refine g_q (qe S) ?_ | refine g_q (qg S) ?_ | refine g_q (ql S) ?_ | refine g_q (qs S) ?_ | refine g_q (qb S) ?_ | refine g_q (qbA S) ?_ | refine g_q (qC (kc _ (hG4.sub.cons _))) ?_ | refine wa S (fun b => ?_) | refine wb (fun b => ?_) | refine ws S ?_ | refine wS S (fun b => ?_) | refine wSa S (fun b => ?_) | refine wSn S (fun b => ?_)) | (show HQ _ _ _ _ _ _ _; first | apply hq_nil | refine k_q (qe S) ?_ | refine k_q (qg S) ?_ | refine k_q (ql S) ?_ | refine k_q (qs S) ?_ | refine k_q (qb S) ?_ | refine k_q (qbA S) ?_ | refine k_q (qC (kc _ (hG4.sub.cons _))) ?_) | (show HD _ _ _ _ _ _ _ _; first | apply hd_nil | refine d_q 100 (by exact rfl) (fun _ => qe S) ?_ | refine d_q 100 (by exact rfl) (fun _ => qb S) ?_ | refine d_q 100 (by exact rfl) (fun _ => qbA S) ?_ | refine dl S 100 ?_ | refine ds S 100 ?_ | refine dg S 100 (fun _ _ => ?_) | refine d_q 0 (by exact rfl) (fun _ => qC (kc _ (hG4.sub.cons _))) ?_ | refine d_q 1 (by exact rfl) (fun _ => qC (kc _ (hG4.sub.cons _))) ?_ | refine d_q 2 (by exact rfl) (fun _ => qC (kc _ (hG4.sub.cons _))) ?_ | refine d_q 3 (by exact rfl) (fun _ => qC (kc _ (hG4.sub.cons _))) ?_ | refine da 101 ?_) | refine dx ?_ | apply dx0 | refine dxd ?_ | refine dxk ?_ | apply seqQ_normal | apply seqQ_ret)
    exact sp2 (L' := siC sp bj mb id :: mpC mb es ck :: plC bp ba m :: jC bj bp j :: [] :: L) (LS.skip _ (LS.refl _)) ⟨_, [], rfl, vec_nil, rfl⟩
end Go.HL
end

/-! JnN -/
section
namespace Go.HL
open Go Go.Proofs
set_option linter.unusedVariables false
set_option linter.unusedSimpArgs false
theorem rdN_foldl (s : List UInt8) (a : Nat) : s.foldl (fun n b => n * 256 + b.toNat) a = a * 256 ^ s.length + rdN s := by
  induction s generalizing a with
  | nil => simp [rdN]
  | cons b s ih =>
    rw [rdN, List.foldl_cons, List.foldl_cons, ih, ih]
    simp only [List.length_cons, Nat.pow_succ]
    have e : a * 256 * 256 ^ s.length = a * (256 ^ s.length * 256) := by rw [Nat.mul_assoc, Nat.mul_comm 256]
    rw [Nat.add_mul, e, Nat.zero_mul, Nat.zero_add]
    omega
theorem rdN_cons (b : UInt8) (s : List UInt8) : rdN (b :: s) = b.toNat * 256 ^ s.length + rdN s := by
  rw [rdN, List.foldl_cons, rdN_foldl]; simp
theorem bt_nat (n k : Nat) : (bt (n : Int) k).toNat = n / 256 ^ k % 256 := by
  have h := bt_val (n : Int) k
  have e : (n : Int) / 2 ^ (8 * k) % 256 = ((n / 256 ^ k % 256 : Nat) : Int) := by
    rw [Int.pow_mul]
    simp
  rw [e] at h
  exact Int.ofNat.inj h
theorem rdN_numB (n k : Nat) : rdN (numB (n : Int) k) = n % 256 ^ k := by
  induction k with
  | zero => simp [numB, rdN, Nat.mod_one]
  | succ k ih =>
    rw [numB, rdN_cons, ih, bt_nat, numB_len, Nat.pow_succ, Nat.mod_mul]
    rw [Nat.mul_comm, Nat.add_comm]
theorem rd_num {n : Int} {k : Nat} (h0 : 0 ≤ n) (h1 : n < 256 ^ k) : ((rdN (numB n k) : Nat) : Int) = n := by
  obtain ⟨n, rfl⟩ := Int.eq_ofNat_of_zero_le h0
  rw [rdN_numB, Nat.mod_eq_of_lt]
  exact Int.ofNat_lt.1 (by simpa using h1)
end Go.HL
end

/-! JnG -/
section
namespace Go.HL
open Go Go.Proofs
set_option linter.unusedVariables false
set_option linter.unusedSimpArgs false

structure EntOk (e : Ent) : Prop where
  n0 : 1 ≤ e.n
  n1 : e.n < 4294967296
  p0 : 0 ≤ e.s.ph
  p1 : e.s.ph ≤ 255
  r0 : 0 ≤ e.s.pr
  r1 : e.s.pr ≤ 1048576
  a0 : 0 ≤ e.s.att
  a1 : e.s.att ≤ 1048576
theorem parse_body {e : Ent} (h : EntOk e) (r : List UInt8) : parse (bodyM e ++ r) = e := by
  obtain ⟨n, ⟨p, q, a⟩⟩ := e
  have l1 := numB_len n 4
  have l2 := numB_len p 1
  have l3 := numB_len q 4
  have l4 := numB_len a 4
  have h1 := h.n0; have h2 := h.n1; have h3 := h.p0; have h4 := h.p1; have h5 := h.r0; have h6 := h.r1; have h7 := h.a0; have h8 := h.a1
  simp only at h1 h2 h3 h4 h5 h6 h7 h8
  have e1 : bodyM ⟨n, p, q, a⟩ ++ r = numB n 4 ++ (numB p 1 ++ (numB q 4 ++ (numB a 4 ++ (numB (crc (head ⟨n, p, q, a⟩)) 4 ++ r)))) := by simp [bodyM, head]
  have t1 : (bodyM ⟨n, p, q, a⟩ ++ r).take 4 = numB n 4 := by rw [e1, List.take_left' l1]
  have t2 : ((bodyM ⟨n, p, q, a⟩ ++ r).take 5).drop 4 = numB p 1 := by
    rw [e1, ← List.append_assoc, List.take_left' (by simp [l1, l2]), List.drop_left' l1]
  have t3 : ((bodyM ⟨n, p, q, a⟩ ++ r).take 9).drop 5 = numB q 4 := by
    rw [e1, ← List.append_assoc, ← List.append_assoc, List.take_left' (by simp [l1, l2, l3]), List.drop_left' (by simp [l1, l2])]
  have t4 : ((bodyM ⟨n, p, q, a⟩ ++ r).take 13).drop 9 = numB a 4 := by
    rw [e1, ← List.append_assoc, ← List.append_assoc, ← List.append_assoc, List.take_left' (by simp [l1, l2, l3, l4]), List.drop_left' (by simp [l1, l2, l3])]
  unfold parse
  rw [t1, t2, t3, t4, rd_num (by omega) (by omega), rd_num (by omega) (by omega), rd_num (by omega) (by omega), rd_num (by omega) (by omega)]
theorem held_body {e : Ent} (h : EntOk e) : heldM (e.n % 2) (bodyM e ++ commitB) = e := by
  rw [heldM_eq, parse_body h]
  rw [if_neg]
  have := h.n0
  simp
  omega
theorem heldM_n (k : Int) (s : List UInt8) (hs : 4 ≤ s.length) : 0 ≤ (heldM k s).n ∧ (heldM k s).n < 4294967296 := by
  rw [heldM_eq]
  split
  · simp
  · have := rdN_lt (s.take 4)
    rw [show (s.take 4).length = 4 by simp; omega] at this
    show 0 ≤ ((rdN (s.take 4) : Nat) : Int) ∧ ((rdN (s.take 4) : Nat) : Int) < 4294967296
    omega
theorem updE_n (a b : Ent) : (updE a b).n = max a.n b.n := by
  unfold updE
  split <;> omega
/-- the slots of bytes whose slot i is X -/
theorem slot_here (Pr X R : List UInt8) (i : Nat) (hP : Pr.length = i * 18) (hX : X.length = 18) : slot (Pr ++ X ++ R) i = X := by
  unfold slot
  rw [List.append_assoc, List.drop_left' hP, List.take_left' hX]
theorem slot_else (Pr X Y R : List UInt8) (i i' : Nat) (hP : Pr.length = i * 18) (hX : X.length = 18) (hY : Y.length = 18) (h : i' ≠ i) : slot (Pr ++ X ++ R) i' = slot (Pr ++ Y ++ R) i' := by
  unfold slot
  rcases Nat.lt_or_gt_of_ne h with h | h
  · have e : ∀ Z : List UInt8, ((Pr ++ Z ++ R).drop (i' * 18)).take 18 = (Pr.drop (i' * 18)).take 18 := fun Z => by
      rw [List.append_assoc, List.drop_append_of_le_length (by omega), List.take_append_of_le_length (by simp; omega)]
    rw [e, e]
  · have e : ∀ Z : List UInt8, Z.length = 18 → ((Pr ++ Z ++ R).drop (i' * 18)).take 18 = (R.drop (i' * 18 - (i * 18 + 18))).take 18 := fun Z hZ => by
      have hl : (Pr ++ Z).length = i * 18 + 18 := by simp [hP, hZ]
      rw [List.drop_append, hl, List.drop_of_length_le (by omega), List.nil_append]
    rw [e X hX, e Y hY]
theorem splice_mid (Pr S X R : List UInt8) (h : X.length = S.length) : splice (Pr ++ S ++ R) Pr.length X = Pr ++ X ++ R := by
  unfold splice
  have e1 : (Pr ++ S ++ R).take Pr.length = Pr := by rw [List.append_assoc, List.take_left' rfl]
  have e2 : (Pr ++ S ++ R).drop (Pr.length + X.length) = R := by rw [List.drop_left' (by simp [h])]
  rw [e1, e2]
end Go.HL
end

/-! JnH -/
section
namespace Go.HL
open Go Go.Proofs
set_option linter.unusedVariables false
set_option linter.unusedSimpArgs false

theorem write_on {b : List UInt8} {a : Int} {s : List UInt8} (h0 : 0 ≤ a) (h1 : a + s.length ≤ b.length) : writeM ⟨b, false, -1⟩ a s = (⟨splice b a.toNat s, false, -1⟩, none) := by
  unfold writeM lookM
  simp only [Bool.false_eq_true, if_false]
  rw [if_neg (by omega)]
  simp [wrOk, kM]
theorem read_on {b : List UInt8} {a : Int} {n : Int} (h0 : 0 ≤ a) (h2 : 0 ≤ n) (h1 : a + n ≤ b.length) : readM ⟨b, false, -1⟩ a n = ((b.drop a.toNat).take n.toNat, none) := by
  unfold readM lookM
  simp only [Bool.false_eq_true, if_false]
  rw [if_neg (by omega)]
/-- bytes cut at a slot -/
theorem cut_slot (b : List UInt8) (i : Nat) (h : i * 18 + 18 ≤ b.length) : ∃ Pr S c R, b = Pr ++ (S ++ [c]) ++ R ∧ Pr.length = i * 18 ∧ S.length = 17 := by
  have hd : i * 18 + 17 < b.length := by omega
  refine ⟨b.take (i * 18), (b.drop (i * 18)).take 17, b[i * 18 + 17], b.drop (i * 18 + 18), ?_, by simp; omega, by simp; omega⟩
  have e1 : b.drop (i * 18) = (b.drop (i * 18)).take 17 ++ b.drop (i * 18 + 17) := by
    have := (List.take_append_drop 17 (b.drop (i * 18))).symm
    rwa [List.drop_drop] at this
  have e2 : b.drop (i * 18 + 17) = b[i * 18 + 17] :: b.drop (i * 18 + 18) := List.drop_eq_getElem_cons hd
  have e3 := (List.take_append_drop (i * 18) b).symm
  rw [e1, e2] at e3
  simpa using e3
theorem splice_at {Pr S X R : List UInt8} {n : Nat} (hn : n = Pr.length) (h : X.length = S.length) : splice (Pr ++ S ++ R) n X = Pr ++ X ++ R := by
  subst hn; exact splice_mid Pr S X R h
theorem jw_on {b : List UInt8} {d : Nat} {e : Ent} (hl : 216 ≤ b.length) (hd : d < 6) (he : 0 ≤ e.n) : ∃ Pr S c R, b = Pr ++ (S ++ [c]) ++ R ∧ Pr.length = (2 * d + (e.n % 2).toNat) * 18 ∧ S.length = 17 ∧
    jwM ⟨b, false, -1⟩ d e = (⟨Pr ++ (bodyM e ++ commitB) ++ R, false, -1⟩, none) := by
  have hk : 0 ≤ e.n % 2 ∧ e.n % 2 < 2 := by omega
  obtain ⟨Pr, S, c, R, hb, hP, hS⟩ := cut_slot b (2 * d + (e.n % 2).toNat) (by omega)
  refine ⟨Pr, S, c, R, hb, hP, hS, ?_⟩
  have hlen : b.length = (2 * d + (e.n % 2).toNat) * 18 + 18 + R.length := by rw [hb]; simp [hP, hS]; omega
  have ha : jAt d e = ((Pr.length : Nat) : Int) := by unfold jAt; omega
  have lb := bodyM_len e
  have r1 : readM ⟨b, false, -1⟩ (jAt d e + 18 - 1) 1 = ([c], none) := by
    rw [read_on (by omega) (by omega) (by omega)]
    have e1 : (jAt (d : Int) e + 18 - 1).toNat = (Pr ++ S).length := by simp [hS]; omega
    rw [e1, hb, ← List.append_assoc, List.append_assoc (Pr ++ S), List.drop_left' rfl]
    rfl
  have w1 : ∃ c', jw1 ⟨b, false, -1⟩ d e = (⟨Pr ++ (S ++ [c']) ++ R, false, -1⟩, none) := by
    unfold jw1
    rw [r1]
    simp only
    split
    · exact ⟨c, by rw [hb]⟩
    · refine ⟨0, ?_⟩
      rw [write_on (by omega) (by simp; omega), hb]
      rw [show Pr ++ (S ++ [c]) ++ R = (Pr ++ S) ++ [c] ++ R by simp, splice_at (S := [c]) (X := [0]) (by simp [hS]; omega) rfl]
      simp
  obtain ⟨c', w1⟩ := w1
  have w2 : jw2 ⟨b, false, -1⟩ d e = (⟨Pr ++ (bodyM e ++ [c']) ++ R, false, -1⟩, none) := by
    unfold jw2
    rw [w1]
    simp only
    rw [write_on (by omega) (by simp [lb, hS]; omega)]
    rw [show Pr ++ (S ++ [c']) ++ R = Pr ++ S ++ ([c'] ++ R) by simp, splice_at (by omega) (by omega)]
    simp
  unfold jwM
  rw [w2]
  simp only
  rw [write_on (by omega) (by simp [lb, commitB]; omega)]
  rw [show Pr ++ (bodyM e ++ [c']) ++ R = (Pr ++ bodyM e) ++ [c'] ++ R by simp, splice_at (S := [c']) (X := commitB) (by simp [lb]; omega) rfl]
  simp
theorem part1_n {b : List UInt8} {d : Nat} (hd : d < 6) (hl : 216 ≤ b.length) (k : Nat) (hk : k ≤ 2) : 0 ≤ (partE b d k).n ∧ (partE b d k).n < 4294967296 := by
  induction k with
  | zero => simp [partE, zeroE]
  | succ k ih =>
    have h1 := ih (by omega)
    have h2 := heldM_n k (slot b (2 * d + k)) (by rw [slot_len _ _ (by omega) hl]; omega)
    rw [partE, updE_n]
    omega
/-- what is opened behind an entry -/
theorem deal_new {b b' : List UInt8} {d : Nat} {e : Ent} (hl : 216 ≤ b.length) (hd : d < 6) (he : EntOk e) (hn : e.n = (dealM b d).n + 1) {Pr S R : List UInt8} (hb : b = Pr ++ S ++ R) (hb' : b' = Pr ++ (bodyM e ++ commitB) ++ R) (hP : Pr.length = (2 * d + (e.n % 2).toNat) * 18) (hS : S.length = 18) :
    openM b' = (openM b).set d e := by
  have hX : (bodyM e ++ commitB).length = 18 := by simp [bodyM_len, commitB]
  have hk : e.n % 2 = 0 ∨ e.n % 2 = 1 := by omega
  have here : slot b' (2 * d + (e.n % 2).toNat) = bodyM e ++ commitB := by rw [hb']; exact slot_here _ _ _ _ hP hX
  have els : ∀ i, i ≠ 2 * d + (e.n % 2).toNat → slot b' i = slot b i := fun i hi => by rw [hb, hb']; exact slot_else _ _ _ _ _ _ hP hX hS hi
  have hh := held_body he
  have h0 := he.n0
  have hd2 : dealM b' d = e := by
    have q1 : dealM b d = updE (updE zeroE (heldM 0 (slot b (2 * d + 0)))) (heldM 1 (slot b (2 * d + 1))) := rfl
    have q2 : dealM b' d = updE (updE zeroE (heldM 0 (slot b' (2 * d + 0)))) (heldM 1 (slot b' (2 * d + 1))) := rfl
    have m1 : (dealM b d).n = max (max 0 (heldM 0 (slot b (2 * d + 0))).n) (heldM 1 (slot b (2 * d + 1))).n := by rw [q1, updE_n, updE_n]; rfl
    rcases hk with hk | hk
    · rw [hk] at here hh els
      rw [q2, show slot b' (2 * d + 0) = bodyM e ++ commitB from here, hh, els (2 * d + 1) (by simp)]
      have u1 : updE zeroE e = e := by unfold updE; rw [if_pos (by show (0 : Int) < e.n; omega)]
      rw [u1]
      unfold updE
      rw [if_neg (by omega)]
    · rw [hk] at here hh els
      rw [q2, show slot b' (2 * d + 1) = bodyM e ++ commitB from here, hh, els (2 * d + 0) (by simp)]
      have u1 : (updE zeroE (heldM 0 (slot b (2 * d + 0)))).n = max 0 (heldM 0 (slot b (2 * d + 0))).n := by rw [updE_n]; rfl
      generalize updE zeroE (heldM 0 (slot b (2 * d + 0))) = u at *
      unfold updE
      rw [if_pos (by omega)]
  have hdo : ∀ i, i ≠ d → dealM b' i = dealM b i := fun i hi => by
    unfold dealM partE partE partE
    rw [els (2 * i + 0) (by omega), els (2 * i + 1) (by omega)]
  apply List.ext_getElem?
  intro i
  rw [List.getElem?_set]
  by_cases hi : d = i
  · subst hi
    simp [openM, hd, hd2]
  · simp only [hi, if_false, openM, List.getElem?_map]
    by_cases h6 : i < 6
    · simp [h6, hdo i (fun h => hi h.symm)]
    · simp [h6]
structure Good (m : Pl) (j : Jn) : Prop where
  off : m.off = false
  cut : m.cut = -1
  lo : 216 ≤ m.b.length
  hi : m.b.length ≤ 1000000
  dead : j.dead = false
  l : j.l = openM m.b
theorem openM_get {b : List UInt8} {d : Nat} (hd : d < 6) : (openM b).getD d zeroE = dealM b d := by simp [openM, hd]
theorem open_ok {b : List UInt8} (hl : 216 ≤ b.length) : JnOk ⟨openM b, false⟩ := by
  have key : ∀ d, 0 ≤ ((openM b).getD d zeroE).n ∧ ((openM b).getD d zeroE).n < 4294967296 := fun d => by
    by_cases hd : d < 6
    · rw [openM_get hd]; exact part1_n hd hl 2 (by omega)
    · simp [openM, hd, zeroE]
  exact ⟨by simp [openM], fun d => (key d).1, fun d => by have := (key d).2; show ((openM b).getD d zeroE).n ≤ _; omega⟩
theorem Good.ok {m : Pl} {j : Jn} (h : Good m j) : PlOk m ∧ JnOk j := by
  obtain ⟨jl, jd⟩ := j
  have h1 := h.dead
  have h2 := h.l
  simp only at h1 h2
  subst h1; subst h2
  exact ⟨⟨h.hi, by rw [h.cut]; decide, by rw [h.cut]; decide⟩, open_ok h.lo⟩
/-- a Put, the power being there -/
theorem put_on {m : Pl} {j : Jn} (h : Good m j) (deal : Int) (s : St) : ((putM m j deal s).2.2 ≠ none ∧ (putM m j deal s).1 = m ∧ (putM m j deal s).2.1 = j) ∨
    ((putM m j deal s).2.2 = none ∧ 0 ≤ deal ∧ deal < 6 ∧ Good (putM m j deal s).1 (putM m j deal s).2.1 ∧ (putM m j deal s).1.b.length = m.b.length ∧ (putM m j deal s).2.1.l.map Ent.s = (j.l.map Ent.s).set deal.toNat s ∧ ((putM m j deal s).2.1.l.getD deal.toNat zeroE).s = s ∧ ¬ badPut deal s) := by
  obtain ⟨b, off, cut⟩ := m
  obtain ⟨jl, dead⟩ := j
  obtain ⟨h1, h2, h3, h4, h5, h6⟩ := h
  simp only at h1 h2 h3 h4 h5 h6
  subst h1; subst h2; subst h5; subst h6
  unfold putM
  simp only [Bool.false_eq_true, if_false]
  by_cases hb : badPut deal s
  · rw [if_pos hb]; exact .inl ⟨by simp, rfl, rfl⟩
  · rw [if_neg hb]
    have hb2 := hb
    unfold badPut at hb2
    obtain ⟨d, rfl⟩ := Int.eq_ofNat_of_zero_le (show 0 ≤ deal by omega)
    have hd : d < 6 := by omega
    simp only [Int.toNat_natCast, openM_get hd]
    have hlen : (openM b).length = 6 := by simp [openM]
    by_cases he : (dealM b d).s = s
    · rw [if_pos he]
      refine .inr ⟨rfl, by omega, by omega, ⟨rfl, rfl, h3, h4, rfl, rfl⟩, rfl, ?_, by rw [openM_get hd]; exact he, hb⟩
      apply List.ext_getElem?
      intro i
      rw [List.getElem?_set]
      split
      · rename_i hi
        subst hi
        simp [openM, hd, he]
      · rfl
    · rw [if_neg he]
      by_cases hf : 4294967296 ≤ (dealM b d).n + 1
      · rw [if_pos hf]; exact .inl ⟨by simp, rfl, rfl⟩
      · rw [if_neg hf]
        have hn := part1_n hd h3 2 (by omega)
        have hn' : 0 ≤ (dealM b d).n ∧ (dealM b d).n < 4294967296 := hn
        obtain ⟨Pr, S, c, R, e1, e2, e3, e4⟩ := jw_on (b := b) (d := d) (e := ⟨(dealM b d).n + 1, s⟩) h3 hd (by simp only; omega)
        rw [e4]
        have hok : EntOk ⟨(dealM b d).n + 1, s⟩ := ⟨by simp only; omega, by simp only; omega, by simp only; omega, by simp only; omega, by simp only; omega, by simp only; omega, by simp only; omega, by simp only; omega⟩
        have hnew := deal_new (b' := Pr ++ (bodyM ⟨(dealM b d).n + 1, s⟩ ++ commitB) ++ R) h3 hd hok rfl e1 rfl e2 (by simp [e3])
        have hL : (Pr ++ (bodyM ⟨(dealM b d).n + 1, s⟩ ++ commitB) ++ R).length = b.length := by rw [e1]; simp [bodyM_len, commitB, e3]
        refine .inr ⟨rfl, by omega, by omega, ⟨rfl, rfl, by rw [hL]; exact h3, by rw [hL]; exact h4, rfl, hnew.symm⟩, hL, by simp [List.map_set], by simp [List.getD, hlen, hd], hb⟩
theorem open_zeros {n : Nat} (h : 216 ≤ n) : openM (zeros n) = List.replicate 6 zeroE := by
  have hs : ∀ i, i < 12 → slot (zeros n) i = zeros 18 := fun i hi => by
    unfold slot zeros
    rw [List.drop_replicate, List.take_replicate, Nat.min_eq_left (by omega)]
  have hh : ∀ k, heldM k (zeros 18) = zeroE := fun k => by
    rw [heldM_eq, if_pos (.inl (by decide))]; rfl
  have hd : ∀ d, d < 6 → dealM (zeros n) d = zeroE := fun d hd => by
    unfold dealM partE partE partE
    rw [hs _ (by omega), hs _ (by omega), hh, hh]
    rfl
  apply List.ext_getElem?
  intro i
  by_cases h : i < 6
  · rw [List.getElem?_replicate, if_pos h]; simp [openM, h, hd i h]
  · simp [openM, h]
theorem good_new {n : Nat} (h : 216 ≤ n) (h2 : n ≤ 1000000) : Good ⟨zeros n, false, -1⟩ ⟨openM (zeros n), false⟩ := ⟨rfl, rfl, by simpa [zeros] using h, by simpa [zeros] using h2, rfl, rfl⟩
theorem zeros_len (n : Nat) : (zeros n).length = n := by simp [zeros]
end Go.HL
end

/-! JnK -/
section
namespace Go.HL
open Go Go.Proofs
set_option linter.unusedVariables false
set_option linter.unusedSimpArgs false
/-- so many bytes less until power fails -/
def cutBy (c : Int) (n : Nat) : Int := if c = -1 then -1 else c - n
theorem writeC {b : List UInt8} {c a : Int} {s : List UInt8} (h0 : 0 ≤ a) (h1 : a + s.length ≤ b.length) :
    writeM ⟨b, false, c⟩ a s = wrOk ⟨b, false, c⟩ a.toNat s := by
  unfold writeM lookM
  simp only [Bool.false_eq_true, if_false]
  rw [if_neg (by omega)]
theorem wrOk_all {b : List UInt8} {c : Int} {a : Nat} {s : List UInt8} (h : c = -1 ∨ s.length ≤ c.toNat) : wrOk ⟨b, false, c⟩ a s = (⟨splice b a s, false, cutBy c s.length⟩, none) := by
  have hk : kM ⟨b, false, c⟩ s.length = s.length := by
    unfold kM; split
    · rfl
    · rcases h with h | h
      · contradiction
      · simp only; omega
  simp [wrOk, hk, cutBy]
theorem wrOk_part {b : List UInt8} {c : Int} {a : Nat} {s : List UInt8} (h0 : 0 ≤ c) (h : c.toNat < s.length) : wrOk ⟨b, false, c⟩ a s = (⟨splice b a (s.take c.toNat), true, 0⟩, some 6) := by
  have hk : kM ⟨b, false, c⟩ s.length = c.toNat := by
    unfold kM; rw [if_neg (by simp only; omega)]; simp only; omega
  simp only [wrOk, hk]
  rw [if_neg (by omega), if_pos h]
  simp [h]
  omega
theorem read_C {b : List UInt8} {c a : Int} {n : Int} (h0 : 0 ≤ a) (h2 : 0 ≤ n) (h1 : a + n ≤ b.length) : readM ⟨b, false, c⟩ a n = ((b.drop a.toNat).take n.toNat, none) := by
  unfold readM lookM
  simp only [Bool.false_eq_true, if_false]
  rw [if_neg (by omega)]
/-- the outcome of an entry's write at a slot -/
def JW (b : List UInt8) (Pr R : List UInt8) (e : Ent) (r : Pl × Option Nat) : Prop :=
  (r.2 = none ∧ r.1.off = false ∧ r.1.b = Pr ++ (bodyM e ++ commitB) ++ R ∧ -1 ≤ r.1.cut) ∨
  (r.2 = some 6 ∧ r.1.off = true ∧ r.1.cut = 0 ∧ (r.1.b = b ∨ ∃ X, X.length = 17 ∧ r.1.b = Pr ++ (X ++ [0]) ++ R))
theorem jw_cut {b : List UInt8} {ct : Int} {d : Nat} {e : Ent} (hct : -1 ≤ ct) (hl : 216 ≤ b.length) (hd : d < 6) (he : 0 ≤ e.n) : ∃ Pr S c R, b = Pr ++ (S ++ [c]) ++ R ∧ Pr.length = (2 * d + (e.n % 2).toNat) * 18 ∧ S.length = 17 ∧
    JW b Pr R e (jwM ⟨b, false, ct⟩ d e) := by
  have hk : 0 ≤ e.n % 2 ∧ e.n % 2 < 2 := by omega
  obtain ⟨Pr, S, c, R, hb, hP, hS⟩ := cut_slot b (2 * d + (e.n % 2).toNat) (by omega)
  refine ⟨Pr, S, c, R, hb, hP, hS, ?_⟩
  have hlen : b.length = (2 * d + (e.n % 2).toNat) * 18 + 18 + R.length := by rw [hb]; simp [hP, hS]; omega
  have ha : jAt d e = ((Pr.length : Nat) : Int) := by unfold jAt; omega
  have lb := bodyM_len e
  have r1 : readM ⟨b, false, ct⟩ (jAt d e + 18 - 1) 1 = ([c], none) := by
    rw [read_C (by omega) (by omega) (by omega)]
    have e1 : (jAt (d : Int) e + 18 - 1).toNat = (Pr ++ S).length := by simp [hS]; omega
    rw [e1, hb, ← List.append_assoc, List.append_assoc (Pr ++ S), List.drop_left' rfl]
    rfl
  have w1 : (∃ c1, -1 ≤ c1 ∧ jw1 ⟨b, false, ct⟩ d e = (⟨Pr ++ (S ++ [0]) ++ R, false, c1⟩, none)) ∨ jw1 ⟨b, false, ct⟩ d e = (⟨b, true, 0⟩, some 6) := by
    unfold jw1
    rw [r1]
    simp only
    split
    · rename_i h
      refine .inl ⟨ct, hct, ?_⟩
      rw [hb, show c = 0 by simpa using h]
    · have hz : Pr ++ (S ++ [c]) ++ R = (Pr ++ S) ++ [c] ++ R := by simp
      rw [writeC (by omega) (by simp; omega)]
      by_cases hc : ct = -1 ∨ 1 ≤ ct.toNat
      · refine .inl ⟨cutBy ct 1, by unfold cutBy; split <;> omega, ?_⟩
        rw [wrOk_all (by simpa using hc), hb, hz, splice_at (S := [c]) (X := [0]) (by simp [hS]; omega) rfl]
        simp
      · refine .inr ?_
        rw [wrOk_part (by omega) (by simp; omega), show ct.toNat = 0 by omega]
        simp [splice_nil]
  unfold JW jwM jw2
  rcases w1 with ⟨c1, hc1, w1⟩ | w1
  · rw [w1]
    simp only
    have hl1 : (Pr ++ (S ++ [0]) ++ R).length = b.length := by rw [hb]; simp
    have hz : Pr ++ (S ++ [0]) ++ R = Pr ++ S ++ ([0] ++ R) := by simp
    rw [writeC (by omega) (by rw [hl1]; omega)]
    by_cases hc : c1 = -1 ∨ 17 ≤ c1.toNat
    · rw [wrOk_all (by rw [lb]; exact hc), hz, splice_at (by omega) (by omega)]
      simp only
      have hl2 : (Pr ++ bodyM e ++ ([0] ++ R)).length = b.length := by rw [hb]; simp [lb, hS]
      have hz2 : Pr ++ bodyM e ++ ([0] ++ R) = (Pr ++ bodyM e) ++ [0] ++ R := by simp
      have hc2 : -1 ≤ cutBy c1 17 := by unfold cutBy; split <;> omega
      rw [lb, writeC (by omega) (by rw [hl2]; simp [commitB]; omega)]
      by_cases hc3 : cutBy c1 17 = -1 ∨ 1 ≤ (cutBy c1 17).toNat
      · left
        rw [wrOk_all (by simpa [commitB] using hc3), hz2, splice_at (S := [0]) (X := commitB) (by simp [lb]; omega) rfl]
        refine ⟨rfl, rfl, by simp, ?_⟩
        show -1 ≤ cutBy (cutBy c1 17) 1
        generalize cutBy c1 17 = q at *
        unfold cutBy; split <;> omega
      · right
        rw [wrOk_part (by omega) (by simp [commitB]; omega), show (cutBy c1 17).toNat = 0 by omega]
        refine ⟨rfl, rfl, rfl, .inr ⟨bodyM e, lb, ?_⟩⟩
        simp [splice_nil]
    · right
      rw [wrOk_part (by omega) (by omega), hz]
      refine ⟨rfl, rfl, rfl, .inr ⟨(bodyM e).take c1.toNat ++ S.drop c1.toNat, by simp [lb, hS]; omega, ?_⟩⟩
      have hS2 : S = S.take c1.toNat ++ S.drop c1.toNat := (List.take_append_drop _ _).symm
      have : Pr ++ S ++ ([0] ++ R) = Pr ++ S.take c1.toNat ++ (S.drop c1.toNat ++ ([0] ++ R)) := by
        rw [← List.append_assoc (Pr ++ S.take c1.toNat), List.append_assoc Pr (S.take c1.toNat), ← hS2]
      show splice (Pr ++ S ++ ([0] ++ R)) _ _ = _
      rw [this, splice_at (by omega) (by simp [lb, hS])]
      simp
  · right
    rw [w1]
    exact ⟨rfl, rfl, rfl, .inl rfl⟩
theorem held_zero {k : Int} {X : List UInt8} : heldM k (X ++ [0]) = zeroE := by
  rw [heldM_eq]
  split
  · rfl
  · rename_i h
    exfalso
    apply h
    right; right
    intro e
    have := congrArg List.getLast? e
    simp [commitB] at this
theorem held_par {k : Int} {s : List UInt8} (h : (heldM k s).n ≠ 0) : (heldM k s).n % 2 = k := by
  rw [heldM_eq] at *
  split at h
  · exact absurd rfl h
  · rename_i hc
    rw [if_neg hc]
    by_cases e : (parse s).n % 2 = k
    · exact e
    · exact absurd (.inr (.inl e)) hc
/-- a slot that held no newest entry is lost: nothing is -/
theorem deal_zap {b b' : List UInt8} {d : Nat} (hl : 216 ≤ b.length) (hd : d < 6) {Pr S R X : List UInt8} {st : Int} (hst : st = ((dealM b d).n + 1) % 2) (hb : b = Pr ++ S ++ R) (hb' : b' = Pr ++ (X ++ [0]) ++ R) (hP : Pr.length = (2 * d + st.toNat) * 18) (hS : S.length = 18) (hX : X.length = 17) :
    openM b' = openM b := by
  have hX' : (X ++ [0]).length = 18 := by simp [hX]
  have hk : st = 0 ∨ st = 1 := by omega
  have here : slot b' (2 * d + st.toNat) = X ++ [0] := by rw [hb']; exact slot_here _ _ _ _ hP hX'
  have els : ∀ i, i ≠ 2 * d + st.toNat → slot b' i = slot b i := fun i hi => by rw [hb, hb']; exact slot_else _ _ _ _ _ _ hP hX' hS hi
  have q1 : dealM b d = updE (updE zeroE (heldM 0 (slot b (2 * d + 0)))) (heldM 1 (slot b (2 * d + 1))) := rfl
  have q2 : dealM b' d = updE (updE zeroE (heldM 0 (slot b' (2 * d + 0)))) (heldM 1 (slot b' (2 * d + 1))) := rfl
  have m1 : (dealM b d).n = max (max 0 (heldM 0 (slot b (2 * d + 0))).n) (heldM 1 (slot b (2 * d + 1))).n := by rw [q1, updE_n, updE_n]; rfl
  have l0 := slot_len b (2 * d + 0) (by omega) hl
  have l1 := slot_len b (2 * d + 1) (by omega) hl
  have n0 := heldM_n 0 (slot b (2 * d + 0)) (by omega)
  have n1 := heldM_n 1 (slot b (2 * d + 1)) (by omega)
  have p0 := held_par (k := 0) (s := slot b (2 * d + 0))
  have p1 := held_par (k := 1) (s := slot b (2 * d + 1))
  have hz : ∀ e : Ent, e.n = 0 → updE zeroE e = zeroE := fun e h => by unfold updE; rw [if_neg (by show ¬ (0 : Int) < e.n; omega)]
  have hd2 : dealM b' d = dealM b d := by
    rcases hk with rfl | rfl
    · rw [q2, show slot b' (2 * d + 0) = X ++ [0] from here, held_zero, els (2 * d + 1) (by simp), q1]
      generalize heldM 0 (slot b (2 * d + 0)) = u at *
      generalize heldM 1 (slot b (2 * d + 1)) = v at *
      have hzz : updE zeroE zeroE = zeroE := by unfold updE; rw [if_neg (by show ¬ (0 : Int) < 0; omega)]
      rw [hzz]
      have hun : (updE zeroE u).n = max 0 u.n := by rw [updE_n]; rfl
      generalize hw : updE zeroE u = w at *
      have hlt : w.n < v.n := by
        by_cases hu0 : u.n = 0
        · omega
        · have := p0 hu0
          omega
      unfold updE
      rw [if_pos (by show (0 : Int) < v.n; omega), if_pos hlt]
    · rw [q2, show slot b' (2 * d + 1) = X ++ [0] from here, held_zero, els (2 * d + 0) (by simp), q1]
      generalize heldM 0 (slot b (2 * d + 0)) = u at *
      generalize heldM 1 (slot b (2 * d + 1)) = v at *
      have hun : (updE zeroE u).n = max 0 u.n := by rw [updE_n]; rfl
      generalize updE zeroE u = w at *
      have hle : v.n ≤ w.n := by
        by_cases hv0 : v.n = 0
        · omega
        · have := p1 hv0
          omega
      unfold updE
      rw [if_neg (by show ¬ w.n < (0 : Int); omega), if_neg (by omega)]
  have hdo : ∀ i, i ≠ d → dealM b' i = dealM b i := fun i hi => by
    unfold dealM partE partE partE
    rw [els (2 * i + 0) (by omega), els (2 * i + 1) (by omega)]
  unfold openM
  apply List.map_congr_left
  intro i hi
  by_cases e : i = d
  · subst e; exact hd2
  · exact hdo i e
/-- a plate and its journal: both alive, or neither -/
structure JI (m : Pl) (j : Jn) : Prop where
  lo : 216 ≤ m.b.length
  hi : m.b.length ≤ 1000000
  c0 : -1 ≤ m.cut
  c1 : m.cut ≤ 9223372036854775807
  off : j.dead = m.off
  l : j.l = openM m.b
theorem JI.pl {m : Pl} {j : Jn} (h : JI m j) : PlOk m := ⟨h.hi, h.c0, h.c1⟩
theorem JI.jn {m : Pl} {j : Jn} (h : JI m j) : JnOk j := by
  have := open_ok h.lo
  exact ⟨by rw [h.l]; exact this.len, by rw [h.l]; exact this.n0, by rw [h.l]; exact this.n1⟩
/-- any Put at all -/
theorem put_any {m : Pl} {j : Jn} (h : JI m j) (deal : Int) (s : St) : JI (putM m j deal s).1 (putM m j deal s).2.1 ∧ (putM m j deal s).1.b.length = m.b.length ∧
    (((putM m j deal s).2.1.l = j.l ∧ (((putM m j deal s).2.2 = some 6 ∧ (putM m j deal s).1.off = true) ∨ (putM m j deal s).2.2 = some 2 ∧ badPut deal s ∨ (putM m j deal s).2.2 = some 5 ∧ 4294967296 ≤ (j.l.getD deal.toNat zeroE).n + 1)) ∨
     (¬ badPut deal s ∧ (putM m j deal s).2.2 = none ∧ m.off = false ∧ (putM m j deal s).1.off = false ∧ (((j.l.getD deal.toNat zeroE).s = s ∧ (putM m j deal s).2.1.l = j.l ∧ (putM m j deal s).1 = m) ∨
        (j.l.getD deal.toNat zeroE).s ≠ s ∧ (putM m j deal s).2.1.l = j.l.set deal.toNat ⟨(j.l.getD deal.toNat zeroE).n + 1, s⟩))) := by
  obtain ⟨b, off, cut⟩ := m
  obtain ⟨jl, dead⟩ := j
  have hJ := h
  obtain ⟨h1, h2, h3, h4, h5, h6⟩ := h
  simp only at h1 h2 h3 h4 h5 h6
  subst h5; subst h6
  unfold putM
  by_cases hdd : dead = true
  · subst hdd
    simp only [if_true]
    exact ⟨hJ, by trivial, .inl ⟨by trivial, .inl ⟨by trivial, by trivial⟩⟩⟩
  have hdd' : dead = false := by simpa using hdd
  subst hdd'
  simp only [Bool.false_eq_true, if_false]
  by_cases hb : badPut deal s
  · rw [if_pos hb]
    exact ⟨hJ, by trivial, .inl ⟨by trivial, .inr (.inl ⟨by trivial, hb⟩)⟩⟩
  rw [if_neg hb]
  have hb2 := hb
  unfold badPut at hb2
  obtain ⟨d, rfl⟩ := Int.eq_ofNat_of_zero_le (show 0 ≤ deal by omega)
  have hd : d < 6 := by omega
  simp only [Int.toNat_natCast, openM_get hd]
  by_cases he : (dealM b d).s = s
  · rw [if_pos he]
    exact ⟨hJ, rfl, .inr ⟨hb, by trivial, by trivial, by trivial, .inl ⟨he, by trivial, by trivial⟩⟩⟩
  rw [if_neg he]
  by_cases hf : 4294967296 ≤ (dealM b d).n + 1
  · rw [if_pos hf]
    exact ⟨hJ, rfl, .inl ⟨rfl, .inr (.inr ⟨by trivial, hf⟩)⟩⟩
  rw [if_neg hf]
  have hn := part1_n hd h1 2 (by omega)
  have hn' : 0 ≤ (dealM b d).n ∧ (dealM b d).n < 4294967296 := hn
  obtain ⟨Pr, S, c, R, e1, e2, e3, hjw⟩ := jw_cut (b := b) (d := d) (ct := cut) (e := ⟨(dealM b d).n + 1, s⟩) h3 h1 hd (by simp only; omega)
  have hpl := jwM_ok hJ.pl d ⟨(dealM b d).n + 1, s⟩
  generalize jwM ⟨b, false, cut⟩ d ⟨(dealM b d).n + 1, s⟩ = r at *
  obtain ⟨⟨b', off', cut'⟩, er⟩ := r
  simp only [JW] at hjw
  rcases hjw with ⟨rfl, rfl, rfl, hc⟩ | ⟨rfl, rfl, rfl, hc⟩
  · have hok : EntOk ⟨(dealM b d).n + 1, s⟩ := ⟨by simp only; omega, by simp only; omega, by simp only; omega, by simp only; omega, by simp only; omega, by simp only; omega, by simp only; omega, by simp only; omega⟩
    have hnew := deal_new (b' := Pr ++ (bodyM ⟨(dealM b d).n + 1, s⟩ ++ commitB) ++ R) h1 hd hok rfl e1 rfl e2 (by simp [e3])
    have hL : (Pr ++ (bodyM ⟨(dealM b d).n + 1, s⟩ ++ commitB) ++ R).length = b.length := by rw [e1]; simp [bodyM_len, commitB, e3]
    refine ⟨⟨by rw [hL]; exact h1, by rw [hL]; exact h2, hc, hpl.hi, rfl, hnew.symm⟩, hL, .inr ⟨hb, by trivial, by trivial, by trivial, .inr ⟨he, by trivial⟩⟩⟩
  · have hopen : openM b' = openM b := by
      rcases hc with hc | ⟨X, hX, hc⟩
      · rw [hc]
      · exact deal_zap h1 hd rfl e1 hc e2 (by simp [e3]) hX
    have hL : b'.length = b.length := by
      rcases hc with hc | ⟨X, hX, hc⟩
      · rw [hc]
      · rw [hc, e1]; simp [hX, e3]
    refine ⟨⟨by rw [hL]; exact h1, by rw [hL]; exact h2, by simp, by simp, rfl, hopen.symm⟩, hL, .inl ⟨by trivial, .inl ⟨by trivial, by trivial⟩⟩⟩
/-- power is cut later; power comes again, and the journal is opened anew -/
theorem JI.cut {m : Pl} {j : Jn} (h : JI m j) {n : Int} (h0 : 0 ≤ n) (h1 : n ≤ 9223372036854775807) : JI { m with cut := n } j := ⟨h.lo, h.hi, by simp only; omega, h1, h.off, h.l⟩
theorem JI.boot {m : Pl} {j : Jn} (h : JI m j) : JI { m with off := false, cut := -1 } ⟨openM m.b, false⟩ := ⟨h.lo, h.hi, by simp, by simp, rfl, rfl⟩
end Go.HL
end

/-! StD -/
section
namespace Go.HL
open Go Go.Proofs
set_option linter.unusedVariables false
set_option linter.unusedSimpArgs false
def stOk (s : St) : Prop := 0 ≤ s.ph ∧ s.ph ≤ 5 ∧ 0 ≤ s.att ∧ s.att ≤ s.pr ∧ s.pr ≤ 1048576
def stAt (j : Jn) (d : Nat) : St := (j.l.getD d zeroE).s
/-- a site's plate and journal -/
structure SI (m : Pl) (j : Jn) : Prop where
  ji : JI m j
  st : ∀ d, d < 6 → stOk (stAt j d)
theorem SI.boot {m : Pl} {j : Jn} (h : SI m j) : SI { m with off := false, cut := -1 } ⟨openM m.b, false⟩ := ⟨h.ji.boot, fun d hd => by have := h.st d hd; unfold stAt at *; rw [h.ji.l] at this; exact this⟩
theorem SI.cut {m : Pl} {j : Jn} (h : SI m j) {n : Int} (h0 : 0 ≤ n) (h1 : n ≤ 9223372036854775807) : SI { m with cut := n } j := ⟨h.ji.cut h0 h1, h.st⟩
end Go.HL
end

/-! StE -/
section
namespace Go.HL
open Go Go.Proofs
set_option linter.unusedVariables false
set_option linter.unusedSimpArgs false
/-- what a statement's input names -/
structure ActS where
  kd : List UInt8
  f : Fr
  d : Int
  n : Int
def acL (a : ActS) : List Value := [bs a.kd, iv a.f.fr, iv a.f.to, iv a.f.dl, iv a.f.kd, iv a.f.att, .bool a.f.yes, iv a.f.s.ph, iv a.f.s.pr, iv a.f.s.att, iv a.d, iv a.n]
theorem si_new {n : Nat} (h : 216 ≤ n) (h2 : n ≤ 1000000) : SI ⟨zeros n, false, -1⟩ ⟨openM (zeros n), false⟩ := by
  refine ⟨⟨by simpa [zeros] using h, by simpa [zeros] using h2, by simp, by simp, rfl, rfl⟩, fun d hd => ?_⟩
  have : stAt ⟨openM (zeros n), false⟩ d = zeroS := by
    unfold stAt
    rw [open_zeros h]
    show ((List.replicate 6 zeroE).getD d zeroE).s = zeroS
    rw [List.getD, List.getElem?_replicate]
    split <;> rfl
  rw [this]
  exact ⟨by decide, by decide, by decide, by decide, by decide⟩
attribute [local irreducible] HW HO HQ HD HC QOp Has Upd Puts Gets seqQ blkQ loopQ fnQ actQ nextP unQ MapF
attribute [local irreducible] jcells plC zeros openM putM turnM siteM
theorem votes_calls (T : Nat) (E : Nat → Addr) (L : Heap) (hG : Er T E [2, 3, 5, 6] L) : HC Tryd.prog 75 [] L (fun v L' => v = .bool true ∧ L' = L) := by
  have k1 := new_calls T E 512 L hG.sub
  rw [show newP 512 = some ⟨zeros 512, false, -1⟩ from rfl] at k1
  have hS := si_new (n := 512) (by decide) (by decide)
  have hr : (siteM 1 (fun _ => false) ⟨zeros 512, false, -1⟩ ⟨openM (zeros 512), false⟩ ⟨0, 1, 0, 1, 0, false, zeroS⟩).2.2 = ([⟨1, 0, 0, 2, 0, true, ⟨1, 0, 0⟩⟩], none) := by
    have hp := put_on (good_new (n := 512) (by decide) (by decide)) 0 ⟨1, 0, 0⟩
    have e0 : (((openM (zeros 512)).getD (Int.toNat 0) zeroE).s) = zeroS := by rw [open_zeros (by decide)]; rfl
    have ht : turnM (fun _ => false) ⟨0, 1, 0, 1, 0, false, zeroS⟩ zeroS = (⟨1, 0, 0⟩, 2, true) := by unfold turnM; decide
    unfold siteM
    rw [if_neg (by decide), if_neg (by decide)]
    simp only
    rw [e0, ht]
    simp only
    rcases hp with ⟨h1, h2, h3⟩ | ⟨h1, -⟩
    · exfalso
      unfold putM at h1 h3
      simp only [Bool.false_eq_true, if_false] at h1 h3
      rw [if_neg (by decide), if_neg (by rw [e0]; decide)] at h3
      rw [open_zeros (by decide)] at h3
      rw [if_neg (by decide)] at h3
      split at h3
      · cases h3
      · have := congrArg (fun j => (j.l.getD 0 zeroE).n) h3
        exact absurd this (by decide)
    · rw [h1]
      rfl
  have e1 : siteE 1 ⟨zeros 512, false, -1⟩ = none := by unfold siteE; simp only [zeros_len]; decide
  refine hc_enter (fun _ _ => Tryd.call75 _ _) Tryd.func75 rfl Tryd.ntmps75 (Nat.le_of_ble_eq_true rfl) ?_; simp only [args0, Nat.reduceAdd]
  repeat' (first | (show HW _ _ _ _ _ _; first | apply hw_seq | apply hw_region | refine g_t ?_ | refine g_f ?_ | (refine g_b (fun h => ?_) (fun h => ?_) <;> ((try simp only [Bool.not_eq_eq_eq_not, Bool.not_true, Bool.not_false, decide_eq_true_eq, decide_eq_false_iff_not, Decidable.not_not, ne_eq, Bool.and_eq_true, beq_iff_eq, and_true, true_and, eq_self, decide_true, Bool.and_true, Bool.true_and, reduceCtorEq, not_true_eq_false, not_false_eq_true] at h); (try (exfalso; first | omega | with_reducible exact h (by assumption) | with_reducible exact absurd h (by assumption))))) | apply hw_skip | apply hw_ret | refine g_d S ?_) | (show HO _ _ _ _ _ _ _; first | apply ho_nil | refine g_q (qe S) ?_ | refine g_q (ql S) ?_ | refine g_q (qb S) ?_ | refine g_q (qbA S) ?_ | refine g_n ?_ | refine g_on ?_ | (refine g_s (fun h => ?_) (fun h => ?_) <;> ((try simp only [Bool.not_eq_eq_eq_not, Bool.not_true, Bool.not_false, decide_eq_true_eq, decide_eq_false_iff_not, Decidable.not_not, ne_eq, Bool.and_eq_true, beq_iff_eq, and_true, true_and, eq_self, decide_true, Bool.and_true, Bool.true_and, reduceCtorEq, not_true_eq_false, not_false_eq_true] at h); (try (exfalso; first | omega | with_reducible exact h (by assumption) | with_reducible exact absurd h (by assumption)))))) | (show HD _ _ _ _ _ _ _ _; first | apply hd_nil | refine d_q 100 (by exact rfl) (fun _ => qe S) ?_ | refine d_q 100 (by exact rfl) (fun _ => qb S) ?_ | refine d_q 100 (by exact rfl) (fun _ => qbA S) ?_ | refine dl S 100 ?_ | refine d_n 100 ?_ | (refine d_sp 100 (fun h => ?_) (fun h => ?_) <;> ((try simp only [Bool.not_eq_eq_eq_not, Bool.not_true, Bool.not_false, decide_eq_true_eq, decide_eq_false_iff_not, Decidable.not_not, ne_eq, Bool.and_eq_true, beq_iff_eq, and_true, true_and, eq_self, decide_true, Bool.and_true, Bool.true_and, reduceCtorEq, not_true_eq_false, not_false_eq_true] at h); (try (exfalso; first | omega | with_reducible exact h (by assumption) | with_reducible exact absurd h (by assumption))))) | refine da 101 ?_) | refine dx ?_ | apply dx0 | refine dxd ?_ | refine dxk ?_ | apply seqQ_normal | apply seqQ_ret)
  refine gc k1 ?_
  rintro v L' ⟨bp, ba, rfl, rfl⟩
  repeat' (first | (show HW _ _ _ _ _ _; first | apply hw_seq | apply hw_region | refine g_t ?_ | refine g_f ?_ | (refine g_b (fun h => ?_) (fun h => ?_) <;> ((try simp only [Bool.not_eq_eq_eq_not, Bool.not_true, Bool.not_false, decide_eq_true_eq, decide_eq_false_iff_not, Decidable.not_not, ne_eq, Bool.and_eq_true, beq_iff_eq, and_true, true_and, eq_self, decide_true, Bool.and_true, Bool.true_and, reduceCtorEq, not_true_eq_false, not_false_eq_true] at h); (try (exfalso; first | omega | with_reducible exact h (by assumption) | with_reducible exact absurd h (by assumption))))) | apply hw_skip | apply hw_ret | refine g_d S ?_) | (show HO _ _ _ _ _ _ _; first | apply ho_nil | refine g_q (qe S) ?_ | refine g_q (ql S) ?_ | refine g_q (qb S) ?_ | refine g_q (qbA S) ?_ | refine g_n ?_ | refine g_on ?_ | (refine g_s (fun h => ?_) (fun h => ?_) <;> ((try simp only [Bool.not_eq_eq_eq_not, Bool.not_true, Bool.not_false, decide_eq_true_eq, decide_eq_false_iff_not, Decidable.not_not, ne_eq, Bool.and_eq_true, beq_iff_eq, and_true, true_and, eq_self, decide_true, Bool.and_true, Bool.true_and, reduceCtorEq, not_true_eq_false, not_false_eq_true] at h); (try (exfalso; first | omega | with_reducible exact h (by assumption) | with_reducible exact absurd h (by assumption)))))) | (show HD _ _ _ _ _ _ _ _; first | apply hd_nil | refine d_q 100 (by exact rfl) (fun _ => qe S) ?_ | refine d_q 100 (by exact rfl) (fun _ => qb S) ?_ | refine d_q 100 (by exact rfl) (fun _ => qbA S) ?_ | refine dl S 100 ?_ | refine d_n 100 ?_ | (refine d_sp 100 (fun h => ?_) (fun h => ?_) <;> ((try simp only [Bool.not_eq_eq_eq_not, Bool.not_true, Bool.not_false, decide_eq_true_eq, decide_eq_false_iff_not, Decidable.not_not, ne_eq, Bool.and_eq_true, beq_iff_eq, and_true, true_and, eq_self, decide_true, Bool.and_true, Bool.true_and, reduceCtorEq, not_true_eq_false, not_false_eq_true] at h); (try (exfalso; first | omega | with_reducible exact h (by assumption) | with_reducible exact absurd h (by assumption))))) | refine da 101 ?_) | refine dx ?_ | apply dx0 | refine dxd ?_ | refine dxk ?_ | apply seqQ_normal | apply seqQ_ret)
  have k2 := snew_calls T E 1 bp ba ⟨zeros 512, false, -1⟩ L hG.sub hS.ji.hi
  rw [e1] at k2
  refine gc k2 ?_
  rintro v L' ⟨sp, bj, mb, rfl, rfl⟩
  repeat' (first | (show HW _ _ _ _ _ _; first | apply hw_seq | apply hw_region | refine g_t ?_ | refine g_f ?_ | (refine g_b (fun h => ?_) (fun h => ?_) <;> ((try simp only [Bool.not_eq_eq_eq_not, Bool.not_true, Bool.not_false, decide_eq_true_eq, decide_eq_false_iff_not, Decidable.not_not, ne_eq, Bool.and_eq_true, beq_iff_eq, and_true, true_and, eq_self, decide_true, Bool.and_true, Bool.true_and, reduceCtorEq, not_true_eq_false, not_false_eq_true] at h); (try (exfalso; first | omega | with_reducible exact h (by assumption) | with_reducible exact absurd h (by assumption))))) | apply hw_skip | apply hw_ret | refine g_d S ?_) | (show HO _ _ _ _ _ _ _; first | apply ho_nil | refine g_q (qe S) ?_ | refine g_q (ql S) ?_ | refine g_q (qb S) ?_ | refine g_q (qbA S) ?_ | refine g_n ?_ | refine g_on ?_ | (refine g_s (fun h => ?_) (fun h => ?_) <;> ((try simp only [Bool.not_eq_eq_eq_not, Bool.not_true, Bool.not_false, decide_eq_true_eq, decide_eq_false_iff_not, Decidable.not_not, ne_eq, Bool.and_eq_true, beq_iff_eq, and_true, true_and, eq_self, decide_true, Bool.and_true, Bool.true_and, reduceCtorEq, not_true_eq_false, not_false_eq_true] at h); (try (exfalso; first | omega | with_reducible exact h (by assumption) | with_reducible exact absurd h (by assumption)))))) | (show HD _ _ _ _ _ _ _ _; first | apply hd_nil | refine d_q 100 (by exact rfl) (fun _ => qe S) ?_ | refine d_q 100 (by exact rfl) (fun _ => qb S) ?_ | refine d_q 100 (by exact rfl) (fun _ => qbA S) ?_ | refine dl S 100 ?_ | refine d_n 100 ?_ | (refine d_sp 100 (fun h => ?_) (fun h => ?_) <;> ((try simp only [Bool.not_eq_eq_eq_not, Bool.not_true, Bool.not_false, decide_eq_true_eq, decide_eq_false_iff_not, Decidable.not_not, ne_eq, Bool.and_eq_true, beq_iff_eq, and_true, true_and, eq_self, decide_true, Bool.and_true, Bool.true_and, reduceCtorEq, not_true_eq_false, not_false_eq_true] at h); (try (exfalso; first | omega | with_reducible exact h (by assumption) | with_reducible exact absurd h (by assumption))))) | refine da 101 ?_) | refine dx ?_ | apply dx0 | refine dxd ?_ | refine dxk ?_ | apply seqQ_normal | apply seqQ_ret)
  refine gc (shear_calls T E sp bj mb bp ba 1 [] 0 (fun _ => false) _ _ ⟨0, 1, 0, 1, 0, false, zeroS⟩ L hG mapF_nil hS.ji.pl hS.ji.jn) ?_
  rintro v L' ⟨fv, c, rfl, hv, rfl⟩
  generalize siteM 1 (fun _ => false) ⟨zeros 512, false, -1⟩ ⟨openM (zeros 512), false⟩ ⟨0, 1, 0, 1, 0, false, zeroS⟩ = r at *
  rw [hr] at hv ⊢
  obtain ⟨a2, cap2, rfl, -, hR2⟩ := hv.rd fc_len
  obtain ⟨b2, i2, l2, E2, fr2, rfl, hb2, hg2⟩ := (hR2 L).at (j := 0) (by omega) (by simp)
  have hb3 : ∀ (x1 x2 x3 x4 : List Blk), Has (x1 :: x2 :: x3 :: x4 :: c :: L) b2 (.cells ⟨l2⟩ E2 fr2) := fun x1 x2 x3 x4 => has_next (has_next (has_next (has_next hb2)))
  have hb4 := hb3 (siC sp bj mb 1) (mpC mb [] 0) (plC bp ba r.1) (jC bj bp r.2.1)
  have g3 := hg2.at (j := 3) (v := iv 2) rfl
  have g4 := hg2.at (j := 5) (v := .bool true) rfl
  repeat' (first | (show HW _ _ _ _ _ _; first | apply hw_seq | apply hw_region | refine g_t ?_ | refine g_f ?_ | (refine g_b (fun h => ?_) (fun h => ?_) <;> ((try simp only [Bool.not_eq_eq_eq_not, Bool.not_true, Bool.not_false, decide_eq_true_eq, decide_eq_false_iff_not, Decidable.not_not, ne_eq, Bool.and_eq_true, beq_iff_eq, and_true, true_and, eq_self, decide_true, Bool.and_true, Bool.true_and, reduceCtorEq, not_true_eq_false, not_false_eq_true] at h); (try (exfalso; first | omega | with_reducible exact h (by assumption) | with_reducible exact absurd h (by assumption))))) | apply hw_skip | apply hw_ret | refine g_d S ?_) | (show HO _ _ _ _ _ _ _; first | apply ho_nil | refine g_q (qe S) ?_ | refine g_q (ql S) ?_ | refine g_q (qb S) ?_ | refine g_q (qbA S) ?_ | refine g_n ?_ | refine g_on ?_ | (refine g_s (fun h => ?_) (fun h => ?_) <;> ((try simp only [Bool.not_eq_eq_eq_not, Bool.not_true, Bool.not_false, decide_eq_true_eq, decide_eq_false_iff_not, Decidable.not_not, ne_eq, Bool.and_eq_true, beq_iff_eq, and_true, true_and, eq_self, decide_true, Bool.and_true, Bool.true_and, reduceCtorEq, not_true_eq_false, not_false_eq_true] at h); (try (exfalso; first | omega | with_reducible exact h (by assumption) | with_reducible exact absurd h (by assumption)))))) | (show HD _ _ _ _ _ _ _ _; first | apply hd_nil | refine d_q 100 (by exact rfl) (fun _ => qe S) ?_ | refine d_q 100 (by exact rfl) (fun _ => qb S) ?_ | refine d_q 100 (by exact rfl) (fun _ => qbA S) ?_ | refine dl S 100 ?_ | refine d_n 100 ?_ | (refine d_sp 100 (fun h => ?_) (fun h => ?_) <;> ((try simp only [Bool.not_eq_eq_eq_not, Bool.not_true, Bool.not_false, decide_eq_true_eq, decide_eq_false_iff_not, Decidable.not_not, ne_eq, Bool.and_eq_true, beq_iff_eq, and_true, true_and, eq_self, decide_true, Bool.and_true, Bool.true_and, reduceCtorEq, not_true_eq_false, not_false_eq_true] at h); (try (exfalso; first | omega | with_reducible exact h (by assumption) | with_reducible exact absurd h (by assumption))))) | refine da 101 ?_) | refine dx ?_ | apply dx0 | refine dxd ?_ | refine dxk ?_ | apply seqQ_normal | apply seqQ_ret)
  exact sp1 (by repeat (first | exact LS.refl _ | apply LS.k | apply LS.c)) ⟨rfl, rfl⟩
end Go.HL
end

/-! CdAc -/
section
namespace Go.HL
open Go Go.Proofs Go.ChangeShapes Go.WideShapes Go.ChangeAt Go.RowKit
def AcI (a : ActS) : Prop := a.kd.length ≤ 9223372036854775807 ∧ FrI a.f ∧ okI a.d ∧ okI a.n
theorem open_ac {H : Type} {enc : TypeId × Value → H} {W : World} {base : Nat} {spare : Nat → Bool} {held : Bool} (n : Nat) (cs : List Value) (x : DataW H × List MemPlace) (h : DataW.trod enc Tryd.prog W base spare held n 126 cs = some x) : ∃ s : ActS, cs = acL s ∧ AcI s := by
  have h0 := open_kt 4 126 [9, 3, 3, 3, 3, 3, 8, 3, 3, 3, 3, 3] n cs x (by kernel_rfl) h
  obtain ⟨s, r, rfl, hs, h1⟩ := fitT h0
  obtain ⟨f, r, rfl, hf, h2⟩ := fit_fr h1
  obtain ⟨d, r, rfl, hd, h3⟩ := fitI64 h2
  obtain ⟨m, r, rfl, hm, h4⟩ := fitI64 h3
  obtain rfl := fit0 h4
  exact ⟨⟨s, f, d, m⟩, rfl, hs, hf, hd, hm⟩
end Go.HL
end

/-! WrA -/
section
namespace Go.HL
open Go Go.Proofs
set_option linter.unusedVariables false
set_option linter.unusedSimpArgs false
def lowB (n : Int) : List UInt8 := [bt n 0, bt n 1, bt n 2, bt n 3]
theorem u8_bt (n : Int) (k : Nat) : u8 (bt n k) = .int .u8 (n / 2 ^ (8 * k) % 256) := by
  unfold u8
  rw [bt_val]
theorem u8_bt0 (n : Int) : u8 (bt n 0) = .int .u8 (n % 256) := by
  rw [u8_bt]; simp
theorem bt_div (n : Int) (k : Nat) : bt (n / 256 ^ k) 0 = bt n k := by
  unfold bt
  congr 2
  simp only [Nat.mul_zero, Int.pow_zero, Int.ediv_one]
  rw [show (256 : Int) = 2 ^ 8 from rfl, ← Int.pow_mul]
theorem bt_mod (n : Int) : bt (n % 256) 0 = bt n 0 := by
  unfold bt
  simp
/-- the document's sum, between two bits -/
def rc (c b k : Nat) : Nat := crcN k (c ^^^ b) ^^^ (b / 2 ^ k)
theorem rc_0 (c b : Nat) : rc c b 0 = c := by simp [rc, crcN, Nat.xor_assoc]
theorem rc_8 {c b : Nat} (h : b < 256) : rc c b 8 = crcN 8 (c ^^^ b) := by
  unfold rc
  rw [show b / 2 ^ 8 = 0 from Nat.div_eq_of_lt h, Nat.xor_zero]
theorem rc_bit (c b k : Nat) : (rc c b k ^^^ (b / 2 ^ k)) % 2 = crcN k (c ^^^ b) % 2 := by
  unfold rc
  rw [Nat.xor_assoc, Nat.xor_self, Nat.xor_zero]
theorem xor_half (a b : Nat) : (a ^^^ b) / 2 = a / 2 ^^^ b / 2 := by
  have := Nat.shiftRight_xor_distrib (a := a) (b := b) (i := 1)
  simpa [Nat.shiftRight_eq_div_pow] using this
theorem rc_succ (c b k : Nat) : rc c b (k + 1) = if crcN k (c ^^^ b) % 2 = 1 then rc c b k / 2 ^^^ 3988292384 else rc c b k / 2 := by
  unfold rc
  rw [crcN_succ, xor_half]
  have e : b / 2 ^ (k + 1) = b / 2 ^ k / 2 := by rw [Nat.pow_succ, ← Nat.div_div_eq_div_mul]
  rw [e]
  unfold crc1
  split
  · rename_i h
    rw [h, Nat.mul_one, Nat.xor_assoc, Nat.xor_assoc, Nat.xor_comm 3988292384]
  · rename_i h
    have h0 : crcN k (c ^^^ b) % 2 = 0 := by omega
    rw [h0, Nat.mul_zero, Nat.xor_zero]
theorem rc_lt {c b k : Nat} (hc : c < 4294967296) (hb : b < 256) : rc c b k < 4294967296 := by
  unfold rc
  refine Nat.xor_lt_two_pow (n := 32) (crcN_lt (Nat.xor_lt_two_pow (n := 32) hc (by omega))) ?_
  exact Nat.lt_of_le_of_lt (Nat.div_le_self _ _) (by omega)
theorem xor_ones {x : Nat} (h : x < 4294967296) : x ^^^ 4294967295 = 4294967295 - x := by
  have h1 : ((BitVec.allOnes 32) ^^^ BitVec.ofNat 32 x).toNat = (~~~ BitVec.ofNat 32 x).toNat := by rw [BitVec.allOnes_xor]
  rw [BitVec.toNat_xor, BitVec.toNat_not, BitVec.toNat_allOnes, BitVec.toNat_ofNat, Nat.mod_eq_of_lt h] at h1
  rw [Nat.xor_comm]
  simpa using h1
attribute [local irreducible] HW HO HQ HD HC QOp Has Upd Puts Gets seqQ blkQ loopQ fnQ actQ nextP unQ MapF
theorem rbyte_calls (n : Int) (L : Heap) : HC Tryd.prog 95 [iv n] L (fun v L' => v = bs [bt n 0] ∧ L' = L) := by
  have e : ([Value.int .u8 (n % 256)] : List Value) = [bt n 0].map u8 := by simp [u8_bt0]
  refine hc_enter (fun _ _ => Tryd.call95 _ _) Tryd.func95 rfl Tryd.ntmps95 (Nat.le_of_ble_eq_true rfl) ?_; simp only [args0, Nat.reduceAdd]
  repeat' (first | (show HW _ _ _ _ _ _; first | apply hw_seq | apply hw_region | apply hw_ret) | (show HO _ _ _ _ _ _ _; first | apply ho_nil | refine g_q (qe S) ?_ | refine g_q (qt S) ?_ | refine g_q (qc8 S) ?_ | refine g_q (qc32 S) ?_ | refine wS S (fun b => ?_) | refine wSa S (fun b => ?_) | refine wSn S (fun b => ?_)) | apply seqQ_normal | apply seqQ_ret)
  rw [e]
  refine g_q (qtx S (rd_bytes _ _ _ _) rfl) ?_
  repeat' (first | (show HW _ _ _ _ _ _; first | apply hw_seq | apply hw_region | apply hw_ret) | (show HO _ _ _ _ _ _ _; first | apply ho_nil | refine g_q (qe S) ?_ | refine g_q (qt S) ?_ | refine g_q (qc8 S) ?_ | refine g_q (qc32 S) ?_ | refine wS S (fun b => ?_) | refine wSa S (fun b => ?_) | refine wSn S (fun b => ?_)) | apply seqQ_normal | apply seqQ_ret)
  exact sp1 (by repeat (first | exact LS.refl _ | apply LS.k | apply LS.c)) ⟨rfl, rfl⟩
theorem rwide_calls (n : Int) (many : Nat) (L : Heap) (h0 : 0 ≤ n) (h1 : n ≤ 9223372036854775807) (hm : many ≤ 8) : HC Tryd.prog 96 [iv n, iv many] L (fun v L' => v = bs (numB n many) ∧ L' = L) := by
  refine hc_enter (fun _ _ => Tryd.call96 _ _) Tryd.func96 rfl Tryd.ntmps96 (Nat.le_of_ble_eq_true rfl) ?_; simp only [args0, Nat.reduceAdd]
  repeat' (first | (show HW _ _ _ _ _ _; first | apply hw_seq | apply hw_region | apply hw_block | apply hw_exit | refine g_t ?_ | refine g_f ?_ | (refine g_b (fun h => ?_) (fun h => ?_) <;> ((try simp only [Bool.not_eq_eq_eq_not, Bool.not_true, Bool.not_false, decide_eq_true_eq, decide_eq_false_iff_not, Decidable.not_not, ne_eq, Bool.and_eq_true, beq_iff_eq, and_true, true_and, eq_self, decide_true, Bool.and_true, Bool.true_and, reduceCtorEq, not_true_eq_false, not_false_eq_true] at h); (try (exfalso; first | omega | with_reducible exact h (by assumption) | with_reducible exact absurd h (by assumption))))) | apply hw_skip | apply hw_ret) | (show HO _ _ _ _ _ _ _; first | apply ho_nil | refine g_q (qe S) ?_) | apply seqQ_normal | apply seqQ_ret | apply seqQ_exit | apply blkQ_here | refine g_bx ?_ | apply blkQ_ret | apply blkQ_normal | apply loopQ_ret | apply loopQ_exit | apply unQ_ret | apply unQ_exit | apply unQ_succ)
  refine hw_loop (σ := Nat) (fun i => [(0, iv (n / 256 ^ i)), (1, iv many), (5, bs (numB n i)), (6, iv i)]) (fun _ => L) (fun i => i ≤ many) (fun i => many - i) 0 ?_ (List.Sublist.refl _) (by omega) ?_
  · simp only [Int.pow_zero, Int.ediv_one]
    exact (by repeat (first | exact trivial | refine ⟨rfl, ?_⟩))
  intro i hi
  by_cases hlt : i < many
  · have hq : 0 ≤ n / 256 ^ i ∧ n / 256 ^ i ≤ 9223372036854775807 := ⟨Int.ediv_nonneg h0 (Int.pow_nonneg (by decide)), Int.le_trans (Int.ediv_le_self _ h0) h1⟩
    have kb := fun L => rbyte_calls (n / 256 ^ i % 256) L
    rw [bt_mod, bt_div] at kb
    have hl : ([bt n i].length + (numB n i).length) ≤ 9223372036854775807 := by simp [numB_len]; omega
    have e : n / 256 ^ i / 256 = n / 256 ^ (i + 1) := by rw [Int.pow_succ, Int.ediv_ediv_of_nonneg (Int.pow_nonneg (by decide))]
    repeat' (first | (show HW _ _ _ _ _ _; first | apply hw_seq | apply hw_region | apply hw_block | apply hw_exit | refine g_t ?_ | refine g_f ?_ | (refine g_b (fun h => ?_) (fun h => ?_) <;> ((try simp only [Bool.not_eq_eq_eq_not, Bool.not_true, Bool.not_false, decide_eq_true_eq, decide_eq_false_iff_not, Decidable.not_not, ne_eq, Bool.and_eq_true, beq_iff_eq, and_true, true_and, eq_self, decide_true, Bool.and_true, Bool.true_and, reduceCtorEq, not_true_eq_false, not_false_eq_true] at h); (try (exfalso; first | omega | with_reducible exact h (by assumption) | with_reducible exact absurd h (by assumption))))) | apply hw_skip | apply hw_ret) | (show HO _ _ _ _ _ _ _; first | apply ho_nil | refine g_q (qe S) ?_ | refine g_q (qC (kb _)) ?_) | apply seqQ_normal | apply seqQ_ret | apply seqQ_exit | apply blkQ_here | refine g_bx ?_ | apply blkQ_ret | apply blkQ_normal | apply loopQ_ret | apply loopQ_exit | apply unQ_ret | apply unQ_exit | apply unQ_succ)
    rw [e]
    exact loopQ_sp (i + 1) (by repeat (first | exact trivial | refine ⟨rfl, ?_⟩)) (by repeat (first | (with_reducible first | refine LS.p0 ?_ | refine LS.p1 ?_ | refine LS.p2 ?_ | refine LS.p3 ?_ | refine LS.p4 ?_ | refine LS.p5 ?_ | refine LS.p6 ?_ | refine LS.p7 ?_ | refine LS.p8 ?_ | refine LS.p9 ?_ | refine LS.p10 ?_ | refine LS.p11 ?_ | refine LS.p12 ?_ | refine LS.e ?_ | exact LS.refl _) | refine LS.p0 ?_ | refine LS.p1 ?_ | refine LS.p2 ?_ | refine LS.p3 ?_ | refine LS.p4 ?_ | refine LS.p5 ?_ | refine LS.p6 ?_ | refine LS.p7 ?_ | refine LS.p8 ?_ | refine LS.p9 ?_ | refine LS.p10 ?_ | refine LS.p11 ?_ | refine LS.p12 ?_ | (with_reducible refine LS.c ?_))) (by omega) (by omega)
  · have hi2 : i = many := by omega
    subst hi2
    repeat' (first | (show HW _ _ _ _ _ _; first | apply hw_seq | apply hw_region | apply hw_block | apply hw_exit | refine g_t ?_ | refine g_f ?_ | (refine g_b (fun h => ?_) (fun h => ?_) <;> ((try simp only [Bool.not_eq_eq_eq_not, Bool.not_true, Bool.not_false, decide_eq_true_eq, decide_eq_false_iff_not, Decidable.not_not, ne_eq, Bool.and_eq_true, beq_iff_eq, and_true, true_and, eq_self, decide_true, Bool.and_true, Bool.true_and, reduceCtorEq, not_true_eq_false, not_false_eq_true] at h); (try (exfalso; first | omega | with_reducible exact h (by assumption) | with_reducible exact absurd h (by assumption))))) | apply hw_skip | apply hw_ret) | (show HO _ _ _ _ _ _ _; first | apply ho_nil | refine g_q (qe S) ?_) | apply seqQ_normal | apply seqQ_ret | apply seqQ_exit | apply blkQ_here | refine g_bx ?_ | apply blkQ_ret | apply blkQ_normal | apply loopQ_ret | apply loopQ_exit | apply unQ_ret | apply unQ_exit | apply unQ_succ)
    exact sp1 (by repeat (first | exact LS.refl _ | apply LS.k | apply LS.c)) ⟨rfl, rfl⟩
theorem rcrc_calls (s : List UInt8) (L : Heap) (hs : s.length ≤ 1000000) : HC Tryd.prog 31 [bs s] L (fun v L' => v = iv (crc s) ∧ L' = L) := by
  refine hc_enter (fun _ _ => Tryd.call31 _ _) Tryd.func31 rfl Tryd.ntmps31 (Nat.le_of_ble_eq_true rfl) ?_; simp only [args0, Nat.reduceAdd]
  repeat' (first | (show HW _ _ _ _ _ _; first | apply hw_seq | apply hw_region | apply hw_block | apply hw_exit | refine g_t ?_ | refine g_f ?_ | (refine g_b (fun h => ?_) (fun h => ?_) <;> ((try simp only [Bool.not_eq_eq_eq_not, Bool.not_true, Bool.not_false, decide_eq_true_eq, decide_eq_false_iff_not, Decidable.not_not, ne_eq, Bool.and_eq_true, beq_iff_eq, and_true, true_and, eq_self, decide_true, Bool.and_true, Bool.true_and, reduceCtorEq, not_true_eq_false, not_false_eq_true] at h); (try (exfalso; first | omega | with_reducible exact h (by assumption) | with_reducible exact absurd h (by assumption))))) | apply hw_skip | apply hw_ret) | (show HO _ _ _ _ _ _ _; first | apply ho_nil | refine g_q (qe S) ?_ | refine g_q (qt S) ?_ | refine g_q (qc8 S) ?_ | refine g_q (qc32 S) ?_ | refine g_q (qx32 S) ?_) | apply seqQ_normal | apply seqQ_ret | apply seqQ_exit | apply blkQ_here | refine g_bx ?_ | apply blkQ_ret | apply blkQ_normal | apply loopQ_ret | apply loopQ_exit | apply unQ_ret | apply unQ_exit | apply unQ_succ)
  refine hw_loop (σ := Nat) (fun i => [(0, bs s), (3, iv (crcR (s.take i))), (4, iv i)]) (fun _ => L) (fun i => i ≤ s.length) (fun i => s.length - i) 0 (by repeat (first | exact trivial | refine ⟨rfl, ?_⟩)) (List.Sublist.refl _) (by omega) ?_
  intro i hi
  have hc := crcR_lt (s.take i)
  by_cases hlt : i < s.length
  · repeat' (first | (show HW _ _ _ _ _ _; first | apply hw_seq | apply hw_region | apply hw_block | apply hw_exit | refine g_t ?_ | refine g_f ?_ | (refine g_b (fun h => ?_) (fun h => ?_) <;> ((try simp only [Bool.not_eq_eq_eq_not, Bool.not_true, Bool.not_false, decide_eq_true_eq, decide_eq_false_iff_not, Decidable.not_not, ne_eq, Bool.and_eq_true, beq_iff_eq, and_true, true_and, eq_self, decide_true, Bool.and_true, Bool.true_and, reduceCtorEq, not_true_eq_false, not_false_eq_true] at h); (try (exfalso; first | omega | with_reducible exact h (by assumption) | with_reducible exact absurd h (by assumption))))) | apply hw_skip | apply hw_ret) | (show HO _ _ _ _ _ _ _; first | apply ho_nil | refine g_q (qe S) ?_ | refine g_q (qt S) ?_ | refine g_q (qc8 S) ?_ | refine g_q (qc32 S) ?_ | refine g_q (qx32 S) ?_) | apply seqQ_normal | apply seqQ_ret | apply seqQ_exit | apply blkQ_here | refine g_bx ?_ | apply blkQ_ret | apply blkQ_normal | apply loopQ_ret | apply loopQ_exit | apply unQ_ret | apply unQ_exit | apply unQ_succ)
    have hb : (s.getD i 0).toNat < 256 := (s.getD i 0).toNat_lt
    have e0 : (crcR (s.take i) : Int) = ((rc (crcR (s.take i)) (s.getD i 0).toNat 0 : Nat) : Int) := by rw [rc_0]
    rw [e0]
    refine hw_loop (σ := Nat) (fun k => [(0, bs s), (3, iv (rc (crcR (s.take i)) (s.getD i 0).toNat k)), (4, iv i), (5, iv k)]) (fun _ => L) (fun k => k ≤ 8) (fun k => 8 - k) 0 (by repeat (first | exact trivial | refine ⟨rfl, ?_⟩)) (List.Sublist.refl _) (by omega) ?_
    intro k hk
    by_cases hk8 : k < 8
    · have hr := rc_lt (k := k) hc hb
      have hsu := rc_succ (crcR (s.take i)) (s.getD i 0).toNat k
      have hbit := rc_bit (crcR (s.take i)) (s.getD i 0).toNat k
      have hb2 := (s.getD (i : Int).toNat 0).toNat_lt
      have hbk : (s.getD i 0).toNat / 2 ^ k < 256 := Nat.lt_of_le_of_lt (Nat.div_le_self _ _) hb
      have eB : (((s.getD (i : Int).toNat 0).toNat : Nat) : Int) / 2 ^ (k : Int).toNat = (((s.getD i 0).toNat / 2 ^ k : Nat) : Int) := by simp
      have hxl : rc (crcR (s.take i)) (s.getD i 0).toNat k ^^^ ((s.getD i 0).toNat / 2 ^ k) < 4294967296 := Nat.xor_lt_two_pow (n := 32) hr (by omega)
      have hx1 : rc (crcR (s.take i)) (s.getD i 0).toNat k / 2 ^^^ 3988292384 < 4294967296 := Nat.xor_lt_two_pow (n := 32) (by omega) (by decide)
      repeat' (first | (show HW _ _ _ _ _ _; first | apply hw_seq | apply hw_region | apply hw_block | apply hw_exit | refine g_t ?_ | refine g_f ?_ | (refine g_b (fun h => ?_) (fun h => ?_) <;> ((try simp only [Bool.not_eq_eq_eq_not, Bool.not_true, Bool.not_false, decide_eq_true_eq, decide_eq_false_iff_not, Decidable.not_not, ne_eq, Bool.and_eq_true, beq_iff_eq, and_true, true_and, eq_self, decide_true, Bool.and_true, Bool.true_and, reduceCtorEq, not_true_eq_false, not_false_eq_true] at h); (try (exfalso; first | omega | with_reducible exact h (by assumption) | with_reducible exact absurd h (by assumption))))) | apply hw_skip | apply hw_ret) | (show HO _ _ _ _ _ _ _; first | apply ho_nil | refine g_q (qe S) ?_ | refine g_q (qt S) ?_ | refine g_q (qc8 S) ?_ | refine g_q (qc32 S) ?_ | refine g_q (qx32 S) ?_) | apply seqQ_normal | apply seqQ_ret | apply seqQ_exit | apply blkQ_here | refine g_bx ?_ | apply blkQ_ret | apply blkQ_normal | apply loopQ_ret | apply loopQ_exit | apply unQ_ret | apply unQ_exit | apply unQ_succ)
      rw [eB]
      generalize hr1 : rc (crcR (s.take i)) (s.getD i 0).toNat (k + 1) = r1 at hsu
      generalize rc (crcR (s.take i)) (s.getD i 0).toNat k = r0 at *
      generalize (s.getD i 0).toNat / 2 ^ k = bk at *
      generalize crcN k (crcR (s.take i) ^^^ (s.getD i 0).toNat) = cN at *
      have hxt : (((r0 : Nat) : Int).toNat ^^^ ((bk : Nat) : Int).toNat) = r0 ^^^ bk := by simp
      have hxt2 : (((r0 : Nat) : Int) / 2).toNat ^^^ Int.toNat 3988292384 = r0 / 2 ^^^ 3988292384 := by
        rw [show (((r0 : Nat) : Int) / 2).toNat = r0 / 2 by omega]
        rfl
      rw [← hxt] at hxl hbit
      rw [← hxt2] at hx1
      repeat' (first | (show HW _ _ _ _ _ _; first | apply hw_seq | apply hw_region | apply hw_block | apply hw_exit | refine g_t ?_ | refine g_f ?_ | (refine g_b (fun h => ?_) (fun h => ?_) <;> ((try simp only [Bool.not_eq_eq_eq_not, Bool.not_true, Bool.not_false, decide_eq_true_eq, decide_eq_false_iff_not, Decidable.not_not, ne_eq, Bool.and_eq_true, beq_iff_eq, and_true, true_and, eq_self, decide_true, Bool.and_true, Bool.true_and, reduceCtorEq, not_true_eq_false, not_false_eq_true] at h); (try (exfalso; first | omega | with_reducible exact h (by assumption) | with_reducible exact absurd h (by assumption))))) | apply hw_skip | apply hw_ret) | (show HO _ _ _ _ _ _ _; first | apply ho_nil | refine g_q (qe S) ?_ | refine g_q (qt S) ?_ | refine g_q (qc8 S) ?_ | refine g_q (qc32 S) ?_ | refine g_q (qx32 S) ?_) | apply seqQ_normal | apply seqQ_ret | apply seqQ_exit | apply blkQ_here | refine g_bx ?_ | apply blkQ_ret | apply blkQ_normal | apply loopQ_ret | apply loopQ_exit | apply unQ_ret | apply unQ_exit | apply unQ_succ)
      · rw [if_pos (by omega)] at hsu
        rw [hxt2, ← hsu, ← hr1]
        exact loopQ_sp (k + 1) (by repeat (first | exact trivial | refine ⟨rfl, ?_⟩)) (by repeat (first | (with_reducible first | refine LS.p0 ?_ | refine LS.p1 ?_ | refine LS.p2 ?_ | refine LS.p3 ?_ | refine LS.p4 ?_ | refine LS.p5 ?_ | refine LS.p6 ?_ | refine LS.p7 ?_ | refine LS.p8 ?_ | refine LS.p9 ?_ | refine LS.p10 ?_ | refine LS.p11 ?_ | refine LS.p12 ?_ | refine LS.e ?_ | exact LS.refl _) | refine LS.p0 ?_ | refine LS.p1 ?_ | refine LS.p2 ?_ | refine LS.p3 ?_ | refine LS.p4 ?_ | refine LS.p5 ?_ | refine LS.p6 ?_ | refine LS.p7 ?_ | refine LS.p8 ?_ | refine LS.p9 ?_ | refine LS.p10 ?_ | refine LS.p11 ?_ | refine LS.p12 ?_ | (with_reducible refine LS.c ?_))) (by omega) (by omega)
      · rw [if_neg (by omega)] at hsu
        have e9 : ((r0 : Nat) : Int) / 2 = ((r1 : Nat) : Int) := by omega
        rw [e9, ← hr1]
        exact loopQ_sp (k + 1) (by repeat (first | exact trivial | refine ⟨rfl, ?_⟩)) (by repeat (first | (with_reducible first | refine LS.p0 ?_ | refine LS.p1 ?_ | refine LS.p2 ?_ | refine LS.p3 ?_ | refine LS.p4 ?_ | refine LS.p5 ?_ | refine LS.p6 ?_ | refine LS.p7 ?_ | refine LS.p8 ?_ | refine LS.p9 ?_ | refine LS.p10 ?_ | refine LS.p11 ?_ | refine LS.p12 ?_ | refine LS.e ?_ | exact LS.refl _) | refine LS.p0 ?_ | refine LS.p1 ?_ | refine LS.p2 ?_ | refine LS.p3 ?_ | refine LS.p4 ?_ | refine LS.p5 ?_ | refine LS.p6 ?_ | refine LS.p7 ?_ | refine LS.p8 ?_ | refine LS.p9 ?_ | refine LS.p10 ?_ | refine LS.p11 ?_ | refine LS.p12 ?_ | (with_reducible refine LS.c ?_))) (by omega) (by omega)
    · have hk2 : k = 8 := by omega
      subst hk2
      repeat' (first | (show HW _ _ _ _ _ _; first | apply hw_seq | apply hw_region | apply hw_block | apply hw_exit | refine g_t ?_ | refine g_f ?_ | (refine g_b (fun h => ?_) (fun h => ?_) <;> ((try simp only [Bool.not_eq_eq_eq_not, Bool.not_true, Bool.not_false, decide_eq_true_eq, decide_eq_false_iff_not, Decidable.not_not, ne_eq, Bool.and_eq_true, beq_iff_eq, and_true, true_and, eq_self, decide_true, Bool.and_true, Bool.true_and, reduceCtorEq, not_true_eq_false, not_false_eq_true] at h); (try (exfalso; first | omega | with_reducible exact h (by assumption) | with_reducible exact absurd h (by assumption))))) | apply hw_skip | apply hw_ret) | (show HO _ _ _ _ _ _ _; first | apply ho_nil | refine g_q (qe S) ?_ | refine g_q (qt S) ?_ | refine g_q (qc8 S) ?_ | refine g_q (qc32 S) ?_ | refine g_q (qx32 S) ?_) | apply seqQ_normal | apply seqQ_ret | apply seqQ_exit | apply blkQ_here | refine g_bx ?_ | apply blkQ_ret | apply blkQ_normal | apply loopQ_ret | apply loopQ_exit | apply unQ_ret | apply unQ_exit | apply unQ_succ)
      rw [rc_8 hb]
      have e : crcR (s.take (i + 1)) = crcN 8 (crcR (s.take i) ^^^ (s.getD i 0).toNat) := by
        rw [List.take_succ_eq_append_getElem hlt]
        rw [show ∀ l b, crcR (l ++ [b]) = crcB (crcR l) b from fun l b => by simp [crcR]]
        simp [crcB, List.getD, hlt]
      rw [← e]
      exact loopQ_sp (i + 1) (by repeat (first | exact trivial | refine ⟨rfl, ?_⟩)) (by repeat (first | (with_reducible first | refine LS.p0 ?_ | refine LS.p1 ?_ | refine LS.p2 ?_ | refine LS.p3 ?_ | refine LS.p4 ?_ | refine LS.p5 ?_ | refine LS.p6 ?_ | refine LS.p7 ?_ | refine LS.p8 ?_ | refine LS.p9 ?_ | refine LS.p10 ?_ | refine LS.p11 ?_ | refine LS.p12 ?_ | refine LS.e ?_ | exact LS.refl _) | refine LS.p0 ?_ | refine LS.p1 ?_ | refine LS.p2 ?_ | refine LS.p3 ?_ | refine LS.p4 ?_ | refine LS.p5 ?_ | refine LS.p6 ?_ | refine LS.p7 ?_ | refine LS.p8 ?_ | refine LS.p9 ?_ | refine LS.p10 ?_ | refine LS.p11 ?_ | refine LS.p12 ?_ | (with_reducible refine LS.c ?_))) (by omega) (by omega)
  · have hi2 : i = s.length := by omega
    subst hi2
    repeat' (first | (show HW _ _ _ _ _ _; first | apply hw_seq | apply hw_region | apply hw_block | apply hw_exit | refine g_t ?_ | refine g_f ?_ | (refine g_b (fun h => ?_) (fun h => ?_) <;> ((try simp only [Bool.not_eq_eq_eq_not, Bool.not_true, Bool.not_false, decide_eq_true_eq, decide_eq_false_iff_not, Decidable.not_not, ne_eq, Bool.and_eq_true, beq_iff_eq, and_true, true_and, eq_self, decide_true, Bool.and_true, Bool.true_and, reduceCtorEq, not_true_eq_false, not_false_eq_true] at h); (try (exfalso; first | omega | with_reducible exact h (by assumption) | with_reducible exact absurd h (by assumption))))) | apply hw_skip | apply hw_ret) | (show HO _ _ _ _ _ _ _; first | apply ho_nil | refine g_q (qe S) ?_ | refine g_q (qt S) ?_ | refine g_q (qc8 S) ?_ | refine g_q (qc32 S) ?_ | refine g_q (qx32 S) ?_) | apply seqQ_normal | apply seqQ_ret | apply seqQ_exit | apply blkQ_here | refine g_bx ?_ | apply blkQ_ret | apply blkQ_normal | apply loopQ_ret | apply loopQ_exit | apply unQ_ret | apply unQ_exit | apply unQ_succ)
    refine sp1 (by repeat (first | exact LS.refl _ | apply LS.k | apply LS.c)) ⟨congrArg iv ?_, rfl⟩
    rw [List.take_length] at hc ⊢
    have := xor_ones hc
    unfold crc
    simp only [Int.toNat_natCast]
    rw [show Int.toNat 4294967295 = 4294967295 from rfl, this]
end Go.HL
end

/-! WrB -/
section
namespace Go.HL
open Go Go.Proofs
set_option linter.unusedVariables false
set_option linter.unusedSimpArgs false
def yesN (b : Bool) : Int := if b then 1 else 0
def encA (f : Fr) : List UInt8 := numB f.fr 1 ++ numB f.to 1 ++ numB f.dl 1 ++ numB f.kd 1 ++ numB f.att 4
def encB (f : Fr) : List UInt8 := numB (yesN f.yes) 1 ++ numB f.s.ph 1 ++ numB f.s.pr 4 ++ numB f.s.att 4
def cdF : Option Nat → Int
  | none => 0
  | some c => c
def fld (s : List UInt8) (a b : Nat) : Int := (rdN ((s.take b).drop a) : Nat)
attribute [local irreducible] HW HO HQ HD HC QOp Has Upd Puts Gets seqQ blkQ loopQ fnQ actQ nextP unQ MapF
attribute [local irreducible] numB crc encA encB
theorem rferr_calls (f : Fr) (L : Heap) : HC Tryd.prog 25 [.agg ⟨fc f⟩] L (fun v L' => v = iv (cdF (frameE f)) ∧ L' = L) := by
  unfold frameE
  refine hc_enter (fun _ _ => Tryd.call25 _ _) Tryd.func25 rfl Tryd.ntmps25 (Nat.le_of_ble_eq_true rfl) ?_; simp only [args0, Nat.reduceAdd]
  by_cases hb : badF f
  · rw [if_pos hb]
    repeat' (first | (show HW _ _ _ _ _ _; first | apply hw_seq | apply hw_region | refine g_t ?_ | refine g_f ?_ | (refine g_b (fun h => ?_) (fun h => ?_) <;> ((try simp only [Bool.not_eq_eq_eq_not, Bool.not_true, Bool.not_false, decide_eq_true_eq, decide_eq_false_iff_not, Decidable.not_not, ne_eq, Bool.and_eq_true, beq_iff_eq, and_true, true_and, eq_self, decide_true, Bool.and_true, Bool.true_and, reduceCtorEq, not_true_eq_false, not_false_eq_true] at h); (try (exfalso; first | omega | with_reducible exact h (by assumption) | with_reducible exact absurd h (by assumption))))) | apply hw_skip | apply hw_ret) | (show HO _ _ _ _ _ _ _; first | apply ho_nil | refine g_q (qe S) ?_ | refine g_q (ql S) ?_ | refine g_n ?_ | refine g_on ?_ | (refine g_s (fun h => ?_) (fun h => ?_) <;> ((try simp only [Bool.not_eq_eq_eq_not, Bool.not_true, Bool.not_false, decide_eq_true_eq, decide_eq_false_iff_not, Decidable.not_not, ne_eq, Bool.and_eq_true, beq_iff_eq, and_true, true_and, eq_self, decide_true, Bool.and_true, Bool.true_and, reduceCtorEq, not_true_eq_false, not_false_eq_true] at h); (try (exfalso; first | omega | with_reducible exact h (by assumption) | with_reducible exact absurd h (by assumption))))) | refine wb (fun b => ?_)) | apply seqQ_normal | apply seqQ_ret)
    all_goals first | exact sp1 (by repeat (first | exact LS.refl _ | apply LS.k | apply LS.c)) ⟨rfl, rfl⟩ | (exfalso; unfold badF at hb; omega)
  · rw [if_neg hb]
    repeat' (first | (show HW _ _ _ _ _ _; first | apply hw_seq | apply hw_region | refine g_t ?_ | refine g_f ?_ | (refine g_b (fun h => ?_) (fun h => ?_) <;> ((try simp only [Bool.not_eq_eq_eq_not, Bool.not_true, Bool.not_false, decide_eq_true_eq, decide_eq_false_iff_not, Decidable.not_not, ne_eq, Bool.and_eq_true, beq_iff_eq, and_true, true_and, eq_self, decide_true, Bool.and_true, Bool.true_and, reduceCtorEq, not_true_eq_false, not_false_eq_true] at h); (try (exfalso; first | omega | with_reducible exact h (by assumption) | with_reducible exact absurd h (by assumption))))) | apply hw_skip | apply hw_ret) | (show HO _ _ _ _ _ _ _; first | apply ho_nil | refine g_q (qe S) ?_ | refine g_q (ql S) ?_ | refine g_n ?_ | refine g_on ?_ | (refine g_s (fun h => ?_) (fun h => ?_) <;> ((try simp only [Bool.not_eq_eq_eq_not, Bool.not_true, Bool.not_false, decide_eq_true_eq, decide_eq_false_iff_not, Decidable.not_not, ne_eq, Bool.and_eq_true, beq_iff_eq, and_true, true_and, eq_self, decide_true, Bool.and_true, Bool.true_and, reduceCtorEq, not_true_eq_false, not_false_eq_true] at h); (try (exfalso; first | omega | with_reducible exact h (by assumption) | with_reducible exact absurd h (by assumption))))) | refine wb (fun b => ?_)) | apply seqQ_normal | apply seqQ_ret)
    all_goals first | exact sp1 (by repeat (first | exact LS.refl _ | apply LS.k | apply LS.c)) ⟨rfl, rfl⟩ | (exfalso; unfold badF at hb; omega)
end Go.HL
end

/-! WrC -/
section
namespace Go.HL
open Go Go.Proofs
set_option linter.unusedVariables false
set_option linter.unusedSimpArgs false
theorem put_st (x0 x1 x2 x3 x4 x5 a b c u v w : Value) : Puts [x0, x1, x2, x3, x4, x5, a, b, c] (0 + 6) [u, v, w] [x0, x1, x2, x3, x4, x5, u, v, w] := ⟨rfl, by simp⟩
attribute [local irreducible] HW HO HQ HD HC QOp Has Upd Puts Gets seqQ blkQ loopQ fnQ actQ nextP unQ MapF
attribute [local irreducible] numB crc encA encB lowB rdN
end Go.HL
end

/-! HLDs -/
section
namespace Go.HL
open Go
set_option linter.unusedVariables false
/-- all of a slice at once: one block, every place -/
theorem Rd.all {α : Type} {enc : α → List Value} {sz : Nat} {L : Heap} {a : Option Addr} {xs : List α} (h : Rd enc sz L a xs) (h0 : 0 < xs.length) : ∃ b i c E fr, a = some ⟨b, i, none⟩ ∧ Has L b (.cells ⟨c⟩ E fr) ∧ ∀ k (hk : k < xs.length), Gets c (i + ((k : Int)).toNat * sz) (enc xs[k]) := by
  rcases h with h | ⟨b, i, c, E, fr, rfl, hb, hg⟩
  · rw [h] at h0; simp at h0
  · exact ⟨b, i, c, E, fr, rfl, hb, fun k hk => by simpa using hg k _ (List.getElem?_eq_getElem hk)⟩
/-- no literal truth value -/
structure Fresh (b : Bool) : Prop where
  any : True
theorem fresh_t : Fresh true := ⟨trivial⟩
theorem fresh_f : Fresh false := ⟨trivial⟩
theorem fresh_any (b : Bool) : Fresh b := ⟨trivial⟩
section d
variable {P : Program} {n : Nat} {ops : List Oper} {Q : Exit → Env → Heap → Prop} {Ss : List (Nat × Blk)} {rem rem' : List (Nat × Oper)} {ρ : Env} {L : Heap} {i : Nat}
theorem d_sp {t j : Nat} {q : Oper} {b wt : Bool} (k : Nat) (h1 : b = true → HD P n ops Q Ss rem ((t, .bool true) :: ρ) L) (h0 : b = false → HD P n ops Q Ss rem ((t, .bool false) :: ρ) L) (h00 : okv ρ = true := by exact rfl) (hp : pickS k rem = some ((i, q), rem') := by exact rfl) (hq : q.guard = some (j, wt) := by exact rfl) (hj : gdst ops j = some t := by exact rfl) (ht : lk ρ t = some (.bool b) := by exact rfl)
    (hb : Fresh b := by (fail_if_success (with_reducible exact fresh_t)); (fail_if_success (with_reducible exact fresh_f)); exact fresh_any _) : HD P n ops Q Ss rem ρ L := hd_split ht h1 h0
end d
end Go.HL
end

/-! WrD -/
section
namespace Go.HL
open Go Go.Proofs
set_option linter.unusedVariables false
set_option linter.unusedSimpArgs false
theorem map_getW {α : Type} {enc : α → Value} {xs : List α} {k : Nat} {x : α} (h : xs[k]? = some x) : (xs.map enc)[0 + (k : Int).toNat]? = some (enc x) := by simp [h]
theorem fld_same (s : List UInt8) (a : Nat) : fld s a a = 0 := by
  unfold fld
  rw [List.drop_eq_nil_of_le (by simp; omega)]; rfl
theorem fld_snoc {s : List UInt8} {a k : Nat} (h : a ≤ k) (hk : k < s.length) : fld s a (k + 1) = 256 * fld s a k + ((s.getD k 0).toNat : Nat) := by
  unfold fld
  rw [List.take_succ_eq_append_getElem hk, List.drop_append_of_le_length (by simp; omega), rdN_snoc]
  simp [List.getD, hk]
  omega
theorem fld_lt {s : List UInt8} {a k : Nat} (h : k ≤ a + 4) : 0 ≤ fld s a k ∧ fld s a k < 4294967296 := by
  unfold fld
  have h1 := rdN_lt ((s.take k).drop a)
  have h2 : ((s.take k).drop a).length ≤ 4 := by simp; omega
  have h3 : 256 ^ ((s.take k).drop a).length ≤ 256 ^ 4 := Nat.pow_le_pow_right (by decide) h2
  omega
attribute [local irreducible] HW HO HQ HD HC QOp Has Upd Puts Gets seqQ blkQ loopQ fnQ actQ nextP unQ MapF
attribute [local irreducible] numB crc encA encB lowB rdN fld
end Go.HL
end

/-! JaA -/
section
namespace Go.HL
open Go Go.Proofs
set_option linter.unusedVariables false
set_option linter.unusedSimpArgs false
def ends4 : List Int := [4, 5, 9, 13]
def en4 : Nat → Nat
  | 0 => 4 | 1 => 5 | 2 => 9 | _ => 13
def be4 : Nat → Nat
  | 0 => 0
  | i + 1 => en4 i
theorem en4_get {i : Nat} (h : i < 4) : ends4[i]? = some (en4 i : Int) := by
  have : ∀ i, i < 4 → ends4[i]? = some (en4 i : Int) := by decide
  exact this i h
theorem en4_fact {i : Nat} (h : i < 4) : be4 i ≤ en4 i ∧ en4 i ≤ 13 ∧ en4 i ≤ be4 i + 4 := by
  have : ∀ i, i < 4 → be4 i ≤ en4 i ∧ en4 i ≤ 13 ∧ en4 i ≤ be4 i + 4 := by decide
  exact this i h
def val4 (s : List UInt8) (i : Nat) : List Int := (List.range i).map fun q => fld s (be4 q) (en4 q)
theorem val4_succ (s : List UInt8) (i : Nat) : val4 s (i + 1) = val4 s i ++ [fld s (be4 i) (en4 i)] := by
  unfold val4
  rw [List.range_succ, List.map_append]; rfl
theorem val4_len (s : List UInt8) (i : Nat) : (val4 s i).length = i := by simp [val4]
theorem parse_fld (s : List UInt8) : parse s = ⟨fld s 0 4, fld s 4 5, fld s 5 9, fld s 9 13⟩ := rfl
theorem slot_cut (b : List UInt8) (i : Nat) : (b.take (((i : Int) + 1) * 18).toNat).drop ((i : Int) * 18).toNat = slot b i := by
  unfold slot
  rw [List.drop_take, show ((i : Int) * 18).toNat = i * 18 by omega, show (((i : Int) + 1) * 18).toNat - i * 18 = 18 by omega]
theorem upd_zero (k : Int) (s : List UInt8) (hs : 4 ≤ s.length) : updE zeroE (heldM k s) = heldM k s := by
  unfold updE
  split
  · rfl
  · rename_i h
    have hn := heldM_n k s hs
    have h0 : (heldM k s).n = 0 := by simp only [zeroE] at h; omega
    rw [heldM_eq] at h0 ⊢
    split
    · rfl
    · rename_i hc
      rw [if_neg hc] at h0
      omega
theorem deal_two {b : List UInt8} {d : Nat} (hd : d < 6) (hl : 216 ≤ b.length) : dealM b d = if (heldM 0 (slot b (2 * d))).n < (heldM 1 (slot b (2 * d + 1))).n then heldM 1 (slot b (2 * d + 1)) else heldM 0 (slot b (2 * d)) := by
  unfold dealM
  simp only [partE]
  rw [show ((0 : Nat) : Int) = 0 from rfl, show ((1 : Nat) : Int) = 1 from rfl, Nat.add_zero, upd_zero _ _ (by rw [slot_len _ _ (by omega) hl]; decide)]
  rfl
attribute [local irreducible] HW HO HQ HD HC QOp Has Upd Puts Gets seqQ blkQ loopQ fnQ actQ nextP unQ MapF
attribute [local irreducible] numB crc encA encB lowB rdN fld
theorem rbody_calls (e : Ent) (L : Heap) (h0 : 0 ≤ e.n ∧ e.n ≤ 9223372036854775807) (h1 : 0 ≤ e.s.ph ∧ e.s.ph ≤ 9223372036854775807) (h2 : 0 ≤ e.s.pr ∧ e.s.pr ≤ 9223372036854775807) (h3 : 0 ≤ e.s.att ∧ e.s.att ≤ 9223372036854775807) : HC Tryd.prog 109 [iv e.n, .agg ⟨sc e.s⟩] L (fun v L' => v = bs (bodyM e) ∧ L' = L) := by
  have k1 := fun L => rwide_calls e.n 4 L h0.1 h0.2 (by decide)
  have k2 := fun L => rwide_calls e.s.ph 1 L h1.1 h1.2 (by decide)
  have k3 := fun L => rwide_calls e.s.pr 4 L h2.1 h2.2 (by decide)
  have k4 := fun L => rwide_calls e.s.att 4 L h3.1 h3.2 (by decide)
  have hcl : crc (head e) < 4294967296 := by unfold crc; omega
  have k5 := fun L => rwide_calls (crc (head e)) 4 L (by omega) (by omega) (by decide)
  have hh : (head e).length = 13 := by simp [head, numB_len]
  have k6 := fun L => rcrc_calls (head e) L (by omega)
  have n1 := numB_len e.n 4
  have n2 := numB_len e.s.ph 1
  have n3 := numB_len e.s.pr 4
  have n4 := numB_len e.s.att 4
  have n5 := numB_len (crc (head e)) 4
  have e1 : numB e.n 4 ++ numB e.s.ph 1 ++ numB e.s.pr 4 ++ numB e.s.att 4 = head e := rfl
  refine hc_enter (fun _ _ => Tryd.call109 _ _) Tryd.func109 rfl Tryd.ntmps109 (Nat.le_of_ble_eq_true rfl) ?_; simp only [args0, Nat.reduceAdd]
  repeat' (first | (show HW _ _ _ _ _ _; first | apply hw_seq | apply hw_region | apply hw_ret | refine g_k S ?_) | (show HO _ _ _ _ _ _ _; first | apply ho_nil | refine g_q (qe S) ?_ | refine g_q (ql S) ?_ | refine g_q (qC (k1 _)) ?_ | refine g_q (qC (k2 _)) ?_ | refine g_q (qC (k3 _)) ?_ | refine g_q (qC (k4 _)) ?_ | refine wb (fun b => ?_)) | (show HQ _ _ _ _ _ _ _; first | apply hq_nil | refine k_q (qe S) ?_ | refine k_q (ql S) ?_ | refine k_q (qC (k1 _)) ?_ | refine k_q (qC (k2 _)) ?_ | refine k_q (qC (k3 _)) ?_ | refine k_q (qC (k4 _)) ?_) | apply seqQ_normal | apply seqQ_ret)
  rw [e1]
  repeat' (first | (show HW _ _ _ _ _ _; first | apply hw_seq | apply hw_region | apply hw_ret | refine g_k S ?_) | (show HO _ _ _ _ _ _ _; first | apply ho_nil | refine g_q (qe S) ?_ | refine g_q (ql S) ?_ | refine g_q (qC (k5 _)) ?_ | refine g_q (qC (k6 _)) ?_ | refine wb (fun b => ?_)) | (show HQ _ _ _ _ _ _ _; first | apply hq_nil | refine k_q (qe S) ?_ | refine k_q (ql S) ?_ | refine k_q (qC (k5 _)) ?_ | refine k_q (qC (k6 _)) ?_) | apply seqQ_normal | apply seqQ_ret)
  exact sp1 (L' := L) (by repeat (first | (with_reducible first | refine LS.p0 ?_ | refine LS.p1 ?_ | refine LS.p2 ?_ | refine LS.p3 ?_ | refine LS.p4 ?_ | refine LS.p5 ?_ | refine LS.p6 ?_ | refine LS.p7 ?_ | refine LS.p8 ?_ | refine LS.p9 ?_ | refine LS.p10 ?_ | refine LS.p11 ?_ | refine LS.p12 ?_ | refine LS.e ?_ | exact LS.refl _) | refine LS.p0 ?_ | refine LS.p1 ?_ | refine LS.p2 ?_ | refine LS.p3 ?_ | refine LS.p4 ?_ | refine LS.p5 ?_ | refine LS.p6 ?_ | refine LS.p7 ?_ | refine LS.p8 ?_ | refine LS.p9 ?_ | refine LS.p10 ?_ | refine LS.p11 ?_ | refine LS.p12 ?_ | (with_reducible refine LS.c ?_))) ⟨rfl, rfl⟩
theorem rheld_calls (bb : List UInt8) (i : Nat) (L : Heap) (hi : i < 12) (hl : 216 ≤ bb.length) (hh : bb.length ≤ 1000000) : HC Tryd.prog 137 [bs bb, iv i] L (fun v L' => v = .tuple ⟨[iv (heldM ((i : Int) % 2) (slot bb i)).n, .agg ⟨sc (heldM ((i : Int) % 2) (slot bb i)).s⟩]⟩ ∧ L' = L) := by
  have hs := slot_len bb i hi hl
  have hc := slot_cut bb i
  rw [heldM_eq, parse_fld]
  refine hc_enter (fun _ _ => Tryd.call137 _ _) Tryd.func137 rfl Tryd.ntmps137 (Nat.le_of_ble_eq_true rfl) ?_; simp only [args0, Nat.reduceAdd]
  repeat' (first | (show HW _ _ _ _ _ _; first | apply hw_seq | apply hw_region | apply hw_block | apply hw_exit | refine g_t ?_ | refine g_f ?_ | (refine g_b (fun h => ?_) (fun h => ?_) <;> ((try simp only [Bool.not_eq_eq_eq_not, Bool.not_true, Bool.not_false, decide_eq_true_eq, decide_eq_false_iff_not, Decidable.not_not, ne_eq, Bool.and_eq_true, beq_iff_eq, and_true, true_and, eq_self, decide_true, Bool.and_true, Bool.true_and, reduceCtorEq, not_true_eq_false, not_false_eq_true] at h); (try (exfalso; first | omega | with_reducible exact h (by assumption) | with_reducible exact absurd h (by assumption))))) | apply hw_skip | apply hw_ret | refine g_k S ?_ | refine g_w S ?_) | (show HO _ _ _ _ _ _ _; first | apply ho_nil | refine g_q (qe S) ?_ | refine g_q (ql S) ?_ | refine g_q (qs S) ?_ | refine g_q (qt S) ?_ | refine g_q (qc8 S) ?_ | refine g_q (qc32 S) ?_ | refine g_q (qb S) ?_ | refine g_q (qbA S) ?_ | refine g_q (qSl S) ?_ | refine g_q (qSh S) ?_ | refine g_q (qSb S) ?_ | refine g_q (qC ()) ?_ | refine g_n ?_ | refine g_on ?_ | (refine g_s (fun h => ?_) (fun h => ?_) <;> ((try simp only [Bool.not_eq_eq_eq_not, Bool.not_true, Bool.not_false, decide_eq_true_eq, decide_eq_false_iff_not, Decidable.not_not, ne_eq, Bool.and_eq_true, beq_iff_eq, and_true, true_and, eq_self, decide_true, Bool.and_true, Bool.true_and, reduceCtorEq, not_true_eq_false, not_false_eq_true] at h); (try (exfalso; first | omega | with_reducible exact h (by assumption) | with_reducible exact absurd h (by assumption))))) | refine wa S (fun b => ?_) | refine ws S ?_ | refine wS S (fun b => ?_) | refine wSa S (fun b => ?_) | refine wSn S (fun b => ?_)) | (show HQ _ _ _ _ _ _ _; first | apply hq_nil | refine k_q (qe S) ?_ | refine k_q (ql S) ?_ | refine k_q (qs S) ?_ | refine k_q (qt S) ?_ | refine k_q (qc8 S) ?_ | refine k_q (qc32 S) ?_ | refine k_q (qb S) ?_ | refine k_q (qbA S) ?_ | refine k_q (qSl S) ?_ | refine k_q (qSh S) ?_ | refine k_q (qSb S) ?_ | refine k_q (qC ()) ?_ | refine k_n ?_ | (refine k_s (fun h => ?_) (fun h => ?_) <;> ((try simp only [Bool.not_eq_eq_eq_not, Bool.not_true, Bool.not_false, decide_eq_true_eq, decide_eq_false_iff_not, Decidable.not_not, ne_eq, Bool.and_eq_true, beq_iff_eq, and_true, true_and, eq_self, decide_true, Bool.and_true, Bool.true_and, reduceCtorEq, not_true_eq_false, not_false_eq_true] at h); (try (exfalso; first | omega | with_reducible exact h (by assumption) | with_reducible exact absurd h (by assumption)))))) | (show HD _ _ _ _ _ _ _ _; first | apply hd_nil | refine d_q 100 (by exact rfl) (fun _ => qe S) ?_ | refine d_q 100 (by exact rfl) (fun _ => qc8 S) ?_ | refine d_q 100 (by exact rfl) (fun _ => qc32 S) ?_ | refine d_q 100 (by exact rfl) (fun _ => qb S) ?_ | refine d_q 100 (by exact rfl) (fun _ => qbA S) ?_ | refine d_q 100 (by exact rfl) (fun _ => qSl S) ?_ | refine d_q 100 (by exact rfl) (fun _ => qSh S) ?_ | refine d_q 100 (by exact rfl) (fun _ => qSb S) ?_ | refine dl S 100 ?_ | refine ds S 100 ?_ | refine d_n 100 ?_ | (refine d_sp 100 (fun h => ?_) (fun h => ?_) <;> ((try simp only [Bool.not_eq_eq_eq_not, Bool.not_true, Bool.not_false, decide_eq_true_eq, decide_eq_false_iff_not, Decidable.not_not, ne_eq, Bool.and_eq_true, beq_iff_eq, and_true, true_and, eq_self, decide_true, Bool.and_true, Bool.true_and, reduceCtorEq, not_true_eq_false, not_false_eq_true] at h); (try (exfalso; first | omega | with_reducible exact h (by assumption) | with_reducible exact absurd h (by assumption))))) | refine d_q 0 (by exact rfl) (fun _ => qC ()) ?_ | refine d_q 1 (by exact rfl) (fun _ => qC ()) ?_ | refine d_q 2 (by exact rfl) (fun _ => qC ()) ?_ | refine d_q 3 (by exact rfl) (fun _ => qC ()) ?_ | refine da 101 ?_) | refine dx ?_ | apply dx0 | refine dxd ?_ | refine dxk ?_ | apply seqQ_normal | apply seqQ_ret | apply seqQ_exit | apply blkQ_here | refine g_bx ?_ | apply blkQ_ret | apply blkQ_normal | apply loopQ_ret | apply loopQ_exit | apply unQ_ret | apply unQ_exit | apply unQ_succ)
  rw [hc]
  generalize slot bb i = s at *
  rename_i bR
  generalize b = bE
  refine hw_sp (L' := [] :: [(bE, .cells ⟨ends4.map iv⟩ 3)] :: [(bR, .cells ⟨sc ⟨0, 0, 0⟩⟩ 34)] :: L) ?_ (by repeat (first | (with_reducible first | refine LS.p0 ?_ | refine LS.p1 ?_ | refine LS.p2 ?_ | refine LS.p3 ?_ | refine LS.p4 ?_ | refine LS.p5 ?_ | refine LS.p6 ?_ | refine LS.p7 ?_ | refine LS.p8 ?_ | refine LS.p9 ?_ | refine LS.p10 ?_ | refine LS.p11 ?_ | refine LS.p12 ?_ | refine LS.e ?_ | exact LS.refl _) | refine LS.p0 ?_ | refine LS.p1 ?_ | refine LS.p2 ?_ | refine LS.p3 ?_ | refine LS.p4 ?_ | refine LS.p5 ?_ | refine LS.p6 ?_ | refine LS.p7 ?_ | refine LS.p8 ?_ | refine LS.p9 ?_ | refine LS.p10 ?_ | refine LS.p11 ?_ | refine LS.p12 ?_ | (with_reducible refine LS.c ?_)))
  refine hw_loop (σ := Nat × Value × List Blk) (fun q => [(1, iv i), (5, pt bR 0), (6, bs s), (7, q.2.1), (8, sl bE 0 4 4), (9, iv (be4 q.1)), (10, iv q.1)]) (fun q => q.2.2 :: [(bE, .cells ⟨ends4.map iv⟩ 3)] :: [(bR, .cells ⟨sc ⟨0, 0, 0⟩⟩ 34)] :: L) (fun q => q.1 ≤ 4 ∧ Vec 3 1 ic q.2.1 (val4 s q.1) q.2.2) (fun q => 4 - q.1) (0, nilS, []) (by repeat (first | exact trivial | refine ⟨rfl, ?_⟩)) (List.Sublist.refl _) ⟨by simp, vec_nil⟩ ?_
  rintro ⟨i4, v, c⟩ ⟨hi4, hv⟩
  simp only at hi4 hv ⊢
  by_cases hlt : i4 < 4
  · obtain ⟨f1, f2, f3⟩ := en4_fact hlt
    have ge := map_getW (enc := iv) (en4_get hlt)
    repeat' (first | (show HW _ _ _ _ _ _; first | apply hw_seq | apply hw_region | apply hw_block | apply hw_exit | refine g_t ?_ | refine g_f ?_ | (refine g_b (fun h => ?_) (fun h => ?_) <;> ((try simp only [Bool.not_eq_eq_eq_not, Bool.not_true, Bool.not_false, decide_eq_true_eq, decide_eq_false_iff_not, Decidable.not_not, ne_eq, Bool.and_eq_true, beq_iff_eq, and_true, true_and, eq_self, decide_true, Bool.and_true, Bool.true_and, reduceCtorEq, not_true_eq_false, not_false_eq_true] at h); (try (exfalso; first | omega | with_reducible exact h (by assumption) | with_reducible exact absurd h (by assumption))))) | apply hw_skip | apply hw_ret | refine g_d S ?_) | (show HO _ _ _ _ _ _ _; first | apply ho_nil | refine g_q (qe S) ?_ | refine g_q (ql S) ?_ | refine g_q (qs S) ?_ | refine g_q (qt S) ?_ | refine g_q (qc8 S) ?_ | refine g_q (qc32 S) ?_ | refine g_q (qb S) ?_ | refine g_q (qbA S) ?_ | refine g_q (qSl S) ?_ | refine g_q (qSh S) ?_ | refine g_q (qSb S) ?_ | refine g_n ?_ | refine g_on ?_ | (refine g_s (fun h => ?_) (fun h => ?_) <;> ((try simp only [Bool.not_eq_eq_eq_not, Bool.not_true, Bool.not_false, decide_eq_true_eq, decide_eq_false_iff_not, Decidable.not_not, ne_eq, Bool.and_eq_true, beq_iff_eq, and_true, true_and, eq_self, decide_true, Bool.and_true, Bool.true_and, reduceCtorEq, not_true_eq_false, not_false_eq_true] at h); (try (exfalso; first | omega | with_reducible exact h (by assumption) | with_reducible exact absurd h (by assumption))))) | refine wa S (fun b => ?_) | refine ws S ?_ | refine wS S (fun b => ?_) | refine wSa S (fun b => ?_) | refine wSn S (fun b => ?_)) | (show HD _ _ _ _ _ _ _ _; first | apply hd_nil | refine d_q 100 (by exact rfl) (fun _ => qe S) ?_ | refine d_q 100 (by exact rfl) (fun _ => qc8 S) ?_ | refine d_q 100 (by exact rfl) (fun _ => qc32 S) ?_ | refine d_q 100 (by exact rfl) (fun _ => qb S) ?_ | refine d_q 100 (by exact rfl) (fun _ => qbA S) ?_ | refine d_q 100 (by exact rfl) (fun _ => qSl S) ?_ | refine d_q 100 (by exact rfl) (fun _ => qSh S) ?_ | refine d_q 100 (by exact rfl) (fun _ => qSb S) ?_ | refine dl S 100 ?_ | refine ds S 100 ?_ | refine d_n 100 ?_ | (refine d_sp 100 (fun h => ?_) (fun h => ?_) <;> ((try simp only [Bool.not_eq_eq_eq_not, Bool.not_true, Bool.not_false, decide_eq_true_eq, decide_eq_false_iff_not, Decidable.not_not, ne_eq, Bool.and_eq_true, beq_iff_eq, and_true, true_and, eq_self, decide_true, Bool.and_true, Bool.true_and, reduceCtorEq, not_true_eq_false, not_false_eq_true] at h); (try (exfalso; first | omega | with_reducible exact h (by assumption) | with_reducible exact absurd h (by assumption))))) | refine da 101 ?_) | refine dx ?_ | apply dx0 | refine dxd ?_ | refine dxk ?_ | apply seqQ_normal | apply seqQ_ret | apply seqQ_exit | apply blkQ_here | refine g_bx ?_ | apply blkQ_ret | apply blkQ_normal | apply loopQ_ret | apply loopQ_exit | apply unQ_ret | apply unQ_exit | apply unQ_succ)
    have e0 : (Value.int .i64 0) = iv (fld s (be4 i4) (be4 i4)) := by rw [fld_same]
    rw [e0]
    refine hw_loop (σ := Nat) (fun k => [(1, iv i), (5, pt bR 0), (6, bs s), (7, v), (8, sl bE 0 4 4), (9, iv k), (10, iv i4), (11, iv (fld s (be4 i4) k))]) (fun _ => c :: [(bE, .cells ⟨ends4.map iv⟩ 3)] :: [(bR, .cells ⟨sc ⟨0, 0, 0⟩⟩ 34)] :: L) (fun k => be4 i4 ≤ k ∧ k ≤ en4 i4) (fun k => en4 i4 - k) (be4 i4) (by repeat (first | exact trivial | refine ⟨rfl, ?_⟩)) (List.Sublist.refl _) ⟨Nat.le_refl _, f1⟩ ?_
    rintro k ⟨k3, k4⟩
    have hfl := fld_lt (s := s) (a := be4 i4) (k := k) (by omega)
    by_cases hk : k < en4 i4
    · have hb2 := (s.getD (k : Int).toNat 0).toNat_lt
      have hsn := fld_snoc (s := s) k3 (show k < s.length by omega)
      have ek : s.getD (k : Int).toNat 0 = s.getD k 0 := rfl
      repeat' (first | (show HW _ _ _ _ _ _; first | apply hw_seq | apply hw_region | apply hw_block | apply hw_exit | refine g_t ?_ | refine g_f ?_ | (refine g_b (fun h => ?_) (fun h => ?_) <;> ((try simp only [Bool.not_eq_eq_eq_not, Bool.not_true, Bool.not_false, decide_eq_true_eq, decide_eq_false_iff_not, Decidable.not_not, ne_eq, Bool.and_eq_true, beq_iff_eq, and_true, true_and, eq_self, decide_true, Bool.and_true, Bool.true_and, reduceCtorEq, not_true_eq_false, not_false_eq_true] at h); (try (exfalso; first | omega | with_reducible exact h (by assumption) | with_reducible exact absurd h (by assumption))))) | apply hw_skip | apply hw_ret | refine g_d S ?_) | (show HO _ _ _ _ _ _ _; first | apply ho_nil | refine g_q (qe S) ?_ | refine g_q (ql S) ?_ | refine g_q (qs S) ?_ | refine g_q (qt S) ?_ | refine g_q (qc8 S) ?_ | refine g_q (qc32 S) ?_ | refine g_q (qb S) ?_ | refine g_q (qbA S) ?_ | refine g_q (qSl S) ?_ | refine g_q (qSh S) ?_ | refine g_q (qSb S) ?_ | refine g_n ?_ | refine g_on ?_ | (refine g_s (fun h => ?_) (fun h => ?_) <;> ((try simp only [Bool.not_eq_eq_eq_not, Bool.not_true, Bool.not_false, decide_eq_true_eq, decide_eq_false_iff_not, Decidable.not_not, ne_eq, Bool.and_eq_true, beq_iff_eq, and_true, true_and, eq_self, decide_true, Bool.and_true, Bool.true_and, reduceCtorEq, not_true_eq_false, not_false_eq_true] at h); (try (exfalso; first | omega | with_reducible exact h (by assumption) | with_reducible exact absurd h (by assumption))))) | refine wa S (fun b => ?_) | refine ws S ?_ | refine wS S (fun b => ?_) | refine wSa S (fun b => ?_) | refine wSn S (fun b => ?_)) | (show HD _ _ _ _ _ _ _ _; first | apply hd_nil | refine d_q 100 (by exact rfl) (fun _ => qe S) ?_ | refine d_q 100 (by exact rfl) (fun _ => qc8 S) ?_ | refine d_q 100 (by exact rfl) (fun _ => qc32 S) ?_ | refine d_q 100 (by exact rfl) (fun _ => qb S) ?_ | refine d_q 100 (by exact rfl) (fun _ => qbA S) ?_ | refine d_q 100 (by exact rfl) (fun _ => qSl S) ?_ | refine d_q 100 (by exact rfl) (fun _ => qSh S) ?_ | refine d_q 100 (by exact rfl) (fun _ => qSb S) ?_ | refine dl S 100 ?_ | refine ds S 100 ?_ | refine d_n 100 ?_ | (refine d_sp 100 (fun h => ?_) (fun h => ?_) <;> ((try simp only [Bool.not_eq_eq_eq_not, Bool.not_true, Bool.not_false, decide_eq_true_eq, decide_eq_false_iff_not, Decidable.not_not, ne_eq, Bool.and_eq_true, beq_iff_eq, and_true, true_and, eq_self, decide_true, Bool.and_true, Bool.true_and, reduceCtorEq, not_true_eq_false, not_false_eq_true] at h); (try (exfalso; first | omega | with_reducible exact h (by assumption) | with_reducible exact absurd h (by assumption))))) | refine da 101 ?_) | refine dx ?_ | apply dx0 | refine dxd ?_ | refine dxk ?_ | apply seqQ_normal | apply seqQ_ret | apply seqQ_exit | apply blkQ_here | refine g_bx ?_ | apply blkQ_ret | apply blkQ_normal | apply loopQ_ret | apply loopQ_exit | apply unQ_ret | apply unQ_exit | apply unQ_succ)
      rw [ek, ← hsn]
      exact loopQ_sp (k + 1) (by repeat (first | exact trivial | refine ⟨rfl, ?_⟩)) (by repeat (first | (with_reducible first | refine LS.p0 ?_ | refine LS.p1 ?_ | refine LS.p2 ?_ | refine LS.p3 ?_ | refine LS.p4 ?_ | refine LS.p5 ?_ | refine LS.p6 ?_ | refine LS.p7 ?_ | refine LS.p8 ?_ | refine LS.p9 ?_ | refine LS.p10 ?_ | refine LS.p11 ?_ | refine LS.p12 ?_ | refine LS.e ?_ | exact LS.refl _) | refine LS.p0 ?_ | refine LS.p1 ?_ | refine LS.p2 ?_ | refine LS.p3 ?_ | refine LS.p4 ?_ | refine LS.p5 ?_ | refine LS.p6 ?_ | refine LS.p7 ?_ | refine LS.p8 ?_ | refine LS.p9 ?_ | refine LS.p10 ?_ | refine LS.p11 ?_ | refine LS.p12 ?_ | (with_reducible refine LS.c ?_))) ⟨by omega, by omega⟩ (by omega)
    · have hke : k = en4 i4 := by omega
      subst hke
      have hvl := val4_len s i4
      repeat' (first | (show HW _ _ _ _ _ _; first | apply hw_seq | apply hw_region | apply hw_block | apply hw_exit | refine g_t ?_ | refine g_f ?_ | (refine g_b (fun h => ?_) (fun h => ?_) <;> ((try simp only [Bool.not_eq_eq_eq_not, Bool.not_true, Bool.not_false, decide_eq_true_eq, decide_eq_false_iff_not, Decidable.not_not, ne_eq, Bool.and_eq_true, beq_iff_eq, and_true, true_and, eq_self, decide_true, Bool.and_true, Bool.true_and, reduceCtorEq, not_true_eq_false, not_false_eq_true] at h); (try (exfalso; first | omega | with_reducible exact h (by assumption) | with_reducible exact absurd h (by assumption))))) | apply hw_skip | apply hw_ret | refine g_d S ?_) | (show HO _ _ _ _ _ _ _; first | apply ho_nil | refine g_q (qe S) ?_ | refine g_q (ql S) ?_ | refine g_q (qs S) ?_ | refine g_q (qt S) ?_ | refine g_q (qc8 S) ?_ | refine g_q (qc32 S) ?_ | refine g_q (qb S) ?_ | refine g_q (qbA S) ?_ | refine g_q (qSl S) ?_ | refine g_q (qSh S) ?_ | refine g_q (qSb S) ?_ | refine g_n ?_ | refine g_on ?_ | (refine g_s (fun h => ?_) (fun h => ?_) <;> ((try simp only [Bool.not_eq_eq_eq_not, Bool.not_true, Bool.not_false, decide_eq_true_eq, decide_eq_false_iff_not, Decidable.not_not, ne_eq, Bool.and_eq_true, beq_iff_eq, and_true, true_and, eq_self, decide_true, Bool.and_true, Bool.true_and, reduceCtorEq, not_true_eq_false, not_false_eq_true] at h); (try (exfalso; first | omega | with_reducible exact h (by assumption) | with_reducible exact absurd h (by assumption))))) | refine wa S (fun b => ?_) | refine ws S ?_ | refine wS S (fun b => ?_) | refine wSa S (fun b => ?_) | refine wSn S (fun b => ?_)) | (show HD _ _ _ _ _ _ _ _; first | apply hd_nil | refine d_q 100 (by exact rfl) (fun _ => qe S) ?_ | refine d_q 100 (by exact rfl) (fun _ => qc8 S) ?_ | refine d_q 100 (by exact rfl) (fun _ => qc32 S) ?_ | refine d_q 100 (by exact rfl) (fun _ => qb S) ?_ | refine d_q 100 (by exact rfl) (fun _ => qbA S) ?_ | refine d_q 100 (by exact rfl) (fun _ => qSl S) ?_ | refine d_q 100 (by exact rfl) (fun _ => qSh S) ?_ | refine d_q 100 (by exact rfl) (fun _ => qSb S) ?_ | refine dl S 100 ?_ | refine ds S 100 ?_ | refine d_n 100 ?_ | (refine d_sp 100 (fun h => ?_) (fun h => ?_) <;> ((try simp only [Bool.not_eq_eq_eq_not, Bool.not_true, Bool.not_false, decide_eq_true_eq, decide_eq_false_iff_not, Decidable.not_not, ne_eq, Bool.and_eq_true, beq_iff_eq, and_true, true_and, eq_self, decide_true, Bool.and_true, Bool.true_and, reduceCtorEq, not_true_eq_false, not_false_eq_true] at h); (try (exfalso; first | omega | with_reducible exact h (by assumption) | with_reducible exact absurd h (by assumption))))) | refine da 101 ?_) | refine dx ?_ | apply dx0 | refine dxd ?_ | refine dxk ?_ | apply seqQ_normal | apply seqQ_ret | apply seqQ_exit | apply blkQ_here | refine g_bx ?_ | apply blkQ_ret | apply blkQ_normal | apply loopQ_ret | apply loopQ_exit | apply unQ_ret | apply unQ_exit | apply unQ_succ)
      refine fo 1 ?_
      refine wp1 S (fld s (be4 i4) (en4 i4)) hv (fun _ => rfl) (fun _ => rfl) ?_
      intro v' c' hv'
      rw [← val4_succ] at hv'
      repeat' (first | (show HW _ _ _ _ _ _; first | apply hw_seq | apply hw_region | apply hw_block | apply hw_exit | refine g_t ?_ | refine g_f ?_ | (refine g_b (fun h => ?_) (fun h => ?_) <;> ((try simp only [Bool.not_eq_eq_eq_not, Bool.not_true, Bool.not_false, decide_eq_true_eq, decide_eq_false_iff_not, Decidable.not_not, ne_eq, Bool.and_eq_true, beq_iff_eq, and_true, true_and, eq_self, decide_true, Bool.and_true, Bool.true_and, reduceCtorEq, not_true_eq_false, not_false_eq_true] at h); (try (exfalso; first | omega | with_reducible exact h (by assumption) | with_reducible exact absurd h (by assumption))))) | apply hw_skip | apply hw_ret | refine g_d S ?_) | (show HO _ _ _ _ _ _ _; first | apply ho_nil | refine g_q (qe S) ?_ | refine g_q (ql S) ?_ | refine g_q (qs S) ?_ | refine g_q (qt S) ?_ | refine g_q (qc8 S) ?_ | refine g_q (qc32 S) ?_ | refine g_q (qb S) ?_ | refine g_q (qbA S) ?_ | refine g_q (qSl S) ?_ | refine g_q (qSh S) ?_ | refine g_q (qSb S) ?_ | refine g_n ?_ | refine g_on ?_ | (refine g_s (fun h => ?_) (fun h => ?_) <;> ((try simp only [Bool.not_eq_eq_eq_not, Bool.not_true, Bool.not_false, decide_eq_true_eq, decide_eq_false_iff_not, Decidable.not_not, ne_eq, Bool.and_eq_true, beq_iff_eq, and_true, true_and, eq_self, decide_true, Bool.and_true, Bool.true_and, reduceCtorEq, not_true_eq_false, not_false_eq_true] at h); (try (exfalso; first | omega | with_reducible exact h (by assumption) | with_reducible exact absurd h (by assumption))))) | refine wa S (fun b => ?_) | refine ws S ?_ | refine wS S (fun b => ?_) | refine wSa S (fun b => ?_) | refine wSn S (fun b => ?_)) | (show HD _ _ _ _ _ _ _ _; first | apply hd_nil | refine d_q 100 (by exact rfl) (fun _ => qe S) ?_ | refine d_q 100 (by exact rfl) (fun _ => qc8 S) ?_ | refine d_q 100 (by exact rfl) (fun _ => qc32 S) ?_ | refine d_q 100 (by exact rfl) (fun _ => qb S) ?_ | refine d_q 100 (by exact rfl) (fun _ => qbA S) ?_ | refine d_q 100 (by exact rfl) (fun _ => qSl S) ?_ | refine d_q 100 (by exact rfl) (fun _ => qSh S) ?_ | refine d_q 100 (by exact rfl) (fun _ => qSb S) ?_ | refine dl S 100 ?_ | refine ds S 100 ?_ | refine d_n 100 ?_ | (refine d_sp 100 (fun h => ?_) (fun h => ?_) <;> ((try simp only [Bool.not_eq_eq_eq_not, Bool.not_true, Bool.not_false, decide_eq_true_eq, decide_eq_false_iff_not, Decidable.not_not, ne_eq, Bool.and_eq_true, beq_iff_eq, and_true, true_and, eq_self, decide_true, Bool.and_true, Bool.true_and, reduceCtorEq, not_true_eq_false, not_false_eq_true] at h); (try (exfalso; first | omega | with_reducible exact h (by assumption) | with_reducible exact absurd h (by assumption))))) | refine da 101 ?_) | refine dx ?_ | apply dx0 | refine dxd ?_ | refine dxk ?_ | apply seqQ_normal | apply seqQ_ret | apply seqQ_exit | apply blkQ_here | refine g_bx ?_ | apply blkQ_ret | apply blkQ_normal | apply loopQ_ret | apply loopQ_exit | apply unQ_ret | apply unQ_exit | apply unQ_succ)
      exact loopQ_sp (i4 + 1, v', c') (by repeat (first | exact trivial | refine ⟨rfl, ?_⟩)) (by repeat (first | (with_reducible first | refine LS.p0 ?_ | refine LS.p1 ?_ | refine LS.p2 ?_ | refine LS.p3 ?_ | refine LS.p4 ?_ | refine LS.p5 ?_ | refine LS.p6 ?_ | refine LS.p7 ?_ | refine LS.p8 ?_ | refine LS.p9 ?_ | refine LS.p10 ?_ | refine LS.p11 ?_ | refine LS.p12 ?_ | refine LS.e ?_ | exact LS.refl _) | refine LS.p0 ?_ | refine LS.p1 ?_ | refine LS.p2 ?_ | refine LS.p3 ?_ | refine LS.p4 ?_ | refine LS.p5 ?_ | refine LS.p6 ?_ | refine LS.p7 ?_ | refine LS.p8 ?_ | refine LS.p9 ?_ | refine LS.p10 ?_ | refine LS.p11 ?_ | refine LS.p12 ?_ | (with_reducible refine LS.c ?_))) ⟨by simp only; omega, hv'⟩ (by simp only; omega)
  · have hi9 : i4 = 4 := by omega
    subst hi9
    rcases hv with ⟨rfl, h0, -, rfl⟩ | ⟨bv, capv, spv, rfl, rfl, hcs, hle, hall⟩
    · simp [val4_len] at h0
    have ev : (List.map ic (val4 s 4)).flatten ++ spv = [iv (fld s 0 4), iv (fld s 4 5), iv (fld s 5 9), iv (fld s 9 13)] ++ spv := rfl
    rw [ev, val4_len]
    have u0 := fld_lt (s := s) (a := 0) (k := 4) (by omega)
    have u1 := fld_lt (s := s) (a := 4) (k := 5) (by omega)
    have u2 := fld_lt (s := s) (a := 5) (k := 9) (by omega)
    have u3 := fld_lt (s := s) (a := 9) (k := 13) (by omega)
    have kb := fun L => rbody_calls ⟨fld s 0 4, ⟨fld s 4 5, fld s 5 9, fld s 9 13⟩⟩ L ⟨u0.1, by simp only; omega⟩ ⟨u1.1, by simp only; omega⟩ ⟨u2.1, by simp only; omega⟩ ⟨u3.1, by simp only; omega⟩
    have hbl := bodyM_len ⟨fld s 0 4, ⟨fld s 4 5, fld s 5 9, fld s 9 13⟩⟩
    generalize fld s 0 4 = x0 at *
    generalize fld s 4 5 = x1 at *
    generalize fld s 5 9 = x2 at *
    generalize fld s 9 13 = x3 at *
    have kt := fun L => rbyte_calls 165 L
    rw [show bt 165 0 = 165 by decide +kernel] at kt
    repeat' (first | (show HW _ _ _ _ _ _; first | apply hw_seq | apply hw_region | apply hw_block | apply hw_exit | refine g_t ?_ | refine g_f ?_ | (refine g_b (fun h => ?_) (fun h => ?_) <;> ((try simp only [Bool.not_eq_eq_eq_not, Bool.not_true, Bool.not_false, decide_eq_true_eq, decide_eq_false_iff_not, Decidable.not_not, ne_eq, Bool.and_eq_true, beq_iff_eq, and_true, true_and, eq_self, decide_true, Bool.and_true, Bool.true_and, reduceCtorEq, not_true_eq_false, not_false_eq_true] at h); (try (exfalso; first | omega | with_reducible exact h (by assumption) | with_reducible exact absurd h (by assumption))))) | apply hw_skip | apply hw_ret | refine g_k S ?_ | refine g_w S ?_) | (show HO _ _ _ _ _ _ _; first | apply ho_nil | refine g_q (qe S) ?_ | refine g_q (ql S) ?_ | refine g_q (qs S) ?_ | refine g_q (qt S) ?_ | refine g_q (qc8 S) ?_ | refine g_q (qc32 S) ?_ | refine g_q (qb S) ?_ | refine g_q (qbA S) ?_ | refine g_q (qSl S) ?_ | refine g_q (qSh S) ?_ | refine g_q (qSb S) ?_ | refine g_q (qC (kb _)) ?_ | refine g_q (qC (kt _)) ?_ | refine g_n ?_ | refine g_on ?_ | (refine g_s (fun h => ?_) (fun h => ?_) <;> ((try simp only [Bool.not_eq_eq_eq_not, Bool.not_true, Bool.not_false, decide_eq_true_eq, decide_eq_false_iff_not, Decidable.not_not, ne_eq, Bool.and_eq_true, beq_iff_eq, and_true, true_and, eq_self, decide_true, Bool.and_true, Bool.true_and, reduceCtorEq, not_true_eq_false, not_false_eq_true] at h); (try (exfalso; first | omega | with_reducible exact h (by assumption) | with_reducible exact absurd h (by assumption))))) | refine wa S (fun b => ?_) | refine ws S ?_ | refine wS S (fun b => ?_) | refine wSa S (fun b => ?_) | refine wSn S (fun b => ?_)) | (show HQ _ _ _ _ _ _ _; first | apply hq_nil | refine k_q (qe S) ?_ | refine k_q (ql S) ?_ | refine k_q (qs S) ?_ | refine k_q (qt S) ?_ | refine k_q (qc8 S) ?_ | refine k_q (qc32 S) ?_ | refine k_q (qb S) ?_ | refine k_q (qbA S) ?_ | refine k_q (qSl S) ?_ | refine k_q (qSh S) ?_ | refine k_q (qSb S) ?_ | refine k_q (qC (kb _)) ?_ | refine k_q (qC (kt _)) ?_ | refine k_n ?_ | (refine k_s (fun h => ?_) (fun h => ?_) <;> ((try simp only [Bool.not_eq_eq_eq_not, Bool.not_true, Bool.not_false, decide_eq_true_eq, decide_eq_false_iff_not, Decidable.not_not, ne_eq, Bool.and_eq_true, beq_iff_eq, and_true, true_and, eq_self, decide_true, Bool.and_true, Bool.true_and, reduceCtorEq, not_true_eq_false, not_false_eq_true] at h); (try (exfalso; first | omega | with_reducible exact h (by assumption) | with_reducible exact absurd h (by assumption)))))) | (show HD _ _ _ _ _ _ _ _; first | apply hd_nil | refine d_q 100 (by exact rfl) (fun _ => qe S) ?_ | refine d_q 100 (by exact rfl) (fun _ => qc8 S) ?_ | refine d_q 100 (by exact rfl) (fun _ => qc32 S) ?_ | refine d_q 100 (by exact rfl) (fun _ => qb S) ?_ | refine d_q 100 (by exact rfl) (fun _ => qbA S) ?_ | refine d_q 100 (by exact rfl) (fun _ => qSl S) ?_ | refine d_q 100 (by exact rfl) (fun _ => qSh S) ?_ | refine d_q 100 (by exact rfl) (fun _ => qSb S) ?_ | refine dl S 100 ?_ | refine ds S 100 ?_ | refine d_n 100 ?_ | (refine d_sp 100 (fun h => ?_) (fun h => ?_) <;> ((try simp only [Bool.not_eq_eq_eq_not, Bool.not_true, Bool.not_false, decide_eq_true_eq, decide_eq_false_iff_not, Decidable.not_not, ne_eq, Bool.and_eq_true, beq_iff_eq, and_true, true_and, eq_self, decide_true, Bool.and_true, Bool.true_and, reduceCtorEq, not_true_eq_false, not_false_eq_true] at h); (try (exfalso; first | omega | with_reducible exact h (by assumption) | with_reducible exact absurd h (by assumption))))) | refine d_q 0 (by exact rfl) (fun _ => qC (kb _)) ?_ | refine d_q 1 (by exact rfl) (fun _ => qC (kb _)) ?_ | refine d_q 2 (by exact rfl) (fun _ => qC (kb _)) ?_ | refine d_q 3 (by exact rfl) (fun _ => qC (kb _)) ?_ | refine d_q 0 (by exact rfl) (fun _ => qC (kt _)) ?_ | refine d_q 1 (by exact rfl) (fun _ => qC (kt _)) ?_ | refine d_q 2 (by exact rfl) (fun _ => qC (kt _)) ?_ | refine d_q 3 (by exact rfl) (fun _ => qC (kt _)) ?_ | refine da 101 ?_) | refine dx ?_ | apply dx0 | refine dxd ?_ | refine dxk ?_ | apply seqQ_normal | apply seqQ_ret | apply seqQ_exit | apply blkQ_here | refine g_bx ?_ | apply blkQ_ret | apply blkQ_normal | apply loopQ_ret | apply loopQ_exit | apply unQ_ret | apply unQ_exit | apply unQ_succ)
    · rw [if_pos (.inl h)]
      exact sp2 (L' := L) (by repeat (first | (with_reducible first | refine LS.p0 ?_ | refine LS.p1 ?_ | refine LS.p2 ?_ | refine LS.p3 ?_ | refine LS.p4 ?_ | refine LS.p5 ?_ | refine LS.p6 ?_ | refine LS.p7 ?_ | refine LS.p8 ?_ | refine LS.p9 ?_ | refine LS.p10 ?_ | refine LS.p11 ?_ | refine LS.p12 ?_ | refine LS.e ?_ | exact LS.refl _) | refine LS.p0 ?_ | refine LS.p1 ?_ | refine LS.p2 ?_ | refine LS.p3 ?_ | refine LS.p4 ?_ | refine LS.p5 ?_ | refine LS.p6 ?_ | refine LS.p7 ?_ | refine LS.p8 ?_ | refine LS.p9 ?_ | refine LS.p10 ?_ | refine LS.p11 ?_ | refine LS.p12 ?_ | (with_reducible refine LS.c ?_))) ⟨rfl, rfl⟩ (hy := rcell S (hg := gets_self _))
    · rw [if_pos (.inr (.inl h))]
      exact sp2 (L' := L) (by repeat (first | (with_reducible first | refine LS.p0 ?_ | refine LS.p1 ?_ | refine LS.p2 ?_ | refine LS.p3 ?_ | refine LS.p4 ?_ | refine LS.p5 ?_ | refine LS.p6 ?_ | refine LS.p7 ?_ | refine LS.p8 ?_ | refine LS.p9 ?_ | refine LS.p10 ?_ | refine LS.p11 ?_ | refine LS.p12 ?_ | refine LS.e ?_ | exact LS.refl _) | refine LS.p0 ?_ | refine LS.p1 ?_ | refine LS.p2 ?_ | refine LS.p3 ?_ | refine LS.p4 ?_ | refine LS.p5 ?_ | refine LS.p6 ?_ | refine LS.p7 ?_ | refine LS.p8 ?_ | refine LS.p9 ?_ | refine LS.p10 ?_ | refine LS.p11 ?_ | refine LS.p12 ?_ | (with_reducible refine LS.c ?_))) ⟨rfl, rfl⟩ (hy := rcell S (hg := gets_self _))
    · rw [if_pos (.inr (.inr h))]
      exact sp2 (L' := L) (by repeat (first | (with_reducible first | refine LS.p0 ?_ | refine LS.p1 ?_ | refine LS.p2 ?_ | refine LS.p3 ?_ | refine LS.p4 ?_ | refine LS.p5 ?_ | refine LS.p6 ?_ | refine LS.p7 ?_ | refine LS.p8 ?_ | refine LS.p9 ?_ | refine LS.p10 ?_ | refine LS.p11 ?_ | refine LS.p12 ?_ | refine LS.e ?_ | exact LS.refl _) | refine LS.p0 ?_ | refine LS.p1 ?_ | refine LS.p2 ?_ | refine LS.p3 ?_ | refine LS.p4 ?_ | refine LS.p5 ?_ | refine LS.p6 ?_ | refine LS.p7 ?_ | refine LS.p8 ?_ | refine LS.p9 ?_ | refine LS.p10 ?_ | refine LS.p11 ?_ | refine LS.p12 ?_ | (with_reducible refine LS.c ?_))) ⟨rfl, rfl⟩ (hy := rcell S (hg := gets_self _))
    · rename_i h1 h2
      rw [if_neg (fun h0 => h0.elim h1 (fun h0 => h0.elim (fun h0 => h0 h2) (fun h0 => h0 h)))]
      exact sp2 (L' := L) (by repeat (first | (with_reducible first | refine LS.p0 ?_ | refine LS.p1 ?_ | refine LS.p2 ?_ | refine LS.p3 ?_ | refine LS.p4 ?_ | refine LS.p5 ?_ | refine LS.p6 ?_ | refine LS.p7 ?_ | refine LS.p8 ?_ | refine LS.p9 ?_ | refine LS.p10 ?_ | refine LS.p11 ?_ | refine LS.p12 ?_ | refine LS.e ?_ | exact LS.refl _) | refine LS.p0 ?_ | refine LS.p1 ?_ | refine LS.p2 ?_ | refine LS.p3 ?_ | refine LS.p4 ?_ | refine LS.p5 ?_ | refine LS.p6 ?_ | refine LS.p7 ?_ | refine LS.p8 ?_ | refine LS.p9 ?_ | refine LS.p10 ?_ | refine LS.p11 ?_ | refine LS.p12 ?_ | (with_reducible refine LS.c ?_))) ⟨rfl, rfl⟩ (hy := rcell S (hg := gets_self _))
theorem rdealOf_calls (bb : List UInt8) (d : Nat) (L : Heap) (hd : d < 6) (hl : 216 ≤ bb.length) (hh : bb.length ≤ 1000000) : HC Tryd.prog 106 [bs bb, iv d] L (fun v L' => v = .tuple ⟨[iv (dealM bb d).n, .agg ⟨sc (dealM bb d).s⟩]⟩ ∧ L' = L) := by
  have k1 := fun L => rheld_calls bb (2 * d) L (by omega) hl hh
  have k2 := fun L => rheld_calls bb (2 * d + 1) L (by omega) hl hh
  rw [show (((2 * d : Nat) : Int) % 2) = 0 by omega, show (((2 * d : Nat) : Int)) = 2 * (d : Int) by omega] at k1
  rw [show (((2 * d + 1 : Nat) : Int) % 2) = 1 by omega, show (((2 * d + 1 : Nat) : Int)) = 2 * (d : Int) + 1 by omega] at k2
  rw [deal_two hd hl]
  generalize heldM 0 (slot bb (2 * d)) = e0 at *
  generalize heldM 1 (slot bb (2 * d + 1)) = e1 at *
  refine hc_enter (fun _ _ => Tryd.call106 _ _) Tryd.func106 rfl Tryd.ntmps106 (Nat.le_of_ble_eq_true rfl) ?_; simp only [args0, Nat.reduceAdd]
  by_cases h0 : e0.n < e1.n
  · rw [if_pos h0]
    repeat' (first | (show HW _ _ _ _ _ _; first | apply hw_seq | apply hw_region | refine g_t ?_ | refine g_f ?_ | (refine g_b (fun h => ?_) (fun h => ?_) <;> ((try simp only [Bool.not_eq_eq_eq_not, Bool.not_true, Bool.not_false, decide_eq_true_eq, decide_eq_false_iff_not, Decidable.not_not, ne_eq, Bool.and_eq_true, beq_iff_eq, and_true, true_and, eq_self, decide_true, Bool.and_true, Bool.true_and, reduceCtorEq, not_true_eq_false, not_false_eq_true] at h); (try (exfalso; first | omega | with_reducible exact h (by assumption) | with_reducible exact absurd h (by assumption))))) | apply hw_skip | apply hw_ret | refine g_k S ?_ | refine g_w S ?_) | (show HO _ _ _ _ _ _ _; first | apply ho_nil | refine g_q (qe S) ?_ | refine g_q (qs S) ?_ | refine g_q (qC (k1 _)) ?_ | refine g_q (qC (k2 _)) ?_ | refine wa S (fun b => ?_) | refine ws S ?_) | (show HQ _ _ _ _ _ _ _; first | apply hq_nil | refine k_q (qe S) ?_ | refine k_q (qs S) ?_ | refine k_q (qC (k1 _)) ?_ | refine k_q (qC (k2 _)) ?_) | (show HD _ _ _ _ _ _ _ _; first | apply hd_nil | refine d_q 100 (by exact rfl) (fun _ => qe S) ?_ | refine ds S 100 ?_ | refine d_q 0 (by exact rfl) (fun _ => qC (k1 _)) ?_ | refine d_q 1 (by exact rfl) (fun _ => qC (k1 _)) ?_ | refine d_q 2 (by exact rfl) (fun _ => qC (k1 _)) ?_ | refine d_q 3 (by exact rfl) (fun _ => qC (k1 _)) ?_ | refine d_q 0 (by exact rfl) (fun _ => qC (k2 _)) ?_ | refine d_q 1 (by exact rfl) (fun _ => qC (k2 _)) ?_ | refine d_q 2 (by exact rfl) (fun _ => qC (k2 _)) ?_ | refine d_q 3 (by exact rfl) (fun _ => qC (k2 _)) ?_ | refine da 101 ?_) | refine dx ?_ | apply dx0 | refine dxd ?_ | refine dxk ?_ | apply seqQ_normal | apply seqQ_ret)
    exact sp2 (L' := L) (by repeat (first | (with_reducible first | refine LS.p0 ?_ | refine LS.p1 ?_ | refine LS.p2 ?_ | refine LS.p3 ?_ | refine LS.p4 ?_ | refine LS.p5 ?_ | refine LS.p6 ?_ | refine LS.p7 ?_ | refine LS.p8 ?_ | refine LS.p9 ?_ | refine LS.p10 ?_ | refine LS.p11 ?_ | refine LS.p12 ?_ | refine LS.e ?_ | exact LS.refl _) | refine LS.p0 ?_ | refine LS.p1 ?_ | refine LS.p2 ?_ | refine LS.p3 ?_ | refine LS.p4 ?_ | refine LS.p5 ?_ | refine LS.p6 ?_ | refine LS.p7 ?_ | refine LS.p8 ?_ | refine LS.p9 ?_ | refine LS.p10 ?_ | refine LS.p11 ?_ | refine LS.p12 ?_ | (with_reducible refine LS.c ?_))) ⟨rfl, rfl⟩ (hy := rcell S (hg := gets_self _))
  · rw [if_neg h0]
    repeat' (first | (show HW _ _ _ _ _ _; first | apply hw_seq | apply hw_region | refine g_t ?_ | refine g_f ?_ | (refine g_b (fun h => ?_) (fun h => ?_) <;> ((try simp only [Bool.not_eq_eq_eq_not, Bool.not_true, Bool.not_false, decide_eq_true_eq, decide_eq_false_iff_not, Decidable.not_not, ne_eq, Bool.and_eq_true, beq_iff_eq, and_true, true_and, eq_self, decide_true, Bool.and_true, Bool.true_and, reduceCtorEq, not_true_eq_false, not_false_eq_true] at h); (try (exfalso; first | omega | with_reducible exact h (by assumption) | with_reducible exact absurd h (by assumption))))) | apply hw_skip | apply hw_ret | refine g_k S ?_ | refine g_w S ?_) | (show HO _ _ _ _ _ _ _; first | apply ho_nil | refine g_q (qe S) ?_ | refine g_q (qs S) ?_ | refine g_q (qC (k1 _)) ?_ | refine g_q (qC (k2 _)) ?_ | refine wa S (fun b => ?_) | refine ws S ?_) | (show HQ _ _ _ _ _ _ _; first | apply hq_nil | refine k_q (qe S) ?_ | refine k_q (qs S) ?_ | refine k_q (qC (k1 _)) ?_ | refine k_q (qC (k2 _)) ?_) | (show HD _ _ _ _ _ _ _ _; first | apply hd_nil | refine d_q 100 (by exact rfl) (fun _ => qe S) ?_ | refine ds S 100 ?_ | refine d_q 0 (by exact rfl) (fun _ => qC (k1 _)) ?_ | refine d_q 1 (by exact rfl) (fun _ => qC (k1 _)) ?_ | refine d_q 2 (by exact rfl) (fun _ => qC (k1 _)) ?_ | refine d_q 3 (by exact rfl) (fun _ => qC (k1 _)) ?_ | refine d_q 0 (by exact rfl) (fun _ => qC (k2 _)) ?_ | refine d_q 1 (by exact rfl) (fun _ => qC (k2 _)) ?_ | refine d_q 2 (by exact rfl) (fun _ => qC (k2 _)) ?_ | refine d_q 3 (by exact rfl) (fun _ => qC (k2 _)) ?_ | refine da 101 ?_) | refine dx ?_ | apply dx0 | refine dxd ?_ | refine dxk ?_ | apply seqQ_normal | apply seqQ_ret)
    exact sp2 (L' := L) (by repeat (first | (with_reducible first | refine LS.p0 ?_ | refine LS.p1 ?_ | refine LS.p2 ?_ | refine LS.p3 ?_ | refine LS.p4 ?_ | refine LS.p5 ?_ | refine LS.p6 ?_ | refine LS.p7 ?_ | refine LS.p8 ?_ | refine LS.p9 ?_ | refine LS.p10 ?_ | refine LS.p11 ?_ | refine LS.p12 ?_ | refine LS.e ?_ | exact LS.refl _) | refine LS.p0 ?_ | refine LS.p1 ?_ | refine LS.p2 ?_ | refine LS.p3 ?_ | refine LS.p4 ?_ | refine LS.p5 ?_ | refine LS.p6 ?_ | refine LS.p7 ?_ | refine LS.p8 ?_ | refine LS.p9 ?_ | refine LS.p10 ?_ | refine LS.p11 ?_ | refine LS.p12 ?_ | (with_reducible refine LS.c ?_))) ⟨rfl, rfl⟩ (hy := rcell S (hg := gets_self _))
end Go.HL
end

/-! PlR -/
section
namespace Go.HL
open Go Go.Proofs
set_option linter.unusedVariables false
set_option linter.unusedSimpArgs false
def rpC (rp : Nat) (m : Pl) (left : Int) : List Blk := [(rp, .cells ⟨[bs m.b, .bool m.off, iv left, .bool (decide (m.cut ≠ -1))]⟩ 96)]
theorem wr_a {m : Pl} {at_ : Int} {s : List UInt8} (ha : 0 ≤ at_) (hc : m.cut = -1) (ho : m.off = false) : wrOk m at_.toNat s = (⟨m.b.take at_.toNat ++ s.take ((s.length : Int)).toNat ++ m.b.drop (at_ + (s.length : Int)).toNat, m.off, m.cut⟩, none) := by
  have e : (at_ + (s.length : Int)).toNat = at_.toNat + s.length := by omega
  simp [wrOk, kM, hc, ho, splice, e]
theorem wr_b {m : Pl} {at_ : Int} {s : List UInt8} (ha : 0 ≤ at_) (h1 : -1 ≤ m.cut) (hc : ¬m.cut = -1) (hl : m.cut < s.length) : wrOk m at_.toNat s = (⟨m.b.take at_.toNat ++ s.take m.cut.toNat ++ m.b.drop (at_ + m.cut).toNat, true, m.cut - m.cut⟩, some 6) := by
  have e1 : min s.length m.cut.toNat = m.cut.toNat := by omega
  have e2 : m.cut.toNat < s.length := by omega
  have e3 : (at_ + m.cut).toNat = at_.toNat + m.cut.toNat := by omega
  have e4 : min m.cut.toNat s.length = m.cut.toNat := by omega
  have e5 : m.cut - (m.cut.toNat : Int) = m.cut - m.cut := by omega
  simp only [wrOk, kM, hc, splice, e1, e2, e3, e4, e5, if_false, if_true, List.length_take, decide_true, Bool.or_true]
theorem wr_c {m : Pl} {at_ : Int} {s : List UInt8} (ha : 0 ≤ at_) (h1 : -1 ≤ m.cut) (hc : ¬m.cut = -1) (hl : ¬m.cut < s.length) (ho : m.off = false) : wrOk m at_.toNat s = (⟨m.b.take at_.toNat ++ s.take ((s.length : Int)).toNat ++ m.b.drop (at_ + (s.length : Int)).toNat, m.off, m.cut - s.length⟩, none) := by
  have e1 : min s.length m.cut.toNat = s.length := by omega
  have e3 : (at_ + (s.length : Int)).toNat = at_.toNat + s.length := by omega
  simp [wrOk, kM, hc, ho, splice, e1, e3]
attribute [local irreducible] HW HO HQ HD HC QOp Has Upd Puts Gets seqQ blkQ loopQ fnQ actQ nextP unQ MapF
theorem rerr_calls (rp : Nat) (m : Pl) (left : Int) (at_ n : Int) (L : Heap) (hl : m.b.length ≤ 1000000) : HC Tryd.prog 107 [pt rp 0, iv at_, iv n] (rpC rp m left :: L) (fun v L' => v = iv (cdN (lookM m at_ n)) ∧ L' = rpC rp m left :: L) := by
  refine hc_enter (fun _ _ => Tryd.call107 _ _) Tryd.func107 rfl Tryd.ntmps107 (Nat.le_of_ble_eq_true rfl) ?_; simp only [args0, Nat.reduceAdd]
  unfold lookM
  repeat' (first | (show HW _ _ _ _ _ _; first | apply hw_seq | apply hw_region | refine g_t ?_ | refine g_f ?_ | (refine g_b (fun h => ?_) (fun h => ?_) <;> ((try simp only [Bool.not_eq_eq_eq_not, Bool.not_true, Bool.not_false, decide_eq_true_eq, decide_eq_false_iff_not, Decidable.not_not, ne_eq, Bool.and_eq_true, beq_iff_eq, and_true, true_and, eq_self, decide_true, Bool.and_true, Bool.true_and, reduceCtorEq, not_true_eq_false, not_false_eq_true] at h); (try (exfalso; first | omega | with_reducible exact h (by assumption) | with_reducible exact absurd h (by assumption))))) | apply hw_skip | apply hw_ret) | (show HO _ _ _ _ _ _ _; first | apply ho_nil | refine g_q (qe S) ?_ | refine g_q (ql S) ?_ | refine g_n ?_ | refine g_on ?_ | (refine g_s (fun h => ?_) (fun h => ?_) <;> ((try simp only [Bool.not_eq_eq_eq_not, Bool.not_true, Bool.not_false, decide_eq_true_eq, decide_eq_false_iff_not, Decidable.not_not, ne_eq, Bool.and_eq_true, beq_iff_eq, and_true, true_and, eq_self, decide_true, Bool.and_true, Bool.true_and, reduceCtorEq, not_true_eq_false, not_false_eq_true] at h); (try (exfalso; first | omega | with_reducible exact h (by assumption) | with_reducible exact absurd h (by assumption)))))) | apply seqQ_normal | apply seqQ_ret)
  all_goals refine sp1 (by repeat (first | exact LS.refl _ | apply LS.k | apply LS.c)) ⟨?_, rfl⟩
  all_goals first | (rw [if_pos (by omega)]; rfl) | (rw [if_neg (by omega), if_pos (by assumption)]; rfl) | (rw [if_neg (by omega), if_neg (by simp_all)]; rfl)
theorem rcut_calls (rp : Nat) (m : Pl) (left : Int) (n : Int) (L : Heap) : HC Tryd.prog 59 [pt rp 0, iv n] (rpC rp m left :: L)
    (fun v L' => if n < 0 then v = iv 2 ∧ L' = rpC rp m left :: L else if m.off then v = iv 6 ∧ L' = rpC rp m left :: L else v = iv 0 ∧ L' = rpC rp { m with cut := n } n :: L) := by
  refine hc_enter (fun _ _ => Tryd.call59 _ _) Tryd.func59 rfl Tryd.ntmps59 (Nat.le_of_ble_eq_true rfl) ?_; simp only [args0, Nat.reduceAdd]
  by_cases h1 : n < 0
  · simp only [if_pos h1]
    repeat' (first | (show HW _ _ _ _ _ _; first | apply hw_seq | apply hw_region | refine g_t ?_ | refine g_f ?_ | (refine g_b (fun h => ?_) (fun h => ?_) <;> ((try simp only [Bool.not_eq_eq_eq_not, Bool.not_true, Bool.not_false, decide_eq_true_eq, decide_eq_false_iff_not, Decidable.not_not, ne_eq, Bool.and_eq_true, beq_iff_eq, and_true, true_and, eq_self, decide_true, Bool.and_true, Bool.true_and, reduceCtorEq, not_true_eq_false, not_false_eq_true] at h); (try (exfalso; first | omega | with_reducible exact h (by assumption) | with_reducible exact absurd h (by assumption))))) | apply hw_skip | apply hw_ret) | (show HO _ _ _ _ _ _ _; first | apply ho_nil | refine g_q (qe S) ?_ | refine g_q (ql S) ?_ | refine ws S ?_) | apply seqQ_normal | apply seqQ_ret)
    exact sp1 (by repeat (first | exact LS.refl _ | apply LS.k | apply LS.c)) ⟨rfl, rfl⟩
  by_cases h2 : m.off = true
  · simp only [if_neg h1, if_pos h2]
    repeat' (first | (show HW _ _ _ _ _ _; first | apply hw_seq | apply hw_region | refine g_t ?_ | refine g_f ?_ | (refine g_b (fun h => ?_) (fun h => ?_) <;> ((try simp only [Bool.not_eq_eq_eq_not, Bool.not_true, Bool.not_false, decide_eq_true_eq, decide_eq_false_iff_not, Decidable.not_not, ne_eq, Bool.and_eq_true, beq_iff_eq, and_true, true_and, eq_self, decide_true, Bool.and_true, Bool.true_and, reduceCtorEq, not_true_eq_false, not_false_eq_true] at h); (try (exfalso; first | omega | with_reducible exact h (by assumption) | with_reducible exact absurd h (by assumption))))) | apply hw_skip | apply hw_ret) | (show HO _ _ _ _ _ _ _; first | apply ho_nil | refine g_q (qe S) ?_ | refine g_q (ql S) ?_ | refine ws S ?_) | apply seqQ_normal | apply seqQ_ret)
    all_goals first | exact sp1 (by repeat (first | exact LS.refl _ | apply LS.k | apply LS.c)) ⟨rfl, rfl⟩ | simp_all
  · simp only [if_neg h1, if_neg h2]
    repeat' (first | (show HW _ _ _ _ _ _; first | apply hw_seq | apply hw_region | refine g_t ?_ | refine g_f ?_ | (refine g_b (fun h => ?_) (fun h => ?_) <;> ((try simp only [Bool.not_eq_eq_eq_not, Bool.not_true, Bool.not_false, decide_eq_true_eq, decide_eq_false_iff_not, Decidable.not_not, ne_eq, Bool.and_eq_true, beq_iff_eq, and_true, true_and, eq_self, decide_true, Bool.and_true, Bool.true_and, reduceCtorEq, not_true_eq_false, not_false_eq_true] at h); (try (exfalso; first | omega | with_reducible exact h (by assumption) | with_reducible exact absurd h (by assumption))))) | apply hw_skip | apply hw_ret) | (show HO _ _ _ _ _ _ _; first | apply ho_nil | refine g_q (qe S) ?_ | refine g_q (ql S) ?_ | refine ws S ?_) | apply seqQ_normal | apply seqQ_ret)
    have e : ([(rp, .cells ⟨[bs m.b, .bool m.off, iv n, .bool true]⟩ 96)] : List Blk) = rpC rp { m with cut := n } n := by
      have : decide (n ≠ -1) = true := decide_eq_true (by omega)
      simp only [rpC, this]
    rw [e]
    exact sp1 (by repeat (first | exact LS.refl _ | apply LS.k | apply LS.c)) ⟨rfl, rfl⟩
theorem ron_calls (rp : Nat) (m : Pl) (left : Int) (L : Heap) : HC Tryd.prog 58 [pt rp 0] (rpC rp m left :: L) (fun v L' => v = .tuple #[] ∧ L' = rpC rp { m with off := false, cut := -1 } left :: L) := by
  refine hc_enter (fun _ _ => Tryd.call58 _ _) Tryd.func58 rfl Tryd.ntmps58 (Nat.le_of_ble_eq_true rfl) ?_; simp only [args0, Nat.reduceAdd]
  repeat' (first | (show HW _ _ _ _ _ _; first | apply hw_seq | apply hw_region | apply hw_ret) | (show HO _ _ _ _ _ _ _; first | apply ho_nil | refine g_q (qe S) ?_ | refine ws S ?_) | apply seqQ_normal | apply seqQ_ret)
  exact ee0 rfl ⟨rfl, rfl⟩
theorem rwrite_calls (rp : Nat) (m : Pl) (left : Int) (at_ : Int) (s : List UInt8) (L : Heap) (hl : m.b.length ≤ 1000000) (hs : s.length ≤ 1000000) (hc : -1 ≤ m.cut ∧ m.cut ≤ 9223372036854775807) (hleft : m.cut ≠ -1 → left = m.cut) :
    HC Tryd.prog 108 [pt rp 0, iv at_, bs s] (rpC rp m left :: L) (fun v L' => v = iv (cdN (writeM m at_ s).2) ∧ ∃ left', ((writeM m at_ s).1.cut ≠ -1 → left' = (writeM m at_ s).1.cut) ∧ L' = rpC rp (writeM m at_ s).1 left' :: L) := by
  have hk := rerr_calls rp m left at_ s.length L hl
  refine hc_enter (fun _ _ => Tryd.call108 _ _) Tryd.func108 rfl Tryd.ntmps108 (Nat.le_of_ble_eq_true rfl) ?_; simp only [args0, Nat.reduceAdd]
  unfold writeM
  have hb : ∀ e, lookM m at_ s.length = some e → e = 2 ∨ e = 6 := fun e h => by
    unfold lookM at h
    split at h
    · cases h; exact .inl rfl
    · split at h
      · cases h; exact .inr rfl
      · cases h
  cases hm : lookM m at_ s.length with
  | some e =>
    rw [hm] at hk
    have he := hb e hm
    simp only [cdN] at hk ⊢
    repeat' (first | (show HW _ _ _ _ _ _; first | apply hw_seq | apply hw_region | refine g_t ?_ | refine g_f ?_ | (refine g_b (fun h => ?_) (fun h => ?_) <;> ((try simp only [Bool.not_eq_eq_eq_not, Bool.not_true, Bool.not_false, decide_eq_true_eq, decide_eq_false_iff_not, Decidable.not_not, ne_eq, Bool.and_eq_true, beq_iff_eq, and_true, true_and, eq_self, decide_true, Bool.and_true, Bool.true_and, reduceCtorEq, not_true_eq_false, not_false_eq_true] at h); (try (exfalso; first | omega | with_reducible exact h (by assumption) | with_reducible exact absurd h (by assumption))))) | apply hw_skip | apply hw_ret | refine g_k S ?_ | refine g_w S ?_) | (show HO _ _ _ _ _ _ _; first | apply ho_nil | refine g_q (qe S) ?_ | refine g_q (ql S) ?_ | refine g_q (qSl S) ?_ | refine g_q (qSh S) ?_ | refine g_q (qSb S) ?_ | refine g_q (qC (hk)) ?_ | refine g_n ?_ | refine g_on ?_ | (refine g_s (fun h => ?_) (fun h => ?_) <;> ((try simp only [Bool.not_eq_eq_eq_not, Bool.not_true, Bool.not_false, decide_eq_true_eq, decide_eq_false_iff_not, Decidable.not_not, ne_eq, Bool.and_eq_true, beq_iff_eq, and_true, true_and, eq_self, decide_true, Bool.and_true, Bool.true_and, reduceCtorEq, not_true_eq_false, not_false_eq_true] at h); (try (exfalso; first | omega | with_reducible exact h (by assumption) | with_reducible exact absurd h (by assumption))))) | refine ws S ?_) | (show HQ _ _ _ _ _ _ _; first | apply hq_nil | refine k_q (qe S) ?_ | refine k_q (ql S) ?_ | refine k_q (qSl S) ?_ | refine k_q (qSh S) ?_ | refine k_q (qSb S) ?_ | refine k_q (qC (hk)) ?_ | refine k_n ?_ | (refine k_s (fun h => ?_) (fun h => ?_) <;> ((try simp only [Bool.not_eq_eq_eq_not, Bool.not_true, Bool.not_false, decide_eq_true_eq, decide_eq_false_iff_not, Decidable.not_not, ne_eq, Bool.and_eq_true, beq_iff_eq, and_true, true_and, eq_self, decide_true, Bool.and_true, Bool.true_and, reduceCtorEq, not_true_eq_false, not_false_eq_true] at h); (try (exfalso; first | omega | with_reducible exact h (by assumption) | with_reducible exact absurd h (by assumption)))))) | (show HD _ _ _ _ _ _ _ _; first | apply hd_nil | refine d_q 100 (by exact rfl) (fun _ => qe S) ?_ | refine d_q 100 (by exact rfl) (fun _ => qSl S) ?_ | refine d_q 100 (by exact rfl) (fun _ => qSh S) ?_ | refine d_q 100 (by exact rfl) (fun _ => qSb S) ?_ | refine dl S 100 ?_ | refine d_n 100 ?_ | (refine d_sp 100 (fun h => ?_) (fun h => ?_) <;> ((try simp only [Bool.not_eq_eq_eq_not, Bool.not_true, Bool.not_false, decide_eq_true_eq, decide_eq_false_iff_not, Decidable.not_not, ne_eq, Bool.and_eq_true, beq_iff_eq, and_true, true_and, eq_self, decide_true, Bool.and_true, Bool.true_and, reduceCtorEq, not_true_eq_false, not_false_eq_true] at h); (try (exfalso; first | omega | with_reducible exact h (by assumption) | with_reducible exact absurd h (by assumption))))) | refine d_q 0 (by exact rfl) (fun _ => qC (hk)) ?_ | refine d_q 1 (by exact rfl) (fun _ => qC (hk)) ?_ | refine d_q 2 (by exact rfl) (fun _ => qC (hk)) ?_ | refine d_q 3 (by exact rfl) (fun _ => qC (hk)) ?_ | refine da 101 ?_) | refine dx ?_ | apply dx0 | refine dxd ?_ | refine dxk ?_ | apply seqQ_normal | apply seqQ_ret)
    · exact sp1 (by repeat (first | exact LS.refl _ | apply LS.k | apply LS.c)) ⟨rfl, left, hleft, rfl⟩
    all_goals (rename ¬(0:Int) < _ => hz; omega)
  | none =>
    rw [hm] at hk
    simp only [cdN] at hk
    have h0 : 0 ≤ at_ ∧ at_ + s.length ≤ m.b.length ∧ m.off = false := by
      unfold lookM at hm
      split at hm
      · cases hm
      · split at hm
        · cases hm
        · rename_i h1 h2
          simp at h2
          refine ⟨by omega, by omega, h2⟩
    obtain ⟨ha, has, hoff⟩ := h0
    have hp1 : ∀ k : Int, (List.take at_.toNat m.b).length + (List.take k.toNat s).length ≤ 9223372036854775807 := fun k => by simp; omega
    have hp2 : ∀ k : Int, (List.take at_.toNat m.b ++ List.take k.toNat s).length + (List.drop (at_ + k).toNat m.b).length ≤ 9223372036854775807 := fun k => by simp; omega
    by_cases hcut : m.cut = -1
    · have hq1 := hp1 s.length
      have hq2 := hp2 s.length
      simp only [wr_a ha hcut hoff]
      repeat' (first | (show HW _ _ _ _ _ _; first | apply hw_seq | apply hw_region | refine g_t ?_ | refine g_f ?_ | (refine g_b (fun h => ?_) (fun h => ?_) <;> ((try simp only [Bool.not_eq_eq_eq_not, Bool.not_true, Bool.not_false, decide_eq_true_eq, decide_eq_false_iff_not, Decidable.not_not, ne_eq, Bool.and_eq_true, beq_iff_eq, and_true, true_and, eq_self, decide_true, Bool.and_true, Bool.true_and, reduceCtorEq, not_true_eq_false, not_false_eq_true] at h); (try (exfalso; first | omega | with_reducible exact h (by assumption) | with_reducible exact absurd h (by assumption))))) | apply hw_skip | apply hw_ret | refine g_k S ?_ | refine g_w S ?_) | (show HO _ _ _ _ _ _ _; first | apply ho_nil | refine g_q (qe S) ?_ | refine g_q (ql S) ?_ | refine g_q (qSl S) ?_ | refine g_q (qSh S) ?_ | refine g_q (qSb S) ?_ | refine g_q (qC (hk)) ?_ | refine g_n ?_ | refine g_on ?_ | (refine g_s (fun h => ?_) (fun h => ?_) <;> ((try simp only [Bool.not_eq_eq_eq_not, Bool.not_true, Bool.not_false, decide_eq_true_eq, decide_eq_false_iff_not, Decidable.not_not, ne_eq, Bool.and_eq_true, beq_iff_eq, and_true, true_and, eq_self, decide_true, Bool.and_true, Bool.true_and, reduceCtorEq, not_true_eq_false, not_false_eq_true] at h); (try (exfalso; first | omega | with_reducible exact h (by assumption) | with_reducible exact absurd h (by assumption))))) | refine ws S ?_) | (show HQ _ _ _ _ _ _ _; first | apply hq_nil | refine k_q (qe S) ?_ | refine k_q (ql S) ?_ | refine k_q (qSl S) ?_ | refine k_q (qSh S) ?_ | refine k_q (qSb S) ?_ | refine k_q (qC (hk)) ?_ | refine k_n ?_ | (refine k_s (fun h => ?_) (fun h => ?_) <;> ((try simp only [Bool.not_eq_eq_eq_not, Bool.not_true, Bool.not_false, decide_eq_true_eq, decide_eq_false_iff_not, Decidable.not_not, ne_eq, Bool.and_eq_true, beq_iff_eq, and_true, true_and, eq_self, decide_true, Bool.and_true, Bool.true_and, reduceCtorEq, not_true_eq_false, not_false_eq_true] at h); (try (exfalso; first | omega | with_reducible exact h (by assumption) | with_reducible exact absurd h (by assumption)))))) | (show HD _ _ _ _ _ _ _ _; first | apply hd_nil | refine d_q 100 (by exact rfl) (fun _ => qe S) ?_ | refine d_q 100 (by exact rfl) (fun _ => qSl S) ?_ | refine d_q 100 (by exact rfl) (fun _ => qSh S) ?_ | refine d_q 100 (by exact rfl) (fun _ => qSb S) ?_ | refine dl S 100 ?_ | refine d_n 100 ?_ | (refine d_sp 100 (fun h => ?_) (fun h => ?_) <;> ((try simp only [Bool.not_eq_eq_eq_not, Bool.not_true, Bool.not_false, decide_eq_true_eq, decide_eq_false_iff_not, Decidable.not_not, ne_eq, Bool.and_eq_true, beq_iff_eq, and_true, true_and, eq_self, decide_true, Bool.and_true, Bool.true_and, reduceCtorEq, not_true_eq_false, not_false_eq_true] at h); (try (exfalso; first | omega | with_reducible exact h (by assumption) | with_reducible exact absurd h (by assumption))))) | refine d_q 0 (by exact rfl) (fun _ => qC (hk)) ?_ | refine d_q 1 (by exact rfl) (fun _ => qC (hk)) ?_ | refine d_q 2 (by exact rfl) (fun _ => qC (hk)) ?_ | refine d_q 3 (by exact rfl) (fun _ => qC (hk)) ?_ | refine da 101 ?_) | refine dx ?_ | apply dx0 | refine dxd ?_ | refine dxk ?_ | apply seqQ_normal | apply seqQ_ret)
      · simp_all
      · refine sp1 (L' := rpC rp ⟨m.b.take at_.toNat ++ s.take ((s.length : Int)).toNat ++ m.b.drop (at_ + (s.length : Int)).toNat, m.off, m.cut⟩ left :: L) (by repeat (first | exact LS.refl _ | apply LS.k | apply LS.c)) ⟨rfl, left, ?_, rfl⟩
        exact hleft
    · obtain rfl := hleft hcut
      by_cases hlt : m.cut < s.length
      · have hq1 := hp1 m.cut
        have hq2 := hp2 m.cut
        simp only [wr_b ha hc.1 hcut hlt]
        repeat' (first | (show HW _ _ _ _ _ _; first | apply hw_seq | apply hw_region | refine g_t ?_ | refine g_f ?_ | (refine g_b (fun h => ?_) (fun h => ?_) <;> ((try simp only [Bool.not_eq_eq_eq_not, Bool.not_true, Bool.not_false, decide_eq_true_eq, decide_eq_false_iff_not, Decidable.not_not, ne_eq, Bool.and_eq_true, beq_iff_eq, and_true, true_and, eq_self, decide_true, Bool.and_true, Bool.true_and, reduceCtorEq, not_true_eq_false, not_false_eq_true] at h); (try (exfalso; first | omega | with_reducible exact h (by assumption) | with_reducible exact absurd h (by assumption))))) | apply hw_skip | apply hw_ret | refine g_k S ?_ | refine g_w S ?_) | (show HO _ _ _ _ _ _ _; first | apply ho_nil | refine g_q (qe S) ?_ | refine g_q (ql S) ?_ | refine g_q (qSl S) ?_ | refine g_q (qSh S) ?_ | refine g_q (qSb S) ?_ | refine g_q (qC (hk)) ?_ | refine g_n ?_ | refine g_on ?_ | (refine g_s (fun h => ?_) (fun h => ?_) <;> ((try simp only [Bool.not_eq_eq_eq_not, Bool.not_true, Bool.not_false, decide_eq_true_eq, decide_eq_false_iff_not, Decidable.not_not, ne_eq, Bool.and_eq_true, beq_iff_eq, and_true, true_and, eq_self, decide_true, Bool.and_true, Bool.true_and, reduceCtorEq, not_true_eq_false, not_false_eq_true] at h); (try (exfalso; first | omega | with_reducible exact h (by assumption) | with_reducible exact absurd h (by assumption))))) | refine ws S ?_) | (show HQ _ _ _ _ _ _ _; first | apply hq_nil | refine k_q (qe S) ?_ | refine k_q (ql S) ?_ | refine k_q (qSl S) ?_ | refine k_q (qSh S) ?_ | refine k_q (qSb S) ?_ | refine k_q (qC (hk)) ?_ | refine k_n ?_ | (refine k_s (fun h => ?_) (fun h => ?_) <;> ((try simp only [Bool.not_eq_eq_eq_not, Bool.not_true, Bool.not_false, decide_eq_true_eq, decide_eq_false_iff_not, Decidable.not_not, ne_eq, Bool.and_eq_true, beq_iff_eq, and_true, true_and, eq_self, decide_true, Bool.and_true, Bool.true_and, reduceCtorEq, not_true_eq_false, not_false_eq_true] at h); (try (exfalso; first | omega | with_reducible exact h (by assumption) | with_reducible exact absurd h (by assumption)))))) | (show HD _ _ _ _ _ _ _ _; first | apply hd_nil | refine d_q 100 (by exact rfl) (fun _ => qe S) ?_ | refine d_q 100 (by exact rfl) (fun _ => qSl S) ?_ | refine d_q 100 (by exact rfl) (fun _ => qSh S) ?_ | refine d_q 100 (by exact rfl) (fun _ => qSb S) ?_ | refine dl S 100 ?_ | refine d_n 100 ?_ | (refine d_sp 100 (fun h => ?_) (fun h => ?_) <;> ((try simp only [Bool.not_eq_eq_eq_not, Bool.not_true, Bool.not_false, decide_eq_true_eq, decide_eq_false_iff_not, Decidable.not_not, ne_eq, Bool.and_eq_true, beq_iff_eq, and_true, true_and, eq_self, decide_true, Bool.and_true, Bool.true_and, reduceCtorEq, not_true_eq_false, not_false_eq_true] at h); (try (exfalso; first | omega | with_reducible exact h (by assumption) | with_reducible exact absurd h (by assumption))))) | refine d_q 0 (by exact rfl) (fun _ => qC (hk)) ?_ | refine d_q 1 (by exact rfl) (fun _ => qC (hk)) ?_ | refine d_q 2 (by exact rfl) (fun _ => qC (hk)) ?_ | refine d_q 3 (by exact rfl) (fun _ => qC (hk)) ?_ | refine da 101 ?_) | refine dx ?_ | apply dx0 | refine dxd ?_ | refine dxk ?_ | apply seqQ_normal | apply seqQ_ret)
        have hd : decide (m.cut ≠ -1) = decide (m.cut - m.cut ≠ -1) := by rw [decide_eq_decide]; omega
        rw [hd]
        exact sp1 (L' := rpC rp ⟨m.b.take at_.toNat ++ s.take m.cut.toNat ++ m.b.drop (at_ + m.cut).toNat, true, m.cut - m.cut⟩ (m.cut - m.cut) :: L) (by repeat (first | exact LS.refl _ | apply LS.k | apply LS.c)) ⟨rfl, m.cut - m.cut, fun _ => rfl, rfl⟩
      · have hq1 := hp1 s.length
        have hq2 := hp2 s.length
        simp only [wr_c ha hc.1 hcut hlt hoff]
        repeat' (first | (show HW _ _ _ _ _ _; first | apply hw_seq | apply hw_region | refine g_t ?_ | refine g_f ?_ | (refine g_b (fun h => ?_) (fun h => ?_) <;> ((try simp only [Bool.not_eq_eq_eq_not, Bool.not_true, Bool.not_false, decide_eq_true_eq, decide_eq_false_iff_not, Decidable.not_not, ne_eq, Bool.and_eq_true, beq_iff_eq, and_true, true_and, eq_self, decide_true, Bool.and_true, Bool.true_and, reduceCtorEq, not_true_eq_false, not_false_eq_true] at h); (try (exfalso; first | omega | with_reducible exact h (by assumption) | with_reducible exact absurd h (by assumption))))) | apply hw_skip | apply hw_ret | refine g_k S ?_ | refine g_w S ?_) | (show HO _ _ _ _ _ _ _; first | apply ho_nil | refine g_q (qe S) ?_ | refine g_q (ql S) ?_ | refine g_q (qSl S) ?_ | refine g_q (qSh S) ?_ | refine g_q (qSb S) ?_ | refine g_q (qC (hk)) ?_ | refine g_n ?_ | refine g_on ?_ | (refine g_s (fun h => ?_) (fun h => ?_) <;> ((try simp only [Bool.not_eq_eq_eq_not, Bool.not_true, Bool.not_false, decide_eq_true_eq, decide_eq_false_iff_not, Decidable.not_not, ne_eq, Bool.and_eq_true, beq_iff_eq, and_true, true_and, eq_self, decide_true, Bool.and_true, Bool.true_and, reduceCtorEq, not_true_eq_false, not_false_eq_true] at h); (try (exfalso; first | omega | with_reducible exact h (by assumption) | with_reducible exact absurd h (by assumption))))) | refine ws S ?_) | (show HQ _ _ _ _ _ _ _; first | apply hq_nil | refine k_q (qe S) ?_ | refine k_q (ql S) ?_ | refine k_q (qSl S) ?_ | refine k_q (qSh S) ?_ | refine k_q (qSb S) ?_ | refine k_q (qC (hk)) ?_ | refine k_n ?_ | (refine k_s (fun h => ?_) (fun h => ?_) <;> ((try simp only [Bool.not_eq_eq_eq_not, Bool.not_true, Bool.not_false, decide_eq_true_eq, decide_eq_false_iff_not, Decidable.not_not, ne_eq, Bool.and_eq_true, beq_iff_eq, and_true, true_and, eq_self, decide_true, Bool.and_true, Bool.true_and, reduceCtorEq, not_true_eq_false, not_false_eq_true] at h); (try (exfalso; first | omega | with_reducible exact h (by assumption) | with_reducible exact absurd h (by assumption)))))) | (show HD _ _ _ _ _ _ _ _; first | apply hd_nil | refine d_q 100 (by exact rfl) (fun _ => qe S) ?_ | refine d_q 100 (by exact rfl) (fun _ => qSl S) ?_ | refine d_q 100 (by exact rfl) (fun _ => qSh S) ?_ | refine d_q 100 (by exact rfl) (fun _ => qSb S) ?_ | refine dl S 100 ?_ | refine d_n 100 ?_ | (refine d_sp 100 (fun h => ?_) (fun h => ?_) <;> ((try simp only [Bool.not_eq_eq_eq_not, Bool.not_true, Bool.not_false, decide_eq_true_eq, decide_eq_false_iff_not, Decidable.not_not, ne_eq, Bool.and_eq_true, beq_iff_eq, and_true, true_and, eq_self, decide_true, Bool.and_true, Bool.true_and, reduceCtorEq, not_true_eq_false, not_false_eq_true] at h); (try (exfalso; first | omega | with_reducible exact h (by assumption) | with_reducible exact absurd h (by assumption))))) | refine d_q 0 (by exact rfl) (fun _ => qC (hk)) ?_ | refine d_q 1 (by exact rfl) (fun _ => qC (hk)) ?_ | refine d_q 2 (by exact rfl) (fun _ => qC (hk)) ?_ | refine d_q 3 (by exact rfl) (fun _ => qC (hk)) ?_ | refine da 101 ?_) | refine dx ?_ | apply dx0 | refine dxd ?_ | refine dxk ?_ | apply seqQ_normal | apply seqQ_ret)
        · simp_all
        · have hd : decide (m.cut ≠ -1) = decide (m.cut - s.length ≠ -1) := by rw [decide_eq_decide]; omega
          rw [hd]
          exact sp1 (L' := rpC rp ⟨m.b.take at_.toNat ++ s.take ((s.length : Int)).toNat ++ m.b.drop (at_ + (s.length : Int)).toNat, m.off, m.cut - s.length⟩ (m.cut - s.length) :: L) (by repeat (first | exact LS.refl _ | apply LS.k | apply LS.c)) ⟨rfl, m.cut - s.length, fun _ => rfl, rfl⟩
end Go.HL
end

/-! JaB -/
section
namespace Go.HL
open Go Go.Proofs
set_option linter.unusedVariables false
set_option linter.unusedSimpArgs false
/-- where a document's journal lies -/
structure RJ where
  rj : Nat
  rp : Nat
  bN : Nat
  capN : Nat
  spN : List Value
  bS : Nat
  capS : Nat
  spS : List Value
def rjCells (r : RJ) (dead : Bool) : List Value := [pt r.rp 0, sl r.bN 0 6 r.capN, sl r.bS 0 6 r.capS, .bool dead]
def rjC (r : RJ) (j : Jn) : List Blk := [(r.rj, .cells ⟨rjCells r j.dead⟩ 135), (r.bN, .cells ⟨((j.l.map Ent.n).map ic).flatten ++ r.spN⟩ 3), (r.bS, .cells ⟨((j.l.map Ent.s).map sc).flatten ++ r.spS⟩ 34)]
theorem openM_take {b : List UInt8} {d : Nat} (hd : d < 6) : (openM b).take (d + 1) = (openM b).take d ++ [dealM b d] := by
  have h : (openM b).length = 6 := by simp [openM]
  rw [List.take_succ_eq_append_getElem (by omega)]
  simp [openM]
theorem openM_len (b : List UInt8) : (openM b).length = 6 := by simp [openM]
attribute [local irreducible] HW HO HQ HD HC QOp Has Upd Puts Gets seqQ blkQ loopQ fnQ actQ nextP unQ MapF
attribute [local irreducible] openM dealM
theorem ropenError_calls (rp : Nat) (m : Pl) (left : Int) (L : Heap) (hl : m.b.length ≤ 1000000) : HC Tryd.prog 55 [pt rp 0] (rpC rp m left :: L) (fun v L' => v = iv (if m.b.length < 216 then 2 else if m.off then 6 else 0) ∧ L' = rpC rp m left :: L) := by
  refine hc_enter (fun _ _ => Tryd.call55 _ _) Tryd.func55 rfl Tryd.ntmps55 (Nat.le_of_ble_eq_true rfl) ?_; simp only [args0, Nat.reduceAdd]
  repeat' (first | (show HW _ _ _ _ _ _; first | apply hw_seq | apply hw_region | refine g_t ?_ | refine g_f ?_ | (refine g_b (fun h => ?_) (fun h => ?_) <;> ((try simp only [Bool.not_eq_eq_eq_not, Bool.not_true, Bool.not_false, decide_eq_true_eq, decide_eq_false_iff_not, Decidable.not_not, ne_eq, Bool.and_eq_true, beq_iff_eq, and_true, true_and, eq_self, decide_true, Bool.and_true, Bool.true_and, reduceCtorEq, not_true_eq_false, not_false_eq_true] at h); (try (exfalso; first | omega | with_reducible exact h (by assumption) | with_reducible exact absurd h (by assumption))))) | apply hw_skip | apply hw_ret) | (show HO _ _ _ _ _ _ _; first | apply ho_nil | refine g_q (qe S) ?_ | refine g_q (ql S) ?_) | apply seqQ_normal | apply seqQ_ret)
  all_goals refine sp1 (by repeat (first | exact LS.refl _ | apply LS.k | apply LS.c)) ⟨?_, rfl⟩
  all_goals first | (rw [if_pos (by omega)]; done) | (rw [if_neg (by omega), if_pos (by assumption)]; done) | (rw [if_neg (by omega), if_neg (by simp_all)]; done)
theorem ropen_calls (rp : Nat) (m : Pl) (left : Int) (L : Heap) (hl : 216 ≤ m.b.length) (hh : m.b.length ≤ 1000000) : HC Tryd.prog 57 [pt rp 0] (rpC rp m left :: L) (fun v L' => ∃ r : RJ, r.rp = rp ∧ v = pt r.rj 0 ∧ L' = rjC r ⟨openM m.b, false⟩ :: rpC rp m left :: L) := by
  refine hc_enter (fun _ _ => Tryd.call57 _ _) Tryd.func57 rfl Tryd.ntmps57 (Nat.le_of_ble_eq_true rfl) ?_; simp only [args0, Nat.reduceAdd]
  repeat' (first | (show HW _ _ _ _ _ _; first | apply hw_seq | apply hw_region | apply hw_block | apply hw_exit | refine g_t ?_ | refine g_f ?_ | (refine g_b (fun h => ?_) (fun h => ?_) <;> ((try simp only [Bool.not_eq_eq_eq_not, Bool.not_true, Bool.not_false, decide_eq_true_eq, decide_eq_false_iff_not, Decidable.not_not, ne_eq, Bool.and_eq_true, beq_iff_eq, and_true, true_and, eq_self, decide_true, Bool.and_true, Bool.true_and, reduceCtorEq, not_true_eq_false, not_false_eq_true] at h); (try (exfalso; first | omega | with_reducible exact h (by assumption) | with_reducible exact absurd h (by assumption))))) | apply hw_skip | apply hw_ret | refine g_d S ?_) | (show HO _ _ _ _ _ _ _; first | apply ho_nil | refine g_q (qe S) ?_ | refine g_q (ql S) ?_ | refine g_q (qs S) ?_ | refine g_q (qb S) ?_ | refine g_q (qbA S) ?_ | refine wa S (fun b => ?_) | refine wb (fun b => ?_) | refine ws S ?_ | refine wS S (fun b => ?_) | refine wSa S (fun b => ?_) | refine wSn S (fun b => ?_)) | (show HD _ _ _ _ _ _ _ _; first | apply hd_nil | refine d_q 100 (by exact rfl) (fun _ => qe S) ?_ | refine d_q 100 (by exact rfl) (fun _ => qb S) ?_ | refine d_q 100 (by exact rfl) (fun _ => qbA S) ?_ | refine dl S 100 ?_ | refine ds S 100 ?_ | refine da 101 ?_) | refine dx ?_ | apply dx0 | refine dxd ?_ | refine dxk ?_ | apply seqQ_normal | apply seqQ_ret | apply seqQ_exit | apply blkQ_here | refine g_bx ?_ | apply blkQ_ret | apply blkQ_normal | apply loopQ_ret | apply loopQ_exit | apply unQ_ret | apply unQ_exit | apply unQ_succ)
  generalize b = b3
  refine hw_sp (L' := [] :: [] :: [(b3, .cells ⟨[pt rp 0, nilS, nilS, .bool false]⟩ 135)] :: rpC rp m left :: L) ?_ (by repeat (first | (with_reducible first | refine LS.p0 ?_ | refine LS.p1 ?_ | refine LS.p2 ?_ | refine LS.p3 ?_ | refine LS.p4 ?_ | refine LS.p5 ?_ | refine LS.p6 ?_ | refine LS.p7 ?_ | refine LS.p8 ?_ | refine LS.p9 ?_ | refine LS.p10 ?_ | refine LS.p11 ?_ | refine LS.p12 ?_ | refine LS.e ?_ | exact LS.refl _) | refine LS.p0 ?_ | refine LS.p1 ?_ | refine LS.p2 ?_ | refine LS.p3 ?_ | refine LS.p4 ?_ | refine LS.p5 ?_ | refine LS.p6 ?_ | refine LS.p7 ?_ | refine LS.p8 ?_ | refine LS.p9 ?_ | refine LS.p10 ?_ | refine LS.p11 ?_ | refine LS.p12 ?_ | (with_reducible refine LS.c ?_)))
  refine hw_loop (σ := Nat × (Value × List Blk) × (Value × List Blk)) (fun q => [(0, pt rp 0), (3, pt b3 0), (4, iv q.1)]) (fun q => q.2.1.2 :: q.2.2.2 :: [(b3, .cells ⟨[pt rp 0, q.2.1.1, q.2.2.1, .bool false]⟩ 135)] :: rpC rp m left :: L) (fun q => q.1 ≤ 6 ∧ Vec 3 1 ic q.2.1.1 (((openM m.b).take q.1).map Ent.n) q.2.1.2 ∧ Vec 34 3 sc q.2.2.1 (((openM m.b).take q.1).map Ent.s) q.2.2.2) (fun q => 6 - q.1) (0, (nilS, []), (nilS, [])) (by repeat (first | exact trivial | refine ⟨rfl, ?_⟩)) (List.Sublist.refl _) ⟨by simp, vec_nil, vec_nil⟩ ?_
  rintro ⟨d, ⟨vN, cN⟩, ⟨vS, cS⟩⟩ ⟨hd, hN, hS⟩
  simp only at hd hN hS ⊢
  by_cases hlt : d < 6
  · have k1 := fun L => rdealOf_calls m.b d L hlt hl hh
    have et := openM_take (b := m.b) hlt
    have hol := openM_len m.b
    generalize dealM m.b d = e at *
    have hNl : (List.map Ent.n (List.take d (openM m.b))).length ≤ 6 := by simp; omega
    have hSl : (List.map Ent.s (List.take d (openM m.b))).length ≤ 6 := by simp; omega
    repeat' (first | (show HW _ _ _ _ _ _; first | apply hw_seq | apply hw_region | apply hw_block | apply hw_exit | refine g_t ?_ | refine g_f ?_ | (refine g_b (fun h => ?_) (fun h => ?_) <;> ((try simp only [Bool.not_eq_eq_eq_not, Bool.not_true, Bool.not_false, decide_eq_true_eq, decide_eq_false_iff_not, Decidable.not_not, ne_eq, Bool.and_eq_true, beq_iff_eq, and_true, true_and, eq_self, decide_true, Bool.and_true, Bool.true_and, reduceCtorEq, not_true_eq_false, not_false_eq_true] at h); (try (exfalso; first | omega | with_reducible exact h (by assumption) | with_reducible exact absurd h (by assumption))))) | apply hw_skip | apply hw_ret | refine g_d S ?_) | (show HO _ _ _ _ _ _ _; first | apply ho_nil | refine g_q (qe S) ?_ | refine g_q (ql S) ?_ | refine g_q (qs S) ?_ | refine g_q (qb S) ?_ | refine g_q (qbA S) ?_ | refine g_q (qC (k1 _)) ?_ | refine wa S (fun b => ?_) | refine wb (fun b => ?_) | refine ws S ?_ | refine wS S (fun b => ?_) | refine wSa S (fun b => ?_) | refine wSn S (fun b => ?_)) | (show HD _ _ _ _ _ _ _ _; first | apply hd_nil | refine d_q 100 (by exact rfl) (fun _ => qe S) ?_ | refine d_q 100 (by exact rfl) (fun _ => qb S) ?_ | refine d_q 100 (by exact rfl) (fun _ => qbA S) ?_ | refine dl S 100 ?_ | refine ds S 100 ?_ | refine d_q 0 (by exact rfl) (fun _ => qC (k1 _)) ?_ | refine d_q 1 (by exact rfl) (fun _ => qC (k1 _)) ?_ | refine d_q 2 (by exact rfl) (fun _ => qC (k1 _)) ?_ | refine d_q 3 (by exact rfl) (fun _ => qC (k1 _)) ?_ | refine da 101 ?_) | refine dx ?_ | apply dx0 | refine dxd ?_ | refine dxk ?_ | apply seqQ_normal | apply seqQ_ret | apply seqQ_exit | apply blkQ_here | refine g_bx ?_ | apply blkQ_ret | apply blkQ_normal | apply loopQ_ret | apply loopQ_exit | apply unQ_ret | apply unQ_exit | apply unQ_succ)
    refine fo 2 ?_
    refine wp1 S e.n hN (fun _ => rfl) (fun _ => rfl) ?_
    intro v1 c1 hv1
    have e1 : List.map Ent.n (List.take d (openM m.b)) ++ [e.n] = List.map Ent.n (List.take (d + 1) (openM m.b)) := by rw [et, List.map_append]; rfl
    rw [e1] at hv1
    obtain ⟨a1, p1, rfl, -, -⟩ := Vec.rd hv1 (fun _ => rfl)
    repeat' (first | (show HW _ _ _ _ _ _; first | apply hw_seq | apply hw_region | apply hw_block | apply hw_exit | refine g_t ?_ | refine g_f ?_ | (refine g_b (fun h => ?_) (fun h => ?_) <;> ((try simp only [Bool.not_eq_eq_eq_not, Bool.not_true, Bool.not_false, decide_eq_true_eq, decide_eq_false_iff_not, Decidable.not_not, ne_eq, Bool.and_eq_true, beq_iff_eq, and_true, true_and, eq_self, decide_true, Bool.and_true, Bool.true_and, reduceCtorEq, not_true_eq_false, not_false_eq_true] at h); (try (exfalso; first | omega | with_reducible exact h (by assumption) | with_reducible exact absurd h (by assumption))))) | apply hw_skip | apply hw_ret | refine g_d S ?_) | (show HO _ _ _ _ _ _ _; first | apply ho_nil | refine g_q (qe S) ?_ | refine g_q (ql S) ?_ | refine g_q (qs S) ?_ | refine g_q (qb S) ?_ | refine g_q (qbA S) ?_ | refine wa S (fun b => ?_) | refine wb (fun b => ?_) | refine ws S ?_ | refine wS S (fun b => ?_) | refine wSa S (fun b => ?_) | refine wSn S (fun b => ?_)) | (show HD _ _ _ _ _ _ _ _; first | apply hd_nil | refine d_q 100 (by exact rfl) (fun _ => qe S) ?_ | refine d_q 100 (by exact rfl) (fun _ => qb S) ?_ | refine d_q 100 (by exact rfl) (fun _ => qbA S) ?_ | refine dl S 100 ?_ | refine ds S 100 ?_ | refine da 101 ?_) | refine dx ?_ | apply dx0 | refine dxd ?_ | refine dxk ?_ | apply seqQ_normal | apply seqQ_ret | apply seqQ_exit | apply blkQ_here | refine g_bx ?_ | apply blkQ_ret | apply blkQ_normal | apply loopQ_ret | apply loopQ_exit | apply unQ_ret | apply unQ_exit | apply unQ_succ)
    refine fo 4 ?_
    have scl : ∀ s, (sc s).length = 3 := fun _ => rfl
    have sco : ∀ s, (sc s).all Value.oneCell' = true := fun _ => rfl
    refine wp1 (enc := sc) (xs := List.map Ent.s (List.take d (openM m.b))) S e.s hS scl sco ?_
    intro v2 c2 hv2
    have e2 : List.map Ent.s (List.take d (openM m.b)) ++ [e.s] = List.map Ent.s (List.take (d + 1) (openM m.b)) := by rw [et, List.map_append]; rfl
    rw [e2] at hv2
    obtain ⟨a2, p2, rfl, -, -⟩ := Vec.rd hv2 (fun _ => rfl)
    repeat' (first | (show HW _ _ _ _ _ _; first | apply hw_seq | apply hw_region | apply hw_block | apply hw_exit | refine g_t ?_ | refine g_f ?_ | (refine g_b (fun h => ?_) (fun h => ?_) <;> ((try simp only [Bool.not_eq_eq_eq_not, Bool.not_true, Bool.not_false, decide_eq_true_eq, decide_eq_false_iff_not, Decidable.not_not, ne_eq, Bool.and_eq_true, beq_iff_eq, and_true, true_and, eq_self, decide_true, Bool.and_true, Bool.true_and, reduceCtorEq, not_true_eq_false, not_false_eq_true] at h); (try (exfalso; first | omega | with_reducible exact h (by assumption) | with_reducible exact absurd h (by assumption))))) | apply hw_skip | apply hw_ret | refine g_d S ?_) | (show HO _ _ _ _ _ _ _; first | apply ho_nil | refine g_q (qe S) ?_ | refine g_q (ql S) ?_ | refine g_q (qs S) ?_ | refine g_q (qb S) ?_ | refine g_q (qbA S) ?_ | refine wa S (fun b => ?_) | refine wb (fun b => ?_) | refine ws S ?_ | refine wS S (fun b => ?_) | refine wSa S (fun b => ?_) | refine wSn S (fun b => ?_)) | (show HD _ _ _ _ _ _ _ _; first | apply hd_nil | refine d_q 100 (by exact rfl) (fun _ => qe S) ?_ | refine d_q 100 (by exact rfl) (fun _ => qb S) ?_ | refine d_q 100 (by exact rfl) (fun _ => qbA S) ?_ | refine dl S 100 ?_ | refine ds S 100 ?_ | refine da 101 ?_) | refine dx ?_ | apply dx0 | refine dxd ?_ | refine dxk ?_ | apply seqQ_normal | apply seqQ_ret | apply seqQ_exit | apply blkQ_here | refine g_bx ?_ | apply blkQ_ret | apply blkQ_normal | apply loopQ_ret | apply loopQ_exit | apply unQ_ret | apply unQ_exit | apply unQ_succ)
    exact loopQ_sp (d + 1, (_, c1), (_, c2)) (by repeat (first | exact trivial | refine ⟨rfl, ?_⟩)) (by repeat (first | (with_reducible first | refine LS.p0 ?_ | refine LS.p1 ?_ | refine LS.p2 ?_ | refine LS.p3 ?_ | refine LS.p4 ?_ | refine LS.p5 ?_ | refine LS.p6 ?_ | refine LS.p7 ?_ | refine LS.p8 ?_ | refine LS.p9 ?_ | refine LS.p10 ?_ | refine LS.p11 ?_ | refine LS.p12 ?_ | refine LS.e ?_ | exact LS.refl _) | refine LS.p0 ?_ | refine LS.p1 ?_ | refine LS.p2 ?_ | refine LS.p3 ?_ | refine LS.p4 ?_ | refine LS.p5 ?_ | refine LS.p6 ?_ | refine LS.p7 ?_ | refine LS.p8 ?_ | refine LS.p9 ?_ | refine LS.p10 ?_ | refine LS.p11 ?_ | refine LS.p12 ?_ | (with_reducible refine LS.c ?_))) ⟨by simp only; omega, hv1, hv2⟩ (by simp only; omega)
  · obtain rfl : d = 6 := by omega
    have hol := openM_len m.b
    rw [List.take_of_length_le (by omega)] at hN hS
    rcases hN with ⟨rfl, h0, -, rfl⟩ | ⟨bN, capN, spN, rfl, rfl, hcsN, hleN, hallN⟩
    · simp [hol] at h0
    rcases hS with ⟨rfl, h0, -, rfl⟩ | ⟨bS, capS, spS, rfl, rfl, hcsS, hleS, hallS⟩
    · simp [hol] at h0
    simp only [List.length_map, hol]
    refine fw 2 ?_
    repeat' (first | (show HW _ _ _ _ _ _; first | apply hw_seq | apply hw_region | apply hw_block | apply hw_exit | refine g_t ?_ | refine g_f ?_ | (refine g_b (fun h => ?_) (fun h => ?_) <;> ((try simp only [Bool.not_eq_eq_eq_not, Bool.not_true, Bool.not_false, decide_eq_true_eq, decide_eq_false_iff_not, Decidable.not_not, ne_eq, Bool.and_eq_true, beq_iff_eq, and_true, true_and, eq_self, decide_true, Bool.and_true, Bool.true_and, reduceCtorEq, not_true_eq_false, not_false_eq_true] at h); (try (exfalso; first | omega | with_reducible exact h (by assumption) | with_reducible exact absurd h (by assumption))))) | apply hw_skip | apply hw_ret | refine g_d S ?_) | (show HO _ _ _ _ _ _ _; first | apply ho_nil | refine g_q (qe S) ?_ | refine g_q (ql S) ?_ | refine g_q (qs S) ?_ | refine g_q (qb S) ?_ | refine g_q (qbA S) ?_ | refine wa S (fun b => ?_) | refine wb (fun b => ?_) | refine ws S ?_ | refine wS S (fun b => ?_) | refine wSa S (fun b => ?_) | refine wSn S (fun b => ?_)) | (show HD _ _ _ _ _ _ _ _; first | apply hd_nil | refine d_q 100 (by exact rfl) (fun _ => qe S) ?_ | refine d_q 100 (by exact rfl) (fun _ => qb S) ?_ | refine d_q 100 (by exact rfl) (fun _ => qbA S) ?_ | refine dl S 100 ?_ | refine ds S 100 ?_ | refine da 101 ?_) | refine dx ?_ | apply dx0 | refine dxd ?_ | refine dxk ?_ | apply seqQ_normal | apply seqQ_ret | apply seqQ_exit | apply blkQ_here | refine g_bx ?_ | apply blkQ_ret | apply blkQ_normal | apply loopQ_ret | apply loopQ_exit | apply unQ_ret | apply unQ_exit | apply unQ_succ)
    exact sp1 (L' := rjC ⟨b3, rp, bN, capN, spN, bS, capS, spS⟩ ⟨openM m.b, false⟩ :: rpC rp m left :: L) (LS.of_eq rfl) ⟨⟨b3, rp, bN, capN, spN, bS, capS, spS⟩, rfl, rfl, rfl⟩
end Go.HL
end
