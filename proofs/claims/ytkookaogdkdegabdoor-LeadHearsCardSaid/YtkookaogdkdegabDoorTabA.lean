/- Chapter 5: what table's functions, and the document's, compute. Conditions: none. -/
import Derived.Test.YtkookaogdkdegabDoorSeat
namespace Go.HL
open Go Go.Proofs
set_option linter.unusedVariables false
set_option linter.unusedSimpArgs false
attribute [local irreducible] HW HO HQ HD HC QOp Has Upd Puts Gets seqQ blkQ loopQ fnQ actQ nextP unQ MapF

def afterS (p : Int) : Int := if p = 4 then 2 else if p = 5 then 3 else 0
theorem after_calls (p : Int) (L : Heap) : HC Tryd.prog 117 [iv p] L (fun v L' => v = iv (afterS p) ∧ L' = L) := by
  refine hc_enter (fun _ _ => Tryd.call117 _ _) Tryd.func117 rfl Tryd.ntmps117 (Nat.le_of_ble_eq_true rfl) ?_; simp only [args0, Nat.reduceAdd]
  repeat' (first | (show HW _ _ _ _ _ _; first | apply hw_seq | apply hw_region | apply hw_block | apply hw_exit | refine g_t ?_ | refine g_f ?_ | (refine g_b (fun h => ?_) (fun h => ?_) <;> ((try simp only [Bool.not_eq_eq_eq_not, Bool.not_true, Bool.not_false, decide_eq_true_eq, decide_eq_false_iff_not, Decidable.not_not, ne_eq, Bool.and_eq_true, beq_iff_eq, and_true, true_and, eq_self, decide_true, Bool.and_true, Bool.true_and, reduceCtorEq, not_true_eq_false, not_false_eq_true] at h); (try (exfalso; first | omega | with_reducible exact h (by assumption) | with_reducible exact absurd h (by assumption))))) | apply hw_skip | apply hw_ret) | (show HO _ _ _ _ _ _ _; first | apply ho_nil | refine g_q (qe S) ?_) | apply seqQ_normal | apply seqQ_ret | apply seqQ_exit | apply blkQ_here | refine g_bx ?_ | apply blkQ_ret | apply blkQ_normal)
  all_goals (refine fn_ret1 rfl rfl ?_ ⟨?_, rfl⟩; (next => (repeat (first | exact List.Sublist.refl _ | apply List.Sublist.cons))))
  all_goals simp [afterS, *]
theorem afterOf_calls (p : Int) (L : Heap) : HC Tryd.prog 123 [iv p] L (fun v L' => v = iv (afterS p) ∧ L' = L) := by
  refine hc_enter (fun _ _ => Tryd.call123 _ _) Tryd.func123 rfl Tryd.ntmps123 (Nat.le_of_ble_eq_true rfl) ?_; simp only [args0, Nat.reduceAdd]
  repeat' (first | (show HW _ _ _ _ _ _; first | apply hw_seq | apply hw_region | refine g_t ?_ | refine g_f ?_ | (refine g_b (fun h => ?_) (fun h => ?_) <;> ((try simp only [Bool.not_eq_eq_eq_not, Bool.not_true, Bool.not_false, decide_eq_true_eq, decide_eq_false_iff_not, Decidable.not_not, ne_eq, Bool.and_eq_true, beq_iff_eq, and_true, true_and, eq_self, decide_true, Bool.and_true, Bool.true_and, reduceCtorEq, not_true_eq_false, not_false_eq_true] at h); (try (exfalso; first | omega | with_reducible exact h (by assumption) | with_reducible exact absurd h (by assumption))))) | apply hw_skip | apply hw_ret) | (show HO _ _ _ _ _ _ _; first | apply ho_nil | refine g_q (qe S) ?_) | apply seqQ_normal | apply seqQ_ret)
  all_goals (refine fn_ret1 rfl rfl ?_ ⟨?_, rfl⟩; (next => (repeat (first | exact List.Sublist.refl _ | apply List.Sublist.cons))))
  all_goals simp [afterS, *]

def mayS (a b : Int) : Bool := decide ((0 ≤ a ∧ a ≤ 5 ∧ 0 ≤ b ∧ b ≤ 5) ∧ (a = b ∨ a = 0 ∨ (a ≠ 2 ∧ a ≠ 3 ∧ b ≠ 0 ∧ (a = 1 ∨ b ≠ 1))))
def toldS (xs : List St) (p : Int) : Bool := xs.any fun s => decide (s.ph = p)
theorem toldS_snoc (xs : List St) (s : St) (p : Int) : toldS (xs ++ [s]) p = (toldS xs p || decide (s.ph = p)) := by simp [toldS]
theorem toldS_of {xs : List St} {p : Int} {j : Nat} (h : j < xs.length) (hp : (xs[j]).ph = p) : toldS xs p = true := by
  simp only [toldS, List.any_eq_true, decide_eq_true_eq]
  exact ⟨xs[j], List.getElem_mem h, hp⟩
theorem told_calls (a : Option Addr) (cap : Nat) (xs : List St) (p : Int) (L : Heap) (hR : Rd sc 3 L a xs) (hl : xs.length ≤ 1000000) : HC Tryd.prog 141 [.slice a xs.length cap, iv p] L (fun v L' => v = .bool (toldS xs p) ∧ L' = L) := by
  refine hc_enter (fun _ _ => Tryd.call141 _ _) Tryd.func141 rfl Tryd.ntmps141 (Nat.le_of_ble_eq_true rfl) ?_; simp only [args0, Nat.reduceAdd]
  repeat' (first | (show HW _ _ _ _ _ _; first | apply hw_seq | apply hw_region | apply hw_block | apply hw_exit | refine g_t ?_ | refine g_f ?_ | (refine g_b (fun h => ?_) (fun h => ?_) <;> ((try simp only [Bool.not_eq_eq_eq_not, Bool.not_true, Bool.not_false, decide_eq_true_eq, decide_eq_false_iff_not, Decidable.not_not, ne_eq, Bool.and_eq_true, beq_iff_eq, and_true, true_and, eq_self, decide_true, Bool.and_true, Bool.true_and, reduceCtorEq, not_true_eq_false, not_false_eq_true] at h); (try (exfalso; first | omega | with_reducible exact h (by assumption) | with_reducible exact absurd h (by assumption))))) | apply hw_skip | apply hw_ret) | (show HO _ _ _ _ _ _ _; first | apply ho_nil | refine g_q (qe S) ?_ | refine g_q (ql S) ?_) | apply seqQ_normal | apply seqQ_ret | apply seqQ_exit | apply blkQ_here | refine g_bx ?_ | apply blkQ_ret | apply blkQ_normal | apply loopQ_ret | apply loopQ_exit | apply unQ_ret | apply unQ_exit | apply unQ_succ)
  refine hw_loop (σ := Int) (fun j => [(0, .slice a xs.length cap), (1, iv p), (5, iv j)]) (fun _ => L) (fun j => 0 ≤ j ∧ j ≤ xs.length ∧ toldS (xs.take j.toNat) p = false) (fun j => (xs.length - j).toNat) 0 (by repeat (first | exact trivial | refine ⟨rfl, ?_⟩)) (List.Sublist.refl _) ⟨by omega, by omega, by simp [toldS]⟩ ?_
  rintro j ⟨h0, h1, h2⟩
  by_cases hlt : j < xs.length
  · obtain ⟨b, i, l, E, fr, rfl, hb, hg⟩ := hR.at h0 hlt
    repeat' (first | (show HW _ _ _ _ _ _; first | apply hw_seq | apply hw_region | apply hw_block | apply hw_exit | refine g_t ?_ | refine g_f ?_ | (refine g_b (fun h => ?_) (fun h => ?_) <;> ((try simp only [Bool.not_eq_eq_eq_not, Bool.not_true, Bool.not_false, decide_eq_true_eq, decide_eq_false_iff_not, Decidable.not_not, ne_eq, Bool.and_eq_true, beq_iff_eq, and_true, true_and, eq_self, decide_true, Bool.and_true, Bool.true_and, reduceCtorEq, not_true_eq_false, not_false_eq_true] at h); (try (exfalso; first | omega | with_reducible exact h (by assumption) | with_reducible exact absurd h (by assumption))))) | apply hw_skip | apply hw_ret) | (show HO _ _ _ _ _ _ _; first | apply ho_nil | refine g_q (qe S) ?_ | refine g_q (ql S) ?_) | apply seqQ_normal | apply seqQ_ret | apply seqQ_exit | apply blkQ_here | refine g_bx ?_ | apply blkQ_ret | apply blkQ_normal | apply loopQ_ret | apply loopQ_exit | apply unQ_ret | apply unQ_exit | apply unQ_succ)
    · (refine fn_ret1 rfl rfl ?_ ⟨?_, rfl⟩; (next => (repeat (first | exact List.Sublist.refl _ | apply List.Sublist.cons))))
      rw [toldS_of _ h]
    · exact loopQ_normal (j + 1) (by repeat (first | exact trivial | refine ⟨rfl, ?_⟩)) (List.Sublist.refl _) ⟨by omega, by omega, by rw [take_succ h0 hlt, toldS_snoc, h2]; simp [h]⟩ (by omega)
  · repeat' (first | (show HW _ _ _ _ _ _; first | apply hw_seq | apply hw_region | apply hw_block | apply hw_exit | refine g_t ?_ | refine g_f ?_ | (refine g_b (fun h => ?_) (fun h => ?_) <;> ((try simp only [Bool.not_eq_eq_eq_not, Bool.not_true, Bool.not_false, decide_eq_true_eq, decide_eq_false_iff_not, Decidable.not_not, ne_eq, Bool.and_eq_true, beq_iff_eq, and_true, true_and, eq_self, decide_true, Bool.and_true, Bool.true_and, reduceCtorEq, not_true_eq_false, not_false_eq_true] at h); (try (exfalso; first | omega | with_reducible exact h (by assumption) | with_reducible exact absurd h (by assumption))))) | apply hw_skip | apply hw_ret) | (show HO _ _ _ _ _ _ _; first | apply ho_nil | refine g_q (qe S) ?_ | refine g_q (ql S) ?_) | apply seqQ_normal | apply seqQ_ret | apply seqQ_exit | apply blkQ_here | refine g_bx ?_ | apply blkQ_ret | apply blkQ_normal | apply loopQ_ret | apply loopQ_exit | apply unQ_ret | apply unQ_exit | apply unQ_succ)
    (refine fn_ret1 rfl rfl ?_ ⟨?_, rfl⟩; (next => (repeat (first | exact List.Sublist.refl _ | apply List.Sublist.cons))))
    rw [take_all hlt] at h2
    rw [h2]

def prep (s : St) : Bool := decide (s.ph = 4 ∨ s.ph = 5)
/-- the greatest attempt of those that are prepared; 0 if there are none -/
def bestS : List St → Int → Bool → Int × Bool
  | [], b, first => (b, first)
  | s :: r, b, first => if prep s then (if first || decide (b < s.att) then bestS r s.att false else bestS r b false) else bestS r b first
theorem bestS_append (r : List St) : ∀ (l : List St) (b : Int) (f : Bool), bestS (l ++ r) b f = bestS r (bestS l b f).1 (bestS l b f).2
  | [], b, f => rfl
  | s :: l, b, f => by
    simp only [List.cons_append, bestS]
    split
    · split
      · exact bestS_append r l _ _
      · exact bestS_append r l _ _
    · exact bestS_append r l _ _
def chooseS (xs : List St) : Int × Bool :=
  if toldS xs 2 then (2, true) else if toldS xs 3 then (3, true) else
  if xs.any (fun s => decide (s.ph = 4 ∧ s.att = (bestS xs 0 true).1)) then (4, false) else (5, false)
theorem chooseOf_calls (a : Option Addr) (cap : Nat) (xs : List St) (L : Heap) (hR : Rd sc 3 L a xs) (hl : xs.length ≤ 1000000) : HC Tryd.prog 124 [.slice a xs.length cap] L (fun v L' => v = .tuple ⟨[iv (chooseS xs).1, .bool (chooseS xs).2]⟩ ∧ L' = L) := by
  refine hc_enter (fun _ _ => Tryd.call124 _ _) Tryd.func124 rfl Tryd.ntmps124 (Nat.le_of_ble_eq_true rfl) ?_; simp only [args0, Nat.reduceAdd]
  repeat' (first | (show HW _ _ _ _ _ _; first | apply hw_seq | apply hw_region | apply hw_block | apply hw_exit | refine g_t ?_ | refine g_f ?_ | (refine g_b (fun h => ?_) (fun h => ?_) <;> ((try simp only [Bool.not_eq_eq_eq_not, Bool.not_true, Bool.not_false, decide_eq_true_eq, decide_eq_false_iff_not, Decidable.not_not, ne_eq, Bool.and_eq_true, beq_iff_eq, and_true, true_and, eq_self, decide_true, Bool.and_true, Bool.true_and, reduceCtorEq, not_true_eq_false, not_false_eq_true] at h); (try (exfalso; first | omega | with_reducible exact h (by assumption) | with_reducible exact absurd h (by assumption))))) | apply hw_skip | apply hw_ret) | (show HO _ _ _ _ _ _ _; first | apply ho_nil | refine g_q (qe S) ?_ | refine g_q (ql S) ?_ | refine g_q (qC (told_calls _ _ _ _ _ hR hl)) ?_ | refine g_n ?_ | refine g_on ?_ | (refine g_s (fun h => ?_) (fun h => ?_) <;> ((try simp only [Bool.not_eq_eq_eq_not, Bool.not_true, Bool.not_false, decide_eq_true_eq, decide_eq_false_iff_not, Decidable.not_not, ne_eq, Bool.and_eq_true, beq_iff_eq, and_true, true_and, eq_self, decide_true, Bool.and_true, Bool.true_and, reduceCtorEq, not_true_eq_false, not_false_eq_true] at h); (try (exfalso; first | omega | with_reducible exact h (by assumption) | with_reducible exact absurd h (by assumption)))))) | apply seqQ_normal | apply seqQ_ret | apply seqQ_exit | apply blkQ_here | refine g_bx ?_ | apply blkQ_ret | apply blkQ_normal | apply loopQ_ret | apply loopQ_exit | apply unQ_ret | apply unQ_exit | apply unQ_succ)
  · (refine fn_ret2 rfl rfl rfl ?_ ⟨?_, rfl⟩; (next => (repeat (first | exact List.Sublist.refl _ | apply List.Sublist.cons))))
    simp [chooseS, h]
  · (refine fn_ret2 rfl rfl rfl ?_ ⟨?_, rfl⟩; (next => (repeat (first | exact List.Sublist.refl _ | apply List.Sublist.cons))))
    rename_i h2
    simp [chooseS, h, h2]
  refine hw_loop (σ := Int × Int × Bool) (fun s => [(0, .slice a xs.length cap), (4, .bool s.2.2), (5, iv s.2.1), (6, iv s.1)]) (fun _ => L) (fun s => 0 ≤ s.1 ∧ s.1 ≤ xs.length ∧ bestS (xs.take s.1.toNat) 0 true = (s.2.1, s.2.2)) (fun s => (xs.length - s.1).toNat) (0, 0, true) (by repeat (first | exact trivial | refine ⟨rfl, ?_⟩)) (List.Sublist.refl _) ⟨by simp, by simp, by simp [bestS]⟩ ?_
  rintro ⟨j, qb, qf⟩ ⟨h0, h1, hq⟩
  simp only at h0 h1 hq
  by_cases hlt : j < xs.length
  · obtain ⟨b, i, l, E, fr, rfl, hb, hg⟩ := hR.at h0 hlt
    have e := bestS_append [xs[j.toNat]'(by omega)] (xs.take j.toNat) 0 true
    rw [← take_succ h0 hlt, hq] at e
    clear hq
    repeat' (first | (show HW _ _ _ _ _ _; first | apply hw_seq | apply hw_region | apply hw_block | apply hw_exit | refine g_t ?_ | refine g_f ?_ | (refine g_b (fun h => ?_) (fun h => ?_) <;> ((try simp only [Bool.not_eq_eq_eq_not, Bool.not_true, Bool.not_false, decide_eq_true_eq, decide_eq_false_iff_not, Decidable.not_not, ne_eq, Bool.and_eq_true, beq_iff_eq, and_true, true_and, eq_self, decide_true, Bool.and_true, Bool.true_and, reduceCtorEq, not_true_eq_false, not_false_eq_true] at h); (try (exfalso; first | omega | with_reducible exact h (by assumption) | with_reducible exact absurd h (by assumption))))) | apply hw_skip | apply hw_ret) | (show HO _ _ _ _ _ _ _; first | apply ho_nil | refine g_q (qe S) ?_ | refine g_q (ql S) ?_ | refine g_n ?_ | refine g_on ?_ | (refine g_s (fun h => ?_) (fun h => ?_) <;> ((try simp only [Bool.not_eq_eq_eq_not, Bool.not_true, Bool.not_false, decide_eq_true_eq, decide_eq_false_iff_not, Decidable.not_not, ne_eq, Bool.and_eq_true, beq_iff_eq, and_true, true_and, eq_self, decide_true, Bool.and_true, Bool.true_and, reduceCtorEq, not_true_eq_false, not_false_eq_true] at h); (try (exfalso; first | omega | with_reducible exact h (by assumption) | with_reducible exact absurd h (by assumption)))))) | apply seqQ_normal | apply seqQ_ret | apply seqQ_exit | apply blkQ_here | refine g_bx ?_ | apply blkQ_ret | apply blkQ_normal | apply loopQ_ret | apply loopQ_exit | apply unQ_ret | apply unQ_exit | apply unQ_succ)
    all_goals (refine loopQ_normal (j + 1, _, _) (by repeat (first | exact trivial | refine ⟨rfl, ?_⟩)) (List.Sublist.refl _) ⟨by show 0 ≤ j + 1; omega, by show j + 1 ≤ (xs.length : Int); omega, ?_⟩ (by show (xs.length - (j + 1)).toNat < (xs.length - j).toNat; omega); show bestS (List.take (j + 1).toNat xs) 0 true = _; rw [e]; simp [bestS, prep, *])
  · rw [take_all hlt] at hq
    repeat' (first | (show HW _ _ _ _ _ _; first | apply hw_seq | apply hw_region | apply hw_block | apply hw_exit | refine g_t ?_ | refine g_f ?_ | (refine g_b (fun h => ?_) (fun h => ?_) <;> ((try simp only [Bool.not_eq_eq_eq_not, Bool.not_true, Bool.not_false, decide_eq_true_eq, decide_eq_false_iff_not, Decidable.not_not, ne_eq, Bool.and_eq_true, beq_iff_eq, and_true, true_and, eq_self, decide_true, Bool.and_true, Bool.true_and, reduceCtorEq, not_true_eq_false, not_false_eq_true] at h); (try (exfalso; first | omega | with_reducible exact h (by assumption) | with_reducible exact absurd h (by assumption))))) | apply hw_skip | apply hw_ret) | (show HO _ _ _ _ _ _ _; first | apply ho_nil | refine g_q (qe S) ?_ | refine g_q (ql S) ?_ | refine g_n ?_ | refine g_on ?_ | (refine g_s (fun h => ?_) (fun h => ?_) <;> ((try simp only [Bool.not_eq_eq_eq_not, Bool.not_true, Bool.not_false, decide_eq_true_eq, decide_eq_false_iff_not, Decidable.not_not, ne_eq, Bool.and_eq_true, beq_iff_eq, and_true, true_and, eq_self, decide_true, Bool.and_true, Bool.true_and, reduceCtorEq, not_true_eq_false, not_false_eq_true] at h); (try (exfalso; first | omega | with_reducible exact h (by assumption) | with_reducible exact absurd h (by assumption)))))) | apply seqQ_normal | apply seqQ_ret | apply seqQ_exit | apply blkQ_here | refine g_bx ?_ | apply blkQ_ret | apply blkQ_normal | apply loopQ_ret | apply loopQ_exit | apply unQ_ret | apply unQ_exit | apply unQ_succ)
    refine hw_loop (σ := Int) (fun j => [(0, .slice a xs.length cap), (5, iv qb), (7, iv j)]) (fun _ => L) (fun j => 0 ≤ j ∧ j ≤ xs.length ∧ (xs.take j.toNat).any (fun s => decide (s.ph = 4 ∧ s.att = qb)) = false) (fun j => (xs.length - j).toNat) 0 (by repeat (first | exact trivial | refine ⟨rfl, ?_⟩)) (List.Sublist.refl _) ⟨by omega, by omega, by simp⟩ ?_
    rintro i ⟨i0, i1, hi⟩
    by_cases hlt2 : i < xs.length
    · obtain ⟨b, i', l, E, fr, rfl, hb, hg⟩ := hR.at i0 hlt2
      have e := take_succ i0 hlt2
      repeat' (first | (show HW _ _ _ _ _ _; first | apply hw_seq | apply hw_region | apply hw_block | apply hw_exit | refine g_t ?_ | refine g_f ?_ | (refine g_b (fun h => ?_) (fun h => ?_) <;> ((try simp only [Bool.not_eq_eq_eq_not, Bool.not_true, Bool.not_false, decide_eq_true_eq, decide_eq_false_iff_not, Decidable.not_not, ne_eq, Bool.and_eq_true, beq_iff_eq, and_true, true_and, eq_self, decide_true, Bool.and_true, Bool.true_and, reduceCtorEq, not_true_eq_false, not_false_eq_true] at h); (try (exfalso; first | omega | with_reducible exact h (by assumption) | with_reducible exact absurd h (by assumption))))) | apply hw_skip | apply hw_ret) | (show HO _ _ _ _ _ _ _; first | apply ho_nil | refine g_q (qe S) ?_ | refine g_q (ql S) ?_ | refine g_n ?_ | refine g_on ?_ | (refine g_s (fun h => ?_) (fun h => ?_) <;> ((try simp only [Bool.not_eq_eq_eq_not, Bool.not_true, Bool.not_false, decide_eq_true_eq, decide_eq_false_iff_not, Decidable.not_not, ne_eq, Bool.and_eq_true, beq_iff_eq, and_true, true_and, eq_self, decide_true, Bool.and_true, Bool.true_and, reduceCtorEq, not_true_eq_false, not_false_eq_true] at h); (try (exfalso; first | omega | with_reducible exact h (by assumption) | with_reducible exact absurd h (by assumption)))))) | apply seqQ_normal | apply seqQ_ret | apply seqQ_exit | apply blkQ_here | refine g_bx ?_ | apply blkQ_ret | apply blkQ_normal | apply loopQ_ret | apply loopQ_exit | apply unQ_ret | apply unQ_exit | apply unQ_succ)
      · (refine fn_ret2 rfl rfl rfl ?_ ⟨?_, rfl⟩; (next => (repeat (first | exact List.Sublist.refl _ | apply List.Sublist.cons))))
        rename_i hp
        have : xs.any (fun s => decide (s.ph = 4 ∧ s.att = qb)) = true := by
          simp only [List.any_eq_true, decide_eq_true_eq]
          exact ⟨xs[i.toNat]'(by omega), List.getElem_mem _, hp, h⟩
        have e2 : chooseS xs = (4, false) := by
          unfold chooseS
          rw [if_neg (by simp [*]), if_neg (by simp [*])]
          simp only [hq]
          rw [if_pos this]
        rw [e2]
      · rename_i hp
        exact loopQ_normal (i + 1) (by repeat (first | exact trivial | refine ⟨rfl, ?_⟩)) (List.Sublist.refl _) ⟨by omega, by omega, by rw [e, List.any_append, hi]; simp [h]⟩ (by omega)
      · exact loopQ_normal (i + 1) (by repeat (first | exact trivial | refine ⟨rfl, ?_⟩)) (List.Sublist.refl _) ⟨by omega, by omega, by rw [e, List.any_append, hi]; simp [h]⟩ (by omega)
    · repeat' (first | (show HW _ _ _ _ _ _; first | apply hw_seq | apply hw_region | apply hw_block | apply hw_exit | refine g_t ?_ | refine g_f ?_ | (refine g_b (fun h => ?_) (fun h => ?_) <;> ((try simp only [Bool.not_eq_eq_eq_not, Bool.not_true, Bool.not_false, decide_eq_true_eq, decide_eq_false_iff_not, Decidable.not_not, ne_eq, Bool.and_eq_true, beq_iff_eq, and_true, true_and, eq_self, decide_true, Bool.and_true, Bool.true_and, reduceCtorEq, not_true_eq_false, not_false_eq_true] at h); (try (exfalso; first | omega | with_reducible exact h (by assumption) | with_reducible exact absurd h (by assumption))))) | apply hw_skip | apply hw_ret) | (show HO _ _ _ _ _ _ _; first | apply ho_nil | refine g_q (qe S) ?_ | refine g_q (ql S) ?_ | refine g_n ?_ | refine g_on ?_ | (refine g_s (fun h => ?_) (fun h => ?_) <;> ((try simp only [Bool.not_eq_eq_eq_not, Bool.not_true, Bool.not_false, decide_eq_true_eq, decide_eq_false_iff_not, Decidable.not_not, ne_eq, Bool.and_eq_true, beq_iff_eq, and_true, true_and, eq_self, decide_true, Bool.and_true, Bool.true_and, reduceCtorEq, not_true_eq_false, not_false_eq_true] at h); (try (exfalso; first | omega | with_reducible exact h (by assumption) | with_reducible exact absurd h (by assumption)))))) | apply seqQ_normal | apply seqQ_ret | apply seqQ_exit | apply blkQ_here | refine g_bx ?_ | apply blkQ_ret | apply blkQ_normal | apply loopQ_ret | apply loopQ_exit | apply unQ_ret | apply unQ_exit | apply unQ_succ)
      (refine fn_ret2 rfl rfl rfl ?_ ⟨?_, rfl⟩; (next => (repeat (first | exact List.Sublist.refl _ | apply List.Sublist.cons))))
      rw [take_all hlt2] at hi
      have e2 : chooseS xs = (5, false) := by
        unfold chooseS
        rw [if_neg (by simp [*]), if_neg (by simp [*])]
        simp only [hq]
        rw [if_neg (by rw [hi]; simp)]
      rw [e2]

theorem ownStates_calls (a : Option Addr) (cap : Nat) (xs : List St) (L : Heap) (hR : Rd sc 3 L a xs) (hl : xs.length ≤ 1000000) :
    HC Tryd.prog 22 [.slice a xs.length cap] L (fun v L' => ∃ c, Own 34 3 v xs.length (xs.map sc).flatten c ∧ L' = c :: L) := by
  refine hc_enter (fun _ _ => Tryd.call22 _ _) Tryd.func22 rfl Tryd.ntmps22 (Nat.le_of_ble_eq_true rfl) ?_; simp only [args0, Nat.reduceAdd]
  repeat' (first | (show HW _ _ _ _ _ _; first | apply hw_seq | apply hw_region | apply hw_ret) | (show HO _ _ _ _ _ _ _; first | apply ho_nil | refine g_q (qe S) ?_) | apply seqQ_normal | apply seqQ_ret)
  refine ho_nilc ?_
  (apply o_append S; (case hx => exact rfl); (case hy => exact rfl); (case ht => exact rfl); (case he => exact rfl); (case hz => exact rfl); (case hzs => exact rfl); (case hzl => exact rfl); (case hn => exact rfl))
  (case ho => exact own_nil)
  (case hs => exact src_of_rd (fun _ => rfl) (hR.cons _))
  (case h1 => exact cells_flat (fun _ => rfl) xs)
  (case hby => omega)
  (case hmax => omega)
  intro v' c' ho
  repeat' (first | (show HW _ _ _ _ _ _; first | apply hw_seq | apply hw_region | apply hw_ret) | (show HO _ _ _ _ _ _ _; first | apply ho_nil | refine g_q (qe S) ?_) | apply seqQ_normal | apply seqQ_ret)
  refine fn_ret1 rfl rfl (List.Sublist.refl _) ⟨c', by simpa using ho, rfl⟩
end Go.HL
