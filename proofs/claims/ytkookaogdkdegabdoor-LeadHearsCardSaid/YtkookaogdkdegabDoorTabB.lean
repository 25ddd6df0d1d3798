/- Chapter 5: Choose, its closures, and the closed fact. Conditions: none. -/
import Derived.Test.YtkookaogdkdegabDoorTabA
namespace Go.HL
open Go Go.Proofs
set_option linter.unusedVariables false
set_option linter.unusedSimpArgs false
attribute [local irreducible] HW HO HQ HD HC QOp Has Upd Puts Gets seqQ blkQ loopQ fnQ actQ nextP unQ MapF

theorem stIs_calls (s : St) (b : Nat) (p : Int) (L : Heap) {F : Nat} {fr : Nat × Nat} (hb : Has L b (.cells ⟨[iv p]⟩ F fr)) :
    HC Tryd.prog 140 [.agg ⟨sc s⟩, pt b 0] L (fun v L' => v = .bool (decide (s.ph = p)) ∧ L' = L) := by
  refine hc_enter (fun _ _ => Tryd.call140 _ _) Tryd.func140 rfl Tryd.ntmps140 (Nat.le_of_ble_eq_true rfl) ?_; simp only [args0, Nat.reduceAdd]
  repeat' (first | (show HW _ _ _ _ _ _; first | apply hw_seq | apply hw_region | apply hw_ret) | (show HO _ _ _ _ _ _ _; first | apply ho_nil | refine g_q (qe S) ?_ | refine g_q (ql S) ?_ | refine wb (fun b => ?_)) | apply seqQ_normal | apply seqQ_ret)
  (refine fn_ret1 rfl rfl ?_ ⟨?_, rfl⟩; (next => (repeat (first | exact List.Sublist.refl _ | apply List.Sublist.cons))))
  rfl
theorem findIdx_take {xs : List St} {f : St → Bool} {j : Int} (h0 : 0 ≤ j) (hlt : j < xs.length) (hn : (xs.take j.toNat).any f = false) (h : f (xs[j.toNat]'(by omega)) = true) : xs.any f = true ∧ (xs.findIdx f : Int) = j := by
  have hj : j.toNat < xs.length := by omega
  refine ⟨List.any_eq_true.2 ⟨_, List.getElem_mem hj, h⟩, ?_⟩
  have : xs.findIdx f = j.toNat := by
    rw [List.findIdx_eq hj]
    refine ⟨h, fun k hk => ?_⟩
    rw [List.any_eq_false] at hn
    have hk' : k < (xs.take j.toNat).length := by simp; omega
    have := hn _ (List.getElem_mem hk')
    rw [List.getElem_take] at this
    simpa using this
  omega
theorem index_calls (a : Option Addr) (cap : Nat) (xs : List St) (F : Nat) (cs : List Value) (f : St → Bool) (L : Heap) (hR : Rd sc 3 L a xs) (hl : xs.length ≤ 1000000)
    (hf : ∀ s, HC Tryd.prog F (.agg ⟨sc s⟩ :: cs) L (fun v L' => v = .bool (f s) ∧ L' = L)) :
    HC Tryd.prog 151 [.slice a xs.length cap, .func (.func F) #[] ⟨cs⟩] L (fun v L' => v = iv (if xs.any f then (xs.findIdx f : Int) else -1) ∧ L' = L) := by
  refine hc_enter (fun _ _ => Tryd.call151 _ _) Tryd.func151 rfl Tryd.ntmps151 (Nat.le_of_ble_eq_true rfl) ?_; simp only [args0, Nat.reduceAdd]
  repeat' (first | (show HW _ _ _ _ _ _; first | apply hw_seq | apply hw_region | apply hw_block | apply hw_exit | refine g_t ?_ | refine g_f ?_ | (refine g_b (fun h => ?_) (fun h => ?_) <;> ((try simp only [Bool.not_eq_eq_eq_not, Bool.not_true, Bool.not_false, decide_eq_true_eq, decide_eq_false_iff_not, Decidable.not_not, ne_eq, Bool.and_eq_true, beq_iff_eq, and_true, true_and, eq_self, decide_true, Bool.and_true, Bool.true_and, reduceCtorEq, not_true_eq_false, not_false_eq_true] at h); (try (exfalso; first | omega | with_reducible exact h (by assumption) | with_reducible exact absurd h (by assumption))))) | apply hw_skip | apply hw_ret) | (show HO _ _ _ _ _ _ _; first | apply ho_nil | refine g_q (qe S) ?_ | refine g_q (qs S) ?_) | apply seqQ_normal | apply seqQ_ret | apply seqQ_exit | apply blkQ_here | refine g_bx ?_ | apply blkQ_ret | apply blkQ_normal | apply loopQ_ret | apply loopQ_exit | apply unQ_ret | apply unQ_exit | apply unQ_succ)
  refine hw_loop (σ := Int) (fun j => [(0, .slice a xs.length cap), (1, .func (.func F) #[] ⟨cs⟩), (6, .slice a xs.length cap), (7, iv xs.length), (8, iv j)]) (fun _ => L) (fun j => 0 ≤ j ∧ j ≤ xs.length ∧ (xs.take j.toNat).any f = false) (fun j => (xs.length - j).toNat) 0 (by repeat (first | exact trivial | refine ⟨rfl, ?_⟩)) (List.Sublist.refl _) ⟨by omega, by omega, by simp⟩ ?_
  rintro j ⟨h0, h1, h2⟩
  by_cases hlt : j < xs.length
  · obtain ⟨b, i, l, E, fr, rfl, hb, hg⟩ := hR.at h0 hlt
    repeat' (first | (show HW _ _ _ _ _ _; first | apply hw_seq | apply hw_region | apply hw_block | apply hw_exit | refine g_t ?_ | refine g_f ?_ | (refine g_b (fun h => ?_) (fun h => ?_) <;> ((try simp only [Bool.not_eq_eq_eq_not, Bool.not_true, Bool.not_false, decide_eq_true_eq, decide_eq_false_iff_not, Decidable.not_not, ne_eq, Bool.and_eq_true, beq_iff_eq, and_true, true_and, eq_self, decide_true, Bool.and_true, Bool.true_and, reduceCtorEq, not_true_eq_false, not_false_eq_true] at h); (try (exfalso; first | omega | with_reducible exact h (by assumption) | with_reducible exact absurd h (by assumption))))) | apply hw_skip | apply hw_ret) | (show HO _ _ _ _ _ _ _; first | apply ho_nil | refine g_q (qe S) ?_ | refine g_q (qs S) ?_ | refine g_q (qC (hf _)) ?_) | apply seqQ_normal | apply seqQ_ret | apply seqQ_exit | apply blkQ_here | refine g_bx ?_ | apply blkQ_ret | apply blkQ_normal | apply loopQ_ret | apply loopQ_exit | apply unQ_ret | apply unQ_exit | apply unQ_succ)
    · (refine fn_ret1 rfl rfl ?_ ⟨?_, rfl⟩; (next => (repeat (first | exact List.Sublist.refl _ | apply List.Sublist.cons))))
      obtain ⟨e1, e2⟩ := findIdx_take h0 hlt h2 (by assumption)
      rw [if_pos e1, e2]
    · exact loopQ_normal (j + 1) (by repeat (first | exact trivial | refine ⟨rfl, ?_⟩)) (List.Sublist.refl _) ⟨by omega, by omega, by rw [take_succ h0 hlt, List.any_append, h2]; simp [*]⟩ (by omega)
  · repeat' (first | (show HW _ _ _ _ _ _; first | apply hw_seq | apply hw_region | apply hw_block | apply hw_exit | refine g_t ?_ | refine g_f ?_ | (refine g_b (fun h => ?_) (fun h => ?_) <;> ((try simp only [Bool.not_eq_eq_eq_not, Bool.not_true, Bool.not_false, decide_eq_true_eq, decide_eq_false_iff_not, Decidable.not_not, ne_eq, Bool.and_eq_true, beq_iff_eq, and_true, true_and, eq_self, decide_true, Bool.and_true, Bool.true_and, reduceCtorEq, not_true_eq_false, not_false_eq_true] at h); (try (exfalso; first | omega | with_reducible exact h (by assumption) | with_reducible exact absurd h (by assumption))))) | apply hw_skip | apply hw_ret) | (show HO _ _ _ _ _ _ _; first | apply ho_nil | refine g_q (qe S) ?_ | refine g_q (qs S) ?_) | apply seqQ_normal | apply seqQ_ret | apply seqQ_exit | apply blkQ_here | refine g_bx ?_ | apply blkQ_ret | apply blkQ_normal | apply loopQ_ret | apply loopQ_exit | apply unQ_ret | apply unQ_exit | apply unQ_succ)
    (refine fn_ret1 rfl rfl ?_ ⟨?_, rfl⟩; (next => (repeat (first | exact List.Sublist.refl _ | apply List.Sublist.cons))))
    rw [take_all hlt] at h2
    rw [if_neg (by simp [h2])]
theorem contains_calls (a : Option Addr) (cap : Nat) (xs : List St) (F : Nat) (cs : List Value) (f : St → Bool) (L : Heap) (hR : Rd sc 3 L a xs) (hl : xs.length ≤ 1000000)
    (hf : ∀ s, HC Tryd.prog F (.agg ⟨sc s⟩ :: cs) L (fun v L' => v = .bool (f s) ∧ L' = L)) :
    HC Tryd.prog 139 [.slice a xs.length cap, .func (.func F) #[] ⟨cs⟩] L (fun v L' => v = .bool (xs.any f) ∧ L' = L) := by
  refine hc_enter (fun _ _ => Tryd.call139 _ _) Tryd.func139 rfl Tryd.ntmps139 (Nat.le_of_ble_eq_true rfl) ?_; simp only [args0, Nat.reduceAdd]
  repeat' (first | (show HW _ _ _ _ _ _; first | apply hw_seq | apply hw_region | apply hw_ret) | (show HO _ _ _ _ _ _ _; first | apply ho_nil | refine g_q (qe S) ?_ | refine g_q (qC (index_calls _ _ _ _ _ f _ hR hl hf)) ?_) | apply seqQ_normal | apply seqQ_ret)
  (refine fn_ret1 rfl rfl ?_ ⟨?_, rfl⟩; (next => (repeat (first | exact List.Sublist.refl _ | apply List.Sublist.cons))))
  refine congrArg Value.bool ?_
  cases hx : xs.any f <;> simp
theorem has_calls (p : Int) (a : Option Addr) (cap : Nat) (xs : List St) (L : Heap) (b E : Nat) (fr : Nat × Nat) (hb : Has L b (.cells ⟨[.slice a xs.length cap]⟩ E fr)) (hR : Rd sc 3 L a xs) (hl : xs.length ≤ 1000000) :
    HC Tryd.prog 138 [iv p, pt b 0] L (fun v L' => v = .bool (toldS xs p) ∧ L' = L) := by
  refine hc_enter (fun _ _ => Tryd.call138 _ _) Tryd.func138 rfl Tryd.ntmps138 (Nat.le_of_ble_eq_true rfl) ?_; simp only [args0, Nat.reduceAdd]
  repeat' (first | (show HW _ _ _ _ _ _; first | apply hw_seq | apply hw_region | apply hw_ret) | (show HO _ _ _ _ _ _ _; first | apply ho_nil | refine g_q (qe S) ?_ | refine g_q (ql S) ?_ | refine g_q (qC (contains_calls _ _ _ _ _ (fun s => decide (s.ph = p)) _ (hR.cons _) hl (fun s => stIs_calls s _ p _ has_here))) ?_ | refine wb (fun b => ?_)) | apply seqQ_normal | apply seqQ_ret)
  (refine fn_ret1 rfl rfl ?_ ⟨?_, rfl⟩; (next => (repeat (first | exact List.Sublist.refl _ | apply List.Sublist.cons))))
  rfl
def stepP (m s : St) : St := if prep s then (if m.ph = 0 ∨ m.att < s.att ∨ (s.att = m.att ∧ s.ph = 4) then s else m) else m
def bestP (xs : List St) : St := xs.foldl stepP ⟨0, 0, 0⟩
theorem bestP_snoc (xs : List St) (s : St) : bestP (xs ++ [s]) = stepP (bestP xs) s := by simp [bestP]
def BI (xs : List St) (m : St) (b : Int × Bool) : Prop :=
  (m = ⟨0, 0, 0⟩ ∧ b = (0, true) ∧ ∀ s ∈ xs, prep s = false) ∨
  (b = (m.att, false) ∧ (m.ph = 4 ∧ (∃ s ∈ xs, s.ph = 4 ∧ s.att = m.att) ∨ m.ph = 5 ∧ ∀ s ∈ xs, ¬ (s.ph = 4 ∧ s.att = m.att)) ∧ ∀ s ∈ xs, prep s = true → s.att ≤ m.att)
theorem bi_step (xs : List St) (m s : St) (b : Int × Bool) (h : BI xs m b) : BI (xs ++ [s]) (stepP m s) (bestS [s] b.1 b.2) := by
  unfold BI at *
  simp only [bestS, stepP, List.mem_append, List.mem_singleton]
  by_cases hp : prep s = true
  · have hp' : s.ph = 4 ∨ s.ph = 5 := by simpa [prep] using hp
    rw [if_pos hp, if_pos hp]
    right
    rcases h with ⟨rfl, rfl, hall⟩ | ⟨rfl, hm, hle⟩
    · simp only [Bool.true_or, if_true, true_or]
      refine ⟨trivial, ?_, ?_⟩
      · rcases hp' with h4 | h5
        · exact .inl ⟨h4, s, .inr rfl, h4, rfl⟩
        · refine .inr ⟨h5, fun x hx h => ?_⟩
          rcases hx with hx | rfl
          · have := hall x hx; simp [prep, h.1] at this
          · omega
      · intro x hx hpx
        rcases hx with hx | rfl
        · rw [hall x hx] at hpx; cases hpx
        · omega
    · have hm0 : m.ph ≠ 0 := by rcases hm with h | h <;> omega
      simp only [Bool.false_or, decide_eq_true_eq]
      by_cases hlt : m.att < s.att
      · rw [if_pos hlt, if_pos (.inr (.inl hlt))]
        refine ⟨rfl, ?_, ?_⟩
        · rcases hp' with h4 | h5
          · exact .inl ⟨h4, s, .inr rfl, h4, rfl⟩
          · refine .inr ⟨h5, fun x hx h => ?_⟩
            rcases hx with hx | rfl
            · have := hle x hx (by simp [prep, h.1]); omega
            · omega
        · intro x hx hpx
          rcases hx with hx | rfl
          · have := hle x hx hpx; omega
          · omega
      · rw [if_neg hlt]
        by_cases he : s.att = m.att ∧ s.ph = 4
        · rw [if_pos (.inr (.inr he))]
          refine ⟨by rw [he.1], .inl ⟨he.2, s, .inr rfl, he.2, rfl⟩, ?_⟩
          intro x hx hpx
          rcases hx with hx | rfl
          · have := hle x hx hpx; omega
          · omega
        · rw [if_neg (by simp [hm0, hlt]; omega)]
          refine ⟨rfl, ?_, ?_⟩
          · rcases hm with ⟨h4, x, hx, hx2⟩ | ⟨h5, hno⟩
            · exact .inl ⟨h4, x, .inl hx, hx2⟩
            · refine .inr ⟨h5, fun x hx h => ?_⟩
              rcases hx with hx | rfl
              · exact hno x hx h
              · exact he ⟨h.2, h.1⟩
          · intro x hx hpx
            rcases hx with hx | rfl
            · exact hle x hx hpx
            · omega
  · have hp' : prep s = false := by simpa using hp
    have h4 : s.ph ≠ 4 := fun e => by simp [prep, e] at hp
    rw [if_neg hp, if_neg hp]
    rcases h with ⟨rfl, rfl, hall⟩ | ⟨rfl, hm, hle⟩
    · refine .inl ⟨rfl, rfl, fun x hx => ?_⟩
      rcases hx with hx | rfl
      · exact hall x hx
      · exact hp'
    · refine .inr ⟨rfl, ?_, fun x hx hpx => ?_⟩
      · rcases hm with ⟨h4', x, hx, hx2⟩ | ⟨h5, hno⟩
        · exact .inl ⟨h4', x, .inl hx, hx2⟩
        · refine .inr ⟨h5, fun x hx h => ?_⟩
          rcases hx with hx | rfl
          · exact hno x hx h
          · exact h4 h.1
      · rcases hx with hx | rfl
        · exact hle x hx hpx
        · rw [hp'] at hpx; cases hpx
theorem bi_all (xs : List St) : BI xs (bestP xs) (bestS xs 0 true) := by
  have key : ∀ ys : List St, BI ys.reverse (bestP ys.reverse) (bestS ys.reverse 0 true) := by
    intro ys
    induction ys with
    | nil => exact .inl ⟨rfl, rfl, by simp⟩
    | cons s ys ih =>
      rw [List.reverse_cons, bestP_snoc, bestS_append]
      exact bi_step _ _ s _ ih
  simpa using key xs.reverse
/-- what the two ways of the search have in common -/
theorem best_inv (xs : List St) :
    (bestP xs = ⟨0, 0, 0⟩ ∧ (bestS xs 0 true) = (0, true) ∧ xs.all (fun s => !prep s) = true) ∨
    ((bestP xs).ph = 4 ∧ bestS xs 0 true = ((bestP xs).att, false) ∧ xs.any (fun s => decide (s.ph = 4 ∧ s.att = (bestP xs).att)) = true) ∨
    ((bestP xs).ph = 5 ∧ bestS xs 0 true = ((bestP xs).att, false) ∧ xs.any (fun s => decide (s.ph = 4 ∧ s.att = (bestP xs).att)) = false) := by
  rcases bi_all xs with ⟨h1, h2, h3⟩ | ⟨h1, h2 | h2, h3⟩
  · exact .inl ⟨h1, h2, by simpa using h3⟩
  · refine .inr (.inl ⟨h2.1, h1, ?_⟩)
    simp only [List.any_eq_true, decide_eq_true_eq]
    exact h2.2
  · refine .inr (.inr ⟨h2.1, h1, ?_⟩)
    rw [List.any_eq_false]
    intro x hx
    simpa using h2.2 x hx
theorem choose_calls (a : Option Addr) (cap : Nat) (xs : List St) (L : Heap) (hR : Rd sc 3 L a xs) (hl : xs.length ≤ 1000000) : HC Tryd.prog 118 [.slice a xs.length cap] L (fun v L' => v = .tuple ⟨[iv (chooseS xs).1, .bool (chooseS xs).2]⟩ ∧ L' = L) := by
  refine hc_enter (fun _ _ => Tryd.call118 _ _) Tryd.func118 rfl Tryd.ntmps118 (Nat.le_of_ble_eq_true rfl) ?_; simp only [args0, Nat.reduceAdd]
  repeat' (first | (show HW _ _ _ _ _ _; first | apply hw_seq | apply hw_region | apply hw_block | apply hw_exit | refine g_t ?_ | refine g_f ?_ | (refine g_b (fun h => ?_) (fun h => ?_) <;> ((try simp only [Bool.not_eq_eq_eq_not, Bool.not_true, Bool.not_false, decide_eq_true_eq, decide_eq_false_iff_not, Decidable.not_not, ne_eq, Bool.and_eq_true, beq_iff_eq, and_true, true_and, eq_self, decide_true, Bool.and_true, Bool.true_and, reduceCtorEq, not_true_eq_false, not_false_eq_true] at h); (try (exfalso; first | omega | with_reducible exact h (by assumption) | with_reducible exact absurd h (by assumption))))) | apply hw_skip | apply hw_ret) | (show HO _ _ _ _ _ _ _; first | apply ho_nil | refine g_q (qe S) ?_ | refine g_q (ql S) ?_ | refine g_q (qs S) ?_ | refine g_n ?_ | refine g_on ?_ | (refine g_s (fun h => ?_) (fun h => ?_) <;> ((try simp only [Bool.not_eq_eq_eq_not, Bool.not_true, Bool.not_false, decide_eq_true_eq, decide_eq_false_iff_not, Decidable.not_not, ne_eq, Bool.and_eq_true, beq_iff_eq, and_true, true_and, eq_self, decide_true, Bool.and_true, Bool.true_and, reduceCtorEq, not_true_eq_false, not_false_eq_true] at h); (try (exfalso; first | omega | with_reducible exact h (by assumption) | with_reducible exact absurd h (by assumption))))) | refine wa S (fun b => ?_) | refine wb (fun b => ?_) | refine ws S ?_ | refine wS S (fun b => ?_) | refine wSa S (fun b => ?_) | refine wSn S (fun b => ?_)) | apply seqQ_normal | apply seqQ_ret | apply seqQ_exit | apply blkQ_here | refine g_bx ?_ | apply blkQ_ret | apply blkQ_normal | apply loopQ_ret | apply loopQ_exit | apply unQ_ret | apply unQ_exit | apply unQ_succ)
  rename_i b1
  refine hw_loop (σ := Int) (fun j => [(1, pt b1 0), (4, .func (.func 138) #[] ⟨[pt b1 0]⟩), (11, sl b 0 2 2), (12, iv 2), (13, iv j)]) (fun _ => [(b, .cells ⟨[iv 2, iv 3]⟩ 3)] :: [(b1, .cells ⟨[.slice a xs.length cap]⟩ 23)] :: L)
    (fun j => 0 ≤ j ∧ j ≤ 2 ∧ (1 ≤ j → toldS xs 2 = false) ∧ (2 ≤ j → toldS xs 3 = false)) (fun j => (2 - j).toNat) 0 (by repeat (first | exact trivial | refine ⟨rfl, ?_⟩)) (List.Sublist.refl _) ⟨by omega, by omega, by omega, by omega⟩ ?_
  rintro j ⟨h0, h1, h2, h3⟩
  have hj : j = 0 ∨ j = 1 ∨ j = 2 := by omega
  rcases hj with rfl | rfl | rfl
  · repeat' (first | (show HW _ _ _ _ _ _; first | apply hw_seq | apply hw_region | apply hw_block | apply hw_exit | refine g_t ?_ | refine g_f ?_ | (refine g_b (fun h => ?_) (fun h => ?_) <;> ((try simp only [Bool.not_eq_eq_eq_not, Bool.not_true, Bool.not_false, decide_eq_true_eq, decide_eq_false_iff_not, Decidable.not_not, ne_eq, Bool.and_eq_true, beq_iff_eq, and_true, true_and, eq_self, decide_true, Bool.and_true, Bool.true_and, reduceCtorEq, not_true_eq_false, not_false_eq_true] at h); (try (exfalso; first | omega | with_reducible exact h (by assumption) | with_reducible exact absurd h (by assumption))))) | apply hw_skip | apply hw_ret) | (show HO _ _ _ _ _ _ _; first | apply ho_nil | refine g_q (qe S) ?_ | refine g_q (ql S) ?_ | refine g_q (qs S) ?_ | refine g_q (qC (has_calls _ _ _ _ _ _ _ _ (has_next has_here) ((hR.cons _).cons _) hl)) ?_ | refine g_n ?_ | refine g_on ?_ | (refine g_s (fun h => ?_) (fun h => ?_) <;> ((try simp only [Bool.not_eq_eq_eq_not, Bool.not_true, Bool.not_false, decide_eq_true_eq, decide_eq_false_iff_not, Decidable.not_not, ne_eq, Bool.and_eq_true, beq_iff_eq, and_true, true_and, eq_self, decide_true, Bool.and_true, Bool.true_and, reduceCtorEq, not_true_eq_false, not_false_eq_true] at h); (try (exfalso; first | omega | with_reducible exact h (by assumption) | with_reducible exact absurd h (by assumption))))) | refine wa S (fun b => ?_) | refine wb (fun b => ?_) | refine ws S ?_ | refine wS S (fun b => ?_) | refine wSa S (fun b => ?_) | refine wSn S (fun b => ?_)) | apply seqQ_normal | apply seqQ_ret | apply seqQ_exit | apply blkQ_here | refine g_bx ?_ | apply blkQ_ret | apply blkQ_normal | apply loopQ_ret | apply loopQ_exit | apply unQ_ret | apply unQ_exit | apply unQ_succ)
    · (refine fn_ret2 rfl rfl rfl ?_ ⟨?_, rfl⟩; (next => (repeat (first | exact List.Sublist.refl _ | apply List.Sublist.cons))))
      simp [chooseS, *]
    · exact loopQ_normal 1 (by repeat (first | exact trivial | refine ⟨rfl, ?_⟩)) (List.Sublist.refl _) ⟨by omega, by omega, fun _ => by assumption, by omega⟩ (by decide)
  · repeat' (first | (show HW _ _ _ _ _ _; first | apply hw_seq | apply hw_region | apply hw_block | apply hw_exit | refine g_t ?_ | refine g_f ?_ | (refine g_b (fun h => ?_) (fun h => ?_) <;> ((try simp only [Bool.not_eq_eq_eq_not, Bool.not_true, Bool.not_false, decide_eq_true_eq, decide_eq_false_iff_not, Decidable.not_not, ne_eq, Bool.and_eq_true, beq_iff_eq, and_true, true_and, eq_self, decide_true, Bool.and_true, Bool.true_and, reduceCtorEq, not_true_eq_false, not_false_eq_true] at h); (try (exfalso; first | omega | with_reducible exact h (by assumption) | with_reducible exact absurd h (by assumption))))) | apply hw_skip | apply hw_ret) | (show HO _ _ _ _ _ _ _; first | apply ho_nil | refine g_q (qe S) ?_ | refine g_q (ql S) ?_ | refine g_q (qs S) ?_ | refine g_q (qC (has_calls _ _ _ _ _ _ _ _ (has_next has_here) ((hR.cons _).cons _) hl)) ?_ | refine g_n ?_ | refine g_on ?_ | (refine g_s (fun h => ?_) (fun h => ?_) <;> ((try simp only [Bool.not_eq_eq_eq_not, Bool.not_true, Bool.not_false, decide_eq_true_eq, decide_eq_false_iff_not, Decidable.not_not, ne_eq, Bool.and_eq_true, beq_iff_eq, and_true, true_and, eq_self, decide_true, Bool.and_true, Bool.true_and, reduceCtorEq, not_true_eq_false, not_false_eq_true] at h); (try (exfalso; first | omega | with_reducible exact h (by assumption) | with_reducible exact absurd h (by assumption))))) | refine wa S (fun b => ?_) | refine wb (fun b => ?_) | refine ws S ?_ | refine wS S (fun b => ?_) | refine wSa S (fun b => ?_) | refine wSn S (fun b => ?_)) | apply seqQ_normal | apply seqQ_ret | apply seqQ_exit | apply blkQ_here | refine g_bx ?_ | apply blkQ_ret | apply blkQ_normal | apply loopQ_ret | apply loopQ_exit | apply unQ_ret | apply unQ_exit | apply unQ_succ)
    · (refine fn_ret2 rfl rfl rfl ?_ ⟨?_, rfl⟩; (next => (repeat (first | exact List.Sublist.refl _ | apply List.Sublist.cons))))
      have e := h2 (by omega)
      simp [chooseS, *]
    · exact loopQ_normal 2 (by repeat (first | exact trivial | refine ⟨rfl, ?_⟩)) (List.Sublist.refl _) ⟨by omega, by omega, fun _ => h2 (by omega), fun _ => by assumption⟩ (by decide)
  · have e2 := h2 (by omega)
    have e3 := h3 (by omega)
    repeat' (first | (show HW _ _ _ _ _ _; first | apply hw_seq | apply hw_region | apply hw_block | apply hw_exit | refine g_t ?_ | refine g_f ?_ | (refine g_b (fun h => ?_) (fun h => ?_) <;> ((try simp only [Bool.not_eq_eq_eq_not, Bool.not_true, Bool.not_false, decide_eq_true_eq, decide_eq_false_iff_not, Decidable.not_not, ne_eq, Bool.and_eq_true, beq_iff_eq, and_true, true_and, eq_self, decide_true, Bool.and_true, Bool.true_and, reduceCtorEq, not_true_eq_false, not_false_eq_true] at h); (try (exfalso; first | omega | with_reducible exact h (by assumption) | with_reducible exact absurd h (by assumption))))) | apply hw_skip | apply hw_ret) | (show HO _ _ _ _ _ _ _; first | apply ho_nil | refine g_q (qe S) ?_ | refine g_q (ql S) ?_ | refine g_q (qs S) ?_ | refine g_n ?_ | refine g_on ?_ | (refine g_s (fun h => ?_) (fun h => ?_) <;> ((try simp only [Bool.not_eq_eq_eq_not, Bool.not_true, Bool.not_false, decide_eq_true_eq, decide_eq_false_iff_not, Decidable.not_not, ne_eq, Bool.and_eq_true, beq_iff_eq, and_true, true_and, eq_self, decide_true, Bool.and_true, Bool.true_and, reduceCtorEq, not_true_eq_false, not_false_eq_true] at h); (try (exfalso; first | omega | with_reducible exact h (by assumption) | with_reducible exact absurd h (by assumption))))) | refine wa S (fun b => ?_) | refine wb (fun b => ?_) | refine ws S ?_ | refine wS S (fun b => ?_) | refine wSa S (fun b => ?_) | refine wSn S (fun b => ?_)) | apply seqQ_normal | apply seqQ_ret | apply seqQ_exit | apply blkQ_here | refine g_bx ?_ | apply blkQ_ret | apply blkQ_normal | apply loopQ_ret | apply loopQ_exit | apply unQ_ret | apply unQ_exit | apply unQ_succ)
    clear h0 h1 h2 h3
    refine hw_loop (σ := Int × St) (fun s => [(7, pt b 0), (22, .slice a xs.length cap), (23, iv xs.length), (24, iv s.1)]) (fun s => [(b, .cells ⟨sc s.2⟩ 34)] :: L)
      (fun s => 0 ≤ s.1 ∧ s.1 ≤ xs.length ∧ bestP (xs.take s.1.toNat) = s.2) (fun s => (xs.length - s.1).toNat) (0, ⟨0, 0, 0⟩) (by repeat (first | exact trivial | refine ⟨rfl, ?_⟩)) (by exact .cons_cons _ (.cons _ (.cons _ (.refl _)))) ⟨by simp, by simp, by simp [bestP]⟩ ?_
    rintro ⟨j, m⟩ ⟨j0, j1, hm⟩
    simp only at j0 j1 hm
    by_cases hlt : j < xs.length
    · obtain ⟨bb, i, l, E, fr, rfl, hb, hg⟩ := hR.at j0 hlt
      have e := bestP_snoc (xs.take j.toNat) (xs[j.toNat]'(by omega))
      rw [← take_succ j0 hlt, hm] at e
      clear hm
      repeat' (first | (show HW _ _ _ _ _ _; first | apply hw_seq | apply hw_region | apply hw_block | apply hw_exit | refine g_t ?_ | refine g_f ?_ | (refine g_b (fun h => ?_) (fun h => ?_) <;> ((try simp only [Bool.not_eq_eq_eq_not, Bool.not_true, Bool.not_false, decide_eq_true_eq, decide_eq_false_iff_not, Decidable.not_not, ne_eq, Bool.and_eq_true, beq_iff_eq, and_true, true_and, eq_self, decide_true, Bool.and_true, Bool.true_and, reduceCtorEq, not_true_eq_false, not_false_eq_true] at h); (try (exfalso; first | omega | with_reducible exact h (by assumption) | with_reducible exact absurd h (by assumption))))) | apply hw_skip | apply hw_ret) | (show HO _ _ _ _ _ _ _; first | apply ho_nil | refine g_q (qe S) ?_ | refine g_q (ql S) ?_ | refine g_q (qs S) ?_ | refine g_n ?_ | refine g_on ?_ | (refine g_s (fun h => ?_) (fun h => ?_) <;> ((try simp only [Bool.not_eq_eq_eq_not, Bool.not_true, Bool.not_false, decide_eq_true_eq, decide_eq_false_iff_not, Decidable.not_not, ne_eq, Bool.and_eq_true, beq_iff_eq, and_true, true_and, eq_self, decide_true, Bool.and_true, Bool.true_and, reduceCtorEq, not_true_eq_false, not_false_eq_true] at h); (try (exfalso; first | omega | with_reducible exact h (by assumption) | with_reducible exact absurd h (by assumption))))) | refine wa S (fun b => ?_) | refine wb (fun b => ?_) | refine ws S ?_ | refine wS S (fun b => ?_) | refine wSa S (fun b => ?_) | refine wSn S (fun b => ?_)) | apply seqQ_normal | apply seqQ_ret | apply seqQ_exit | apply blkQ_here | refine g_bx ?_ | apply blkQ_ret | apply blkQ_normal | apply loopQ_ret | apply loopQ_exit | apply unQ_ret | apply unQ_exit | apply unQ_succ)
      all_goals first
        | ((refine loopQ_normal (j + 1, xs[j.toNat]'(by omega)) ?_ ?_ ?_ ?_; (next => (repeat (first | exact trivial | refine ⟨rfl, ?_⟩))); (next => (repeat (first | exact List.Sublist.refl _ | apply List.Sublist.cons)))); (next => refine ⟨?_, ?_, ?_⟩; (next => show 0 ≤ j + 1; omega); (next => show j + 1 ≤ (xs.length : Int); omega); (next => show bestP (List.take (j + 1).toNat xs) = _; rw [e]; simp [stepP, prep, *]; done)); (next => show (xs.length - (j + 1)).toNat < (xs.length - j).toNat; omega))
        | ((refine loopQ_normal (j + 1, m) ?_ ?_ ?_ ?_; (next => (repeat (first | exact trivial | refine ⟨rfl, ?_⟩))); (next => (repeat (first | exact List.Sublist.refl _ | apply List.Sublist.cons)))); (next => refine ⟨?_, ?_, ?_⟩; (next => show 0 ≤ j + 1; omega); (next => show j + 1 ≤ (xs.length : Int); omega); (next => show bestP (List.take (j + 1).toNat xs) = _; rw [e]; simp [stepP, prep, *]; done)); (next => show (xs.length - (j + 1)).toNat < (xs.length - j).toNat; omega))
    · rw [take_all hlt] at hm
      have hinv := best_inv xs
      rw [hm] at hinv
      repeat' (first | (show HW _ _ _ _ _ _; first | apply hw_seq | apply hw_region | apply hw_block | apply hw_exit | refine g_t ?_ | refine g_f ?_ | (refine g_b (fun h => ?_) (fun h => ?_) <;> ((try simp only [Bool.not_eq_eq_eq_not, Bool.not_true, Bool.not_false, decide_eq_true_eq, decide_eq_false_iff_not, Decidable.not_not, ne_eq, Bool.and_eq_true, beq_iff_eq, and_true, true_and, eq_self, decide_true, Bool.and_true, Bool.true_and, reduceCtorEq, not_true_eq_false, not_false_eq_true] at h); (try (exfalso; first | omega | with_reducible exact h (by assumption) | with_reducible exact absurd h (by assumption))))) | apply hw_skip | apply hw_ret) | (show HO _ _ _ _ _ _ _; first | apply ho_nil | refine g_q (qe S) ?_ | refine g_q (ql S) ?_ | refine g_q (qs S) ?_ | refine g_n ?_ | refine g_on ?_ | (refine g_s (fun h => ?_) (fun h => ?_) <;> ((try simp only [Bool.not_eq_eq_eq_not, Bool.not_true, Bool.not_false, decide_eq_true_eq, decide_eq_false_iff_not, Decidable.not_not, ne_eq, Bool.and_eq_true, beq_iff_eq, and_true, true_and, eq_self, decide_true, Bool.and_true, Bool.true_and, reduceCtorEq, not_true_eq_false, not_false_eq_true] at h); (try (exfalso; first | omega | with_reducible exact h (by assumption) | with_reducible exact absurd h (by assumption))))) | refine wa S (fun b => ?_) | refine wb (fun b => ?_) | refine ws S ?_ | refine wS S (fun b => ?_) | refine wSa S (fun b => ?_) | refine wSn S (fun b => ?_)) | apply seqQ_normal | apply seqQ_ret | apply seqQ_exit | apply blkQ_here | refine g_bx ?_ | apply blkQ_ret | apply blkQ_normal | apply loopQ_ret | apply loopQ_exit | apply unQ_ret | apply unQ_exit | apply unQ_succ)
      · (refine fn_ret2 rfl rfl rfl ?_ ⟨?_, rfl⟩; (next => (repeat (first | exact List.Sublist.refl _ | apply List.Sublist.cons))))
        have e4 : chooseS xs = (5, false) := by
          unfold chooseS
          rw [if_neg (by simp [*]), if_neg (by simp [*])]
          rcases hinv with ⟨rfl, h5, h6⟩ | ⟨h4, -, -⟩ | ⟨h4, -, -⟩
          · rw [if_neg]
            simp only [List.any_eq_true, not_exists, not_and, decide_eq_true_eq]
            intro x hx h4
            have := List.all_eq_true.1 h6 x hx
            simp [prep, h4] at this
          · simp_all
          · simp_all
        rw [e4]
      · (refine fn_ret2 rfl rfl rfl ?_ ⟨?_, rfl⟩; (next => (repeat (first | exact List.Sublist.refl _ | apply List.Sublist.cons))))
        have e4 : chooseS xs = (m.ph, false) := by
          unfold chooseS
          rw [if_neg (by simp [*]), if_neg (by simp [*])]
          rcases hinv with ⟨rfl, h5, h6⟩ | ⟨h4, h5, h6⟩ | ⟨h4, h5, h6⟩
          · simp_all
          · rw [h5, if_pos h6, h4]
          · rw [h5, if_neg (by rw [h6]; simp), h4]
        rw [e4]
end Go.HL
