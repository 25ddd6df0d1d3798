/- Chapter 1: weights: what a set weighs, whether it is enough. Conditions: none. -/
import Derived.Test.YtkookaogdkdegabDoorWgA
namespace Go.HL
open Go Go.Proofs
set_option linter.unusedVariables false
set_option linter.unusedSimpArgs false
attribute [local irreducible] HW HO HQ HD HC QOp Has Upd Puts Gets seqQ blkQ loopQ fnQ actQ nextP unQ MapF

def wsum : List Int → Nat → Int
  | [], _ => 0
  | x :: r, s => (if s % 2 = 1 then x else 0) + wsum r (s / 2)
theorem wsum_snoc (y : Int) : ∀ (l : List Int) (s : Nat), wsum (l ++ [y]) s = wsum l s + (if s / 2 ^ l.length % 2 = 1 then y else 0)
  | [], s => by simp [wsum]
  | x :: r, s => by
    simp only [List.cons_append, wsum, wsum_snoc y r (s / 2), List.length_cons, Nat.div_div_eq_div_mul, Nat.pow_succ, Nat.mul_comm 2]
    omega
theorem wsum_le : ∀ (l : List Int) (s : Nat), (∀ x ∈ l, 0 ≤ x ∧ x ≤ 1000) → 0 ≤ wsum l s ∧ wsum l s ≤ 1000 * l.length
  | [], s, _ => by simp [wsum]
  | x :: r, s, h => by
    have h1 := wsum_le r (s / 2) (fun y hy => h y (by simp [hy]))
    have h2 := h x (by simp)
    simp only [wsum, List.length_cons]
    split <;> omega
def sumW (ws : List Int) (set : Int) : Int × Option Nat :=
  match checkW ws with
  | some e => (0, some e)
  | none => if set < 0 ∨ ws.length < blen set.toNat then (0, some 2) else (wsum ws set.toNat, none)
theorem check_none {ws : List Int} (h : checkW ws = none) : 1 ≤ ws.length ∧ ws.length ≤ 7 ∧ (∀ x ∈ ws, 0 ≤ x ∧ x ≤ 1000) ∧ mx ws ≠ 0 := by
  unfold checkW at h
  split at h
  · cases h
  · split at h
    · cases h
    · split at h
      · cases h
      · rename_i h1 h2 h3
        refine ⟨by omega, by omega, fun x hx => ?_, h3⟩
        simp only [Bool.not_eq_true, List.any_eq_false, badW, decide_eq_true_eq] at h2
        have := h2 x hx
        omega
theorem bit_iff (n k : Nat) : (((((n : Int) / 2 ^ k).toNat &&& Int.toNat 1 : Nat) : Int) = 1) ↔ n / 2 ^ k % 2 = 1 := by
  have e : ((n : Int) / 2 ^ k).toNat = n / 2 ^ k := by
    have : ((n : Int) / 2 ^ k) = ((n / 2 ^ k : Nat) : Int) := by simp
    rw [this]; rfl
  rw [e, show Int.toNat 1 = 1 from rfl, Nat.and_one_is_mod]
  omega
theorem bit_ok (n k : Nat) (h : (n : Int) ≤ 9223372036854775807) : 0 ≤ (n : Int) / 2 ^ k ∧ (n : Int) / 2 ^ k ≤ hiE .i64 ∧ (0 : Int) ≤ 1 ∧ (1 : Int) ≤ hiE .i64 := by
  have : ((n : Int) / 2 ^ k) = ((n / 2 ^ k : Nat) : Int) := by simp
  have h2 : n / 2 ^ k ≤ n := Nat.div_le_self _ _
  rw [this]
  clear this
  generalize n / 2 ^ k = q at h2 ⊢
  simp only [hiE]
  omega
theorem sum_calls (T : Nat) (E : Nat → Addr) (a : Option Addr) (cap : Nat) (xs : List Int) (set : Int) (L : Heap) (hG : Er T E [2, 3, 4] L) (hR : Rd ic 1 L a xs) (hl : xs.length ≤ 1000000) (hs : set ≤ 9223372036854775807) :
    HC Tryd.prog 34 [.slice a xs.length cap, iv set] L (fun v L' => v = .tuple ⟨[iv (sumW xs set).1, eV T E (sumW xs set).2]⟩ ∧ L' = L) := by
  refine hc_enter (fun _ _ => Tryd.call34 _ _) Tryd.func34 rfl Tryd.ntmps34 (Nat.le_of_ble_eq_true rfl) ?_; simp only [args0, Nat.reduceAdd]
  have hk := check_calls T E a cap xs L hG hR hl
  cases hc : checkW xs with
  | some e =>
    rw [hc] at hk
    repeat' (first | (show HW _ _ _ _ _ _; first | apply hw_seq | apply hw_region | apply hw_block | apply hw_exit | refine g_t ?_ | refine g_f ?_ | (refine g_b (fun h => ?_) (fun h => ?_) <;> ((try simp only [Bool.not_eq_eq_eq_not, Bool.not_true, Bool.not_false, decide_eq_true_eq, decide_eq_false_iff_not, Decidable.not_not, ne_eq, Bool.and_eq_true, beq_iff_eq, and_true, true_and, eq_self, decide_true, Bool.and_true, Bool.true_and, reduceCtorEq, not_true_eq_false, not_false_eq_true] at h); (try (exfalso; first | omega | with_reducible exact h (by assumption) | with_reducible exact absurd h (by assumption))))) | apply hw_skip | apply hw_ret | refine g_k S ?_) | (show HO _ _ _ _ _ _ _; first | apply ho_nil | refine g_q (qe S) ?_ | refine g_q (qg S) ?_ | refine g_q (ql S) ?_ | refine g_q (qt S) ?_ | refine g_q (qc8 S) ?_ | refine g_q (qc32 S) ?_ | refine g_q (qC (hk)) ?_ | refine g_n ?_ | refine g_on ?_ | (refine g_s (fun h => ?_) (fun h => ?_) <;> ((try simp only [Bool.not_eq_eq_eq_not, Bool.not_true, Bool.not_false, decide_eq_true_eq, decide_eq_false_iff_not, Decidable.not_not, ne_eq, Bool.and_eq_true, beq_iff_eq, and_true, true_and, eq_self, decide_true, Bool.and_true, Bool.true_and, reduceCtorEq, not_true_eq_false, not_false_eq_true] at h); (try (exfalso; first | omega | with_reducible exact h (by assumption) | with_reducible exact absurd h (by assumption)))))) | (show HQ _ _ _ _ _ _ _; first | apply hq_nil | refine k_q (qe S) ?_ | refine k_q (qg S) ?_ | refine k_q (ql S) ?_ | refine k_q (qt S) ?_ | refine k_q (qc8 S) ?_ | refine k_q (qc32 S) ?_ | refine k_q (qC (hk)) ?_ | refine k_n ?_ | (refine k_s (fun h => ?_) (fun h => ?_) <;> ((try simp only [Bool.not_eq_eq_eq_not, Bool.not_true, Bool.not_false, decide_eq_true_eq, decide_eq_false_iff_not, Decidable.not_not, ne_eq, Bool.and_eq_true, beq_iff_eq, and_true, true_and, eq_self, decide_true, Bool.and_true, Bool.true_and, reduceCtorEq, not_true_eq_false, not_false_eq_true] at h); (try (exfalso; first | omega | with_reducible exact h (by assumption) | with_reducible exact absurd h (by assumption)))))) | apply seqQ_normal | apply seqQ_ret | apply seqQ_exit | apply blkQ_here | refine g_bx ?_ | apply blkQ_ret | apply blkQ_normal | apply loopQ_ret | apply loopQ_exit | apply unQ_ret | apply unQ_exit | apply unQ_succ)
    (refine fn_ret2 rfl rfl rfl ?_ ⟨?_, rfl⟩; (next => (repeat (first | exact List.Sublist.refl _ | apply List.Sublist.cons))))
    simp [sumW, hc]
  | none =>
    rw [hc] at hk
    obtain ⟨c1, c2, c3, c4⟩ := check_none hc
    by_cases h0 : 0 ≤ set
    · obtain ⟨n, rfl⟩ := Int.eq_ofNat_of_zero_le h0
      have hb := len_calls n (by omega) L
      repeat' (first | (show HW _ _ _ _ _ _; first | apply hw_seq | apply hw_region | apply hw_block | apply hw_exit | refine g_t ?_ | refine g_f ?_ | (refine g_b (fun h => ?_) (fun h => ?_) <;> ((try simp only [Bool.not_eq_eq_eq_not, Bool.not_true, Bool.not_false, decide_eq_true_eq, decide_eq_false_iff_not, Decidable.not_not, ne_eq, Bool.and_eq_true, beq_iff_eq, and_true, true_and, eq_self, decide_true, Bool.and_true, Bool.true_and, reduceCtorEq, not_true_eq_false, not_false_eq_true] at h); (try (exfalso; first | omega | with_reducible exact h (by assumption) | with_reducible exact absurd h (by assumption))))) | apply hw_skip | apply hw_ret | refine g_k S ?_) | (show HO _ _ _ _ _ _ _; first | apply ho_nil | refine g_q (qe S) ?_ | refine g_q (qg S) ?_ | refine g_q (ql S) ?_ | refine g_q (qt S) ?_ | refine g_q (qc8 S) ?_ | refine g_q (qc32 S) ?_ | refine g_q (qC (hk)) ?_ | refine g_q (qC (hb)) ?_ | refine g_n ?_ | refine g_on ?_ | (refine g_s (fun h => ?_) (fun h => ?_) <;> ((try simp only [Bool.not_eq_eq_eq_not, Bool.not_true, Bool.not_false, decide_eq_true_eq, decide_eq_false_iff_not, Decidable.not_not, ne_eq, Bool.and_eq_true, beq_iff_eq, and_true, true_and, eq_self, decide_true, Bool.and_true, Bool.true_and, reduceCtorEq, not_true_eq_false, not_false_eq_true] at h); (try (exfalso; first | omega | with_reducible exact h (by assumption) | with_reducible exact absurd h (by assumption)))))) | (show HQ _ _ _ _ _ _ _; first | apply hq_nil | refine k_q (qe S) ?_ | refine k_q (qg S) ?_ | refine k_q (ql S) ?_ | refine k_q (qt S) ?_ | refine k_q (qc8 S) ?_ | refine k_q (qc32 S) ?_ | refine k_q (qC (hk)) ?_ | refine k_q (qC (hb)) ?_ | refine k_n ?_ | (refine k_s (fun h => ?_) (fun h => ?_) <;> ((try simp only [Bool.not_eq_eq_eq_not, Bool.not_true, Bool.not_false, decide_eq_true_eq, decide_eq_false_iff_not, Decidable.not_not, ne_eq, Bool.and_eq_true, beq_iff_eq, and_true, true_and, eq_self, decide_true, Bool.and_true, Bool.true_and, reduceCtorEq, not_true_eq_false, not_false_eq_true] at h); (try (exfalso; first | omega | with_reducible exact h (by assumption) | with_reducible exact absurd h (by assumption)))))) | apply seqQ_normal | apply seqQ_ret | apply seqQ_exit | apply blkQ_here | refine g_bx ?_ | apply blkQ_ret | apply blkQ_normal | apply loopQ_ret | apply loopQ_exit | apply unQ_ret | apply unQ_exit | apply unQ_succ)
      · (refine fn_ret2 rfl rfl rfl ?_ ⟨?_, rfl⟩; (next => (repeat (first | exact List.Sublist.refl _ | apply List.Sublist.cons))))
        simp only [sumW, hc]
        rw [if_pos (by simp; omega)]
        rfl
      · refine hw_loop (σ := Int × Int) (fun s => [(1, iv n), (7, iv s.2), (26, .slice a xs.length cap), (27, iv xs.length), (28, iv s.1)]) (fun _ => L) (fun s => 0 ≤ s.1 ∧ s.1 ≤ xs.length ∧ wsum (xs.take s.1.toNat) n = s.2) (fun s => (xs.length - s.1).toNat) (0, 0) (by repeat (first | exact trivial | refine ⟨rfl, ?_⟩)) (List.Sublist.refl _) ⟨by simp, by simp, by simp [wsum]⟩ ?_
        rintro ⟨j, m⟩ ⟨j0, j1, hm⟩
        simp only at j0 j1 hm
        by_cases hlt : j < xs.length
        · obtain ⟨b, i, l, E', fr, rfl, hb', hg'⟩ := hR.at1 j0 hlt
          have hm2 := wsum_le (xs.take j.toNat) n (fun x hx => c3 x (List.mem_of_mem_take hx))
          have hx := c3 (xs[j.toNat]'(by omega)) (List.getElem_mem _)
          have hn := wsum_snoc (xs[j.toNat]'(by omega)) (xs.take j.toNat) n
          rw [← take_succ j0 hlt] at hn
          rw [hm] at hm2 hn
          rw [List.length_take] at hm2 hn
          rw [Nat.min_eq_left (by omega)] at hn
          have hb1 := bit_ok n j.toNat hs
          have hb2 := bit_iff n j.toNat
          repeat' (first | (show HW _ _ _ _ _ _; first | apply hw_seq | apply hw_region | apply hw_block | apply hw_exit | refine g_t ?_ | refine g_f ?_ | (refine g_b (fun h => ?_) (fun h => ?_) <;> ((try simp only [Bool.not_eq_eq_eq_not, Bool.not_true, Bool.not_false, decide_eq_true_eq, decide_eq_false_iff_not, Decidable.not_not, ne_eq, Bool.and_eq_true, beq_iff_eq, and_true, true_and, eq_self, decide_true, Bool.and_true, Bool.true_and, reduceCtorEq, not_true_eq_false, not_false_eq_true] at h); (try (exfalso; first | omega | with_reducible exact h (by assumption) | with_reducible exact absurd h (by assumption))))) | apply hw_skip | apply hw_ret | refine g_k S ?_) | (show HO _ _ _ _ _ _ _; first | apply ho_nil | refine g_q (qe S) ?_ | refine g_q (qg S) ?_ | refine g_q (ql S) ?_ | refine g_q (qt S) ?_ | refine g_q (qc8 S) ?_ | refine g_q (qc32 S) ?_ | refine g_n ?_ | refine g_on ?_ | (refine g_s (fun h => ?_) (fun h => ?_) <;> ((try simp only [Bool.not_eq_eq_eq_not, Bool.not_true, Bool.not_false, decide_eq_true_eq, decide_eq_false_iff_not, Decidable.not_not, ne_eq, Bool.and_eq_true, beq_iff_eq, and_true, true_and, eq_self, decide_true, Bool.and_true, Bool.true_and, reduceCtorEq, not_true_eq_false, not_false_eq_true] at h); (try (exfalso; first | omega | with_reducible exact h (by assumption) | with_reducible exact absurd h (by assumption)))))) | (show HQ _ _ _ _ _ _ _; first | apply hq_nil | refine k_q (qe S) ?_ | refine k_q (qg S) ?_ | refine k_q (ql S) ?_ | refine k_q (qt S) ?_ | refine k_q (qc8 S) ?_ | refine k_q (qc32 S) ?_ | refine k_n ?_ | (refine k_s (fun h => ?_) (fun h => ?_) <;> ((try simp only [Bool.not_eq_eq_eq_not, Bool.not_true, Bool.not_false, decide_eq_true_eq, decide_eq_false_iff_not, Decidable.not_not, ne_eq, Bool.and_eq_true, beq_iff_eq, and_true, true_and, eq_self, decide_true, Bool.and_true, Bool.true_and, reduceCtorEq, not_true_eq_false, not_false_eq_true] at h); (try (exfalso; first | omega | with_reducible exact h (by assumption) | with_reducible exact absurd h (by assumption)))))) | apply seqQ_normal | apply seqQ_ret | apply seqQ_exit | apply blkQ_here | refine g_bx ?_ | apply blkQ_ret | apply blkQ_normal | apply loopQ_ret | apply loopQ_exit | apply unQ_ret | apply unQ_exit | apply unQ_succ)
          all_goals (refine loopQ_normal (j + 1, _) (by repeat (first | exact trivial | refine ⟨rfl, ?_⟩)) (List.Sublist.refl _) ⟨by show 0 ≤ j + 1; omega, by show j + 1 ≤ (xs.length : Int); omega, ?_⟩ (by show (xs.length - (j + 1)).toNat < (xs.length - j).toNat; omega))
          all_goals (show wsum (xs.take (j + 1).toNat) n = _; rw [hn])
          · rw [if_pos (hb2.1 (by assumption))]
          · rw [if_neg (fun e => by have := hb2.2 e; contradiction)]; omega
        · repeat' (first | (show HW _ _ _ _ _ _; first | apply hw_seq | apply hw_region | apply hw_block | apply hw_exit | refine g_t ?_ | refine g_f ?_ | (refine g_b (fun h => ?_) (fun h => ?_) <;> ((try simp only [Bool.not_eq_eq_eq_not, Bool.not_true, Bool.not_false, decide_eq_true_eq, decide_eq_false_iff_not, Decidable.not_not, ne_eq, Bool.and_eq_true, beq_iff_eq, and_true, true_and, eq_self, decide_true, Bool.and_true, Bool.true_and, reduceCtorEq, not_true_eq_false, not_false_eq_true] at h); (try (exfalso; first | omega | with_reducible exact h (by assumption) | with_reducible exact absurd h (by assumption))))) | apply hw_skip | apply hw_ret | refine g_k S ?_) | (show HO _ _ _ _ _ _ _; first | apply ho_nil | refine g_q (qe S) ?_ | refine g_q (qg S) ?_ | refine g_q (ql S) ?_ | refine g_q (qt S) ?_ | refine g_q (qc8 S) ?_ | refine g_q (qc32 S) ?_ | refine g_n ?_ | refine g_on ?_ | (refine g_s (fun h => ?_) (fun h => ?_) <;> ((try simp only [Bool.not_eq_eq_eq_not, Bool.not_true, Bool.not_false, decide_eq_true_eq, decide_eq_false_iff_not, Decidable.not_not, ne_eq, Bool.and_eq_true, beq_iff_eq, and_true, true_and, eq_self, decide_true, Bool.and_true, Bool.true_and, reduceCtorEq, not_true_eq_false, not_false_eq_true] at h); (try (exfalso; first | omega | with_reducible exact h (by assumption) | with_reducible exact absurd h (by assumption)))))) | (show HQ _ _ _ _ _ _ _; first | apply hq_nil | refine k_q (qe S) ?_ | refine k_q (qg S) ?_ | refine k_q (ql S) ?_ | refine k_q (qt S) ?_ | refine k_q (qc8 S) ?_ | refine k_q (qc32 S) ?_ | refine k_n ?_ | (refine k_s (fun h => ?_) (fun h => ?_) <;> ((try simp only [Bool.not_eq_eq_eq_not, Bool.not_true, Bool.not_false, decide_eq_true_eq, decide_eq_false_iff_not, Decidable.not_not, ne_eq, Bool.and_eq_true, beq_iff_eq, and_true, true_and, eq_self, decide_true, Bool.and_true, Bool.true_and, reduceCtorEq, not_true_eq_false, not_false_eq_true] at h); (try (exfalso; first | omega | with_reducible exact h (by assumption) | with_reducible exact absurd h (by assumption)))))) | apply seqQ_normal | apply seqQ_ret | apply seqQ_exit | apply blkQ_here | refine g_bx ?_ | apply blkQ_ret | apply blkQ_normal | apply loopQ_ret | apply loopQ_exit | apply unQ_ret | apply unQ_exit | apply unQ_succ)
          (refine fn_ret2 rfl rfl rfl ?_ ⟨?_, rfl⟩; (next => (repeat (first | exact List.Sublist.refl _ | apply List.Sublist.cons))))
          rw [take_all hlt] at hm
          simp only [sumW, hc]
          rw [if_neg (by simp; omega), ← hm]
          rfl
    · repeat' (first | (show HW _ _ _ _ _ _; first | apply hw_seq | apply hw_region | apply hw_block | apply hw_exit | refine g_t ?_ | refine g_f ?_ | (refine g_b (fun h => ?_) (fun h => ?_) <;> ((try simp only [Bool.not_eq_eq_eq_not, Bool.not_true, Bool.not_false, decide_eq_true_eq, decide_eq_false_iff_not, Decidable.not_not, ne_eq, Bool.and_eq_true, beq_iff_eq, and_true, true_and, eq_self, decide_true, Bool.and_true, Bool.true_and, reduceCtorEq, not_true_eq_false, not_false_eq_true] at h); (try (exfalso; first | omega | with_reducible exact h (by assumption) | with_reducible exact absurd h (by assumption))))) | apply hw_skip | apply hw_ret | refine g_k S ?_) | (show HO _ _ _ _ _ _ _; first | apply ho_nil | refine g_q (qe S) ?_ | refine g_q (qg S) ?_ | refine g_q (ql S) ?_ | refine g_q (qt S) ?_ | refine g_q (qc8 S) ?_ | refine g_q (qc32 S) ?_ | refine g_q (qC (hk)) ?_ | refine g_n ?_ | refine g_on ?_ | (refine g_s (fun h => ?_) (fun h => ?_) <;> ((try simp only [Bool.not_eq_eq_eq_not, Bool.not_true, Bool.not_false, decide_eq_true_eq, decide_eq_false_iff_not, Decidable.not_not, ne_eq, Bool.and_eq_true, beq_iff_eq, and_true, true_and, eq_self, decide_true, Bool.and_true, Bool.true_and, reduceCtorEq, not_true_eq_false, not_false_eq_true] at h); (try (exfalso; first | omega | with_reducible exact h (by assumption) | with_reducible exact absurd h (by assumption)))))) | (show HQ _ _ _ _ _ _ _; first | apply hq_nil | refine k_q (qe S) ?_ | refine k_q (qg S) ?_ | refine k_q (ql S) ?_ | refine k_q (qt S) ?_ | refine k_q (qc8 S) ?_ | refine k_q (qc32 S) ?_ | refine k_q (qC (hk)) ?_ | refine k_n ?_ | (refine k_s (fun h => ?_) (fun h => ?_) <;> ((try simp only [Bool.not_eq_eq_eq_not, Bool.not_true, Bool.not_false, decide_eq_true_eq, decide_eq_false_iff_not, Decidable.not_not, ne_eq, Bool.and_eq_true, beq_iff_eq, and_true, true_and, eq_self, decide_true, Bool.and_true, Bool.true_and, reduceCtorEq, not_true_eq_false, not_false_eq_true] at h); (try (exfalso; first | omega | with_reducible exact h (by assumption) | with_reducible exact absurd h (by assumption)))))) | apply seqQ_normal | apply seqQ_ret | apply seqQ_exit | apply blkQ_here | refine g_bx ?_ | apply blkQ_ret | apply blkQ_normal | apply loopQ_ret | apply loopQ_exit | apply unQ_ret | apply unQ_exit | apply unQ_succ)
      (refine fn_ret2 rfl rfl rfl ?_ ⟨?_, rfl⟩; (next => (repeat (first | exact List.Sublist.refl _ | apply List.Sublist.cons))))
      simp only [sumW, hc]
      rw [if_pos (by omega)]
      rfl
theorem one_shl {k : Nat} (h : k ≤ 30) : 0 ≤ (k : Int) ∧ (k : Int) ≤ 64 ∧ -9223372036854775808 ≤ (1 : Int) * 2 ^ (k : Int).toNat ∧ (1 : Int) * 2 ^ (k : Int).toNat ≤ 9223372036854775807 := by
  have h1 : (2 : Nat) ^ k ≤ 2 ^ 30 := Nat.pow_le_pow_right (by decide) h
  have e : (1 : Int) * 2 ^ (k : Int).toNat = ((2 ^ k : Nat) : Int) := by simp
  rw [e]
  have h2 := Nat.two_pow_pos k
  generalize (2 : Nat) ^ k = q at *
  omega
def enoughW (ws : List Int) (set : Int) : Bool × Option Nat :=
  match sumW ws set with
  | (_, some e) => (false, some e)
  | (n, none) => (decide ((sumW ws (2 ^ ws.length - 1)).1 < 2 * n), (sumW ws (2 ^ ws.length - 1)).2)
theorem sumW_none {ws : List Int} {set : Int} (h : (sumW ws set).2 = none) : checkW ws = none ∧ 0 ≤ set ∧ blen set.toNat ≤ ws.length ∧ (sumW ws set).1 = wsum ws set.toNat := by
  unfold sumW at *
  cases hc : checkW ws with
  | some e => rw [hc] at h; cases h
  | none =>
    rw [hc] at h
    simp only at *
    split at h
    · cases h
    · rename_i h1
      rw [if_neg h1]
      refine ⟨trivial, ?_, ?_, rfl⟩ <;> omega
theorem all_none {ws : List Int} (h : checkW ws = none) : sumW ws (2 ^ ws.length - 1) = (wsum ws (2 ^ ws.length - 1), none) := by
  have e : ((2 : Int) ^ ws.length - 1) = ((2 ^ ws.length - 1 : Nat) : Int) := by
    have := Nat.two_pow_pos ws.length
    rw [Int.ofNat_sub (by omega)]
    simp
  have h2 : blen (2 ^ ws.length - 1) ≤ ws.length := blen_le.2 (by have := Nat.two_pow_pos ws.length; omega)
  unfold sumW
  rw [h, e]
  simp only [Int.toNat_natCast]
  rw [if_neg (by omega)]
theorem enough_calls (T : Nat) (E : Nat → Addr) (a : Option Addr) (cap : Nat) (xs : List Int) (set : Int) (L : Heap) (hG : Er T E [2, 3, 4] L) (hR : Rd ic 1 L a xs) (hl : xs.length ≤ 1000000) (hs : set ≤ 9223372036854775807) :
    HC Tryd.prog 36 [.slice a xs.length cap, iv set] L (fun v L' => v = .tuple ⟨[.bool (enoughW xs set).1, eV T E (enoughW xs set).2]⟩ ∧ L' = L) := by
  refine hc_enter (fun _ _ => Tryd.call36 _ _) Tryd.func36 rfl Tryd.ntmps36 (Nat.le_of_ble_eq_true rfl) ?_; simp only [args0, Nat.reduceAdd]
  have hk := sum_calls T E a cap xs set L hG hR hl hs
  cases hc : (sumW xs set).2 with
  | some e =>
    rw [hc] at hk
    repeat' (first | (show HW _ _ _ _ _ _; first | apply hw_seq | apply hw_region | refine g_t ?_ | refine g_f ?_ | (refine g_b (fun h => ?_) (fun h => ?_) <;> ((try simp only [Bool.not_eq_eq_eq_not, Bool.not_true, Bool.not_false, decide_eq_true_eq, decide_eq_false_iff_not, Decidable.not_not, ne_eq, Bool.and_eq_true, beq_iff_eq, and_true, true_and, eq_self, decide_true, Bool.and_true, Bool.true_and, reduceCtorEq, not_true_eq_false, not_false_eq_true] at h); (try (exfalso; first | omega | with_reducible exact h (by assumption) | with_reducible exact absurd h (by assumption))))) | apply hw_skip | apply hw_ret) | (show HO _ _ _ _ _ _ _; first | apply ho_nil | refine g_q (qe S) ?_ | refine g_q (qC (hk)) ?_) | apply seqQ_normal | apply seqQ_ret)
    (refine fn_ret2 rfl rfl rfl ?_ ⟨?_, rfl⟩; (next => (repeat (first | exact List.Sublist.refl _ | apply List.Sublist.cons))))
    have : enoughW xs set = (false, some e) := by
      unfold enoughW
      split
      · rename_i h; rw [h] at hc; cases hc; rfl
      · rename_i h; rw [h] at hc; cases hc
    rw [this]
  | none =>
    rw [hc] at hk
    obtain ⟨h1, h2, h3, h4⟩ := sumW_none hc
    obtain ⟨c1, c2, c3, c4⟩ := check_none h1
    have hsh := one_shl (k := xs.length) (by omega)
    have e2 : (1 : Int) * 2 ^ (xs.length : Int).toNat = 2 ^ xs.length := by simp
    have hp : 1 ≤ (1 : Int) * 2 ^ (xs.length : Int).toNat := by
      rw [e2]
      have e3 : (2 : Int) ^ xs.length = ((2 ^ xs.length : Nat) : Int) := by simp
      rw [e3]
      have := Nat.two_pow_pos xs.length
      generalize (2 : Nat) ^ xs.length = q at *
      omega
    have hk2 := sum_calls T E a cap xs (1 * 2 ^ (xs.length : Int).toNat - 1) L hG hR hl (by omega)
    have hb := wsum_le xs set.toNat c3
    rw [← h4] at hb
    repeat' (first | (show HW _ _ _ _ _ _; first | apply hw_seq | apply hw_region | refine g_t ?_ | refine g_f ?_ | (refine g_b (fun h => ?_) (fun h => ?_) <;> ((try simp only [Bool.not_eq_eq_eq_not, Bool.not_true, Bool.not_false, decide_eq_true_eq, decide_eq_false_iff_not, Decidable.not_not, ne_eq, Bool.and_eq_true, beq_iff_eq, and_true, true_and, eq_self, decide_true, Bool.and_true, Bool.true_and, reduceCtorEq, not_true_eq_false, not_false_eq_true] at h); (try (exfalso; first | omega | with_reducible exact h (by assumption) | with_reducible exact absurd h (by assumption))))) | apply hw_skip | apply hw_ret) | (show HO _ _ _ _ _ _ _; first | apply ho_nil | refine g_q (qe S) ?_ | refine g_q (qC (hk)) ?_ | refine g_q (qC (hk2)) ?_) | apply seqQ_normal | apply seqQ_ret)
    (refine fn_ret2 rfl rfl rfl ?_ ⟨?_, rfl⟩; (next => (repeat (first | exact List.Sublist.refl _ | apply List.Sublist.cons))))
    rw [e2]
    have : enoughW xs set = (decide ((sumW xs (2 ^ xs.length - 1)).1 < 2 * (sumW xs set).1), (sumW xs (2 ^ xs.length - 1)).2) := by
      unfold enoughW
      split
      · rename_i h; rw [h] at hc; cases hc
      · rename_i h; rw [h]
    rw [this]
end Go.HL
