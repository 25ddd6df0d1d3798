/- The document's answer, chapter 1: errors of weights, sets, sums, quorums. Conditions: none. -/
import Derived.Test.YtkookaogdkdegabDoorWgD
namespace Go.HL
open Go Go.Proofs
set_option linter.unusedVariables false
set_option linter.unusedSimpArgs false
def cdN' : Option Nat → Int
  | none => 0
  | some c => c
def isum : List Int → Int
  | [] => 0
  | x :: r => x + isum r
theorem isum_snoc (l : List Int) (y : Int) : isum (l ++ [y]) = isum l + y := by
  induction l with
  | nil => simp [isum]
  | cons x r ih => simp only [List.cons_append, isum, ih]; omega
theorem isum_le : ∀ (l : List Int), (∀ x ∈ l, 0 ≤ x ∧ x ≤ 1000) → 0 ≤ isum l ∧ isum l ≤ 1000 * l.length
  | [], _ => by simp [isum]
  | x :: r, h => by
    have h1 := isum_le r (fun y hy => h y (by simp [hy]))
    have h2 := h x (by simp)
    simp only [isum, List.length_cons]; omega
theorem isum_zero : ∀ (l : List Int), (∀ x ∈ l, 0 ≤ x) → (isum l = 0 ↔ ∀ x ∈ l, x = 0)
  | [], _ => by simp [isum]
  | x :: r, h => by
    have h1 := isum_zero r (fun y hy => h y (by simp [hy]))
    have h2 := h x (by simp)
    have h3 : 0 ≤ isum r := by
      have : ∀ (l : List Int), (∀ x ∈ l, 0 ≤ x) → 0 ≤ isum l := by
        intro l
        induction l with
        | nil => intro _; simp [isum]
        | cons y l ih => intro hl; have := ih (fun z hz => hl z (by simp [hz])); have := hl y (by simp); simp only [isum]; omega
      exact this r (fun y hy => h y (by simp [hy]))
    simp only [isum, List.forall_mem_cons, ← h1]
    omega
theorem mx_ge : ∀ (l : List Int) (x : Int), x ∈ l → x ≤ mx l := by
  intro l
  have key : ∀ (r : List Int) (m : Int), m ≤ r.foldl max m ∧ ∀ y ∈ r, y ≤ r.foldl max m := by
    intro r
    induction r with
    | nil => intro m; simp
    | cons z r ih =>
      intro m
      obtain ⟨h1, h2⟩ := ih (max m z)
      simp only [List.foldl_cons, List.mem_cons]
      refine ⟨by omega, fun y hy => ?_⟩
      rcases hy with rfl | hy
      · omega
      · exact h2 y hy
  cases l with
  | nil => intro x hx; cases hx
  | cons z r =>
    intro x hx
    obtain ⟨h1, h2⟩ := key r z
    simp only [List.mem_cons] at hx
    rcases hx with rfl | hx
    · exact h1
    · exact h2 x hx
theorem mx_zero {l : List Int} (h : l ≠ []) (h0 : ∀ x ∈ l, 0 ≤ x) : mx l = 0 ↔ isum l = 0 := by
  rw [isum_zero l h0]
  constructor
  · intro e x hx
    have := mx_ge l x hx
    have := h0 x hx
    omega
  · intro e
    exact e _ (mx_mem h)
theorem bit_div (n k : Nat) : ((n : Int) / 2 ^ k % 2 = 1) ↔ n / 2 ^ k % 2 = 1 := by
  have : ((n : Int) / 2 ^ k) = ((n / 2 ^ k : Nat) : Int) := by simp
  rw [this]; omega
attribute [local irreducible] HW HO HQ HD HC QOp Has Upd Puts Gets seqQ blkQ loopQ fnQ actQ nextP unQ MapF
theorem weightsError_calls (a : Option Addr) (cap : Nat) (xs : List Int) (L : Heap) (hR : Rd ic 1 L a xs) : HC Tryd.prog 39 [.slice a xs.length cap] L (fun v L' => v = iv (cdN' (checkW xs)) ∧ L' = L) := by
  refine hc_enter (fun _ _ => Tryd.call39 _ _) Tryd.func39 rfl Tryd.ntmps39 (Nat.le_of_ble_eq_true rfl) ?_; simp only [args0, Nat.reduceAdd]
  repeat' (first | (show HW _ _ _ _ _ _; first | apply hw_seq | apply hw_region | apply hw_block | apply hw_exit | refine g_t ?_ | refine g_f ?_ | (refine g_b (fun h => ?_) (fun h => ?_) <;> ((try simp only [Bool.not_eq_eq_eq_not, Bool.not_true, Bool.not_false, decide_eq_true_eq, decide_eq_false_iff_not, Decidable.not_not, ne_eq, Bool.and_eq_true, beq_iff_eq, and_true, true_and, eq_self, decide_true, Bool.and_true, Bool.true_and, reduceCtorEq, not_true_eq_false, not_false_eq_true] at h); (try (exfalso; first | omega | with_reducible exact h (by assumption) | with_reducible exact absurd h (by assumption))))) | apply hw_skip | apply hw_ret) | (show HO _ _ _ _ _ _ _; first | apply ho_nil | refine g_q (qe S) ?_ | refine g_q (ql S) ?_ | refine g_n ?_ | refine g_on ?_ | (refine g_s (fun h => ?_) (fun h => ?_) <;> ((try simp only [Bool.not_eq_eq_eq_not, Bool.not_true, Bool.not_false, decide_eq_true_eq, decide_eq_false_iff_not, Decidable.not_not, ne_eq, Bool.and_eq_true, beq_iff_eq, and_true, true_and, eq_self, decide_true, Bool.and_true, Bool.true_and, reduceCtorEq, not_true_eq_false, not_false_eq_true] at h); (try (exfalso; first | omega | with_reducible exact h (by assumption) | with_reducible exact absurd h (by assumption)))))) | apply seqQ_normal | apply seqQ_ret | apply seqQ_exit | apply blkQ_here | refine g_bx ?_ | apply blkQ_ret | apply blkQ_normal | apply loopQ_ret | apply loopQ_exit | apply unQ_ret | apply unQ_exit | apply unQ_succ)
  · exact sp1 (LS.refl _) ⟨by unfold checkW; rw [if_pos (by omega)], rfl⟩
  · exact sp1 (LS.refl _) ⟨by unfold checkW; rw [if_pos (by omega)], rfl⟩
  refine hw_loop (σ := Nat × Int) (fun q => [(0, .slice a xs.length cap), (3, iv q.2), (4, iv q.1)]) (fun _ => L) (fun q => q.1 ≤ xs.length ∧ isum (xs.take q.1) = q.2 ∧ ∀ x ∈ xs.take q.1, 0 ≤ x ∧ x ≤ 1000) (fun q => xs.length - q.1) (0, 0) (by repeat (first | exact trivial | refine ⟨rfl, ?_⟩)) (List.Sublist.refl _) ⟨by simp, by simp [isum], by simp⟩ ?_
  rintro ⟨i, s⟩ ⟨hi, hs, hx⟩
  simp only at hi hs hx ⊢
  have hlen : ¬ (xs.length < 1 ∨ 7 < xs.length) := by omega
  have hb := isum_le _ hx
  rw [hs, List.length_take] at hb
  by_cases hlt : i < xs.length
  · obtain ⟨b, ia, l, E, fr, rfl, hb', hg'⟩ := hR.at1 (j := (i : Int)) (by omega) (by omega)
    have hbad : badW xs[i] = true → xs.any badW = true := fun h => List.any_eq_true.2 ⟨_, List.getElem_mem hlt, h⟩
    have hsn : isum (xs.take (i + 1)) = s + xs[i] := by rw [List.take_succ_eq_append_getElem hlt, isum_snoc, hs]
    have he : xs[(i : Int).toNat]'(by omega) = xs[i] := rfl
    rw [he] at hg'
    generalize hxi : xs[i] = x at *
    repeat' (first | (show HW _ _ _ _ _ _; first | apply hw_seq | apply hw_region | apply hw_block | apply hw_exit | refine g_t ?_ | refine g_f ?_ | (refine g_b (fun h => ?_) (fun h => ?_) <;> ((try simp only [Bool.not_eq_eq_eq_not, Bool.not_true, Bool.not_false, decide_eq_true_eq, decide_eq_false_iff_not, Decidable.not_not, ne_eq, Bool.and_eq_true, beq_iff_eq, and_true, true_and, eq_self, decide_true, Bool.and_true, Bool.true_and, reduceCtorEq, not_true_eq_false, not_false_eq_true] at h); (try (exfalso; first | omega | with_reducible exact h (by assumption) | with_reducible exact absurd h (by assumption))))) | apply hw_skip | apply hw_ret) | (show HO _ _ _ _ _ _ _; first | apply ho_nil | refine g_q (qe S) ?_ | refine g_q (ql S) ?_ | refine g_n ?_ | refine g_on ?_ | (refine g_s (fun h => ?_) (fun h => ?_) <;> ((try simp only [Bool.not_eq_eq_eq_not, Bool.not_true, Bool.not_false, decide_eq_true_eq, decide_eq_false_iff_not, Decidable.not_not, ne_eq, Bool.and_eq_true, beq_iff_eq, and_true, true_and, eq_self, decide_true, Bool.and_true, Bool.true_and, reduceCtorEq, not_true_eq_false, not_false_eq_true] at h); (try (exfalso; first | omega | with_reducible exact h (by assumption) | with_reducible exact absurd h (by assumption)))))) | apply seqQ_normal | apply seqQ_ret | apply seqQ_exit | apply blkQ_here | refine g_bx ?_ | apply blkQ_ret | apply blkQ_normal | apply loopQ_ret | apply loopQ_exit | apply unQ_ret | apply unQ_exit | apply unQ_succ)
    · exact sp1 (LS.refl _) ⟨by unfold checkW; rw [if_neg hlen, if_pos (hbad (by simp [badW]; omega))], rfl⟩
    · exact sp1 (LS.refl _) ⟨by unfold checkW; rw [if_neg hlen, if_pos (hbad (by simp [badW]; omega))], rfl⟩
    · refine loopQ_normal (i + 1, s + x) (by repeat (first | exact trivial | refine ⟨rfl, ?_⟩)) (List.Sublist.refl _) ⟨by simp only; omega, hsn, ?_⟩ (by simp only; omega)
      simp only
      rw [List.take_succ_eq_append_getElem hlt, hxi]
      intro y hy
      simp only [List.mem_append, List.mem_singleton] at hy
      rcases hy with hy | rfl
      · exact hx y hy
      · omega
  · have e : xs.take i = xs := List.take_of_length_le (by omega)
    rw [e] at hs hx
    have hne : xs ≠ [] := fun e => hlen (by simp [e])
    have hz := mx_zero hne (fun x h => (hx x h).1)
    rw [hs] at hz
    have hnb : ¬ xs.any badW = true := by
      simp only [Bool.not_eq_true, List.any_eq_false, badW, decide_eq_true_eq]
      intro x h
      have := hx x h
      omega
    repeat' (first | (show HW _ _ _ _ _ _; first | apply hw_seq | apply hw_region | apply hw_block | apply hw_exit | refine g_t ?_ | refine g_f ?_ | (refine g_b (fun h => ?_) (fun h => ?_) <;> ((try simp only [Bool.not_eq_eq_eq_not, Bool.not_true, Bool.not_false, decide_eq_true_eq, decide_eq_false_iff_not, Decidable.not_not, ne_eq, Bool.and_eq_true, beq_iff_eq, and_true, true_and, eq_self, decide_true, Bool.and_true, Bool.true_and, reduceCtorEq, not_true_eq_false, not_false_eq_true] at h); (try (exfalso; first | omega | with_reducible exact h (by assumption) | with_reducible exact absurd h (by assumption))))) | apply hw_skip | apply hw_ret) | (show HO _ _ _ _ _ _ _; first | apply ho_nil | refine g_q (qe S) ?_ | refine g_q (ql S) ?_ | refine g_n ?_ | refine g_on ?_ | (refine g_s (fun h => ?_) (fun h => ?_) <;> ((try simp only [Bool.not_eq_eq_eq_not, Bool.not_true, Bool.not_false, decide_eq_true_eq, decide_eq_false_iff_not, Decidable.not_not, ne_eq, Bool.and_eq_true, beq_iff_eq, and_true, true_and, eq_self, decide_true, Bool.and_true, Bool.true_and, reduceCtorEq, not_true_eq_false, not_false_eq_true] at h); (try (exfalso; first | omega | with_reducible exact h (by assumption) | with_reducible exact absurd h (by assumption)))))) | apply seqQ_normal | apply seqQ_ret | apply seqQ_exit | apply blkQ_here | refine g_bx ?_ | apply blkQ_ret | apply blkQ_normal | apply loopQ_ret | apply loopQ_exit | apply unQ_ret | apply unQ_exit | apply unQ_succ)
    · exact sp1 (LS.refl _) ⟨by unfold checkW; rw [if_neg hlen, if_neg hnb, if_pos (hz.2 h)], rfl⟩
    · exact sp1 (LS.refl _) ⟨by unfold checkW; rw [if_neg hlen, if_neg hnb, if_neg (fun e => h (hz.1 e))], rfl⟩
theorem rHas_calls (n k : Nat) (hk : k ≤ 30) (hn : (n : Int) ≤ 9223372036854775807) (L : Heap) : HC Tryd.prog 101 [iv n, iv k] L (fun v L' => v = .bool (decide (n / 2 ^ k % 2 = 1)) ∧ L' = L) := by
  have hp := pow_le30 hk
  have hq : 0 ≤ (n : Int) / 2 ^ k ∧ (n : Int) / 2 ^ k ≤ 9223372036854775807 := by
    have := bit_ok n k hn
    simp only [hiE] at this
    omega
  refine hc_enter (fun _ _ => Tryd.call101 _ _) Tryd.func101 rfl Tryd.ntmps101 (Nat.le_of_ble_eq_true rfl) ?_; simp only [args0, Nat.reduceAdd]
  repeat' (first | (show HW _ _ _ _ _ _; first | apply hw_seq | apply hw_region | apply hw_ret) | (show HO _ _ _ _ _ _ _; first | apply ho_nil | refine g_q (qe S) ?_ | refine g_q (qC (two_calls k hk _)) ?_) | apply seqQ_normal | apply seqQ_ret)
  refine sp1 (LS.refl _) ⟨congrArg Value.bool (decide_eq_decide.2 (bit_div n k)), rfl⟩
theorem rSum_calls (a : Option Addr) (cap : Nat) (xs : List Int) (n : Nat) (L : Heap) (hR : Rd ic 1 L a xs) (h7 : xs.length ≤ 7) (h3 : ∀ x ∈ xs, 0 ≤ x ∧ x ≤ 1000) (hn : (n : Int) ≤ 9223372036854775807) : HC Tryd.prog 41 [.slice a xs.length cap, iv n] L (fun v L' => v = iv (wsum xs n) ∧ L' = L) := by
  refine hc_enter (fun _ _ => Tryd.call41 _ _) Tryd.func41 rfl Tryd.ntmps41 (Nat.le_of_ble_eq_true rfl) ?_; simp only [args0, Nat.reduceAdd]
  repeat' (first | (show HW _ _ _ _ _ _; first | apply hw_seq | apply hw_region | apply hw_block | apply hw_exit | refine g_t ?_ | refine g_f ?_ | (refine g_b (fun h => ?_) (fun h => ?_) <;> ((try simp only [Bool.not_eq_eq_eq_not, Bool.not_true, Bool.not_false, decide_eq_true_eq, decide_eq_false_iff_not, Decidable.not_not, ne_eq, Bool.and_eq_true, beq_iff_eq, and_true, true_and, eq_self, decide_true, Bool.and_true, Bool.true_and, reduceCtorEq, not_true_eq_false, not_false_eq_true] at h); (try (exfalso; first | omega | with_reducible exact h (by assumption) | with_reducible exact absurd h (by assumption))))) | apply hw_skip | apply hw_ret) | (show HO _ _ _ _ _ _ _; first | apply ho_nil | refine g_q (qe S) ?_ | refine g_q (ql S) ?_) | apply seqQ_normal | apply seqQ_ret | apply seqQ_exit | apply blkQ_here | refine g_bx ?_ | apply blkQ_ret | apply blkQ_normal | apply loopQ_ret | apply loopQ_exit | apply unQ_ret | apply unQ_exit | apply unQ_succ)
  refine hw_loop (σ := Nat × Int) (fun q => [(0, .slice a xs.length cap), (1, iv n), (5, iv q.2), (6, iv q.1)]) (fun _ => L) (fun q => q.1 ≤ xs.length ∧ wsum (xs.take q.1) n = q.2) (fun q => xs.length - q.1) (0, 0) (by repeat (first | exact trivial | refine ⟨rfl, ?_⟩)) (List.Sublist.refl _) ⟨by simp, by simp [wsum]⟩ ?_
  rintro ⟨i, s⟩ ⟨hi, hs⟩
  simp only at hi hs ⊢
  have hb := wsum_le (xs.take i) n (fun x hx => h3 x (List.mem_of_mem_take hx))
  rw [hs, List.length_take] at hb
  by_cases hlt : i < xs.length
  · obtain ⟨b, ia, l, E, fr, rfl, hb', hg'⟩ := hR.at1 (j := (i : Int)) (by omega) (by omega)
    have hx := h3 xs[i] (List.getElem_mem hlt)
    have hsn := wsum_snoc xs[i] (xs.take i) n
    rw [← List.take_succ_eq_append_getElem hlt, List.length_take, Nat.min_eq_left (by omega), hs] at hsn
    have he : xs[(i : Int).toNat]'(by omega) = xs[i] := rfl
    rw [he] at hg'
    generalize hxi : xs[i] = x at *
    repeat' (first | (show HW _ _ _ _ _ _; first | apply hw_seq | apply hw_region | apply hw_block | apply hw_exit | refine g_t ?_ | refine g_f ?_ | (refine g_b (fun h => ?_) (fun h => ?_) <;> ((try simp only [Bool.not_eq_eq_eq_not, Bool.not_true, Bool.not_false, decide_eq_true_eq, decide_eq_false_iff_not, Decidable.not_not, ne_eq, Bool.and_eq_true, beq_iff_eq, and_true, true_and, eq_self, decide_true, Bool.and_true, Bool.true_and, reduceCtorEq, not_true_eq_false, not_false_eq_true] at h); (try (exfalso; first | omega | with_reducible exact h (by assumption) | with_reducible exact absurd h (by assumption))))) | apply hw_skip | apply hw_ret) | (show HO _ _ _ _ _ _ _; first | apply ho_nil | refine g_q (qe S) ?_ | refine g_q (ql S) ?_ | refine g_q (qC (rHas_calls n i (by omega) hn _)) ?_) | apply seqQ_normal | apply seqQ_ret | apply seqQ_exit | apply blkQ_here | refine g_bx ?_ | apply blkQ_ret | apply blkQ_normal | apply loopQ_ret | apply loopQ_exit | apply unQ_ret | apply unQ_exit | apply unQ_succ)
    · refine loopQ_normal (i + 1, s + x) (by repeat (first | exact trivial | refine ⟨rfl, ?_⟩)) (List.Sublist.refl _) ⟨by simp only; omega, ?_⟩ (by simp only; omega)
      simp only
      rw [hsn, if_pos h]
    · refine loopQ_normal (i + 1, s) (by repeat (first | exact trivial | refine ⟨rfl, ?_⟩)) (List.Sublist.refl _) ⟨by simp only; omega, ?_⟩ (by simp only; omega)
      simp only
      rw [hsn, if_neg h]; omega
  · have e : xs.take i = xs := List.take_of_length_le (by omega)
    rw [e] at hs
    repeat' (first | (show HW _ _ _ _ _ _; first | apply hw_seq | apply hw_region | apply hw_block | apply hw_exit | refine g_t ?_ | refine g_f ?_ | (refine g_b (fun h => ?_) (fun h => ?_) <;> ((try simp only [Bool.not_eq_eq_eq_not, Bool.not_true, Bool.not_false, decide_eq_true_eq, decide_eq_false_iff_not, Decidable.not_not, ne_eq, Bool.and_eq_true, beq_iff_eq, and_true, true_and, eq_self, decide_true, Bool.and_true, Bool.true_and, reduceCtorEq, not_true_eq_false, not_false_eq_true] at h); (try (exfalso; first | omega | with_reducible exact h (by assumption) | with_reducible exact absurd h (by assumption))))) | apply hw_skip | apply hw_ret) | (show HO _ _ _ _ _ _ _; first | apply ho_nil | refine g_q (qe S) ?_ | refine g_q (ql S) ?_) | apply seqQ_normal | apply seqQ_ret | apply seqQ_exit | apply blkQ_here | refine g_bx ?_ | apply blkQ_ret | apply blkQ_normal | apply loopQ_ret | apply loopQ_exit | apply unQ_ret | apply unQ_exit | apply unQ_succ)
    exact sp1 (LS.refl _) ⟨by rw [hs], rfl⟩
theorem rEnough_calls (a : Option Addr) (cap : Nat) (xs : List Int) (n : Nat) (L : Heap) (hR : Rd ic 1 L a xs) (h7 : xs.length ≤ 7) (h3 : ∀ x ∈ xs, 0 ≤ x ∧ x ≤ 1000) (hn : (n : Int) ≤ 9223372036854775807) : HC Tryd.prog 42 [.slice a xs.length cap, iv n] L (fun v L' => v = .bool (quor xs n) ∧ L' = L) := by
  have k1 := rSum_calls a cap xs n L hR h7 h3 hn
  have hp := pow_le30 (n := xs.length) (by omega)
  have e : ((2 : Int) ^ xs.length - 1) = ((2 ^ xs.length - 1 : Nat) : Int) := by
    have := Nat.two_pow_pos xs.length
    rw [Int.ofNat_sub (by omega)]; simp
  have k2 := rSum_calls a cap xs (2 ^ xs.length - 1) L hR h7 h3 (by omega)
  rw [← e] at k2
  have b1 := wsum_le xs n h3
  have b2 := wsum_le xs (2 ^ xs.length - 1) h3
  refine hc_enter (fun _ _ => Tryd.call42 _ _) Tryd.func42 rfl Tryd.ntmps42 (Nat.le_of_ble_eq_true rfl) ?_; simp only [args0, Nat.reduceAdd]
  repeat' (first | (show HW _ _ _ _ _ _; first | apply hw_seq | apply hw_region | apply hw_ret) | (show HO _ _ _ _ _ _ _; first | apply ho_nil | refine g_q (qe S) ?_ | refine g_q (qC (k1)) ?_ | refine g_q (qC (k2)) ?_ | refine g_q (qC (two_calls xs.length (by omega) _)) ?_) | apply seqQ_normal | apply seqQ_ret)
  refine sp1 (LS.refl _) ⟨congrArg Value.bool ?_, rfl⟩
  unfold quor
  exact decide_eq_decide.2 (by omega)
end Go.HL
