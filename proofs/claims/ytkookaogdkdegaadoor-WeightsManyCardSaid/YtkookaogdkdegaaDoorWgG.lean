/- Chapter 1: weights as many times as great, and one more site without weight: the plain law. Conditions: none. -/
import Derived.Test.YtkookaogdkdegaaDoorWgE
namespace Go.HL
open Go Go.Proofs
set_option linter.unusedVariables false
set_option linter.unusedSimpArgs false

theorem wsum_times (k : Int) : ∀ (l : List Int) (s : Nat), wsum (l.map (k * ·)) s = k * wsum l s
  | [], s => by simp [wsum]
  | x :: r, s => by
    simp only [List.map_cons, wsum, wsum_times k r, Int.mul_add]
    by_cases h : s % 2 = 1 <;> simp [h]
theorem wsum_mod : ∀ (l : List Int) (s : Nat), wsum l (s % 2 ^ l.length) = wsum l s
  | [], s => by simp [wsum]
  | x :: r, s => by
    have ih := wsum_mod r (s / 2)
    have hq := Nat.two_pow_pos r.length
    have e1 : s % (2 * 2 ^ r.length) % 2 = s % 2 := Nat.mod_mul_right_mod s 2 _
    have e2 : s % (2 * 2 ^ r.length) / 2 = s / 2 % 2 ^ r.length := Nat.mod_mul_right_div_self s 2 _
    simp only [List.length_cons, Nat.pow_succ, Nat.mul_comm _ 2, wsum, e1, e2, ih]
theorem mx_times {k : Int} (hk : 1 ≤ k) : ∀ l : List Int, mx (l.map (k * ·)) = k * mx l := by
  have key : ∀ (r : List Int) (x : Int), (r.map (k * ·)).foldl max (k * x) = k * r.foldl max x := by
    intro r
    induction r with
    | nil => intro x; rfl
    | cons y r ih =>
      intro x
      simp only [List.map_cons, List.foldl_cons]
      rw [← ih]
      congr 1
      by_cases h : x ≤ y
      · rw [Int.max_eq_right h, Int.max_eq_right (Int.mul_le_mul_of_nonneg_left h (by omega))]
      · have h1 := Int.mul_le_mul_of_nonneg_left (show y ≤ x by omega) (show 0 ≤ k by omega)
        rw [Int.max_eq_left (show y ≤ x by omega), Int.max_eq_left h1]
  intro l
  cases l with
  | nil => simp [mx]
  | cons x r => exact key r x
theorem checkW_none {ws : List Int} (h1 : 1 ≤ ws.length) (h2 : ws.length ≤ 7) (h3 : ∀ x ∈ ws, 0 ≤ x ∧ x ≤ 1000) (h4 : mx ws ≠ 0) : checkW ws = none := by
  unfold checkW
  rw [if_neg (by omega), if_neg, if_neg h4]
  simp only [Bool.not_eq_true, List.any_eq_false, badW, decide_eq_true_eq]
  intro x hx
  have := h3 x hx
  omega
theorem times_ok {ws : List Int} {k : Int} (hk : 1 ≤ k) (hc : checkW ws = none) (hb : ∀ x ∈ ws, x ≤ 1000 / k) : checkW (ws.map (k * ·)) = none := by
  obtain ⟨c1, c2, c3, c4⟩ := check_none hc
  refine checkW_none (by simpa using c1) (by simpa using c2) (fun x hx => ?_) (by rw [mx_times hk]; exact fun e => by rcases Int.mul_eq_zero.1 e with e | e <;> omega)
  obtain ⟨y, hy, rfl⟩ := List.mem_map.1 hx
  have h1 := c3 y hy
  have h2 := hb y hy
  refine ⟨Int.mul_nonneg (by omega) h1.1, ?_⟩
  have h3 : k * y ≤ k * (1000 / k) := Int.mul_le_mul_of_nonneg_left h2 (by omega)
  have h4 := Int.mul_ediv_self_le (x := 1000) (k := k) (by omega)
  omega
theorem quor_times {ws : List Int} {k : Int} (hk : 1 ≤ k) (s : Nat) : quor (ws.map (k * ·)) s = quor ws s := by
  simp only [quor, List.length_map, wsum_times]
  refine decide_eq_decide.2 ?_
  rw [show 2 * (k * wsum ws s) = k * (2 * wsum ws s) by rw [← Int.mul_assoc, Int.mul_comm 2 k, Int.mul_assoc]]
  exact ⟨fun h => Int.lt_of_mul_lt_mul_left h (by omega), fun h => Int.mul_lt_mul_of_pos_left h (by omega)⟩
theorem more_ok {ws : List Int} (hc : checkW ws = none) (hl : ws.length ≠ 7) : checkW (ws ++ [0]) = none := by
  obtain ⟨c1, c2, c3, c4⟩ := check_none hc
  have hne : ws ≠ [] := by intro e; subst e; simp at c1
  refine checkW_none (by simp) (by simp; omega) (fun x hx => ?_) ?_
  · rcases List.mem_append.1 hx with h | h
    · exact c3 x h
    · simp at h; omega
  · rw [mx_snoc hne]
    have := c3 _ (mx_mem hne)
    omega
theorem quor_one {ws : List Int} {s : Nat} (hs : s < 2 ^ ws.length) : quor (ws ++ [0]) s = quor ws s := by
  have h1 : ∀ t, wsum (ws ++ [0]) t = wsum ws t := fun t => by rw [wsum_snoc]; split <;> omega
  have hq := Nat.two_pow_pos ws.length
  simp only [quor, h1, List.length_append, List.length_cons, List.length_nil]
  have h2 : wsum ws (2 ^ (ws.length + 1) - 1) = wsum ws (2 ^ ws.length - 1) := by
    rw [← wsum_mod ws (2 ^ (ws.length + 1) - 1)]
    congr 1
    rw [Nat.pow_succ]
    generalize 2 ^ ws.length = q at *
    have e : q * 2 - 1 = (q - 1) + q := by omega
    rw [e, Nat.add_mod_right, Nat.mod_eq_of_lt (by omega)]
  rw [h2]
theorem enough_some {ws : List Int} {s : Int} {e : Nat} (h : (enoughW ws s).2 = some e) : (enoughW ws s).1 = false := by
  unfold enoughW at *
  split at h
  · rfl
  · rename_i n hs
    have h1 := sumW_none (ws := ws) (set := s) (by rw [hs])
    rw [all_none h1.1] at h
    cases h
end Go.HL
