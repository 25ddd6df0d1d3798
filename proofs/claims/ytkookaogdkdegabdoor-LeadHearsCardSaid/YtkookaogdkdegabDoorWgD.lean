/- Chapter 1: quorums meet: the plain law, and the walk. Conditions: none. -/
import Derived.Test.YtkookaogdkdegabDoorWgC
namespace Go.HL
open Go Go.Proofs
set_option linter.unusedVariables false
set_option linter.unusedSimpArgs false

theorem wsum_or_and : ∀ (l : List Int) (a b : Nat), wsum l (a ||| b) + wsum l (a &&& b) = wsum l a + wsum l b
  | [], _, _ => rfl
  | x :: r, a, b => by
    have h := wsum_or_and r (a / 2) (b / 2)
    have h1 : (a ||| b) / 2 = a / 2 ||| b / 2 := Nat.or_div_two
    have h2 : (a &&& b) / 2 = a / 2 &&& b / 2 := Nat.and_div_two
    have h3 : (a ||| b) % 2 = 1 ↔ a % 2 = 1 ∨ b % 2 = 1 := Nat.or_mod_two_eq_one
    have h4 : (a &&& b) % 2 = 1 ↔ a % 2 = 1 ∧ b % 2 = 1 := Nat.and_mod_two_eq_one
    simp only [wsum, h1, h2, h3, h4]
    by_cases ha : a % 2 = 1 <;> by_cases hb : b % 2 = 1 <;> simp [ha, hb] <;> omega
theorem wsum_zero : ∀ l : List Int, wsum l 0 = 0
  | [] => rfl
  | x :: r => by simp [wsum, wsum_zero r]
theorem wsum_compl : ∀ (l : List Int) (a : Nat), a < 2 ^ l.length → wsum l (2 ^ l.length - 1 - a) + wsum l a = wsum l (2 ^ l.length - 1)
  | [], a, h => rfl
  | x :: r, a, h => by
    simp only [List.length_cons, Nat.pow_succ] at h ⊢
    have hq := Nat.two_pow_pos r.length
    have ih := wsum_compl r (a / 2) (by omega)
    simp only [wsum]
    have e1 : (2 ^ r.length * 2 - 1 - a) / 2 = 2 ^ r.length - 1 - a / 2 := by omega
    have e2 : (2 ^ r.length * 2 - 1) / 2 = 2 ^ r.length - 1 := by omega
    have e3 : (2 ^ r.length * 2 - 1) % 2 = 1 := by omega
    have e4 : (2 ^ r.length * 2 - 1 - a) % 2 = 1 ↔ ¬ a % 2 = 1 := by omega
    simp only [e1, e2, e3, e4, if_true]
    by_cases ha : a % 2 = 1 <;> simp [ha] <;> omega
theorem mx_mem {l : List Int} (h : l ≠ []) : mx l ∈ l := by
  have key : ∀ (r : List Int) (x : Int), r.foldl max x ∈ x :: r := by
    intro r
    induction r with
    | nil => intro x; simp
    | cons y r ih =>
      intro x
      have := ih (max x y)
      simp only [List.foldl_cons, List.mem_cons] at this ⊢
      rcases this with h | h
      · rw [h]
        by_cases hc : x ≤ y
        · right; left; omega
        · left; omega
      · exact .inr (.inr h)
  cases l with
  | nil => exact absurd rfl h
  | cons x r => exact key r x
theorem wsum_all_pos : ∀ (l : List Int), (∀ x ∈ l, 0 ≤ x) → ∀ y ∈ l, y ≤ wsum l (2 ^ l.length - 1) ∧ 0 ≤ wsum l (2 ^ l.length - 1)
  | [], _, y, hy => by simp at hy
  | x :: r, h, y, hy => by
    have hq := Nat.two_pow_pos r.length
    have e2 : (2 ^ r.length * 2 - 1) / 2 = 2 ^ r.length - 1 := by omega
    have e3 : (2 ^ r.length * 2 - 1) % 2 = 1 := by omega
    simp only [List.length_cons, Nat.pow_succ, wsum, e2, e3, if_true]
    have hx := h x (by simp)
    have hr : 0 ≤ wsum r (2 ^ r.length - 1) := by
      cases r with
      | nil => simp [wsum]
      | cons z r' => exact (wsum_all_pos (z :: r') (fun w hw => h w (by simp [hw])) z (by simp)).2
    rcases List.mem_cons.1 hy with rfl | hy
    · omega
    · have := wsum_all_pos r (fun w hw => h w (by simp [hw])) y hy
      omega
def quor (ws : List Int) (s : Nat) : Bool := decide (wsum ws (2 ^ ws.length - 1) < 2 * wsum ws s)
theorem en_ok {ws : List Int} (hc : checkW ws = none) {s : Nat} (h : s < 2 ^ ws.length) : enoughW ws (s : Int) = (quor ws s, none) := by
  have e : sumW ws (s : Int) = (wsum ws s, none) := by
    unfold sumW
    rw [hc]
    simp only [Int.toNat_natCast]
    rw [if_neg]
    have := blen_le.2 h
    omega
  unfold enoughW
  rw [e, all_none hc]
  rfl
theorem en_none {ws : List Int} {s : Int} (h : (enoughW ws s).2 = none) : checkW ws = none ∧ ∃ n : Nat, s = n ∧ n < 2 ^ ws.length := by
  unfold enoughW at h
  split at h
  · cases h
  · rename_i n hs
    have := sumW_none (ws := ws) (set := s) (by rw [hs])
    refine ⟨this.1, s.toNat, by omega, blen_le.1 this.2.2.1⟩
theorem quor_meet {ws : List Int} (hc : checkW ws = none) {a b : Nat} (hx : quor ws a = true) (hy : quor ws b = true) : a &&& b ≠ 0 := by
  intro h0
  obtain ⟨c1, c2, c3, c4⟩ := check_none hc
  have h1 := wsum_or_and ws a b
  rw [h0, wsum_zero] at h1
  have h2 : wsum ws (a ||| b) ≤ wsum ws (2 ^ ws.length - 1) := by
    have key : ∀ (l : List Int) (s : Nat), (∀ x ∈ l, 0 ≤ x) → wsum l s ≤ wsum l (2 ^ l.length - 1) := by
      intro l
      induction l with
      | nil => intro s _; simp [wsum]
      | cons x r ih =>
        intro s h
        have hq := Nat.two_pow_pos r.length
        have e2 : (2 ^ r.length * 2 - 1) / 2 = 2 ^ r.length - 1 := by omega
        have e3 : (2 ^ r.length * 2 - 1) % 2 = 1 := by omega
        simp only [List.length_cons, Nat.pow_succ, wsum, e2, e3, if_true]
        have := ih (s / 2) (fun w hw => h w (by simp [hw]))
        have hx := h x (by simp)
        split <;> omega
    exact key ws _ (fun x hx => (c3 x hx).1)
  simp only [quor, decide_eq_true_eq] at hx hy
  omega
theorem quor_compl {ws : List Int} (hc : checkW ws = none) {a : Nat} (ha : a < 2 ^ ws.length) (hx : quor ws a = true) : quor ws (2 ^ ws.length - 1 - a) = false := by
  have h1 := wsum_compl ws a ha
  simp only [quor, decide_eq_true_eq, decide_eq_false_iff_not] at *
  omega
theorem quor_more {ws : List Int} (hc : checkW ws = none) {a b : Nat} (hx : quor ws a = true) : quor ws (a ||| b) = true := by
  obtain ⟨c1, c2, c3, c4⟩ := check_none hc
  have h1 := wsum_or_and ws a b
  have key : ∀ (l : List Int) (a b : Nat), (∀ x ∈ l, 0 ≤ x) → wsum l (a &&& b) ≤ wsum l b := by
    intro l
    induction l with
    | nil => intro a b _; simp [wsum]
    | cons x r ih =>
      intro a b h
      have h2 : (a &&& b) / 2 = a / 2 &&& b / 2 := Nat.and_div_two
      have h4 : (a &&& b) % 2 = 1 ↔ a % 2 = 1 ∧ b % 2 = 1 := Nat.and_mod_two_eq_one
      have := ih (a / 2) (b / 2) (fun w hw => h w (by simp [hw]))
      have hx := h x (by simp)
      simp only [wsum, h2, h4]
      by_cases ha : a % 2 = 1 <;> by_cases hb : b % 2 = 1 <;> simp [ha, hb] <;> omega
  have h2 := key ws a b (fun x hx => (c3 x hx).1)
  simp only [quor, decide_eq_true_eq] at *
  omega
theorem quor_all {ws : List Int} (hc : checkW ws = none) : quor ws (2 ^ ws.length - 1) = true := by
  obtain ⟨c1, c2, c3, c4⟩ := check_none hc
  have hne : ws ≠ [] := by intro e; subst e; simp at c1
  have h1 := wsum_all_pos ws (fun x hx => (c3 x hx).1) _ (mx_mem hne)
  have h2 := (c3 _ (mx_mem hne)).1
  simp only [quor, decide_eq_true_eq]
  omega
end Go.HL
