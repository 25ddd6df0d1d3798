/- Chapter 3: a journal, plain: what is written is what is opened again. Conditions: none. -/
import Derived.Test.YtkookaogdkdegabDoorJnF
import Derived.Test.YtkookaogdkdegabDoorJnN
namespace Go.HL
open Go Go.Proofs
set_option linter.unusedVariables false
set_option linter.unusedSimpArgs false

structure EntOk (e : Ent) : Prop where
  n0 : 1 ≤ e.n
  n1 : e.n < 4294967296
  p0 : 0 ≤ e.s.ph
  p1 : e.s.ph ≤ 255
  r0 : 0 ≤ e.s.pr
  r1 : e.s.pr ≤ 1048576
  a0 : 0 ≤ e.s.att
  a1 : e.s.att ≤ 1048576
theorem parse_body {e : Ent} (h : EntOk e) (r : List UInt8) : parse (bodyM e ++ r) = e := by
  obtain ⟨n, ⟨p, q, a⟩⟩ := e
  have l1 := numB_len n 4
  have l2 := numB_len p 1
  have l3 := numB_len q 4
  have l4 := numB_len a 4
  have h1 := h.n0; have h2 := h.n1; have h3 := h.p0; have h4 := h.p1; have h5 := h.r0; have h6 := h.r1; have h7 := h.a0; have h8 := h.a1
  simp only at h1 h2 h3 h4 h5 h6 h7 h8
  have e1 : bodyM ⟨n, p, q, a⟩ ++ r = numB n 4 ++ (numB p 1 ++ (numB q 4 ++ (numB a 4 ++ (numB (crc (head ⟨n, p, q, a⟩)) 4 ++ r)))) := by simp [bodyM, head]
  have t1 : (bodyM ⟨n, p, q, a⟩ ++ r).take 4 = numB n 4 := by rw [e1, List.take_left' l1]
  have t2 : ((bodyM ⟨n, p, q, a⟩ ++ r).take 5).drop 4 = numB p 1 := by
    rw [e1, ← List.append_assoc, List.take_left' (by simp [l1, l2]), List.drop_left' l1]
  have t3 : ((bodyM ⟨n, p, q, a⟩ ++ r).take 9).drop 5 = numB q 4 := by
    rw [e1, ← List.append_assoc, ← List.append_assoc, List.take_left' (by simp [l1, l2, l3]), List.drop_left' (by simp [l1, l2])]
  have t4 : ((bodyM ⟨n, p, q, a⟩ ++ r).take 13).drop 9 = numB a 4 := by
    rw [e1, ← List.append_assoc, ← List.append_assoc, ← List.append_assoc, List.take_left' (by simp [l1, l2, l3, l4]), List.drop_left' (by simp [l1, l2, l3])]
  unfold parse
  rw [t1, t2, t3, t4, rd_num (by omega) (by omega), rd_num (by omega) (by omega), rd_num (by omega) (by omega), rd_num (by omega) (by omega)]
theorem held_body {e : Ent} (h : EntOk e) : heldM (e.n % 2) (bodyM e ++ commitB) = e := by
  rw [heldM_eq, parse_body h]
  rw [if_neg]
  have := h.n0
  simp
  omega
theorem heldM_n (k : Int) (s : List UInt8) (hs : 4 ≤ s.length) : 0 ≤ (heldM k s).n ∧ (heldM k s).n < 4294967296 := by
  rw [heldM_eq]
  split
  · simp
  · have := rdN_lt (s.take 4)
    rw [show (s.take 4).length = 4 by simp; omega] at this
    show 0 ≤ ((rdN (s.take 4) : Nat) : Int) ∧ ((rdN (s.take 4) : Nat) : Int) < 4294967296
    omega
theorem updE_n (a b : Ent) : (updE a b).n = max a.n b.n := by
  unfold updE
  split <;> omega
/-- the slots of bytes whose slot i is X -/
theorem slot_here (Pr X R : List UInt8) (i : Nat) (hP : Pr.length = i * 18) (hX : X.length = 18) : slot (Pr ++ X ++ R) i = X := by
  unfold slot
  rw [List.append_assoc, List.drop_left' hP, List.take_left' hX]
theorem slot_else (Pr X Y R : List UInt8) (i i' : Nat) (hP : Pr.length = i * 18) (hX : X.length = 18) (hY : Y.length = 18) (h : i' ≠ i) : slot (Pr ++ X ++ R) i' = slot (Pr ++ Y ++ R) i' := by
  unfold slot
  rcases Nat.lt_or_gt_of_ne h with h | h
  · have e : ∀ Z : List UInt8, ((Pr ++ Z ++ R).drop (i' * 18)).take 18 = (Pr.drop (i' * 18)).take 18 := fun Z => by
      rw [List.append_assoc, List.drop_append_of_le_length (by omega), List.take_append_of_le_length (by simp; omega)]
    rw [e, e]
  · have e : ∀ Z : List UInt8, Z.length = 18 → ((Pr ++ Z ++ R).drop (i' * 18)).take 18 = (R.drop (i' * 18 - (i * 18 + 18))).take 18 := fun Z hZ => by
      have hl : (Pr ++ Z).length = i * 18 + 18 := by simp [hP, hZ]
      rw [List.drop_append, hl, List.drop_of_length_le (by omega), List.nil_append]
    rw [e X hX, e Y hY]
theorem splice_mid (Pr S X R : List UInt8) (h : X.length = S.length) : splice (Pr ++ S ++ R) Pr.length X = Pr ++ X ++ R := by
  unfold splice
  have e1 : (Pr ++ S ++ R).take Pr.length = Pr := by rw [List.append_assoc, List.take_left' rfl]
  have e2 : (Pr ++ S ++ R).drop (Pr.length + X.length) = R := by rw [List.drop_left' (by simp [h])]
  rw [e1, e2]
end Go.HL
