/- Numbers as bytes: read and written. Conditions: none. -/
import Derived.Test.YtkookaogdkdegabDoorJnA
namespace Go.HL
open Go Go.Proofs
set_option linter.unusedVariables false
set_option linter.unusedSimpArgs false
theorem rdN_foldl (s : List UInt8) (a : Nat) : s.foldl (fun n b => n * 256 + b.toNat) a = a * 256 ^ s.length + rdN s := by
  induction s generalizing a with
  | nil => simp [rdN]
  | cons b s ih =>
    rw [rdN, List.foldl_cons, List.foldl_cons, ih, ih]
    simp only [List.length_cons, Nat.pow_succ]
    have e : a * 256 * 256 ^ s.length = a * (256 ^ s.length * 256) := by rw [Nat.mul_assoc, Nat.mul_comm 256]
    rw [Nat.add_mul, e, Nat.zero_mul, Nat.zero_add]
    omega
theorem rdN_cons (b : UInt8) (s : List UInt8) : rdN (b :: s) = b.toNat * 256 ^ s.length + rdN s := by
  rw [rdN, List.foldl_cons, rdN_foldl]; simp
theorem bt_nat (n k : Nat) : (bt (n : Int) k).toNat = n / 256 ^ k % 256 := by
  have h := bt_val (n : Int) k
  have e : (n : Int) / 2 ^ (8 * k) % 256 = ((n / 256 ^ k % 256 : Nat) : Int) := by
    rw [Int.pow_mul]
    simp
  rw [e] at h
  exact Int.ofNat.inj h
theorem rdN_numB (n k : Nat) : rdN (numB (n : Int) k) = n % 256 ^ k := by
  induction k with
  | zero => simp [numB, rdN, Nat.mod_one]
  | succ k ih =>
    rw [numB, rdN_cons, ih, bt_nat, numB_len, Nat.pow_succ, Nat.mod_mul]
    rw [Nat.mul_comm, Nat.add_comm]
theorem rd_num {n : Int} {k : Nat} (h0 : 0 ≤ n) (h1 : n < 256 ^ k) : ((rdN (numB n k) : Nat) : Int) = n := by
  obtain ⟨n, rfl⟩ := Int.eq_ofNat_of_zero_le h0
  rw [rdN_numB, Nat.mod_eq_of_lt]
  exact Int.ofNat_lt.1 (by simpa using h1)
theorem rdN_inj : ∀ (l m : List UInt8), l.length = m.length → rdN l = rdN m → l = m
  | [], [], _, _ => rfl
  | [], _ :: _, h, _ => by simp at h
  | _ :: _, [], h, _ => by simp at h
  | b :: l, c :: m, h, e => by
    have hl : l.length = m.length := by simpa using h
    rw [rdN_cons, rdN_cons, ← hl] at e
    have h1 := rdN_lt l
    have h2 := rdN_lt m
    rw [← hl] at h2
    generalize 256 ^ l.length = k at *
    have e1 : b.toNat = c.toNat := by
      have d1 : (b.toNat * k + rdN l) / k = b.toNat := by
        rw [Nat.mul_comm, Nat.mul_add_div (by omega), Nat.div_eq_of_lt h1, Nat.add_zero]
      have d2 : (c.toNat * k + rdN m) / k = c.toNat := by
        rw [Nat.mul_comm, Nat.mul_add_div (by omega), Nat.div_eq_of_lt h2, Nat.add_zero]
      rw [← d1, e, d2]
    rw [e1] at e
    have e2 : rdN l = rdN m := by omega
    rw [rdN_inj l m hl e2, UInt8.toNat_inj.1 e1]
theorem numB_rdN (l : List UInt8) : numB ((rdN l : Nat) : Int) l.length = l := by
  refine rdN_inj _ _ (numB_len _ _) ?_
  rw [rdN_numB, Nat.mod_eq_of_lt (rdN_lt l)]
end Go.HL
