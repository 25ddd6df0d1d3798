/- Chapter 4, plain: a burst changes the sum: the register is linear. Conditions: none. -/
import Derived.Test.YtkookaogdkdegabDoorWrB
namespace Go.HL
open Go Go.Proofs
set_option linter.unusedVariables false
set_option linter.unusedSimpArgs false
theorem half_xor (a b : Nat) : (a ^^^ b) / 2 = a / 2 ^^^ b / 2 := by
  have := Nat.shiftRight_xor_distrib (a := a) (b := b) (i := 1)
  simpa [Nat.shiftRight_eq_div_pow] using this
theorem crc1_xor (a b : Nat) : crc1 (a ^^^ b) = crc1 a ^^^ crc1 b := by
  unfold crc1
  rw [half_xor]
  have h : (a ^^^ b) % 2 = (a % 2 + b % 2) % 2 := by
    have h1 := Nat.xor_mod_two_pow (a := a) (b := b) (n := 1)
    rw [show (2 : Nat) ^ 1 = 2 from rfl] at h1
    rw [h1]
    rcases Nat.mod_two_eq_zero_or_one a with ha | ha <;> rcases Nat.mod_two_eq_zero_or_one b with hb | hb <;> rw [ha, hb] <;> rfl
  rcases Nat.mod_two_eq_zero_or_one a with ha | ha <;> rcases Nat.mod_two_eq_zero_or_one b with hb | hb <;> rw [h, ha, hb]
  · simp
  · simp only [Nat.zero_add, Nat.reduceMod, Nat.mul_one, Nat.mul_zero, Nat.xor_zero]
    rw [Nat.xor_assoc]
  · simp only [Nat.add_zero, Nat.reduceMod, Nat.mul_one, Nat.mul_zero, Nat.xor_zero]
    rw [Nat.xor_assoc, Nat.xor_assoc, Nat.xor_comm (b / 2)]
  · simp only [Nat.reduceAdd, Nat.reduceMod, Nat.mul_one, Nat.mul_zero, Nat.xor_zero]
    generalize a / 2 = x
    generalize b / 2 = y
    rw [Nat.xor_assoc, ← Nat.xor_assoc 3988292384, Nat.xor_comm 3988292384 y, Nat.xor_assoc y, Nat.xor_self, Nat.xor_zero]
theorem crcN_xor (k a b : Nat) : crcN k (a ^^^ b) = crcN k a ^^^ crcN k b := by
  induction k generalizing a b with
  | zero => rfl
  | succ k ih => rw [crcN, crcN, crcN, crc1_xor, ih]
theorem crcN_shift (k x : Nat) : crcN k (2 ^ k * x) = x := by
  induction k generalizing x with
  | zero => simp [crcN]
  | succ k ih =>
    have e : crc1 (2 ^ (k + 1) * x) = 2 ^ k * x := by
      unfold crc1
      have e1 : 2 ^ (k + 1) * x = 2 * (2 ^ k * x) := by rw [Nat.pow_succ, Nat.mul_comm (2 ^ k) 2, Nat.mul_assoc]
      rw [e1]
      have e2 : 2 * (2 ^ k * x) % 2 = 0 := by omega
      have e3 : 2 * (2 ^ k * x) / 2 = 2 ^ k * x := by omega
      rw [e2, e3]; simp
    rw [crcN, e, ih]
theorem crcN_add (j k c : Nat) : crcN (j + k) c = crcN k (crcN j c) := by
  induction j generalizing c with
  | zero => simp [crcN]
  | succ j ih => rw [show j + 1 + k = (j + k) + 1 by omega, crcN, ih, crcN]
theorem crc1_ne {c : Nat} (h0 : 0 < c) (h : c < 4294967296) : 0 < crc1 c := by
  unfold crc1
  rcases Nat.mod_two_eq_zero_or_one c with hc | hc
  · rw [hc]; simp; omega
  · rw [hc, Nat.mul_one]
    refine Nat.pos_of_ne_zero fun e => ?_
    have e2 : c / 2 = 3988292384 := by
      have e3 : (c / 2 ^^^ 3988292384) ^^^ 3988292384 = 0 ^^^ 3988292384 := by rw [e]
      rwa [Nat.xor_assoc, Nat.xor_self, Nat.xor_zero, Nat.zero_xor] at e3
    omega
theorem crcN_ne {k c : Nat} (h0 : 0 < c) (h : c < 4294967296) : 0 < crcN k c := by
  induction k generalizing c with
  | zero => exact h0
  | succ k ih => exact ih (crc1_ne h0 h) (crc1_lt h)
/-- bytes as one number, the lowest first -/
def le : List UInt8 → Nat
  | [] => 0
  | b :: l => b.toNat + 256 * le l
theorem byte_xor {b : Nat} (h : b < 256) (x : Nat) : b + 256 * x = b ^^^ 256 * x := by
  have := Nat.two_pow_add_eq_or_of_lt (i := 8) (b := b) h x
  rw [show (2 : Nat) ^ 8 = 256 from rfl] at this
  rw [Nat.add_comm, this]
  have h2 : 256 * x &&& b = 0 := by
    apply Nat.eq_of_testBit_eq
    intro i
    rw [Nat.testBit_and, Nat.zero_testBit, show 256 * x = 2 ^ 8 * x from rfl, Nat.testBit_two_pow_mul]
    by_cases hi : 8 ≤ i
    · rw [Nat.testBit_lt_two_pow (show b < 2 ^ i from Nat.lt_of_lt_of_le h (Nat.pow_le_pow_right (n := 2) (by decide) hi))]; simp
    · simp [hi]
  apply Nat.eq_of_testBit_eq
  intro i
  have h3 := congrArg (fun z => z.testBit i) h2
  simp only [Nat.testBit_and, Nat.zero_testBit] at h3
  rw [Nat.testBit_or, Nat.testBit_xor]
  revert h3
  cases (256 * x).testBit i <;> cases b.testBit i <;> simp
theorem fold_crc (s : List UInt8) (c : Nat) : s.foldl crcB c = crcN (8 * s.length) (c ^^^ le s) := by
  induction s generalizing c with
  | nil => simp [crcN, le]
  | cons b s ih =>
    rw [List.foldl_cons, ih]
    have hb : b.toNat < 256 := b.toNat_lt
    rw [show 8 * (b :: s).length = 8 + 8 * s.length by simp; omega, crcN_add, le, byte_xor hb, ← Nat.xor_assoc, crcN_xor 8, show 256 * le s = 2 ^ 8 * le s from rfl, crcN_shift]
    rfl
theorem le_low {n : Nat} (h : n < 4294967296) : le (lowB (n : Int)) = n := by
  have h0 := bt_val (n : Int) 0
  have h1 := bt_val (n : Int) 1
  have h2 := bt_val (n : Int) 2
  have h3 := bt_val (n : Int) 3
  simp only [lowB, le]
  simp only [Nat.mul_zero, Int.pow_zero, Int.ediv_one, Nat.reduceMul, Int.reducePow] at h0 h1 h2 h3
  omega
theorem code_res (t : List UInt8) : crcR (t ++ lowB (crc t)) = crcN 32 4294967295 := by
  have hr := crcR_lt t
  have hc : crc t < 4294967296 := by unfold crc; omega
  unfold crcR
  rw [List.foldl_append]
  show (lowB (crc t)).foldl crcB (crcR t) = _
  rw [fold_crc, le_low hc]
  have e : crcR t ^^^ crc t = 4294967295 := by
    unfold crc
    rw [← xor_ones hr, ← Nat.xor_assoc, Nat.xor_self, Nat.zero_xor]
  rw [e]
  rfl
theorem le_inj : ∀ (l m : List UInt8), l.length = m.length → le l = le m → l = m
  | [], [], _, _ => rfl
  | [], _ :: _, h, _ => by simp at h
  | _ :: _, [], h, _ => by simp at h
  | b :: l, c :: m, h, e => by
    have hb := b.toNat_lt
    have hc := c.toNat_lt
    simp only [le] at e
    have e1 : b.toNat = c.toNat := by omega
    have e2 : le l = le m := by omega
    rw [le_inj l m (by simpa using h) e2, UInt8.toNat_inj.1 e1]
theorem mul256_xor (x y : Nat) : 256 * (x ^^^ y) = 256 * x ^^^ 256 * y := by
  have := Nat.shiftLeft_xor_distrib (a := x) (b := y) (i := 8)
  simpa [Nat.shiftLeft_eq, Nat.mul_comm] using this
/-- one bit turned -/
def flip (l : List UInt8) (k : Nat) : List UInt8 := l.set (k / 8) (UInt8.ofNat ((l.getD (k / 8) 0).toNat ^^^ 2 ^ (k % 8)))
theorem flip_len (l : List UInt8) (k : Nat) : (flip l k).length = l.length := by simp [flip]
theorem byte_flip {b j : Nat} (hb : b < 256) (hj : j < 8) : b ^^^ 2 ^ j < 256 := Nat.xor_lt_two_pow (n := 8) hb (Nat.pow_lt_pow_right (by decide) hj)
theorem le_flip : ∀ (l : List UInt8) (k : Nat), k < 8 * l.length → le (flip l k) = le l ^^^ 2 ^ k
  | [], k, h => by simp at h
  | b :: l, k, h => by
    have hb : b.toNat < 256 := b.toNat_lt
    by_cases hk : k < 8
    · have e1 : k / 8 = 0 := by omega
      have e2 : k % 8 = k := by omega
      unfold flip
      rw [e1, e2]
      simp only [List.set_cons_zero, List.getD_cons_zero, le]
      have hbf := byte_flip hb hk
      rw [UInt8.toNat_ofNat', Nat.mod_eq_of_lt (by simpa using hbf), byte_xor hbf, byte_xor hb, Nat.xor_assoc, Nat.xor_assoc, Nat.xor_comm (2 ^ k)]
    · obtain ⟨j, rfl⟩ : ∃ j, k = j + 8 := ⟨k - 8, by omega⟩
      have ih := le_flip l j (by simp at h; omega)
      unfold flip at ih ⊢
      have e1 : (j + 8) / 8 = j / 8 + 1 := by omega
      have e2 : (j + 8) % 8 = j % 8 := by omega
      rw [e1, e2]
      simp only [List.set_cons_succ, List.getD_cons_succ, le]
      rw [ih, byte_xor hb, byte_xor hb, mul256_xor, ← Nat.xor_assoc]
      congr 1
      rw [Nat.pow_add, Nat.mul_comm]
/-- what a burst leaves is no word of the code -/
theorem burst_seen {s t : List UInt8} {M at_ : Nat} (hs : s.length = 22) (ht : t.length = 22) (hc : lowB (crc (s.take 18)) = s.drop 18) (hM : M < 4294967296) (hat : at_ < 176) (h : le t = le s ^^^ (M * 2 ^ at_)) (hne : t ≠ s) : lowB (crc (t.take 18)) ≠ t.drop 18 := by
  intro hc2
  have r1 : crcR s = crcN 32 4294967295 := by
    have := code_res (s.take 18)
    rwa [hc, List.take_append_drop] at this
  have r2 : crcR t = crcN 32 4294967295 := by
    have := code_res (t.take 18)
    rwa [hc2, List.take_append_drop] at this
  unfold crcR at r1 r2
  rw [fold_crc, hs] at r1
  rw [fold_crc, ht, h, ← Nat.xor_assoc, crcN_xor, r1] at r2
  have r3 : crcN (8 * 22) (M * 2 ^ at_) = 0 := by
    have := congrArg (fun z => crcN 32 4294967295 ^^^ z) r2
    simpa [← Nat.xor_assoc] using this
  rw [show 8 * 22 = at_ + (176 - at_) by omega, crcN_add, Nat.mul_comm, crcN_shift] at r3
  have hM0 : 0 < M := by
    refine Nat.pos_of_ne_zero fun e => hne (le_inj _ _ (by omega) ?_)
    rw [h, e]; simp
  have := crcN_ne (k := 176 - at_) hM0 hM
  omega
end Go.HL
