/- Chapter 3: a journal: numbers as bytes, a sum. Conditions: none. -/
import Derived.Test.YtkookaogdkdegabDoorPlB
namespace Go.HL
open Go Go.Proofs
set_option linter.unusedVariables false
set_option linter.unusedSimpArgs false

theorem snoc_ind {α : Type} {p : List α → Prop} (h0 : p []) (h1 : ∀ l a, p l → p (l ++ [a])) (l : List α) : p l := by
  have h : ∀ l : List α, p l.reverse := fun l => by
    induction l with
    | nil => exact h0
    | cons a l ih => rw [List.reverse_cons]; exact h1 _ _ ih
  have := h l.reverse
  rwa [List.reverse_reverse] at this
/-- a byte of a number -/
def bt (n : Int) (k : Nat) : UInt8 := UInt8.ofNat (n / 2 ^ (8 * k) % 256).toNat
theorem bt_val (n : Int) (k : Nat) : ((bt n k).toNat : Int) = n / 2 ^ (8 * k) % 256 := by
  unfold bt
  have h1 : 0 ≤ n / 2 ^ (8 * k) % 256 := Int.emod_nonneg _ (by decide)
  have h2 : n / 2 ^ (8 * k) % 256 < 256 := Int.emod_lt_of_pos _ (by decide)
  rw [UInt8.toNat_ofNat', Nat.mod_eq_of_lt (by omega)]
  omega
/-- the lowest bytes, the highest first -/
def numB (n : Int) : Nat → List UInt8
  | 0 => []
  | k + 1 => bt n k :: numB n k
theorem numB_len (n : Int) (k : Nat) : (numB n k).length = k := by
  induction k with
  | zero => rfl
  | succ k ih => simp [numB, ih]
def rdN (s : List UInt8) : Nat := s.foldl (fun n b => n * 256 + b.toNat) 0
theorem rdN_snoc (s : List UInt8) (b : UInt8) : rdN (s ++ [b]) = rdN s * 256 + b.toNat := by simp [rdN]
theorem rdN_lt (s : List UInt8) : rdN s < 256 ^ s.length := by
  refine snoc_ind (p := fun s => rdN s < 256 ^ s.length) (by simp [rdN]) (fun s b ih => ?_) s
  · rw [rdN_snoc]
    have := b.toNat_lt
    simp only [List.length_append, List.length_cons, List.length_nil, Nat.zero_add, Nat.pow_succ]
    omega
def crc1 (c : Nat) : Nat := (c / 2) ^^^ (3988292384 * (c % 2))
def crcN : Nat → Nat → Nat
  | 0, c => c
  | k + 1, c => crcN k (crc1 c)
theorem crcN_succ (k c : Nat) : crcN (k + 1) c = crc1 (crcN k c) := by
  induction k generalizing c with
  | zero => rfl
  | succ k ih => exact ih (crc1 c)
def crcB (c : Nat) (b : UInt8) : Nat := crcN 8 (c ^^^ b.toNat)
def crcR (s : List UInt8) : Nat := s.foldl crcB 4294967295
def crc (s : List UInt8) : Nat := 4294967295 - crcR s
theorem crc1_lt {c : Nat} (h : c < 4294967296) : crc1 c < 4294967296 := by
  unfold crc1
  exact Nat.xor_lt_two_pow (n := 32) (by omega) (by omega)
theorem crcN_lt {k c : Nat} (h : c < 4294967296) : crcN k c < 4294967296 := by
  induction k generalizing c with
  | zero => exact h
  | succ k ih => exact ih (crc1_lt h)
theorem xor_byte {c : Nat} (b : UInt8) (h : c < 4294967296) : c ^^^ b.toNat < 4294967296 := Nat.xor_lt_two_pow (n := 32) h (by have := b.toNat_lt; omega)
theorem crcB_lt {c : Nat} {b : UInt8} (h : c < 4294967296) : crcB c b < 4294967296 := crcN_lt (xor_byte b h)
theorem crcR_lt (s : List UInt8) : crcR s < 4294967296 := by
  refine snoc_ind (p := fun s => crcR s < 4294967296) (by decide) (fun s b ih => ?_) s
  rw [show crcR (s ++ [b]) = crcB (crcR s) b by simp [crcR]]; exact crcB_lt ih
theorem crc_val (c : Nat) (h : c < 4294967296) : ((((c : Int) / 2 ^ (1 : Int).toNat).toNat ^^^ ((3988292384 * (((c : Int).toNat &&& (1 : Int).toNat : Nat) : Int)) % 4294967296).toNat : Nat) : Int) = ((crc1 c : Nat) : Int) := by
  have e1 : ((c : Int) / 2 ^ (1 : Int).toNat).toNat = c / 2 := by simp; omega
  have e2 : ((c : Int).toNat &&& (1 : Int).toNat : Nat) = c % 2 := by simp [Nat.and_one_is_mod]
  have e3 : ((3988292384 * ((c % 2 : Nat) : Int)) % 4294967296).toNat = 3988292384 * (c % 2) := by omega
  rw [e1, e2, e3]
  rfl
attribute [local irreducible] HW HO HQ HD HC QOp Has Upd Puts Gets seqQ blkQ loopQ fnQ actQ nextP unQ MapF
theorem jsum_calls (s : List UInt8) (L : Heap) (hs : s.length ≤ 1000000) : HC Tryd.prog 92 [bs s] L (fun v L' => v = iv (crc s) ∧ L' = L) := by
  refine hc_enter (fun _ _ => Tryd.call92 _ _) Tryd.func92 rfl Tryd.ntmps92 (Nat.le_of_ble_eq_true rfl) ?_; simp only [args0, Nat.reduceAdd]
  repeat' (first | (show HW _ _ _ _ _ _; first | apply hw_seq | apply hw_region | apply hw_block | apply hw_exit | refine g_t ?_ | refine g_f ?_ | (refine g_b (fun h => ?_) (fun h => ?_) <;> ((try simp only [Bool.not_eq_eq_eq_not, Bool.not_true, Bool.not_false, decide_eq_true_eq, decide_eq_false_iff_not, Decidable.not_not, ne_eq, Bool.and_eq_true, beq_iff_eq, and_true, true_and, eq_self, decide_true, Bool.and_true, Bool.true_and, reduceCtorEq, not_true_eq_false, not_false_eq_true] at h); (try (exfalso; first | omega | with_reducible exact h (by assumption) | with_reducible exact absurd h (by assumption))))) | apply hw_skip | apply hw_ret) | (show HO _ _ _ _ _ _ _; first | apply ho_nil | refine g_q (qe S) ?_ | refine g_q (qt S) ?_ | refine g_q (qc8 S) ?_ | refine g_q (qc32 S) ?_ | refine g_q (qx32 S) ?_) | apply seqQ_normal | apply seqQ_ret | apply seqQ_exit | apply blkQ_here | refine g_bx ?_ | apply blkQ_ret | apply blkQ_normal | apply loopQ_ret | apply loopQ_exit | apply unQ_ret | apply unQ_exit | apply unQ_succ)
  refine hw_loop (σ := Nat) (fun i => [(0, bs s), (6, iv s.length), (7, iv i), (3, .int .u32 (crcR (s.take i)))]) (fun _ => L) (fun i => i ≤ s.length) (fun i => s.length - i) 0 (by repeat (first | exact trivial | refine ⟨rfl, ?_⟩)) (List.Sublist.refl _) (by omega) ?_
  intro i i1
  have hc := crcR_lt (s.take i)
  by_cases hlt : i < s.length
  · have hb := (s.getD (i : Int).toNat 0).toNat_lt
    repeat' (first | (show HW _ _ _ _ _ _; first | apply hw_seq | apply hw_region | apply hw_block | apply hw_exit | refine g_t ?_ | refine g_f ?_ | (refine g_b (fun h => ?_) (fun h => ?_) <;> ((try simp only [Bool.not_eq_eq_eq_not, Bool.not_true, Bool.not_false, decide_eq_true_eq, decide_eq_false_iff_not, Decidable.not_not, ne_eq, Bool.and_eq_true, beq_iff_eq, and_true, true_and, eq_self, decide_true, Bool.and_true, Bool.true_and, reduceCtorEq, not_true_eq_false, not_false_eq_true] at h); (try (exfalso; first | omega | with_reducible exact h (by assumption) | with_reducible exact absurd h (by assumption))))) | apply hw_skip | apply hw_ret) | (show HO _ _ _ _ _ _ _; first | apply ho_nil | refine g_q (qe S) ?_ | refine g_q (qt S) ?_ | refine g_q (qc8 S) ?_ | refine g_q (qc32 S) ?_ | refine g_q (qx32 S) ?_) | apply seqQ_normal | apply seqQ_ret | apply seqQ_exit | apply blkQ_here | refine g_bx ?_ | apply blkQ_ret | apply blkQ_normal | apply loopQ_ret | apply loopQ_exit | apply unQ_ret | apply unQ_exit | apply unQ_succ)
    have e0 : (((crcR (s.take i) : Nat) : Int).toNat ^^^ (((s.getD (i : Int).toNat 0).toNat : Nat) : Int).toNat : Nat) = crcR (s.take i) ^^^ (s.getD i 0).toNat := by simp
    rw [e0]
    have hx := xor_byte (s.getD i 0) hc
    refine hw_loop (σ := Nat) (fun j => [(0, bs s), (6, iv s.length), (7, iv i), (16, iv j), (3, .int .u32 (crcN j (crcR (s.take i) ^^^ (s.getD i 0).toNat)))]) (fun _ => L) (fun j => j ≤ 8) (fun j => 8 - j) 0 (by repeat (first | exact trivial | refine ⟨rfl, ?_⟩)) (List.Sublist.refl _) (by omega) ?_
    intro j j1
    have hcj := crcN_lt (k := j) hx
    by_cases hlt2 : j < 8
    · repeat' (first | (show HW _ _ _ _ _ _; first | apply hw_seq | apply hw_region | apply hw_block | apply hw_exit | refine g_t ?_ | refine g_f ?_ | (refine g_b (fun h => ?_) (fun h => ?_) <;> ((try simp only [Bool.not_eq_eq_eq_not, Bool.not_true, Bool.not_false, decide_eq_true_eq, decide_eq_false_iff_not, Decidable.not_not, ne_eq, Bool.and_eq_true, beq_iff_eq, and_true, true_and, eq_self, decide_true, Bool.and_true, Bool.true_and, reduceCtorEq, not_true_eq_false, not_false_eq_true] at h); (try (exfalso; first | omega | with_reducible exact h (by assumption) | with_reducible exact absurd h (by assumption))))) | apply hw_skip | apply hw_ret) | (show HO _ _ _ _ _ _ _; first | apply ho_nil | refine g_q (qe S) ?_ | refine g_q (qt S) ?_ | refine g_q (qc8 S) ?_ | refine g_q (qc32 S) ?_ | refine g_q (qx32 S) ?_) | apply seqQ_normal | apply seqQ_ret | apply seqQ_exit | apply blkQ_here | refine g_bx ?_ | apply blkQ_ret | apply blkQ_normal | apply loopQ_ret | apply loopQ_exit | apply unQ_ret | apply unQ_exit | apply unQ_succ)
      refine loopQ_normal (j + 1) ?_ (List.Sublist.refl _) (by omega) (by omega)
      rw [crcN_succ, ← crc_val _ hcj]
      repeat (first | exact trivial | refine ⟨rfl, ?_⟩)
    · have hj : j = 8 := by omega
      subst hj
      repeat' (first | (show HW _ _ _ _ _ _; first | apply hw_seq | apply hw_region | apply hw_block | apply hw_exit | refine g_t ?_ | refine g_f ?_ | (refine g_b (fun h => ?_) (fun h => ?_) <;> ((try simp only [Bool.not_eq_eq_eq_not, Bool.not_true, Bool.not_false, decide_eq_true_eq, decide_eq_false_iff_not, Decidable.not_not, ne_eq, Bool.and_eq_true, beq_iff_eq, and_true, true_and, eq_self, decide_true, Bool.and_true, Bool.true_and, reduceCtorEq, not_true_eq_false, not_false_eq_true] at h); (try (exfalso; first | omega | with_reducible exact h (by assumption) | with_reducible exact absurd h (by assumption))))) | apply hw_skip | apply hw_ret) | (show HO _ _ _ _ _ _ _; first | apply ho_nil | refine g_q (qe S) ?_ | refine g_q (qt S) ?_ | refine g_q (qc8 S) ?_ | refine g_q (qc32 S) ?_ | refine g_q (qx32 S) ?_) | apply seqQ_normal | apply seqQ_ret | apply seqQ_exit | apply blkQ_here | refine g_bx ?_ | apply blkQ_ret | apply blkQ_normal | apply loopQ_ret | apply loopQ_exit | apply unQ_ret | apply unQ_exit | apply unQ_succ)
      refine loopQ_normal (i + 1) ?_ (List.Sublist.refl _) (by omega) (by omega)
      have e : crcR (s.take (i + 1)) = crcN 8 (crcR (s.take i) ^^^ (s.getD i 0).toNat) := by
        rw [List.take_succ_eq_append_getElem hlt]
        rw [show ∀ l b, crcR (l ++ [b]) = crcB (crcR l) b from fun l b => by simp [crcR]]
        simp [crcB, List.getD, hlt]
      rw [e]
      repeat (first | exact trivial | refine ⟨rfl, ?_⟩)
  · repeat' (first | (show HW _ _ _ _ _ _; first | apply hw_seq | apply hw_region | apply hw_block | apply hw_exit | refine g_t ?_ | refine g_f ?_ | (refine g_b (fun h => ?_) (fun h => ?_) <;> ((try simp only [Bool.not_eq_eq_eq_not, Bool.not_true, Bool.not_false, decide_eq_true_eq, decide_eq_false_iff_not, Decidable.not_not, ne_eq, Bool.and_eq_true, beq_iff_eq, and_true, true_and, eq_self, decide_true, Bool.and_true, Bool.true_and, reduceCtorEq, not_true_eq_false, not_false_eq_true] at h); (try (exfalso; first | omega | with_reducible exact h (by assumption) | with_reducible exact absurd h (by assumption))))) | apply hw_skip | apply hw_ret) | (show HO _ _ _ _ _ _ _; first | apply ho_nil | refine g_q (qe S) ?_ | refine g_q (qt S) ?_ | refine g_q (qc8 S) ?_ | refine g_q (qc32 S) ?_ | refine g_q (qx32 S) ?_) | apply seqQ_normal | apply seqQ_ret | apply seqQ_exit | apply blkQ_here | refine g_bx ?_ | apply blkQ_ret | apply blkQ_normal | apply loopQ_ret | apply loopQ_exit | apply unQ_ret | apply unQ_exit | apply unQ_succ)
    have hi : i = s.length := by omega
    subst hi
    (refine fn_ret1 rfl rfl ?_ ⟨?_, rfl⟩; (next => (repeat (first | exact List.Sublist.refl _ | apply List.Sublist.cons))))
    rw [List.take_length] at hc ⊢
    exact congrArg iv (by unfold crc; omega)
end Go.HL
