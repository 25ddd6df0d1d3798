/- Chapter 4: numbers as bytes, a sum: the document's; the lowest byte first. Conditions: none. -/
import Derived.Test.YtkookaogdkdegabDoorJnB
namespace Go.HL
open Go Go.Proofs
set_option linter.unusedVariables false
set_option linter.unusedSimpArgs false
def lowB (n : Int) : List UInt8 := [bt n 0, bt n 1, bt n 2, bt n 3]
theorem u8_bt (n : Int) (k : Nat) : u8 (bt n k) = .int .u8 (n / 2 ^ (8 * k) % 256) := by
  unfold u8
  rw [bt_val]
theorem u8_bt0 (n : Int) : u8 (bt n 0) = .int .u8 (n % 256) := by
  rw [u8_bt]; simp
theorem numB_snoc (n : Int) (k : Nat) : numB n (k + 1) = bt n k :: numB n k := rfl
theorem bt_div (n : Int) (k : Nat) : bt (n / 256 ^ k) 0 = bt n k := by
  unfold bt
  congr 2
  simp only [Nat.mul_zero, Int.pow_zero, Int.ediv_one]
  rw [show (256 : Int) = 2 ^ 8 from rfl, ← Int.pow_mul]
theorem bt_mod (n : Int) : bt (n % 256) 0 = bt n 0 := by
  unfold bt
  simp
/-- the document's sum, between two bits -/
def rc (c b k : Nat) : Nat := crcN k (c ^^^ b) ^^^ (b / 2 ^ k)
theorem rc_0 (c b : Nat) : rc c b 0 = c := by simp [rc, crcN, Nat.xor_assoc]
theorem rc_8 {c b : Nat} (h : b < 256) : rc c b 8 = crcN 8 (c ^^^ b) := by
  unfold rc
  rw [show b / 2 ^ 8 = 0 from Nat.div_eq_of_lt h, Nat.xor_zero]
theorem rc_bit (c b k : Nat) : (rc c b k ^^^ (b / 2 ^ k)) % 2 = crcN k (c ^^^ b) % 2 := by
  unfold rc
  rw [Nat.xor_assoc, Nat.xor_self, Nat.xor_zero]
theorem xor_half (a b : Nat) : (a ^^^ b) / 2 = a / 2 ^^^ b / 2 := by
  have := Nat.shiftRight_xor_distrib (a := a) (b := b) (i := 1)
  simpa [Nat.shiftRight_eq_div_pow] using this
theorem rc_succ (c b k : Nat) : rc c b (k + 1) = if crcN k (c ^^^ b) % 2 = 1 then rc c b k / 2 ^^^ 3988292384 else rc c b k / 2 := by
  unfold rc
  rw [crcN_succ, xor_half]
  have e : b / 2 ^ (k + 1) = b / 2 ^ k / 2 := by rw [Nat.pow_succ, ← Nat.div_div_eq_div_mul]
  rw [e]
  unfold crc1
  split
  · rename_i h
    rw [h, Nat.mul_one, Nat.xor_assoc, Nat.xor_assoc, Nat.xor_comm 3988292384]
  · rename_i h
    have h0 : crcN k (c ^^^ b) % 2 = 0 := by omega
    rw [h0, Nat.mul_zero, Nat.xor_zero]
theorem rc_lt {c b k : Nat} (hc : c < 4294967296) (hb : b < 256) : rc c b k < 4294967296 := by
  unfold rc
  refine Nat.xor_lt_two_pow (n := 32) (crcN_lt (Nat.xor_lt_two_pow (n := 32) hc (by omega))) ?_
  exact Nat.lt_of_le_of_lt (Nat.div_le_self _ _) (by omega)
theorem xor_ones {x : Nat} (h : x < 4294967296) : x ^^^ 4294967295 = 4294967295 - x := by
  have h1 : ((BitVec.allOnes 32) ^^^ BitVec.ofNat 32 x).toNat = (~~~ BitVec.ofNat 32 x).toNat := by rw [BitVec.allOnes_xor]
  rw [BitVec.toNat_xor, BitVec.toNat_not, BitVec.toNat_allOnes, BitVec.toNat_ofNat, Nat.mod_eq_of_lt h] at h1
  rw [Nat.xor_comm]
  simpa using h1
attribute [local irreducible] HW HO HQ HD HC QOp Has Upd Puts Gets seqQ blkQ loopQ fnQ actQ nextP unQ MapF
theorem rbyte_calls (n : Int) (L : Heap) : HC Tryd.prog 95 [iv n] L (fun v L' => v = bs [bt n 0] ∧ L' = L) := by
  have e : ([Value.int .u8 (n % 256)] : List Value) = [bt n 0].map u8 := by simp [u8_bt0]
  refine hc_enter (fun _ _ => Tryd.call95 _ _) Tryd.func95 rfl Tryd.ntmps95 (Nat.le_of_ble_eq_true rfl) ?_; simp only [args0, Nat.reduceAdd]
  repeat' (first | (show HW _ _ _ _ _ _; first | apply hw_seq | apply hw_region | apply hw_ret) | (show HO _ _ _ _ _ _ _; first | apply ho_nil | refine g_q (qe S) ?_ | refine g_q (qt S) ?_ | refine g_q (qc8 S) ?_ | refine g_q (qc32 S) ?_ | refine wS S (fun b => ?_) | refine wSa S (fun b => ?_) | refine wSn S (fun b => ?_)) | apply seqQ_normal | apply seqQ_ret)
  rw [e]
  refine g_q (qtx S (rd_bytes _ _ _ _) rfl) ?_
  repeat' (first | (show HW _ _ _ _ _ _; first | apply hw_seq | apply hw_region | apply hw_ret) | (show HO _ _ _ _ _ _ _; first | apply ho_nil | refine g_q (qe S) ?_ | refine g_q (qt S) ?_ | refine g_q (qc8 S) ?_ | refine g_q (qc32 S) ?_ | refine wS S (fun b => ?_) | refine wSa S (fun b => ?_) | refine wSn S (fun b => ?_)) | apply seqQ_normal | apply seqQ_ret)
  exact sp1 (by repeat (first | exact LS.refl _ | apply LS.k | apply LS.c)) ⟨rfl, rfl⟩
theorem wlow_calls (n : Int) (L : Heap) : HC Tryd.prog 91 [iv n] L (fun v L' => v = bs (lowB n) ∧ L' = L) := by
  have e : ([Value.int .u8 (n % 256), Value.int .u8 (n / 2 ^ Int.toNat 8 % 256), Value.int .u8 (n / 2 ^ Int.toNat 16 % 256), Value.int .u8 (n / 2 ^ Int.toNat 24 % 256)] : List Value) = (lowB n).map u8 := by
    simp only [lowB, List.map_cons, List.map_nil, u8_bt]
    simp
  refine hc_enter (fun _ _ => Tryd.call91 _ _) Tryd.func91 rfl Tryd.ntmps91 (Nat.le_of_ble_eq_true rfl) ?_; simp only [args0, Nat.reduceAdd]
  repeat' (first | (show HW _ _ _ _ _ _; first | apply hw_seq | apply hw_region | apply hw_ret) | (show HO _ _ _ _ _ _ _; first | apply ho_nil | refine g_q (qe S) ?_ | refine g_q (qt S) ?_ | refine g_q (qc8 S) ?_ | refine g_q (qc32 S) ?_ | refine wS S (fun b => ?_) | refine wSa S (fun b => ?_) | refine wSn S (fun b => ?_)) | apply seqQ_normal | apply seqQ_ret)
  rw [e]
  refine g_q (qtx S (rd_bytes _ _ _ _) rfl) ?_
  repeat' (first | (show HW _ _ _ _ _ _; first | apply hw_seq | apply hw_region | apply hw_ret) | (show HO _ _ _ _ _ _ _; first | apply ho_nil | refine g_q (qe S) ?_ | refine g_q (qt S) ?_ | refine g_q (qc8 S) ?_ | refine g_q (qc32 S) ?_ | refine wS S (fun b => ?_) | refine wSa S (fun b => ?_) | refine wSn S (fun b => ?_)) | apply seqQ_normal | apply seqQ_ret)
  exact sp1 (by repeat (first | exact LS.refl _ | apply LS.k | apply LS.c)) ⟨rfl, rfl⟩
theorem rlow_calls (n : Int) (L : Heap) (h0 : 0 ≤ n) (h1 : n < 4294967296) : HC Tryd.prog 30 [iv n] L (fun v L' => v = bs (lowB n) ∧ L' = L) := by
  have e0 : bt (n % 256) 0 = bt n 0 := bt_mod n
  have e1 : bt (n / 256 % 256) 0 = bt n 1 := by rw [bt_mod, ← bt_div n 1]; rfl
  have e2 : bt (n / 65536 % 256) 0 = bt n 2 := by rw [bt_mod, ← bt_div n 2]; rfl
  have e3 : bt (n / 16777216) 0 = bt n 3 := by rw [← bt_div n 3]; rfl
  have k0 := fun L => rbyte_calls (n % 256) L
  have k1 := fun L => rbyte_calls (n / 256 % 256) L
  have k2 := fun L => rbyte_calls (n / 65536 % 256) L
  have k3 := fun L => rbyte_calls (n / 16777216) L
  rw [e0] at k0
  rw [e1] at k1
  rw [e2] at k2
  rw [e3] at k3
  have b1 : 0 ≤ n / 256 ∧ n / 256 ≤ 9223372036854775807 := by omega
  have b2 : 0 ≤ n / 65536 ∧ n / 65536 ≤ 9223372036854775807 := by omega
  refine hc_enter (fun _ _ => Tryd.call30 _ _) Tryd.func30 rfl Tryd.ntmps30 (Nat.le_of_ble_eq_true rfl) ?_; simp only [args0, Nat.reduceAdd]
  repeat' (first | (show HW _ _ _ _ _ _; first | apply hw_seq | apply hw_region | apply hw_ret) | (show HO _ _ _ _ _ _ _; first | apply ho_nil | refine g_q (qe S) ?_ | refine g_q (qC (k0 _)) ?_ | refine g_q (qC (k1 _)) ?_ | refine g_q (qC (k2 _)) ?_ | refine g_q (qC (k3 _)) ?_) | apply seqQ_normal | apply seqQ_ret)
  exact sp1 (by repeat (first | exact LS.refl _ | apply LS.k | apply LS.c)) ⟨rfl, rfl⟩
theorem rwide_calls (n : Int) (many : Nat) (L : Heap) (h0 : 0 ≤ n) (h1 : n ≤ 9223372036854775807) (hm : many ≤ 8) : HC Tryd.prog 96 [iv n, iv many] L (fun v L' => v = bs (numB n many) ∧ L' = L) := by
  refine hc_enter (fun _ _ => Tryd.call96 _ _) Tryd.func96 rfl Tryd.ntmps96 (Nat.le_of_ble_eq_true rfl) ?_; simp only [args0, Nat.reduceAdd]
  repeat' (first | (show HW _ _ _ _ _ _; first | apply hw_seq | apply hw_region | apply hw_block | apply hw_exit | refine g_t ?_ | refine g_f ?_ | (refine g_b (fun h => ?_) (fun h => ?_) <;> ((try simp only [Bool.not_eq_eq_eq_not, Bool.not_true, Bool.not_false, decide_eq_true_eq, decide_eq_false_iff_not, Decidable.not_not, ne_eq, Bool.and_eq_true, beq_iff_eq, and_true, true_and, eq_self, decide_true, Bool.and_true, Bool.true_and, reduceCtorEq, not_true_eq_false, not_false_eq_true] at h); (try (exfalso; first | omega | with_reducible exact h (by assumption) | with_reducible exact absurd h (by assumption))))) | apply hw_skip | apply hw_ret) | (show HO _ _ _ _ _ _ _; first | apply ho_nil | refine g_q (qe S) ?_) | apply seqQ_normal | apply seqQ_ret | apply seqQ_exit | apply blkQ_here | refine g_bx ?_ | apply blkQ_ret | apply blkQ_normal | apply loopQ_ret | apply loopQ_exit | apply unQ_ret | apply unQ_exit | apply unQ_succ)
  refine hw_loop (σ := Nat) (fun i => [(0, iv (n / 256 ^ i)), (1, iv many), (5, bs (numB n i)), (6, iv i)]) (fun _ => L) (fun i => i ≤ many) (fun i => many - i) 0 ?_ (List.Sublist.refl _) (by omega) ?_
  · simp only [Int.pow_zero, Int.ediv_one]
    exact (by repeat (first | exact trivial | refine ⟨rfl, ?_⟩))
  intro i hi
  by_cases hlt : i < many
  · have hq : 0 ≤ n / 256 ^ i ∧ n / 256 ^ i ≤ 9223372036854775807 := ⟨Int.ediv_nonneg h0 (Int.pow_nonneg (by decide)), Int.le_trans (Int.ediv_le_self _ h0) h1⟩
    have kb := fun L => rbyte_calls (n / 256 ^ i % 256) L
    rw [bt_mod, bt_div] at kb
    have hl : ([bt n i].length + (numB n i).length) ≤ 9223372036854775807 := by simp [numB_len]; omega
    have e : n / 256 ^ i / 256 = n / 256 ^ (i + 1) := by rw [Int.pow_succ, Int.ediv_ediv_of_nonneg (Int.pow_nonneg (by decide))]
    repeat' (first | (show HW _ _ _ _ _ _; first | apply hw_seq | apply hw_region | apply hw_block | apply hw_exit | refine g_t ?_ | refine g_f ?_ | (refine g_b (fun h => ?_) (fun h => ?_) <;> ((try simp only [Bool.not_eq_eq_eq_not, Bool.not_true, Bool.not_false, decide_eq_true_eq, decide_eq_false_iff_not, Decidable.not_not, ne_eq, Bool.and_eq_true, beq_iff_eq, and_true, true_and, eq_self, decide_true, Bool.and_true, Bool.true_and, reduceCtorEq, not_true_eq_false, not_false_eq_true] at h); (try (exfalso; first | omega | with_reducible exact h (by assumption) | with_reducible exact absurd h (by assumption))))) | apply hw_skip | apply hw_ret) | (show HO _ _ _ _ _ _ _; first | apply ho_nil | refine g_q (qe S) ?_ | refine g_q (qC (kb _)) ?_) | apply seqQ_normal | apply seqQ_ret | apply seqQ_exit | apply blkQ_here | refine g_bx ?_ | apply blkQ_ret | apply blkQ_normal | apply loopQ_ret | apply loopQ_exit | apply unQ_ret | apply unQ_exit | apply unQ_succ)
    rw [e]
    exact loopQ_sp (i + 1) (by repeat (first | exact trivial | refine ⟨rfl, ?_⟩)) (by repeat (first | (with_reducible first | refine LS.p0 ?_ | refine LS.p1 ?_ | refine LS.p2 ?_ | refine LS.p3 ?_ | refine LS.p4 ?_ | refine LS.p5 ?_ | refine LS.p6 ?_ | refine LS.p7 ?_ | refine LS.p8 ?_ | refine LS.p9 ?_ | refine LS.p10 ?_ | refine LS.p11 ?_ | refine LS.p12 ?_ | refine LS.e ?_ | exact LS.refl _) | refine LS.p0 ?_ | refine LS.p1 ?_ | refine LS.p2 ?_ | refine LS.p3 ?_ | refine LS.p4 ?_ | refine LS.p5 ?_ | refine LS.p6 ?_ | refine LS.p7 ?_ | refine LS.p8 ?_ | refine LS.p9 ?_ | refine LS.p10 ?_ | refine LS.p11 ?_ | refine LS.p12 ?_ | (with_reducible refine LS.c ?_))) (by omega) (by omega)
  · have hi2 : i = many := by omega
    subst hi2
    repeat' (first | (show HW _ _ _ _ _ _; first | apply hw_seq | apply hw_region | apply hw_block | apply hw_exit | refine g_t ?_ | refine g_f ?_ | (refine g_b (fun h => ?_) (fun h => ?_) <;> ((try simp only [Bool.not_eq_eq_eq_not, Bool.not_true, Bool.not_false, decide_eq_true_eq, decide_eq_false_iff_not, Decidable.not_not, ne_eq, Bool.and_eq_true, beq_iff_eq, and_true, true_and, eq_self, decide_true, Bool.and_true, Bool.true_and, reduceCtorEq, not_true_eq_false, not_false_eq_true] at h); (try (exfalso; first | omega | with_reducible exact h (by assumption) | with_reducible exact absurd h (by assumption))))) | apply hw_skip | apply hw_ret) | (show HO _ _ _ _ _ _ _; first | apply ho_nil | refine g_q (qe S) ?_) | apply seqQ_normal | apply seqQ_ret | apply seqQ_exit | apply blkQ_here | refine g_bx ?_ | apply blkQ_ret | apply blkQ_normal | apply loopQ_ret | apply loopQ_exit | apply unQ_ret | apply unQ_exit | apply unQ_succ)
    exact sp1 (by repeat (first | exact LS.refl _ | apply LS.k | apply LS.c)) ⟨rfl, rfl⟩
theorem rcrc_calls (s : List UInt8) (L : Heap) (hs : s.length ≤ 1000000) : HC Tryd.prog 31 [bs s] L (fun v L' => v = iv (crc s) ∧ L' = L) := by
  refine hc_enter (fun _ _ => Tryd.call31 _ _) Tryd.func31 rfl Tryd.ntmps31 (Nat.le_of_ble_eq_true rfl) ?_; simp only [args0, Nat.reduceAdd]
  repeat' (first | (show HW _ _ _ _ _ _; first | apply hw_seq | apply hw_region | apply hw_block | apply hw_exit | refine g_t ?_ | refine g_f ?_ | (refine g_b (fun h => ?_) (fun h => ?_) <;> ((try simp only [Bool.not_eq_eq_eq_not, Bool.not_true, Bool.not_false, decide_eq_true_eq, decide_eq_false_iff_not, Decidable.not_not, ne_eq, Bool.and_eq_true, beq_iff_eq, and_true, true_and, eq_self, decide_true, Bool.and_true, Bool.true_and, reduceCtorEq, not_true_eq_false, not_false_eq_true] at h); (try (exfalso; first | omega | with_reducible exact h (by assumption) | with_reducible exact absurd h (by assumption))))) | apply hw_skip | apply hw_ret) | (show HO _ _ _ _ _ _ _; first | apply ho_nil | refine g_q (qe S) ?_ | refine g_q (qt S) ?_ | refine g_q (qc8 S) ?_ | refine g_q (qc32 S) ?_ | refine g_q (qx32 S) ?_) | apply seqQ_normal | apply seqQ_ret | apply seqQ_exit | apply blkQ_here | refine g_bx ?_ | apply blkQ_ret | apply blkQ_normal | apply loopQ_ret | apply loopQ_exit | apply unQ_ret | apply unQ_exit | apply unQ_succ)
  refine hw_loop (σ := Nat) (fun i => [(0, bs s), (3, iv (crcR (s.take i))), (4, iv i)]) (fun _ => L) (fun i => i ≤ s.length) (fun i => s.length - i) 0 (by repeat (first | exact trivial | refine ⟨rfl, ?_⟩)) (List.Sublist.refl _) (by omega) ?_
  intro i hi
  have hc := crcR_lt (s.take i)
  by_cases hlt : i < s.length
  · repeat' (first | (show HW _ _ _ _ _ _; first | apply hw_seq | apply hw_region | apply hw_block | apply hw_exit | refine g_t ?_ | refine g_f ?_ | (refine g_b (fun h => ?_) (fun h => ?_) <;> ((try simp only [Bool.not_eq_eq_eq_not, Bool.not_true, Bool.not_false, decide_eq_true_eq, decide_eq_false_iff_not, Decidable.not_not, ne_eq, Bool.and_eq_true, beq_iff_eq, and_true, true_and, eq_self, decide_true, Bool.and_true, Bool.true_and, reduceCtorEq, not_true_eq_false, not_false_eq_true] at h); (try (exfalso; first | omega | with_reducible exact h (by assumption) | with_reducible exact absurd h (by assumption))))) | apply hw_skip | apply hw_ret) | (show HO _ _ _ _ _ _ _; first | apply ho_nil | refine g_q (qe S) ?_ | refine g_q (qt S) ?_ | refine g_q (qc8 S) ?_ | refine g_q (qc32 S) ?_ | refine g_q (qx32 S) ?_) | apply seqQ_normal | apply seqQ_ret | apply seqQ_exit | apply blkQ_here | refine g_bx ?_ | apply blkQ_ret | apply blkQ_normal | apply loopQ_ret | apply loopQ_exit | apply unQ_ret | apply unQ_exit | apply unQ_succ)
    have hb : (s.getD i 0).toNat < 256 := (s.getD i 0).toNat_lt
    have e0 : (crcR (s.take i) : Int) = ((rc (crcR (s.take i)) (s.getD i 0).toNat 0 : Nat) : Int) := by rw [rc_0]
    rw [e0]
    refine hw_loop (σ := Nat) (fun k => [(0, bs s), (3, iv (rc (crcR (s.take i)) (s.getD i 0).toNat k)), (4, iv i), (5, iv k)]) (fun _ => L) (fun k => k ≤ 8) (fun k => 8 - k) 0 (by repeat (first | exact trivial | refine ⟨rfl, ?_⟩)) (List.Sublist.refl _) (by omega) ?_
    intro k hk
    by_cases hk8 : k < 8
    · have hr := rc_lt (k := k) hc hb
      have hsu := rc_succ (crcR (s.take i)) (s.getD i 0).toNat k
      have hbit := rc_bit (crcR (s.take i)) (s.getD i 0).toNat k
      have hb2 := (s.getD (i : Int).toNat 0).toNat_lt
      have hbk : (s.getD i 0).toNat / 2 ^ k < 256 := Nat.lt_of_le_of_lt (Nat.div_le_self _ _) hb
      have eB : (((s.getD (i : Int).toNat 0).toNat : Nat) : Int) / 2 ^ (k : Int).toNat = (((s.getD i 0).toNat / 2 ^ k : Nat) : Int) := by simp
      have hxl : rc (crcR (s.take i)) (s.getD i 0).toNat k ^^^ ((s.getD i 0).toNat / 2 ^ k) < 4294967296 := Nat.xor_lt_two_pow (n := 32) hr (by omega)
      have hx1 : rc (crcR (s.take i)) (s.getD i 0).toNat k / 2 ^^^ 3988292384 < 4294967296 := Nat.xor_lt_two_pow (n := 32) (by omega) (by decide)
      repeat' (first | (show HW _ _ _ _ _ _; first | apply hw_seq | apply hw_region | apply hw_block | apply hw_exit | refine g_t ?_ | refine g_f ?_ | (refine g_b (fun h => ?_) (fun h => ?_) <;> ((try simp only [Bool.not_eq_eq_eq_not, Bool.not_true, Bool.not_false, decide_eq_true_eq, decide_eq_false_iff_not, Decidable.not_not, ne_eq, Bool.and_eq_true, beq_iff_eq, and_true, true_and, eq_self, decide_true, Bool.and_true, Bool.true_and, reduceCtorEq, not_true_eq_false, not_false_eq_true] at h); (try (exfalso; first | omega | with_reducible exact h (by assumption) | with_reducible exact absurd h (by assumption))))) | apply hw_skip | apply hw_ret) | (show HO _ _ _ _ _ _ _; first | apply ho_nil | refine g_q (qe S) ?_ | refine g_q (qt S) ?_ | refine g_q (qc8 S) ?_ | refine g_q (qc32 S) ?_ | refine g_q (qx32 S) ?_) | apply seqQ_normal | apply seqQ_ret | apply seqQ_exit | apply blkQ_here | refine g_bx ?_ | apply blkQ_ret | apply blkQ_normal | apply loopQ_ret | apply loopQ_exit | apply unQ_ret | apply unQ_exit | apply unQ_succ)
      rw [eB]
      generalize hr1 : rc (crcR (s.take i)) (s.getD i 0).toNat (k + 1) = r1 at hsu
      generalize rc (crcR (s.take i)) (s.getD i 0).toNat k = r0 at *
      generalize (s.getD i 0).toNat / 2 ^ k = bk at *
      generalize crcN k (crcR (s.take i) ^^^ (s.getD i 0).toNat) = cN at *
      have hxt : (((r0 : Nat) : Int).toNat ^^^ ((bk : Nat) : Int).toNat) = r0 ^^^ bk := by simp
      have hxt2 : (((r0 : Nat) : Int) / 2).toNat ^^^ Int.toNat 3988292384 = r0 / 2 ^^^ 3988292384 := by
        rw [show (((r0 : Nat) : Int) / 2).toNat = r0 / 2 by omega]
        rfl
      rw [← hxt] at hxl hbit
      rw [← hxt2] at hx1
      repeat' (first | (show HW _ _ _ _ _ _; first | apply hw_seq | apply hw_region | apply hw_block | apply hw_exit | refine g_t ?_ | refine g_f ?_ | (refine g_b (fun h => ?_) (fun h => ?_) <;> ((try simp only [Bool.not_eq_eq_eq_not, Bool.not_true, Bool.not_false, decide_eq_true_eq, decide_eq_false_iff_not, Decidable.not_not, ne_eq, Bool.and_eq_true, beq_iff_eq, and_true, true_and, eq_self, decide_true, Bool.and_true, Bool.true_and, reduceCtorEq, not_true_eq_false, not_false_eq_true] at h); (try (exfalso; first | omega | with_reducible exact h (by assumption) | with_reducible exact absurd h (by assumption))))) | apply hw_skip | apply hw_ret) | (show HO _ _ _ _ _ _ _; first | apply ho_nil | refine g_q (qe S) ?_ | refine g_q (qt S) ?_ | refine g_q (qc8 S) ?_ | refine g_q (qc32 S) ?_ | refine g_q (qx32 S) ?_) | apply seqQ_normal | apply seqQ_ret | apply seqQ_exit | apply blkQ_here | refine g_bx ?_ | apply blkQ_ret | apply blkQ_normal | apply loopQ_ret | apply loopQ_exit | apply unQ_ret | apply unQ_exit | apply unQ_succ)
      · rw [if_pos (by omega)] at hsu
        rw [hxt2, ← hsu, ← hr1]
        exact loopQ_sp (k + 1) (by repeat (first | exact trivial | refine ⟨rfl, ?_⟩)) (by repeat (first | (with_reducible first | refine LS.p0 ?_ | refine LS.p1 ?_ | refine LS.p2 ?_ | refine LS.p3 ?_ | refine LS.p4 ?_ | refine LS.p5 ?_ | refine LS.p6 ?_ | refine LS.p7 ?_ | refine LS.p8 ?_ | refine LS.p9 ?_ | refine LS.p10 ?_ | refine LS.p11 ?_ | refine LS.p12 ?_ | refine LS.e ?_ | exact LS.refl _) | refine LS.p0 ?_ | refine LS.p1 ?_ | refine LS.p2 ?_ | refine LS.p3 ?_ | refine LS.p4 ?_ | refine LS.p5 ?_ | refine LS.p6 ?_ | refine LS.p7 ?_ | refine LS.p8 ?_ | refine LS.p9 ?_ | refine LS.p10 ?_ | refine LS.p11 ?_ | refine LS.p12 ?_ | (with_reducible refine LS.c ?_))) (by omega) (by omega)
      · rw [if_neg (by omega)] at hsu
        have e9 : ((r0 : Nat) : Int) / 2 = ((r1 : Nat) : Int) := by omega
        rw [e9, ← hr1]
        exact loopQ_sp (k + 1) (by repeat (first | exact trivial | refine ⟨rfl, ?_⟩)) (by repeat (first | (with_reducible first | refine LS.p0 ?_ | refine LS.p1 ?_ | refine LS.p2 ?_ | refine LS.p3 ?_ | refine LS.p4 ?_ | refine LS.p5 ?_ | refine LS.p6 ?_ | refine LS.p7 ?_ | refine LS.p8 ?_ | refine LS.p9 ?_ | refine LS.p10 ?_ | refine LS.p11 ?_ | refine LS.p12 ?_ | refine LS.e ?_ | exact LS.refl _) | refine LS.p0 ?_ | refine LS.p1 ?_ | refine LS.p2 ?_ | refine LS.p3 ?_ | refine LS.p4 ?_ | refine LS.p5 ?_ | refine LS.p6 ?_ | refine LS.p7 ?_ | refine LS.p8 ?_ | refine LS.p9 ?_ | refine LS.p10 ?_ | refine LS.p11 ?_ | refine LS.p12 ?_ | (with_reducible refine LS.c ?_))) (by omega) (by omega)
    · have hk2 : k = 8 := by omega
      subst hk2
      repeat' (first | (show HW _ _ _ _ _ _; first | apply hw_seq | apply hw_region | apply hw_block | apply hw_exit | refine g_t ?_ | refine g_f ?_ | (refine g_b (fun h => ?_) (fun h => ?_) <;> ((try simp only [Bool.not_eq_eq_eq_not, Bool.not_true, Bool.not_false, decide_eq_true_eq, decide_eq_false_iff_not, Decidable.not_not, ne_eq, Bool.and_eq_true, beq_iff_eq, and_true, true_and, eq_self, decide_true, Bool.and_true, Bool.true_and, reduceCtorEq, not_true_eq_false, not_false_eq_true] at h); (try (exfalso; first | omega | with_reducible exact h (by assumption) | with_reducible exact absurd h (by assumption))))) | apply hw_skip | apply hw_ret) | (show HO _ _ _ _ _ _ _; first | apply ho_nil | refine g_q (qe S) ?_ | refine g_q (qt S) ?_ | refine g_q (qc8 S) ?_ | refine g_q (qc32 S) ?_ | refine g_q (qx32 S) ?_) | apply seqQ_normal | apply seqQ_ret | apply seqQ_exit | apply blkQ_here | refine g_bx ?_ | apply blkQ_ret | apply blkQ_normal | apply loopQ_ret | apply loopQ_exit | apply unQ_ret | apply unQ_exit | apply unQ_succ)
      rw [rc_8 hb]
      have e : crcR (s.take (i + 1)) = crcN 8 (crcR (s.take i) ^^^ (s.getD i 0).toNat) := by
        rw [List.take_succ_eq_append_getElem hlt]
        rw [show ∀ l b, crcR (l ++ [b]) = crcB (crcR l) b from fun l b => by simp [crcR]]
        simp [crcB, List.getD, hlt]
      rw [← e]
      exact loopQ_sp (i + 1) (by repeat (first | exact trivial | refine ⟨rfl, ?_⟩)) (by repeat (first | (with_reducible first | refine LS.p0 ?_ | refine LS.p1 ?_ | refine LS.p2 ?_ | refine LS.p3 ?_ | refine LS.p4 ?_ | refine LS.p5 ?_ | refine LS.p6 ?_ | refine LS.p7 ?_ | refine LS.p8 ?_ | refine LS.p9 ?_ | refine LS.p10 ?_ | refine LS.p11 ?_ | refine LS.p12 ?_ | refine LS.e ?_ | exact LS.refl _) | refine LS.p0 ?_ | refine LS.p1 ?_ | refine LS.p2 ?_ | refine LS.p3 ?_ | refine LS.p4 ?_ | refine LS.p5 ?_ | refine LS.p6 ?_ | refine LS.p7 ?_ | refine LS.p8 ?_ | refine LS.p9 ?_ | refine LS.p10 ?_ | refine LS.p11 ?_ | refine LS.p12 ?_ | (with_reducible refine LS.c ?_))) (by omega) (by omega)
  · have hi2 : i = s.length := by omega
    subst hi2
    repeat' (first | (show HW _ _ _ _ _ _; first | apply hw_seq | apply hw_region | apply hw_block | apply hw_exit | refine g_t ?_ | refine g_f ?_ | (refine g_b (fun h => ?_) (fun h => ?_) <;> ((try simp only [Bool.not_eq_eq_eq_not, Bool.not_true, Bool.not_false, decide_eq_true_eq, decide_eq_false_iff_not, Decidable.not_not, ne_eq, Bool.and_eq_true, beq_iff_eq, and_true, true_and, eq_self, decide_true, Bool.and_true, Bool.true_and, reduceCtorEq, not_true_eq_false, not_false_eq_true] at h); (try (exfalso; first | omega | with_reducible exact h (by assumption) | with_reducible exact absurd h (by assumption))))) | apply hw_skip | apply hw_ret) | (show HO _ _ _ _ _ _ _; first | apply ho_nil | refine g_q (qe S) ?_ | refine g_q (qt S) ?_ | refine g_q (qc8 S) ?_ | refine g_q (qc32 S) ?_ | refine g_q (qx32 S) ?_) | apply seqQ_normal | apply seqQ_ret | apply seqQ_exit | apply blkQ_here | refine g_bx ?_ | apply blkQ_ret | apply blkQ_normal | apply loopQ_ret | apply loopQ_exit | apply unQ_ret | apply unQ_exit | apply unQ_succ)
    refine sp1 (by repeat (first | exact LS.refl _ | apply LS.k | apply LS.c)) ⟨congrArg iv ?_, rfl⟩
    rw [List.take_length] at hc ⊢
    have := xor_ones hc
    unfold crc
    simp only [Int.toNat_natCast]
    rw [show Int.toNat 4294967295 = 4294967295 from rfl, this]
end Go.HL
