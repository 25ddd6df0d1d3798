/- Chapter 3: a journal: numbers and entries as bytes. Conditions: none. -/
import Derived.Test.YtkookaogdkdegabDoorJnA
namespace Go.HL
open Go Go.Proofs
set_option linter.unusedVariables false
set_option linter.unusedSimpArgs false

theorem rd_bytes (b E : Nat) (l : List UInt8) (L : Heap) : Rd uc 1 ([(b, .cells ⟨l.map u8⟩ E)] :: L) (some ⟨b, 0, none⟩) l := by
  refine .inr ⟨b, 0, l.map u8, E, (0, 0), rfl, has_here, fun k x hx => ?_⟩
  have := gets_row (enc := uc) (sz := 1) (fun _ => rfl) l [] [] k x hx
  simpa [u8_flat] using this
theorem zeros_set (n i : Nat) (x : Int) (h : i < n) : (zeros (n - i) ++ numB x i).set (n - 1 - i) (bt x i) = zeros (n - (i + 1)) ++ numB x (i + 1) := by
  have e : zeros (n - i) = zeros (n - (i + 1)) ++ [0] := by
    rw [show n - i = (n - (i + 1)) + 1 by omega]
    simp [zeros, List.replicate_succ']
  rw [e, List.append_assoc, List.set_append_right _ _ (by simp [zeros]; omega)]
  simp [zeros, numB, show n - 1 - i - (n - (i + 1)) = 0 by omega]
structure Ent where
  n : Int
  s : St
def enL (e : Ent) : List Value := [iv e.n, iv e.s.ph, iv e.s.pr, iv e.s.att]
def head (e : Ent) : List UInt8 := numB e.n 4 ++ numB e.s.ph 1 ++ numB e.s.pr 4 ++ numB e.s.att 4
def bodyM (e : Ent) : List UInt8 := head e ++ numB (crc (head e)) 4
attribute [local irreducible] HW HO HQ HD HC QOp Has Upd Puts Gets seqQ blkQ loopQ fnQ actQ nextP unQ MapF
theorem number_calls (n : Int) (many : Nat) (L : Heap) (hm : many ≤ 8) : HC Tryd.prog 90 [iv n, iv many] L (fun v L' => v = bs (numB n many) ∧ L' = L) := by
  refine hc_enter (fun _ _ => Tryd.call90 _ _) Tryd.func90 rfl Tryd.ntmps90 (Nat.le_of_ble_eq_true rfl) ?_; simp only [args0, Nat.reduceAdd]
  repeat' (first | (show HW _ _ _ _ _ _; first | apply hw_seq | apply hw_region | apply hw_block | apply hw_exit | refine g_t ?_ | refine g_f ?_ | (refine g_b (fun h => ?_) (fun h => ?_) <;> ((try simp only [Bool.not_eq_eq_eq_not, Bool.not_true, Bool.not_false, decide_eq_true_eq, decide_eq_false_iff_not, Decidable.not_not, ne_eq, Bool.and_eq_true, beq_iff_eq, and_true, true_and, eq_self, decide_true, Bool.and_true, Bool.true_and, reduceCtorEq, not_true_eq_false, not_false_eq_true] at h); (try (exfalso; first | omega | with_reducible exact h (by assumption) | with_reducible exact absurd h (by assumption))))) | apply hw_skip | apply hw_ret) | (show HO _ _ _ _ _ _ _; first | apply ho_nil | refine g_q (qe S) ?_ | refine g_q (qt S) ?_ | refine g_q (qc8 S) ?_ | refine g_q (qc32 S) ?_ | refine ws S ?_ | refine wm S (fun b => ?_) | refine wM S (fun b => ?_)) | apply seqQ_normal | apply seqQ_ret | apply seqQ_exit | apply blkQ_here | refine g_bx ?_ | apply blkQ_ret | apply blkQ_normal | apply loopQ_ret | apply loopQ_exit | apply unQ_ret | apply unQ_exit | apply unQ_succ)
  refine hw_loop (σ := Nat) (fun i => [(0, iv n), (1, iv many), (5, sl b 0 many many), (9, iv many), (10, iv i)]) (fun i => [(b, .cells ⟨(zeros (many - i) ++ numB n i).map u8⟩ 5)] :: L) (fun i => i ≤ many) (fun i => many - i) 0 (by repeat (first | exact trivial | refine ⟨rfl, ?_⟩)) ?_ (by omega) ?_
  · simp [numB, u8_zeros, zeros, u8]
  · intro i i1
    by_cases hlt : i < many
    · have hP : Puts ((zeros (many - i) ++ numB n i).map u8) (0 + ((many : Int) - 1 - (i : Int)).toNat) [.int .u8 (n / 2 ^ (8 * (i : Int)).toNat % 256)] ((zeros (many - (i + 1)) ++ numB n (i + 1)).map u8) := by
        rw [← zeros_set many i n hlt, List.map_set]
        have e : 0 + ((many : Int) - 1 - (i : Int)).toNat = many - 1 - i := by omega
        have e2 : (8 * (i : Int)).toNat = 8 * i := by omega
        have e3 : Value.int .u8 (n / 2 ^ (8 * (i : Int)).toNat % 256) = u8 (bt n i) := by unfold u8; rw [bt_val, e2]
        rw [e, e3]
        exact puts_set (by simp [zeros, numB_len]; omega)
      repeat' (first | (show HW _ _ _ _ _ _; first | apply hw_seq | apply hw_region | apply hw_block | apply hw_exit | refine g_t ?_ | refine g_f ?_ | (refine g_b (fun h => ?_) (fun h => ?_) <;> ((try simp only [Bool.not_eq_eq_eq_not, Bool.not_true, Bool.not_false, decide_eq_true_eq, decide_eq_false_iff_not, Decidable.not_not, ne_eq, Bool.and_eq_true, beq_iff_eq, and_true, true_and, eq_self, decide_true, Bool.and_true, Bool.true_and, reduceCtorEq, not_true_eq_false, not_false_eq_true] at h); (try (exfalso; first | omega | with_reducible exact h (by assumption) | with_reducible exact absurd h (by assumption))))) | apply hw_skip | apply hw_ret) | (show HO _ _ _ _ _ _ _; first | apply ho_nil | refine g_q (qe S) ?_ | refine g_q (qt S) ?_ | refine g_q (qc8 S) ?_ | refine g_q (qc32 S) ?_ | refine ws S ?_ | refine wm S (fun b => ?_) | refine wM S (fun b => ?_)) | apply seqQ_normal | apply seqQ_ret | apply seqQ_exit | apply blkQ_here | refine g_bx ?_ | apply blkQ_ret | apply blkQ_normal | apply loopQ_ret | apply loopQ_exit | apply unQ_ret | apply unQ_exit | apply unQ_succ)
      refine loopQ_normal (i + 1) (by repeat (first | exact trivial | refine ⟨rfl, ?_⟩)) (List.Sublist.refl _) (by omega) (by omega)
    · have hi : i = many := by omega
      subst hi
      repeat' (first | (show HW _ _ _ _ _ _; first | apply hw_seq | apply hw_region | apply hw_block | apply hw_exit | refine g_t ?_ | refine g_f ?_ | (refine g_b (fun h => ?_) (fun h => ?_) <;> ((try simp only [Bool.not_eq_eq_eq_not, Bool.not_true, Bool.not_false, decide_eq_true_eq, decide_eq_false_iff_not, Decidable.not_not, ne_eq, Bool.and_eq_true, beq_iff_eq, and_true, true_and, eq_self, decide_true, Bool.and_true, Bool.true_and, reduceCtorEq, not_true_eq_false, not_false_eq_true] at h); (try (exfalso; first | omega | with_reducible exact h (by assumption) | with_reducible exact absurd h (by assumption))))) | apply hw_skip | apply hw_ret) | (show HO _ _ _ _ _ _ _; first | apply ho_nil | refine g_q (qe S) ?_ | refine g_q (qt S) ?_ | refine g_q (qc8 S) ?_ | refine g_q (qc32 S) ?_ | refine ws S ?_ | refine wm S (fun b => ?_) | refine wM S (fun b => ?_)) | apply seqQ_normal | apply seqQ_ret | apply seqQ_exit | apply blkQ_here | refine g_bx ?_ | apply blkQ_ret | apply blkQ_normal | apply loopQ_ret | apply loopQ_exit | apply unQ_ret | apply unQ_exit | apply unQ_succ)
      refine g_q (qtx S (rd_bytes _ _ _ _) ?_) ?_
      · simp [zeros, numB_len]
      · repeat' (first | (show HW _ _ _ _ _ _; first | apply hw_seq | apply hw_region | apply hw_block | apply hw_exit | refine g_t ?_ | refine g_f ?_ | (refine g_b (fun h => ?_) (fun h => ?_) <;> ((try simp only [Bool.not_eq_eq_eq_not, Bool.not_true, Bool.not_false, decide_eq_true_eq, decide_eq_false_iff_not, Decidable.not_not, ne_eq, Bool.and_eq_true, beq_iff_eq, and_true, true_and, eq_self, decide_true, Bool.and_true, Bool.true_and, reduceCtorEq, not_true_eq_false, not_false_eq_true] at h); (try (exfalso; first | omega | with_reducible exact h (by assumption) | with_reducible exact absurd h (by assumption))))) | apply hw_skip | apply hw_ret) | (show HO _ _ _ _ _ _ _; first | apply ho_nil | refine g_q (qe S) ?_ | refine g_q (qt S) ?_ | refine g_q (qc8 S) ?_ | refine g_q (qc32 S) ?_ | refine ws S ?_ | refine wm S (fun b => ?_) | refine wM S (fun b => ?_)) | apply seqQ_normal | apply seqQ_ret | apply seqQ_exit | apply blkQ_here | refine g_bx ?_ | apply blkQ_ret | apply blkQ_normal | apply loopQ_ret | apply loopQ_exit | apply unQ_ret | apply unQ_exit | apply unQ_succ)
        refine fn_ret1 rfl rfl (List.sublist_cons_self _ _) ⟨?_, rfl⟩
        simp [zeros]
theorem jread_calls (s : List UInt8) (L : Heap) (hs : s.length ≤ 7) : HC Tryd.prog 94 [bs s] L (fun v L' => v = iv (rdN s) ∧ L' = L) := by
  refine hc_enter (fun _ _ => Tryd.call94 _ _) Tryd.func94 rfl Tryd.ntmps94 (Nat.le_of_ble_eq_true rfl) ?_; simp only [args0, Nat.reduceAdd]
  repeat' (first | (show HW _ _ _ _ _ _; first | apply hw_seq | apply hw_region | apply hw_block | apply hw_exit | refine g_t ?_ | refine g_f ?_ | (refine g_b (fun h => ?_) (fun h => ?_) <;> ((try simp only [Bool.not_eq_eq_eq_not, Bool.not_true, Bool.not_false, decide_eq_true_eq, decide_eq_false_iff_not, Decidable.not_not, ne_eq, Bool.and_eq_true, beq_iff_eq, and_true, true_and, eq_self, decide_true, Bool.and_true, Bool.true_and, reduceCtorEq, not_true_eq_false, not_false_eq_true] at h); (try (exfalso; first | omega | with_reducible exact h (by assumption) | with_reducible exact absurd h (by assumption))))) | apply hw_skip | apply hw_ret) | (show HO _ _ _ _ _ _ _; first | apply ho_nil | refine g_q (qe S) ?_ | refine g_q (qt S) ?_ | refine g_q (qc8 S) ?_ | refine g_q (qc32 S) ?_) | apply seqQ_normal | apply seqQ_ret | apply seqQ_exit | apply blkQ_here | refine g_bx ?_ | apply blkQ_ret | apply blkQ_normal | apply loopQ_ret | apply loopQ_exit | apply unQ_ret | apply unQ_exit | apply unQ_succ)
  refine hw_loop (σ := Nat) (fun i => [(0, bs s), (6, iv s.length), (7, iv i), (3, iv (rdN (s.take i)))]) (fun _ => L) (fun i => i ≤ s.length) (fun i => s.length - i) 0 (by repeat (first | exact trivial | refine ⟨rfl, ?_⟩)) (List.Sublist.refl _) (by omega) ?_
  intro i i1
  by_cases hlt : i < s.length
  · have hb := (s.getD (i : Int).toNat 0).toNat_lt
    have hr := rdN_lt (s.take i)
    have hr2 : rdN (s.take i) < 281474976710656 := by
      have : 256 ^ (s.take i).length ≤ 256 ^ 6 := Nat.pow_le_pow_right (by decide) (by simp; omega)
      omega
    repeat' (first | (show HW _ _ _ _ _ _; first | apply hw_seq | apply hw_region | apply hw_block | apply hw_exit | refine g_t ?_ | refine g_f ?_ | (refine g_b (fun h => ?_) (fun h => ?_) <;> ((try simp only [Bool.not_eq_eq_eq_not, Bool.not_true, Bool.not_false, decide_eq_true_eq, decide_eq_false_iff_not, Decidable.not_not, ne_eq, Bool.and_eq_true, beq_iff_eq, and_true, true_and, eq_self, decide_true, Bool.and_true, Bool.true_and, reduceCtorEq, not_true_eq_false, not_false_eq_true] at h); (try (exfalso; first | omega | with_reducible exact h (by assumption) | with_reducible exact absurd h (by assumption))))) | apply hw_skip | apply hw_ret) | (show HO _ _ _ _ _ _ _; first | apply ho_nil | refine g_q (qe S) ?_ | refine g_q (qt S) ?_ | refine g_q (qc8 S) ?_ | refine g_q (qc32 S) ?_) | apply seqQ_normal | apply seqQ_ret | apply seqQ_exit | apply blkQ_here | refine g_bx ?_ | apply blkQ_ret | apply blkQ_normal | apply loopQ_ret | apply loopQ_exit | apply unQ_ret | apply unQ_exit | apply unQ_succ)
    refine loopQ_normal (i + 1) ?_ (List.Sublist.refl _) (by omega) (by omega)
    have e : ((((rdN (s.take i) : Nat) : Int) * 2 ^ Int.toNat 8).toNat ||| (((s.getD (i : Int).toNat 0).toNat : Nat) : Int).toNat : Nat) = rdN (s.take (i + 1)) := by
      rw [List.take_succ_eq_append_getElem hlt, rdN_snoc]
      have e1 : (((rdN (s.take i) : Nat) : Int) * 2 ^ Int.toNat 8).toNat = (rdN (s.take i)) <<< 8 := by rw [Nat.shiftLeft_eq]; simp; omega
      have e2 : (((s.getD (i : Int).toNat 0).toNat : Nat) : Int).toNat = (s[i]).toNat := by simp [List.getD, hlt]
      rw [e1, e2, ← Nat.shiftLeft_add_eq_or_of_lt (s[i]).toNat_lt, Nat.shiftLeft_eq]
    rw [← e]
    repeat (first | exact trivial | refine ⟨rfl, ?_⟩)
  · repeat' (first | (show HW _ _ _ _ _ _; first | apply hw_seq | apply hw_region | apply hw_block | apply hw_exit | refine g_t ?_ | refine g_f ?_ | (refine g_b (fun h => ?_) (fun h => ?_) <;> ((try simp only [Bool.not_eq_eq_eq_not, Bool.not_true, Bool.not_false, decide_eq_true_eq, decide_eq_false_iff_not, Decidable.not_not, ne_eq, Bool.and_eq_true, beq_iff_eq, and_true, true_and, eq_self, decide_true, Bool.and_true, Bool.true_and, reduceCtorEq, not_true_eq_false, not_false_eq_true] at h); (try (exfalso; first | omega | with_reducible exact h (by assumption) | with_reducible exact absurd h (by assumption))))) | apply hw_skip | apply hw_ret) | (show HO _ _ _ _ _ _ _; first | apply ho_nil | refine g_q (qe S) ?_ | refine g_q (qt S) ?_ | refine g_q (qc8 S) ?_ | refine g_q (qc32 S) ?_) | apply seqQ_normal | apply seqQ_ret | apply seqQ_exit | apply blkQ_here | refine g_bx ?_ | apply blkQ_ret | apply blkQ_normal | apply loopQ_ret | apply loopQ_exit | apply unQ_ret | apply unQ_exit | apply unQ_succ)
    have hi : i = s.length := by omega
    subst hi
    (refine fn_ret1 rfl rfl ?_ ⟨?_, rfl⟩; (next => (repeat (first | exact List.Sublist.refl _ | apply List.Sublist.cons))))
    rw [List.take_length]
theorem body_calls (e : Ent) (L : Heap) : HC Tryd.prog 135 [.agg ⟨enL e⟩] L (fun v L' => v = bs (bodyM e) ∧ L' = L) := by
  have k1 : ∀ L, HC Tryd.prog 90 [iv e.n, iv 4] L (fun v L' => v = bs (numB e.n 4) ∧ L' = L) := fun L => number_calls e.n 4 L (by decide)
  have k2 : ∀ L, HC Tryd.prog 90 [iv e.s.ph, iv 1] L (fun v L' => v = bs (numB e.s.ph 1) ∧ L' = L) := fun L => number_calls e.s.ph 1 L (by decide)
  have k3 : ∀ L, HC Tryd.prog 90 [iv e.s.pr, iv 4] L (fun v L' => v = bs (numB e.s.pr 4) ∧ L' = L) := fun L => number_calls e.s.pr 4 L (by decide)
  have k4 : ∀ L, HC Tryd.prog 90 [iv e.s.att, iv 4] L (fun v L' => v = bs (numB e.s.att 4) ∧ L' = L) := fun L => number_calls e.s.att 4 L (by decide)
  have k5 : ∀ L, HC Tryd.prog 90 [iv (crc (head e)), iv 4] L (fun v L' => v = bs (numB (crc (head e)) 4) ∧ L' = L) := fun L => number_calls _ 4 L (by decide)
  have k6 : ∀ L, HC Tryd.prog 92 [bs (head e)] L (fun v L' => v = iv (crc (head e)) ∧ L' = L) := fun L => jsum_calls _ L (by simp [head, numB_len])
  have n1 := numB_len e.n 4
  have n2 := numB_len e.s.ph 1
  have n3 := numB_len e.s.pr 4
  have n4 := numB_len e.s.att 4
  have n5 := numB_len (crc (head e)) 4
  refine hc_enter (fun _ _ => Tryd.call135 _ _) Tryd.func135 rfl Tryd.ntmps135 (Nat.le_of_ble_eq_true rfl) ?_; simp only [args0, Nat.reduceAdd]
  repeat' (first | (show HW _ _ _ _ _ _; first | apply hw_seq | apply hw_region | apply hw_ret | refine g_k S ?_) | (show HO _ _ _ _ _ _ _; first | apply ho_nil | refine g_q (qe S) ?_ | refine g_q (ql S) ?_ | refine g_q (qC (k1 _)) ?_ | refine g_q (qC (k2 _)) ?_ | refine g_q (qC (k3 _)) ?_ | refine g_q (qC (k4 _)) ?_ | refine g_q (qC (k5 _)) ?_ | refine g_q (qC (k6 _)) ?_ | refine wb (fun b => ?_)) | (show HQ _ _ _ _ _ _ _; first | apply hq_nil | refine k_q (qe S) ?_ | refine k_q (ql S) ?_ | refine k_q (qC (k1 _)) ?_ | refine k_q (qC (k2 _)) ?_ | refine k_q (qC (k3 _)) ?_ | refine k_q (qC (k4 _)) ?_ | refine k_q (qC (k5 _)) ?_ | refine k_q (qC (k6 _)) ?_) | apply seqQ_normal | apply seqQ_ret)
  refine fn_ret1 rfl rfl (List.sublist_cons_self _ _) ⟨?_, rfl⟩
  simp [bodyM, head]
def commitB : List UInt8 := [165]
def heldM (k : Int) (s : List UInt8) : Ent :=
  let e : Ent := ⟨rdN (s.take 4), rdN ((s.take 5).drop 4), rdN ((s.take 9).drop 5), rdN ((s.take 13).drop 9)⟩
  if e.n < 1 ∨ e.n % 2 ≠ k ∨ bodyM e ++ commitB ≠ s then ⟨0, 0, 0, 0⟩ else e
def parse (s : List UInt8) : Ent := ⟨rdN (s.take 4), rdN ((s.take 5).drop 4), rdN ((s.take 9).drop 5), rdN ((s.take 13).drop 9)⟩
theorem heldM_eq (k : Int) (s : List UInt8) : heldM k s = if (parse s).n < 1 ∨ (parse s).n % 2 ≠ k ∨ bodyM (parse s) ++ commitB ≠ s then ⟨0, 0, 0, 0⟩ else parse s := rfl
theorem held_calls (k : Int) (s : List UInt8) (L : Heap) (hs : s.length = 18) : HC Tryd.prog 104 [iv k, bs s] L (fun v L' => v = .agg ⟨enL (heldM k s)⟩ ∧ L' = L) := by
  have k1 : ∀ L, HC Tryd.prog 94 [bs (s.take 4)] L (fun v L' => v = iv (rdN (s.take 4)) ∧ L' = L) := fun L => jread_calls _ L (by simp; omega)
  have k2 : ∀ L, HC Tryd.prog 94 [bs ((s.take 5).drop 4)] L (fun v L' => v = iv (rdN ((s.take 5).drop 4)) ∧ L' = L) := fun L => jread_calls _ L (by simp; omega)
  have k3 : ∀ L, HC Tryd.prog 94 [bs ((s.take 9).drop 5)] L (fun v L' => v = iv (rdN ((s.take 9).drop 5)) ∧ L' = L) := fun L => jread_calls _ L (by simp; omega)
  have k4 : ∀ L, HC Tryd.prog 94 [bs ((s.take 13).drop 9)] L (fun v L' => v = iv (rdN ((s.take 13).drop 9)) ∧ L' = L) := fun L => jread_calls _ L (by simp; omega)
  have k5 : ∀ L, HC Tryd.prog 135 [.agg ⟨[iv (rdN (s.take 4)), iv (rdN ((s.take 5).drop 4)), iv (rdN ((s.take 9).drop 5)), iv (rdN ((s.take 13).drop 9))]⟩] L (fun v L' => v = bs (bodyM (parse s)) ∧ L' = L) := fun L => body_calls (parse s) L
  have hn : rdN (s.take 4) < 4294967296 := by
    have := rdN_lt (s.take 4)
    rwa [show (s.take 4).length = 4 by simp; omega] at this
  have hb : (bodyM (parse s)).length = 17 := by simp [bodyM, head, numB_len]
  rw [heldM_eq]
  refine hc_enter (fun _ _ => Tryd.call104 _ _) Tryd.func104 rfl Tryd.ntmps104 (Nat.le_of_ble_eq_true rfl) ?_; simp only [args0, Nat.reduceAdd]
  repeat' (first | (show HW _ _ _ _ _ _; first | apply hw_seq | apply hw_region | refine g_t ?_ | refine g_f ?_ | (refine g_b (fun h => ?_) (fun h => ?_) <;> ((try simp only [Bool.not_eq_eq_eq_not, Bool.not_true, Bool.not_false, decide_eq_true_eq, decide_eq_false_iff_not, Decidable.not_not, ne_eq, Bool.and_eq_true, beq_iff_eq, and_true, true_and, eq_self, decide_true, Bool.and_true, Bool.true_and, reduceCtorEq, not_true_eq_false, not_false_eq_true] at h); (try (exfalso; first | omega | with_reducible exact h (by assumption) | with_reducible exact absurd h (by assumption))))) | apply hw_skip | apply hw_ret | refine g_k S ?_ | refine g_w S ?_) | (show HO _ _ _ _ _ _ _; first | apply ho_nil | refine g_q (qe S) ?_ | refine g_q (ql S) ?_ | refine g_q (qs S) ?_ | refine g_q (qb S) ?_ | refine g_q (qbA S) ?_ | refine g_q (qSl S) ?_ | refine g_q (qSh S) ?_ | refine g_q (qSb S) ?_ | refine g_q (qC (k1 _)) ?_ | refine g_q (qC (k2 _)) ?_ | refine g_q (qC (k3 _)) ?_ | refine g_q (qC (k4 _)) ?_ | refine g_q (qC (k5 _)) ?_ | refine g_n ?_ | refine g_on ?_ | (refine g_s (fun h => ?_) (fun h => ?_) <;> ((try simp only [Bool.not_eq_eq_eq_not, Bool.not_true, Bool.not_false, decide_eq_true_eq, decide_eq_false_iff_not, Decidable.not_not, ne_eq, Bool.and_eq_true, beq_iff_eq, and_true, true_and, eq_self, decide_true, Bool.and_true, Bool.true_and, reduceCtorEq, not_true_eq_false, not_false_eq_true] at h); (try (exfalso; first | omega | with_reducible exact h (by assumption) | with_reducible exact absurd h (by assumption))))) | refine wa S (fun b => ?_) | refine ws S ?_) | (show HQ _ _ _ _ _ _ _; first | apply hq_nil | refine k_q (qe S) ?_ | refine k_q (ql S) ?_ | refine k_q (qs S) ?_ | refine k_q (qb S) ?_ | refine k_q (qbA S) ?_ | refine k_q (qSl S) ?_ | refine k_q (qSh S) ?_ | refine k_q (qSb S) ?_ | refine k_q (qC (k1 _)) ?_ | refine k_q (qC (k2 _)) ?_ | refine k_q (qC (k3 _)) ?_ | refine k_q (qC (k4 _)) ?_ | refine k_q (qC (k5 _)) ?_ | refine k_n ?_ | (refine k_s (fun h => ?_) (fun h => ?_) <;> ((try simp only [Bool.not_eq_eq_eq_not, Bool.not_true, Bool.not_false, decide_eq_true_eq, decide_eq_false_iff_not, Decidable.not_not, ne_eq, Bool.and_eq_true, beq_iff_eq, and_true, true_and, eq_self, decide_true, Bool.and_true, Bool.true_and, reduceCtorEq, not_true_eq_false, not_false_eq_true] at h); (try (exfalso; first | omega | with_reducible exact h (by assumption) | with_reducible exact absurd h (by assumption)))))) | (show HD _ _ _ _ _ _ _ _; first | apply hd_nil | refine d_q 100 (by exact rfl) (fun _ => qe S) ?_ | refine d_q 100 (by exact rfl) (fun _ => qb S) ?_ | refine d_q 100 (by exact rfl) (fun _ => qbA S) ?_ | refine d_q 100 (by exact rfl) (fun _ => qSl S) ?_ | refine d_q 100 (by exact rfl) (fun _ => qSh S) ?_ | refine d_q 100 (by exact rfl) (fun _ => qSb S) ?_ | refine dl S 100 ?_ | refine ds S 100 ?_ | refine d_n 100 ?_ | (refine d_sp 100 (fun h => ?_) (fun h => ?_) <;> ((try simp only [Bool.not_eq_eq_eq_not, Bool.not_true, Bool.not_false, decide_eq_true_eq, decide_eq_false_iff_not, Decidable.not_not, ne_eq, Bool.and_eq_true, beq_iff_eq, and_true, true_and, eq_self, decide_true, Bool.and_true, Bool.true_and, reduceCtorEq, not_true_eq_false, not_false_eq_true] at h); (try (exfalso; first | omega | with_reducible exact h (by assumption) | with_reducible exact absurd h (by assumption))))) | refine d_q 0 (by exact rfl) (fun _ => qC (k1 _)) ?_ | refine d_q 1 (by exact rfl) (fun _ => qC (k1 _)) ?_ | refine d_q 2 (by exact rfl) (fun _ => qC (k1 _)) ?_ | refine d_q 3 (by exact rfl) (fun _ => qC (k1 _)) ?_ | refine d_q 0 (by exact rfl) (fun _ => qC (k2 _)) ?_ | refine d_q 1 (by exact rfl) (fun _ => qC (k2 _)) ?_ | refine d_q 2 (by exact rfl) (fun _ => qC (k2 _)) ?_ | refine d_q 3 (by exact rfl) (fun _ => qC (k2 _)) ?_ | refine d_q 0 (by exact rfl) (fun _ => qC (k3 _)) ?_ | refine d_q 1 (by exact rfl) (fun _ => qC (k3 _)) ?_ | refine d_q 2 (by exact rfl) (fun _ => qC (k3 _)) ?_ | refine d_q 3 (by exact rfl) (fun _ => qC (k3 _)) ?_ | refine d_q 0 (by exact rfl) (fun _ => qC (k4 _)) ?_ | refine d_q 1 (by exact rfl) (fun _ => qC (k4 _)) ?_ | refine d_q 2 (by exact rfl) (fun _ => qC (k4 _)) ?_ | refine d_q 3 (by exact rfl) (fun _ => qC (k4 _)) ?_ | refine d_q 0 (by exact rfl) (fun _ => qC (k5 _)) ?_ | refine d_q 1 (by exact rfl) (fun _ => qC (k5 _)) ?_ | refine d_q 2 (by exact rfl) (fun _ => qC (k5 _)) ?_ | refine d_q 3 (by exact rfl) (fun _ => qC (k5 _)) ?_ | refine da 101 ?_) | refine dx ?_ | apply dx0 | refine dxd ?_ | refine dxk ?_ | apply seqQ_normal | apply seqQ_ret)
  all_goals refine sp1 (LS.skip _ (LS.skip _ (LS.refl _))) ⟨?_, rfl⟩ (hv := rcell S (hg := gets_cons rfl (gets_cons rfl (gets_cons rfl (gets_cons rfl gets_nil)))))
  · rw [if_pos (.inl h)]; rfl
  · rw [if_pos (.inr (.inl h))]; rfl
  · rw [if_pos (.inr (.inr h))]; rfl
  · rename_i h1 h2
    rw [if_neg (fun h0 => h0.elim h1 (fun h0 => h0.elim (fun h0 => h0 h2) (fun h0 => h0 h)))]; rfl
end Go.HL
