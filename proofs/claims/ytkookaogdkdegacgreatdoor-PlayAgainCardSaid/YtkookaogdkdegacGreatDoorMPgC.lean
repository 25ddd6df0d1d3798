/- Texts laid into one, without what the claim does not use. Conditions: none. -/
import Derived.Test.YtkookaogdkdegacGreatDoorMPgB
/-! JnB -/
section
namespace Go.HL
open Go Go.Proofs
set_option linter.unusedVariables false
set_option linter.unusedSimpArgs false

theorem rd_bytes (b E : Nat) (l : List UInt8) (L : Heap) : Rd uc 1 ([(b, .cells ⟨l.map u8⟩ E)] :: L) (some ⟨b, 0, none⟩) l := by
  refine .inr ⟨b, 0, l.map u8, E, (0, 0), rfl, has_here, fun k x hx => ?_⟩
  have := gets_row (enc := uc) (sz := 1) (fun _ => rfl) l [] [] k x hx
  simpa [u8_flat] using this
theorem zeros_set (n i : Nat) (x : Int) (h : i < n) : (zeros (n - i) ++ numB x i).set (n - 1 - i) (bt x i) = zeros (n - (i + 1)) ++ numB x (i + 1) := by
  have e : zeros (n - i) = zeros (n - (i + 1)) ++ [0] := by
    rw [show n - i = (n - (i + 1)) + 1 by omega]
    simp [zeros, List.replicate_succ']
  rw [e, List.append_assoc, List.set_append_right _ _ (by simp [zeros]; omega)]
  simp [zeros, numB, show n - 1 - i - (n - (i + 1)) = 0 by omega]
structure Ent where
  n : Int
  s : St
def enL (e : Ent) : List Value := [iv e.n, iv e.s.ph, iv e.s.pr, iv e.s.att]
def head (e : Ent) : List UInt8 := numB e.n 4 ++ numB e.s.ph 1 ++ numB e.s.pr 4 ++ numB e.s.att 4
def bodyM (e : Ent) : List UInt8 := head e ++ numB (crc (head e)) 4
attribute [local irreducible] HW HO HQ HD HC QOp Has Upd Puts Gets seqQ blkQ loopQ fnQ actQ nextP unQ MapF
theorem number_calls (n : Int) (many : Nat) (L : Heap) (hm : many ≤ 8) : HC Tryz.prog 284 [iv n, iv many] L (fun v L' => v = bs (numB n many) ∧ L' = L) := by
  refine hc_enter (fun _ _ => Tryz.call284 _ _) Tryz.func284 rfl Tryz.ntmps284 (Nat.le_of_ble_eq_true rfl) ?_; simp only [args0, Nat.reduceAdd]
  repeat' (first | (show HW _ _ _ _ _ _; first | apply hw_seq | apply hw_region | apply hw_block | apply hw_exit | refine g_t ?_ | refine g_f ?_ | apply hw_skip | apply hw_ret) | (show HO _ _ _ _ _ _ _; first | apply ho_nil | refine g_q (qe S) ?_ | refine g_q (qt S) ?_ | refine g_q (qc8 S) ?_ | refine g_q (qc32 S) ?_ | refine ws S ?_ | refine wm S (fun b => ?_) | refine wM S (fun b => ?_)) | ((first | refine g_b (fun h => ?_) (fun h => ?_)) <;> ((try simp only [zA, zB, zC, zD, zE, zF, ne_eq, zG, zH, and_true, true_and, eq_self, zI, zJ, zK, reduceCtorEq, zL, zM] at h); (try (exfalso; first | omega | with_reducible exact h (by assumption) | with_reducible exact absurd h (by assumption))))) | apply seqQ_normal | apply seqQ_ret | apply seqQ_exit | apply blkQ_here | refine g_bx ?_ | apply blkQ_ret | apply blkQ_normal | apply loopQ_ret | apply loopQ_exit | apply unQ_ret | apply unQ_exit | apply unQ_succ)
  refine hw_loop (σ := Nat) (fun i => [(0, iv n), (1, iv many), (5, sl b 0 many many), (9, iv many), (10, iv i)]) (fun i => [(b, .cells ⟨(zeros (many - i) ++ numB n i).map u8⟩ 5)] :: L) (fun i => i ≤ many) (fun i => many - i) 0 (by repeat (first | exact trivial | refine ⟨rfl, ?_⟩)) ?_ (by omega) ?_
  · simp [numB, u8_zeros, zeros, u8]
  · intro i i1
    by_cases hlt : i < many
    · have hP : Puts ((zeros (many - i) ++ numB n i).map u8) (0 + ((many : Int) - 1 - (i : Int)).toNat) [.int .u8 (n / 2 ^ (8 * (i : Int)).toNat % 256)] ((zeros (many - (i + 1)) ++ numB n (i + 1)).map u8) := by
        rw [← zeros_set many i n hlt, List.map_set]
        have e : 0 + ((many : Int) - 1 - (i : Int)).toNat = many - 1 - i := by omega
        have e2 : (8 * (i : Int)).toNat = 8 * i := by omega
        have e3 : Value.int .u8 (n / 2 ^ (8 * (i : Int)).toNat % 256) = u8 (bt n i) := by unfold u8; rw [bt_val, e2]
        rw [e, e3]
        exact puts_set (by simp [zeros, numB_len]; omega)
      repeat' (first | (show HW _ _ _ _ _ _; first | apply hw_seq | apply hw_region | apply hw_block | apply hw_exit | refine g_t ?_ | refine g_f ?_ | apply hw_skip | apply hw_ret) | (show HO _ _ _ _ _ _ _; first | apply ho_nil | refine g_q (qe S) ?_ | refine g_q (qt S) ?_ | refine g_q (qc8 S) ?_ | refine g_q (qc32 S) ?_ | refine ws S ?_ | refine wm S (fun b => ?_) | refine wM S (fun b => ?_)) | ((first | refine g_b (fun h => ?_) (fun h => ?_)) <;> ((try simp only [zA, zB, zC, zD, zE, zF, ne_eq, zG, zH, and_true, true_and, eq_self, zI, zJ, zK, reduceCtorEq, zL, zM] at h); (try (exfalso; first | omega | with_reducible exact h (by assumption) | with_reducible exact absurd h (by assumption))))) | apply seqQ_normal | apply seqQ_ret | apply seqQ_exit | apply blkQ_here | refine g_bx ?_ | apply blkQ_ret | apply blkQ_normal | apply loopQ_ret | apply loopQ_exit | apply unQ_ret | apply unQ_exit | apply unQ_succ)
      refine loopQ_normal (i + 1) (by repeat (first | exact trivial | refine ⟨rfl, ?_⟩)) (List.Sublist.refl _) (by omega) (by omega)
    · have hi : i = many := by omega
      subst hi
      repeat' (first | (show HW _ _ _ _ _ _; first | apply hw_seq | apply hw_region | apply hw_block | apply hw_exit | refine g_t ?_ | refine g_f ?_ | apply hw_skip | apply hw_ret) | (show HO _ _ _ _ _ _ _; first | apply ho_nil | refine g_q (qe S) ?_ | refine g_q (qt S) ?_ | refine g_q (qc8 S) ?_ | refine g_q (qc32 S) ?_ | refine ws S ?_ | refine wm S (fun b => ?_) | refine wM S (fun b => ?_)) | ((first | refine g_b (fun h => ?_) (fun h => ?_)) <;> ((try simp only [zA, zB, zC, zD, zE, zF, ne_eq, zG, zH, and_true, true_and, eq_self, zI, zJ, zK, reduceCtorEq, zL, zM] at h); (try (exfalso; first | omega | with_reducible exact h (by assumption) | with_reducible exact absurd h (by assumption))))) | apply seqQ_normal | apply seqQ_ret | apply seqQ_exit | apply blkQ_here | refine g_bx ?_ | apply blkQ_ret | apply blkQ_normal | apply loopQ_ret | apply loopQ_exit | apply unQ_ret | apply unQ_exit | apply unQ_succ)
      refine g_q (qtx S (rd_bytes _ _ _ _) ?_) ?_
      · simp [zeros, numB_len]
      · repeat' (first | (show HW _ _ _ _ _ _; first | apply hw_seq | apply hw_region | apply hw_block | apply hw_exit | refine g_t ?_ | refine g_f ?_ | apply hw_skip | apply hw_ret) | (show HO _ _ _ _ _ _ _; first | apply ho_nil | refine g_q (qe S) ?_ | refine g_q (qt S) ?_ | refine g_q (qc8 S) ?_ | refine g_q (qc32 S) ?_ | refine ws S ?_ | refine wm S (fun b => ?_) | refine wM S (fun b => ?_)) | ((first | refine g_b (fun h => ?_) (fun h => ?_)) <;> ((try simp only [zA, zB, zC, zD, zE, zF, ne_eq, zG, zH, and_true, true_and, eq_self, zI, zJ, zK, reduceCtorEq, zL, zM] at h); (try (exfalso; first | omega | with_reducible exact h (by assumption) | with_reducible exact absurd h (by assumption))))) | apply seqQ_normal | apply seqQ_ret | apply seqQ_exit | apply blkQ_here | refine g_bx ?_ | apply blkQ_ret | apply blkQ_normal | apply loopQ_ret | apply loopQ_exit | apply unQ_ret | apply unQ_exit | apply unQ_succ)
        refine fn_ret1 rfl rfl (List.sublist_cons_self _ _) ⟨?_, rfl⟩
        simp [zeros]
theorem jread_calls (s : List UInt8) (L : Heap) (hs : s.length ≤ 7) : HC Tryz.prog 206 [bs s] L (fun v L' => v = iv (rdN s) ∧ L' = L) := by
  refine hc_enter (fun _ _ => Tryz.call206 _ _) Tryz.func206 rfl Tryz.ntmps206 (Nat.le_of_ble_eq_true rfl) ?_; simp only [args0, Nat.reduceAdd]
  repeat' (first | (show HW _ _ _ _ _ _; first | apply hw_seq | apply hw_region | apply hw_block | apply hw_exit | refine g_t ?_ | refine g_f ?_ | apply hw_skip | apply hw_ret) | (show HO _ _ _ _ _ _ _; first | apply ho_nil | refine g_q (qe S) ?_ | refine g_q (qt S) ?_ | refine g_q (qc8 S) ?_ | refine g_q (qc32 S) ?_) | ((first | refine g_b (fun h => ?_) (fun h => ?_)) <;> ((try simp only [zA, zB, zC, zD, zE, zF, ne_eq, zG, zH, and_true, true_and, eq_self, zI, zJ, zK, reduceCtorEq, zL, zM] at h); (try (exfalso; first | omega | with_reducible exact h (by assumption) | with_reducible exact absurd h (by assumption))))) | apply seqQ_normal | apply seqQ_ret | apply seqQ_exit | apply blkQ_here | refine g_bx ?_ | apply blkQ_ret | apply blkQ_normal | apply loopQ_ret | apply loopQ_exit | apply unQ_ret | apply unQ_exit | apply unQ_succ)
  refine hw_loop (σ := Nat) (fun i => [(0, bs s), (6, iv s.length), (7, iv i), (3, iv (rdN (s.take i)))]) (fun _ => L) (fun i => i ≤ s.length) (fun i => s.length - i) 0 (by repeat (first | exact trivial | refine ⟨rfl, ?_⟩)) (List.Sublist.refl _) (by omega) ?_
  intro i i1
  by_cases hlt : i < s.length
  · have hb := (s.getD (i : Int).toNat 0).toNat_lt
    have hr := rdN_lt (s.take i)
    have hr2 : rdN (s.take i) < 281474976710656 := by
      have : 256 ^ (s.take i).length ≤ 256 ^ 6 := Nat.pow_le_pow_right (by decide) (by simp; omega)
      omega
    repeat' (first | (show HW _ _ _ _ _ _; first | apply hw_seq | apply hw_region | apply hw_block | apply hw_exit | refine g_t ?_ | refine g_f ?_ | apply hw_skip | apply hw_ret) | (show HO _ _ _ _ _ _ _; first | apply ho_nil | refine g_q (qe S) ?_ | refine g_q (qt S) ?_ | refine g_q (qc8 S) ?_ | refine g_q (qc32 S) ?_) | ((first | refine g_b (fun h => ?_) (fun h => ?_)) <;> ((try simp only [zA, zB, zC, zD, zE, zF, ne_eq, zG, zH, and_true, true_and, eq_self, zI, zJ, zK, reduceCtorEq, zL, zM] at h); (try (exfalso; first | omega | with_reducible exact h (by assumption) | with_reducible exact absurd h (by assumption))))) | apply seqQ_normal | apply seqQ_ret | apply seqQ_exit | apply blkQ_here | refine g_bx ?_ | apply blkQ_ret | apply blkQ_normal | apply loopQ_ret | apply loopQ_exit | apply unQ_ret | apply unQ_exit | apply unQ_succ)
    refine loopQ_normal (i + 1) ?_ (List.Sublist.refl _) (by omega) (by omega)
    have e : ((((rdN (s.take i) : Nat) : Int) * 2 ^ Int.toNat 8).toNat ||| (((s.getD (i : Int).toNat 0).toNat : Nat) : Int).toNat : Nat) = rdN (s.take (i + 1)) := by
      rw [List.take_succ_eq_append_getElem hlt, rdN_snoc]
      have e1 : (((rdN (s.take i) : Nat) : Int) * 2 ^ Int.toNat 8).toNat = (rdN (s.take i)) <<< 8 := by rw [Nat.shiftLeft_eq]; simp; omega
      have e2 : (((s.getD (i : Int).toNat 0).toNat : Nat) : Int).toNat = (s[i]).toNat := by simp [List.getD, hlt]
      rw [e1, e2, ← Nat.shiftLeft_add_eq_or_of_lt (s[i]).toNat_lt, Nat.shiftLeft_eq]
    rw [← e]
    repeat (first | exact trivial | refine ⟨rfl, ?_⟩)
  · repeat' (first | (show HW _ _ _ _ _ _; first | apply hw_seq | apply hw_region | apply hw_block | apply hw_exit | refine g_t ?_ | refine g_f ?_ | apply hw_skip | apply hw_ret) | (show HO _ _ _ _ _ _ _; first | apply ho_nil | refine g_q (qe S) ?_ | refine g_q (qt S) ?_ | refine g_q (qc8 S) ?_ | refine g_q (qc32 S) ?_) | ((first | refine g_b (fun h => ?_) (fun h => ?_)) <;> ((try simp only [zA, zB, zC, zD, zE, zF, ne_eq, zG, zH, and_true, true_and, eq_self, zI, zJ, zK, reduceCtorEq, zL, zM] at h); (try (exfalso; first | omega | with_reducible exact h (by assumption) | with_reducible exact absurd h (by assumption))))) | apply seqQ_normal | apply seqQ_ret | apply seqQ_exit | apply blkQ_here | refine g_bx ?_ | apply blkQ_ret | apply blkQ_normal | apply loopQ_ret | apply loopQ_exit | apply unQ_ret | apply unQ_exit | apply unQ_succ)
    have hi : i = s.length := by omega
    subst hi
    (refine fn_ret1 rfl rfl ?_ ⟨?_, rfl⟩; (next => (repeat (first | exact List.Sublist.refl _ | apply List.Sublist.cons))))
    rw [List.take_length]
theorem body_calls (e : Ent) (L : Heap) : HC Tryz.prog 252 [.agg ⟨enL e⟩] L (fun v L' => v = bs (bodyM e) ∧ L' = L) := by
  have k1 : ∀ L, HC Tryz.prog 284 [iv e.n, iv 4] L (fun v L' => v = bs (numB e.n 4) ∧ L' = L) := fun L => number_calls e.n 4 L (by decide)
  have k2 : ∀ L, HC Tryz.prog 284 [iv e.s.ph, iv 1] L (fun v L' => v = bs (numB e.s.ph 1) ∧ L' = L) := fun L => number_calls e.s.ph 1 L (by decide)
  have k3 : ∀ L, HC Tryz.prog 284 [iv e.s.pr, iv 4] L (fun v L' => v = bs (numB e.s.pr 4) ∧ L' = L) := fun L => number_calls e.s.pr 4 L (by decide)
  have k4 : ∀ L, HC Tryz.prog 284 [iv e.s.att, iv 4] L (fun v L' => v = bs (numB e.s.att 4) ∧ L' = L) := fun L => number_calls e.s.att 4 L (by decide)
  have k5 : ∀ L, HC Tryz.prog 284 [iv (crc (head e)), iv 4] L (fun v L' => v = bs (numB (crc (head e)) 4) ∧ L' = L) := fun L => number_calls _ 4 L (by decide)
  have k6 : ∀ L, HC Tryz.prog 204 [bs (head e)] L (fun v L' => v = iv (crc (head e)) ∧ L' = L) := fun L => jsum_calls _ L (by simp [head, numB_len])
  have n1 := numB_len e.n 4
  have n2 := numB_len e.s.ph 1
  have n3 := numB_len e.s.pr 4
  have n4 := numB_len e.s.att 4
  have n5 := numB_len (crc (head e)) 4
  refine hc_enter (fun _ _ => Tryz.call252 _ _) Tryz.func252 rfl Tryz.ntmps252 (Nat.le_of_ble_eq_true rfl) ?_; simp only [args0, Nat.reduceAdd]
  repeat' (first | (show HW _ _ _ _ _ _; first | apply hw_seq | apply hw_region | apply hw_ret | refine g_k S ?_) | (show HO _ _ _ _ _ _ _; first | apply ho_nil | refine g_q (qe S) ?_ | refine g_q (ql S) ?_ | refine g_q (qC (k1 _)) ?_ | refine g_q (qC (k2 _)) ?_ | refine g_q (qC (k3 _)) ?_ | refine g_q (qC (k4 _)) ?_ | refine g_q (qC (k5 _)) ?_ | refine g_q (qC (k6 _)) ?_ | refine wb (fun b => ?_)) | (show HQ _ _ _ _ _ _ _; first | apply hq_nil | refine k_q (qe S) ?_ | refine k_q (ql S) ?_ | refine k_q (qC (k1 _)) ?_ | refine k_q (qC (k2 _)) ?_ | refine k_q (qC (k3 _)) ?_ | refine k_q (qC (k4 _)) ?_ | refine k_q (qC (k5 _)) ?_ | refine k_q (qC (k6 _)) ?_) | apply seqQ_normal | apply seqQ_ret)
  refine fn_ret1 rfl rfl (List.sublist_cons_self _ _) ⟨?_, rfl⟩
  simp [bodyM, head]
def commitB : List UInt8 := [165]
def heldM (k : Int) (s : List UInt8) : Ent :=
  let e : Ent := ⟨rdN (s.take 4), rdN ((s.take 5).drop 4), rdN ((s.take 9).drop 5), rdN ((s.take 13).drop 9)⟩
  if e.n < 1 ∨ e.n % 2 ≠ k ∨ bodyM e ++ commitB ≠ s then ⟨0, 0, 0, 0⟩ else e
def parse (s : List UInt8) : Ent := ⟨rdN (s.take 4), rdN ((s.take 5).drop 4), rdN ((s.take 9).drop 5), rdN ((s.take 13).drop 9)⟩
theorem heldM_eq (k : Int) (s : List UInt8) : heldM k s = if (parse s).n < 1 ∨ (parse s).n % 2 ≠ k ∨ bodyM (parse s) ++ commitB ≠ s then ⟨0, 0, 0, 0⟩ else parse s := rfl
theorem held_calls (k : Int) (s : List UInt8) (L : Heap) (hs : s.length = 18) : HC Tryz.prog 177 [iv k, bs s] L (fun v L' => v = .agg ⟨enL (heldM k s)⟩ ∧ L' = L) := by
  have k1 : ∀ L, HC Tryz.prog 206 [bs (s.take 4)] L (fun v L' => v = iv (rdN (s.take 4)) ∧ L' = L) := fun L => jread_calls _ L (by simp; omega)
  have k2 : ∀ L, HC Tryz.prog 206 [bs ((s.take 5).drop 4)] L (fun v L' => v = iv (rdN ((s.take 5).drop 4)) ∧ L' = L) := fun L => jread_calls _ L (by simp; omega)
  have k3 : ∀ L, HC Tryz.prog 206 [bs ((s.take 9).drop 5)] L (fun v L' => v = iv (rdN ((s.take 9).drop 5)) ∧ L' = L) := fun L => jread_calls _ L (by simp; omega)
  have k4 : ∀ L, HC Tryz.prog 206 [bs ((s.take 13).drop 9)] L (fun v L' => v = iv (rdN ((s.take 13).drop 9)) ∧ L' = L) := fun L => jread_calls _ L (by simp; omega)
  have k5 : ∀ L, HC Tryz.prog 252 [.agg ⟨[iv (rdN (s.take 4)), iv (rdN ((s.take 5).drop 4)), iv (rdN ((s.take 9).drop 5)), iv (rdN ((s.take 13).drop 9))]⟩] L (fun v L' => v = bs (bodyM (parse s)) ∧ L' = L) := fun L => body_calls (parse s) L
  have hn : rdN (s.take 4) < 4294967296 := by
    have := rdN_lt (s.take 4)
    rwa [show (s.take 4).length = 4 by simp; omega] at this
  have hb : (bodyM (parse s)).length = 17 := by simp [bodyM, head, numB_len]
  rw [heldM_eq]
  refine hc_enter (fun _ _ => Tryz.call177 _ _) Tryz.func177 rfl Tryz.ntmps177 (Nat.le_of_ble_eq_true rfl) ?_; simp only [args0, Nat.reduceAdd]
  repeat' (first | (show HW _ _ _ _ _ _; first | apply hw_seq | apply hw_region | refine g_t ?_ | refine g_f ?_ | apply hw_skip | apply hw_ret | refine g_k S ?_ | refine g_w S ?_) | (show HO _ _ _ _ _ _ _; first | apply ho_nil | refine g_q (qe S) ?_ | refine g_q (ql S) ?_ | refine g_q (qs S) ?_ | refine g_q (qb S) ?_ | refine g_q (qbA S) ?_ | refine g_q (qSl S) ?_ | refine g_q (qSh S) ?_ | refine g_q (qSb S) ?_ | refine g_q (qC (k1 _)) ?_ | refine g_q (qC (k2 _)) ?_ | refine g_q (qC (k3 _)) ?_ | refine g_q (qC (k4 _)) ?_ | refine g_q (qC (k5 _)) ?_ | refine g_n ?_ | refine g_on ?_ | refine wa S (fun b => ?_) | refine ws S ?_) | (show HQ _ _ _ _ _ _ _; first | apply hq_nil | refine k_q (qe S) ?_ | refine k_q (ql S) ?_ | refine k_q (qs S) ?_ | refine k_q (qb S) ?_ | refine k_q (qbA S) ?_ | refine k_q (qSl S) ?_ | refine k_q (qSh S) ?_ | refine k_q (qSb S) ?_ | refine k_q (qC (k1 _)) ?_ | refine k_q (qC (k2 _)) ?_ | refine k_q (qC (k3 _)) ?_ | refine k_q (qC (k4 _)) ?_ | refine k_q (qC (k5 _)) ?_ | refine k_n ?_) | (show HD _ _ _ _ _ _ _ _; first | apply hd_nil | refine d_q 100 (by exact rfl) (fun _ => qe S) ?_ | refine d_q 100 (by exact rfl) (fun _ => qb S) ?_ | refine d_q 100 (by exact rfl) (fun _ => qbA S) ?_ | refine d_q 100 (by exact rfl) (fun _ => qSl S) ?_ | refine d_q 100 (by exact rfl) (fun _ => qSh S) ?_ | refine d_q 100 (by exact rfl) (fun _ => qSb S) ?_ | refine dl S 100 ?_ | refine ds S 100 ?_ | refine d_n 100 ?_ | refine d_q 0 (by exact rfl) (fun _ => qC (k1 _)) ?_ | refine d_q 1 (by exact rfl) (fun _ => qC (k1 _)) ?_ | refine d_q 2 (by exact rfl) (fun _ => qC (k1 _)) ?_ | refine d_q 3 (by exact rfl) (fun _ => qC (k1 _)) ?_ | refine d_q 0 (by exact rfl) (fun _ => qC (k2 _)) ?_ | refine d_q 1 (by exact rfl) (fun _ => qC (k2 _)) ?_ | refine d_q 2 (by exact rfl) (fun _ => qC (k2 _)) ?_ | refine d_q 3 (by exact rfl) (fun _ => qC (k2 _)) ?_ | refine d_q 0 (by exact rfl) (fun _ => qC (k3 _)) ?_ | refine d_q 1 (by exact rfl) (fun _ => qC (k3 _)) ?_ | refine d_q 2 (by exact rfl) (fun _ => qC (k3 _)) ?_ | refine d_q 3 (by exact rfl) (fun _ => qC (k3 _)) ?_ | refine d_q 0 (by exact rfl) (fun _ => qC (k4 _)) ?_ | refine d_q 1 (by exact rfl) (fun _ => qC (k4 _)) ?_ | refine d_q 2 (by exact rfl) (fun _ => qC (k4 _)) ?_ | refine d_q 3 (by exact rfl) (fun _ => qC (k4 _)) ?_ | refine d_q 0 (by exact rfl) (fun _ => qC (k5 _)) ?_ | refine d_q 1 (by exact rfl) (fun _ => qC (k5 _)) ?_ | refine d_q 2 (by exact rfl) (fun _ => qC (k5 _)) ?_ | refine d_q 3 (by exact rfl) (fun _ => qC (k5 _)) ?_) | ((first | refine g_b (fun h => ?_) (fun h => ?_) | refine g_s (fun h => ?_) (fun h => ?_) | refine k_s (fun h => ?_) (fun h => ?_) | refine d_sp 100 (fun h => ?_) (fun h => ?_)) <;> ((try simp only [zA, zB, zC, zD, zE, zF, ne_eq, zG, zH, and_true, true_and, eq_self, zI, zJ, zK, reduceCtorEq, zL, zM] at h); (try (exfalso; first | omega | with_reducible exact h (by assumption) | with_reducible exact absurd h (by assumption))))) | (show HD _ _ _ _ _ _ _ _; refine da 101 ?_) | refine dx ?_ | apply dx0 | refine dxd ?_ | refine dxk ?_ | apply seqQ_normal | apply seqQ_ret)
  all_goals refine sp1 (LS.skip _ (LS.skip _ (LS.refl _))) ⟨?_, rfl⟩ (hv := rcell S (hg := gets_cons rfl (gets_cons rfl (gets_cons rfl (gets_cons rfl gets_nil)))))
  · rw [if_pos (.inl h)]; rfl
  · rw [if_pos (.inr (.inl h))]; rfl
  · rw [if_pos (.inr (.inr h))]; rfl
  · rename_i h1 h2
    rw [if_neg (fun h0 => h0.elim h1 (fun h0 => h0.elim (fun h0 => h0 h2) (fun h0 => h0 h)))]; rfl
end Go.HL
end

/-! JnC -/
section
namespace Go.HL
open Go Go.Proofs
set_option linter.unusedVariables false
set_option linter.unusedSimpArgs false

structure Jn where
  l : List Ent
  dead : Bool
def jcells (bp : Nat) (j : Jn) : List Value := [pt bp 0] ++ (j.l.map enL).flatten ++ [.bool j.dead]
def jC (bj bp : Nat) (j : Jn) : List Blk := [(bj, .cells ⟨jcells bp j⟩ 261)]
def zeroE : Ent := ⟨0, 0, 0, 0⟩
def updE (e0 e : Ent) : Ent := if e0.n < e.n then e else e0
def slot (b : List UInt8) (i : Nat) : List UInt8 := (b.drop (i * 18)).take 18
def partE (b : List UInt8) (d : Nat) : Nat → Ent
  | 0 => zeroE
  | k + 1 => updE (partE b d k) (heldM k (slot b (2 * d + k)))
def dealM (b : List UInt8) (d : Nat) : Ent := partE b d 2
def openM (b : List UInt8) : List Ent := (List.range 6).map (dealM b)
def lAt (b : List UInt8) (d k : Nat) : List Ent := (List.range d).map (dealM b) ++ partE b d k :: List.replicate (5 - d) zeroE
theorem lAt_len (b : List UInt8) (d k : Nat) (h : d ≤ 5) : (lAt b d k).length = 6 := by simp [lAt]; omega
theorem lAt_get (b : List UInt8) (d k : Nat) : (lAt b d k)[d]? = some (partE b d k) := by
  rw [lAt, List.getElem?_append_right (by simp)]
  simp
theorem lAt_set (b : List UInt8) (d k : Nat) (e : Ent) (h : e = partE b d (k + 1)) : (lAt b d k).set d e = lAt b d (k + 1) := by
  subst h
  rw [lAt, List.set_append_right _ _ (by simp)]
  simp [lAt]
theorem lAt_next (b : List UInt8) (d : Nat) (h : d < 5) : lAt b d 2 = lAt b (d + 1) 0 := by
  simp only [lAt, List.range_succ, List.map_append, List.map_cons, List.map_nil, List.append_assoc, List.cons_append, List.nil_append, partE]
  rw [show 5 - d = (5 - (d + 1)) + 1 by omega, List.replicate_succ]
  rfl
theorem lAt_last (b : List UInt8) : lAt b 5 2 = openM b := by
  simp [lAt, openM, List.range_succ, dealM]
theorem enL_len (e : Ent) : (enL e).length = 4 := rfl
theorem jgets {bp : Nat} {j : Jn} {d : Nat} {e : Ent} (h : j.l[d]? = some e) : Gets (jcells bp j) (0 + 1 + (d : Int).toNat * 4) (enL e) := by
  have := gets_row (enc := enL) (sz := 4) enL_len j.l [.bool j.dead] [pt bp 0] d e h
  simpa [jcells] using this
theorem jgetsS {bp : Nat} {j : Jn} {d : Nat} {e : Ent} (h : j.l[d]? = some e) : Gets (jcells bp j) (0 + 1 + (d : Int).toNat * 4 + 1) (sc e.s) := fun k v hk => by
  have := jgets (bp := bp) h (k + 1) v (by simpa [enL, sc] using hk)
  rw [show 0 + 1 + (d : Int).toNat * 4 + 1 + k = 0 + 1 + (d : Int).toNat * 4 + (k + 1) by omega]
  exact this
theorem jputs {bp : Nat} {j : Jn} {d : Nat} (e : Ent) (h : d < j.l.length) : Puts (jcells bp j) (0 + 1 + (d : Int).toNat * 4) (enL e) (jcells bp ⟨j.l.set d e, j.dead⟩) := by
  have := puts_row (enc := enL) (sz := 4) enL_len j.l [.bool j.dead] [pt bp 0] d (0 + 1 + (d : Int).toNat * 4) e h (by simp)
  exact this
theorem jdead {bp : Nat} {j : Jn} (h : j.l.length = 6) : (jcells bp j)[0 + 25]? = some (.bool j.dead) := by
  unfold jcells
  rw [List.getElem?_append_right (by simp [flat_length enL_len, h])]
  simp [flat_length enL_len, h]
theorem jputsD {bp : Nat} {j : Jn} (h : j.l.length = 6) (b : Bool) : Puts (jcells bp j) (0 + 25) [.bool b] (jcells bp ⟨j.l, b⟩) := by
  have e : jcells bp ⟨j.l, b⟩ = (jcells bp j).set (0 + 25) (.bool b) := by
    unfold jcells
    rw [List.set_append_right _ _ (by simp [flat_length enL_len, h])]
    simp [flat_length enL_len, h]
  rw [e]
  exact puts_set (by simp [jcells, flat_length enL_len, h])
attribute [local irreducible] HW HO HQ HD HC QOp Has Upd Puts Gets seqQ blkQ loopQ fnQ actQ nextP unQ MapF
attribute [local irreducible] jcells
theorem get_calls (T : Nat) (E : Nat → Addr) (bj bp : Nat) (j : Jn) (d : Int) (L : Heap) (hG : Er T E [2] L) (hl : j.l.length = 6) : HC Tryz.prog 121 [pt bj 0, iv d] (jC bj bp j :: L) (fun v L' => L' = jC bj bp j :: L ∧
    if d < 0 ∨ 6 ≤ d then v = .tuple ⟨[.agg ⟨[iv 0, iv 0, iv 0]⟩, eV T E (some 2)]⟩ else v = .tuple ⟨[.agg ⟨sc (j.l.getD d.toNat zeroE).s⟩, .nilIface]⟩) := by
  by_cases h0 : d < 0 ∨ 6 ≤ d
  · simp only [if_pos h0]
    refine hc_enter (fun _ _ => Tryz.call121 _ _) Tryz.func121 rfl Tryz.ntmps121 (Nat.le_of_ble_eq_true rfl) ?_; simp only [args0, Nat.reduceAdd]
    repeat' (first | (show HW _ _ _ _ _ _; first | apply hw_seq | apply hw_region | refine g_t ?_ | refine g_f ?_ | apply hw_skip | apply hw_ret | refine g_k S ?_ | refine g_w S ?_) | (show HO _ _ _ _ _ _ _; first | apply ho_nil | refine g_q (qe S) ?_ | refine g_q (qg S) ?_ | refine g_q (qs S) ?_ | refine g_q (qb S) ?_ | refine g_q (qbA S) ?_ | refine g_n ?_ | refine g_on ?_ | refine wa S (fun b => ?_) | refine ws S ?_) | (show HQ _ _ _ _ _ _ _; first | apply hq_nil | refine k_q (qe S) ?_ | refine k_q (qg S) ?_ | refine k_q (qs S) ?_ | refine k_q (qb S) ?_ | refine k_q (qbA S) ?_ | refine k_n ?_) | (show HD _ _ _ _ _ _ _ _; first | apply hd_nil | refine d_q 100 (by exact rfl) (fun _ => qe S) ?_ | refine d_q 100 (by exact rfl) (fun _ => qb S) ?_ | refine d_q 100 (by exact rfl) (fun _ => qbA S) ?_ | refine ds S 100 ?_ | refine dg S 100 (fun _ _ => ?_) | refine d_n 100 ?_) | ((first | refine g_b (fun h => ?_) (fun h => ?_) | refine g_s (fun h => ?_) (fun h => ?_) | refine k_s (fun h => ?_) (fun h => ?_) | refine d_sp 100 (fun h => ?_) (fun h => ?_)) <;> ((try simp only [zA, zB, zC, zD, zE, zF, ne_eq, zG, zH, and_true, true_and, eq_self, zI, zJ, zK, reduceCtorEq, zL, zM] at h); (try (exfalso; first | omega | with_reducible exact h (by assumption) | with_reducible exact absurd h (by assumption))))) | (show HD _ _ _ _ _ _ _ _; refine da 101 ?_) | refine dx ?_ | apply dx0 | refine dxd ?_ | refine dxk ?_ | apply seqQ_normal | apply seqQ_ret)
    · exact sp2 (LS.skip _ (LS.refl _)) ⟨rfl, rfl⟩ (hx := rcell S (hg := gets_cons rfl (gets_cons rfl (gets_cons rfl gets_nil))))
    · exact sp2 (LS.skip _ (LS.refl _)) ⟨rfl, rfl⟩ (hx := rcell S (hg := gets_cons rfl (gets_cons rfl (gets_cons rfl gets_nil))))
  · simp only [if_neg h0]
    obtain ⟨d, rfl⟩ := Int.eq_ofNat_of_zero_le (show 0 ≤ d by omega)
    have he : j.l[d]? = some (j.l.getD d zeroE) := by
      rw [List.getD, List.getElem?_eq_getElem (by omega)]; rfl
    have g1 := jgets (bp := bp) he
    have g2 := jgetsS (bp := bp) he
    refine hc_enter (fun _ _ => Tryz.call121 _ _) Tryz.func121 rfl Tryz.ntmps121 (Nat.le_of_ble_eq_true rfl) ?_; simp only [args0, Nat.reduceAdd]
    repeat' (first | (show HW _ _ _ _ _ _; first | apply hw_seq | apply hw_region | refine g_t ?_ | refine g_f ?_ | apply hw_skip | apply hw_ret | refine g_k S ?_ | refine g_w S ?_) | (show HO _ _ _ _ _ _ _; first | apply ho_nil | refine g_q (qe S) ?_ | refine g_q (qg S) ?_ | refine g_q (qs S) ?_ | refine g_q (qb S) ?_ | refine g_q (qbA S) ?_ | refine g_n ?_ | refine g_on ?_ | refine wa S (fun b => ?_) | refine ws S ?_) | (show HQ _ _ _ _ _ _ _; first | apply hq_nil | refine k_q (qe S) ?_ | refine k_q (qg S) ?_ | refine k_q (qs S) ?_ | refine k_q (qb S) ?_ | refine k_q (qbA S) ?_ | refine k_n ?_) | (show HD _ _ _ _ _ _ _ _; first | apply hd_nil | refine d_q 100 (by exact rfl) (fun _ => qe S) ?_ | refine d_q 100 (by exact rfl) (fun _ => qb S) ?_ | refine d_q 100 (by exact rfl) (fun _ => qbA S) ?_ | refine ds S 100 ?_ | refine dg S 100 (fun _ _ => ?_) | refine d_n 100 ?_) | ((first | refine g_b (fun h => ?_) (fun h => ?_) | refine g_s (fun h => ?_) (fun h => ?_) | refine k_s (fun h => ?_) (fun h => ?_) | refine d_sp 100 (fun h => ?_) (fun h => ?_)) <;> ((try simp only [zA, zB, zC, zD, zE, zF, ne_eq, zG, zH, and_true, true_and, eq_self, zI, zJ, zK, reduceCtorEq, zL, zM] at h); (try (exfalso; first | omega | with_reducible exact h (by assumption) | with_reducible exact absurd h (by assumption))))) | (show HD _ _ _ _ _ _ _ _; refine da 101 ?_) | refine dx ?_ | apply dx0 | refine dxd ?_ | refine dxk ?_ | apply seqQ_normal | apply seqQ_ret)
    refine sp2 (LS.skip _ (LS.refl _)) ⟨rfl, ?_⟩ (hx := rcell S (hg := gets_cons rfl (gets_cons rfl (gets_cons rfl gets_nil))))
    simp [sc]
end Go.HL
end

/-! JnD -/
section
namespace Go.HL
open Go Go.Proofs
set_option linter.unusedVariables false
set_option linter.unusedSimpArgs false

theorem read_slot (m : Pl) (d k : Nat) (hd : d < 6) (hk : k < 2) (hl : 216 ≤ m.b.length) (ho : m.off = false) : readM m ((2 * (d : Int) + (k : Int)) * 18) 18 = (slot m.b (2 * d + k), none) := by
  have h : lookM m ((2 * (d : Int) + (k : Int)) * 18) 18 = none := by
    unfold lookM
    rw [if_neg (by omega), if_neg (by simp [ho])]
  unfold readM slot
  rw [h]
  have e : ((2 * (d : Int) + (k : Int)) * 18).toNat = (2 * d + k) * 18 := by omega
  simp [e]
theorem slot_len (b : List UInt8) (i : Nat) (h : i < 12) (hl : 216 ≤ b.length) : (slot b i).length = 18 := by simp [slot]; omega
def lO (b : List UInt8) (d : Nat) : List Ent := if d < 6 then lAt b d 0 else openM b
theorem lO_next (b : List UInt8) (d : Nat) (h : d < 6) : lAt b d 2 = lO b (d + 1) := by
  unfold lO
  split
  · exact lAt_next b d (by omega)
  · rw [show d = 5 by omega, lAt_last]
theorem lAt_upd (b : List UInt8) (d k : Nat) (h : (partE b d k).n < (heldM k (slot b (2 * d + k))).n) : (lAt b d k).set d (heldM k (slot b (2 * d + k))) = lAt b d (k + 1) :=
  lAt_set b d k _ (by simp [partE, updE, h])
theorem lAt_same (b : List UInt8) (d k : Nat) (h : ¬ (partE b d k).n < (heldM k (slot b (2 * d + k))).n) : lAt b d k = lAt b d (k + 1) := by
  simp [lAt, partE, updE, h]
theorem jC_new (bj bp : Nat) (b : List UInt8) : jC bj bp ⟨lO b 0, false⟩ = [(bj, .cells ⟨[pt bp 0, iv 0, iv 0, iv 0, iv 0, iv 0, iv 0, iv 0, iv 0, iv 0, iv 0, iv 0, iv 0, iv 0, iv 0, iv 0, iv 0, iv 0, iv 0, iv 0, iv 0, iv 0, iv 0, iv 0, iv 0, .bool false]⟩ 261)] := rfl
attribute [local irreducible] HW HO HQ HD HC QOp Has Upd Puts Gets seqQ blkQ loopQ fnQ actQ nextP unQ MapF
attribute [local irreducible] jcells plC
theorem open_calls (T : Nat) (E : Nat → Addr) (bp ba : Nat) (m : Pl) (L : Heap) (hG : Er T E [2, 6] L) (hl : m.b.length ≤ 1000000) : HC Tryz.prog 120 [pt bp 0] (plC bp ba m :: L) (fun v L' =>
    if m.b.length < 216 then v = .tuple ⟨[.pointer none, eV T E (some 2)]⟩ ∧ L' = plC bp ba m :: L else if m.off then v = .tuple ⟨[.pointer none, eV T E (some 6)]⟩ ∧ L' = plC bp ba m :: L
    else ∃ bj, v = .tuple ⟨[pt bj 0, .nilIface]⟩ ∧ L' = jC bj bp ⟨openM m.b, false⟩ :: plC bp ba m :: L) := by
  have kb := bytes_calls bp ba m L
  have kp := power_calls bp ba m L
  by_cases h1 : m.b.length < 216
  · simp only [if_pos h1]
    refine hc_enter (fun _ _ => Tryz.call120 _ _) Tryz.func120 rfl Tryz.ntmps120 (Nat.le_of_ble_eq_true rfl) ?_; simp only [args0, Nat.reduceAdd]
    repeat' (first | (show HW _ _ _ _ _ _; first | apply hw_seq | apply hw_region | apply hw_block | apply hw_exit | refine g_t ?_ | refine g_f ?_ | apply hw_skip | apply hw_ret | refine g_k S ?_ | refine g_w S ?_) | (show HO _ _ _ _ _ _ _; first | apply ho_nil | refine g_q (qe S) ?_ | refine g_q (qg S) ?_ | refine g_q (ql S) ?_ | refine g_q (qs S) ?_ | refine g_q (qn S) ?_ | refine g_q (qb S) ?_ | refine g_q (qbA S) ?_ | refine g_q (qC (kb)) ?_ | refine wa S (fun b => ?_) | refine wb (fun b => ?_) | refine ws S ?_) | (show HQ _ _ _ _ _ _ _; first | apply hq_nil | refine k_q (qe S) ?_ | refine k_q (qg S) ?_ | refine k_q (ql S) ?_ | refine k_q (qs S) ?_ | refine k_q (qn S) ?_ | refine k_q (qb S) ?_ | refine k_q (qbA S) ?_ | refine k_q (qC (kb)) ?_) | (show HD _ _ _ _ _ _ _ _; first | apply hd_nil | refine d_q 100 (by exact rfl) (fun _ => qe S) ?_ | refine d_q 100 (by exact rfl) (fun _ => qn S) ?_ | refine d_q 100 (by exact rfl) (fun _ => qb S) ?_ | refine d_q 100 (by exact rfl) (fun _ => qbA S) ?_ | refine dl S 100 ?_ | refine ds S 100 ?_ | refine dg S 100 (fun _ _ => ?_) | refine d_q 0 (by exact rfl) (fun _ => qC (kb)) ?_ | refine d_q 1 (by exact rfl) (fun _ => qC (kb)) ?_ | refine d_q 2 (by exact rfl) (fun _ => qC (kb)) ?_ | refine d_q 3 (by exact rfl) (fun _ => qC (kb)) ?_) | ((first | refine g_b (fun h => ?_) (fun h => ?_)) <;> ((try simp only [zA, zB, zC, zD, zE, zF, ne_eq, zG, zH, and_true, true_and, eq_self, zI, zJ, zK, reduceCtorEq, zL, zM] at h); (try (exfalso; first | omega | with_reducible exact h (by assumption) | with_reducible exact absurd h (by assumption))))) | (show HD _ _ _ _ _ _ _ _; refine da 101 ?_) | refine dx ?_ | apply dx0 | refine dxd ?_ | refine dxk ?_ | apply seqQ_normal | apply seqQ_ret | apply seqQ_exit | apply blkQ_here | refine g_bx ?_ | apply blkQ_ret | apply blkQ_normal | apply loopQ_ret | apply loopQ_exit | apply unQ_ret | apply unQ_exit | apply unQ_succ)
    exact er2 rfl ⟨rfl, rfl⟩
  · simp only [if_neg h1]
    cases h2 : m.off with
    | true =>
      rw [h2] at kp
      simp only [if_true]
      refine hc_enter (fun _ _ => Tryz.call120 _ _) Tryz.func120 rfl Tryz.ntmps120 (Nat.le_of_ble_eq_true rfl) ?_; simp only [args0, Nat.reduceAdd]
      repeat' (first | (show HW _ _ _ _ _ _; first | apply hw_seq | apply hw_region | apply hw_block | apply hw_exit | refine g_t ?_ | refine g_f ?_ | apply hw_skip | apply hw_ret | refine g_k S ?_ | refine g_w S ?_) | (show HO _ _ _ _ _ _ _; first | apply ho_nil | refine g_q (qe S) ?_ | refine g_q (qg S) ?_ | refine g_q (ql S) ?_ | refine g_q (qs S) ?_ | refine g_q (qn S) ?_ | refine g_q (qb S) ?_ | refine g_q (qbA S) ?_ | refine g_q (qC (kb)) ?_ | refine g_q (qC (kp)) ?_ | refine wa S (fun b => ?_) | refine wb (fun b => ?_) | refine ws S ?_) | (show HQ _ _ _ _ _ _ _; first | apply hq_nil | refine k_q (qe S) ?_ | refine k_q (qg S) ?_ | refine k_q (ql S) ?_ | refine k_q (qs S) ?_ | refine k_q (qn S) ?_ | refine k_q (qb S) ?_ | refine k_q (qbA S) ?_ | refine k_q (qC (kb)) ?_ | refine k_q (qC (kp)) ?_) | (show HD _ _ _ _ _ _ _ _; first | apply hd_nil | refine d_q 100 (by exact rfl) (fun _ => qe S) ?_ | refine d_q 100 (by exact rfl) (fun _ => qn S) ?_ | refine d_q 100 (by exact rfl) (fun _ => qb S) ?_ | refine d_q 100 (by exact rfl) (fun _ => qbA S) ?_ | refine dl S 100 ?_ | refine ds S 100 ?_ | refine dg S 100 (fun _ _ => ?_) | refine d_q 0 (by exact rfl) (fun _ => qC (kb)) ?_ | refine d_q 1 (by exact rfl) (fun _ => qC (kb)) ?_ | refine d_q 2 (by exact rfl) (fun _ => qC (kb)) ?_ | refine d_q 3 (by exact rfl) (fun _ => qC (kb)) ?_ | refine d_q 0 (by exact rfl) (fun _ => qC (kp)) ?_ | refine d_q 1 (by exact rfl) (fun _ => qC (kp)) ?_ | refine d_q 2 (by exact rfl) (fun _ => qC (kp)) ?_ | refine d_q 3 (by exact rfl) (fun _ => qC (kp)) ?_) | ((first | refine g_b (fun h => ?_) (fun h => ?_)) <;> ((try simp only [zA, zB, zC, zD, zE, zF, ne_eq, zG, zH, and_true, true_and, eq_self, zI, zJ, zK, reduceCtorEq, zL, zM] at h); (try (exfalso; first | omega | with_reducible exact h (by assumption) | with_reducible exact absurd h (by assumption))))) | (show HD _ _ _ _ _ _ _ _; refine da 101 ?_) | refine dx ?_ | apply dx0 | refine dxd ?_ | refine dxk ?_ | apply seqQ_normal | apply seqQ_ret | apply seqQ_exit | apply blkQ_here | refine g_bx ?_ | apply blkQ_ret | apply blkQ_normal | apply loopQ_ret | apply loopQ_exit | apply unQ_ret | apply unQ_exit | apply unQ_succ)
      exact er2 rfl ⟨rfl, rfl⟩
    | false =>
      rw [h2] at kp
      simp only [Bool.false_eq_true, if_false]
      refine hc_enter (fun _ _ => Tryz.call120 _ _) Tryz.func120 rfl Tryz.ntmps120 (Nat.le_of_ble_eq_true rfl) ?_; simp only [args0, Nat.reduceAdd]
      repeat' (first | (show HW _ _ _ _ _ _; first | apply hw_seq | apply hw_region | apply hw_block | apply hw_exit | refine g_t ?_ | refine g_f ?_ | apply hw_skip | apply hw_ret | refine g_k S ?_ | refine g_w S ?_) | (show HO _ _ _ _ _ _ _; first | apply ho_nil | refine g_q (qe S) ?_ | refine g_q (qg S) ?_ | refine g_q (ql S) ?_ | refine g_q (qs S) ?_ | refine g_q (qn S) ?_ | refine g_q (qb S) ?_ | refine g_q (qbA S) ?_ | refine g_q (qC (kb)) ?_ | refine g_q (qC (kp)) ?_ | refine wa S (fun b => ?_) | refine wb (fun b => ?_) | refine ws S ?_) | (show HQ _ _ _ _ _ _ _; first | apply hq_nil | refine k_q (qe S) ?_ | refine k_q (qg S) ?_ | refine k_q (ql S) ?_ | refine k_q (qs S) ?_ | refine k_q (qn S) ?_ | refine k_q (qb S) ?_ | refine k_q (qbA S) ?_ | refine k_q (qC (kb)) ?_ | refine k_q (qC (kp)) ?_) | (show HD _ _ _ _ _ _ _ _; first | apply hd_nil | refine d_q 100 (by exact rfl) (fun _ => qe S) ?_ | refine d_q 100 (by exact rfl) (fun _ => qn S) ?_ | refine d_q 100 (by exact rfl) (fun _ => qb S) ?_ | refine d_q 100 (by exact rfl) (fun _ => qbA S) ?_ | refine dl S 100 ?_ | refine ds S 100 ?_ | refine dg S 100 (fun _ _ => ?_) | refine d_q 0 (by exact rfl) (fun _ => qC (kb)) ?_ | refine d_q 1 (by exact rfl) (fun _ => qC (kb)) ?_ | refine d_q 2 (by exact rfl) (fun _ => qC (kb)) ?_ | refine d_q 3 (by exact rfl) (fun _ => qC (kb)) ?_ | refine d_q 0 (by exact rfl) (fun _ => qC (kp)) ?_ | refine d_q 1 (by exact rfl) (fun _ => qC (kp)) ?_ | refine d_q 2 (by exact rfl) (fun _ => qC (kp)) ?_ | refine d_q 3 (by exact rfl) (fun _ => qC (kp)) ?_) | ((first | refine g_b (fun h => ?_) (fun h => ?_)) <;> ((try simp only [zA, zB, zC, zD, zE, zF, ne_eq, zG, zH, and_true, true_and, eq_self, zI, zJ, zK, reduceCtorEq, zL, zM] at h); (try (exfalso; first | omega | with_reducible exact h (by assumption) | with_reducible exact absurd h (by assumption))))) | (show HD _ _ _ _ _ _ _ _; refine da 101 ?_) | refine dx ?_ | apply dx0 | refine dxd ?_ | refine dxk ?_ | apply seqQ_normal | apply seqQ_ret | apply seqQ_exit | apply blkQ_here | refine g_bx ?_ | apply blkQ_ret | apply blkQ_normal | apply loopQ_ret | apply loopQ_exit | apply unQ_ret | apply unQ_exit | apply unQ_succ)
      refine fw 1 ?_
      refine hw_loop (σ := Nat) (fun d => [(0, pt bp 0), (4, pt b 0), (28, iv d)]) (fun d => plC bp ba m :: jC b bp ⟨lO m.b d, false⟩ :: L) (fun d => d ≤ 6) (fun d => 6 - d) 0 (by repeat (first | exact trivial | refine ⟨rfl, ?_⟩)) ?_ (by omega) ?_
      · rw [jC_new]; exact List.Sublist.refl _
      intro d d1
      by_cases hd : d < 6
      · rw [show lO m.b d = lAt m.b d 0 from if_pos hd]
        repeat' (first | (show HW _ _ _ _ _ _; first | apply hw_seq | apply hw_region | apply hw_block | apply hw_exit | refine g_t ?_ | refine g_f ?_ | apply hw_skip | apply hw_ret | refine g_k S ?_ | refine g_w S ?_) | (show HO _ _ _ _ _ _ _; first | apply ho_nil | refine g_q (qe S) ?_ | refine g_q (qg S) ?_ | refine g_q (ql S) ?_ | refine g_q (qs S) ?_ | refine g_q (qn S) ?_ | refine g_q (qb S) ?_ | refine g_q (qbA S) ?_ | refine wa S (fun b => ?_) | refine wb (fun b => ?_) | refine ws S ?_) | (show HQ _ _ _ _ _ _ _; first | apply hq_nil | refine k_q (qe S) ?_ | refine k_q (qg S) ?_ | refine k_q (ql S) ?_ | refine k_q (qs S) ?_ | refine k_q (qn S) ?_ | refine k_q (qb S) ?_ | refine k_q (qbA S) ?_) | (show HD _ _ _ _ _ _ _ _; first | apply hd_nil | refine d_q 100 (by exact rfl) (fun _ => qe S) ?_ | refine d_q 100 (by exact rfl) (fun _ => qn S) ?_ | refine d_q 100 (by exact rfl) (fun _ => qb S) ?_ | refine d_q 100 (by exact rfl) (fun _ => qbA S) ?_ | refine dl S 100 ?_ | refine ds S 100 ?_ | refine dg S 100 (fun _ _ => ?_)) | ((first | refine g_b (fun h => ?_) (fun h => ?_)) <;> ((try simp only [zA, zB, zC, zD, zE, zF, ne_eq, zG, zH, and_true, true_and, eq_self, zI, zJ, zK, reduceCtorEq, zL, zM] at h); (try (exfalso; first | omega | with_reducible exact h (by assumption) | with_reducible exact absurd h (by assumption))))) | (show HD _ _ _ _ _ _ _ _; refine da 101 ?_) | refine dx ?_ | apply dx0 | refine dxd ?_ | refine dxk ?_ | apply seqQ_normal | apply seqQ_ret | apply seqQ_exit | apply blkQ_here | refine g_bx ?_ | apply blkQ_ret | apply blkQ_normal | apply loopQ_ret | apply loopQ_exit | apply unQ_ret | apply unQ_exit | apply unQ_succ)
        refine hw_loop (σ := Nat) (fun k => [(0, pt bp 0), (4, pt b 0), (28, iv d), (5, iv d), (31, iv k)]) (fun k => plC bp ba m :: jC b bp ⟨lAt m.b d k, false⟩ :: L) (fun k => k ≤ 2) (fun k => 2 - k) 0 (by repeat (first | exact trivial | refine ⟨rfl, ?_⟩)) (List.Sublist.refl _) (by omega) ?_
        intro k k1
        by_cases hk : k < 2
        · have kr := read_calls T E bp ba m ((2 * (d : Int) + (k : Int)) * 18) 18 (jC b bp ⟨lAt m.b d k, false⟩ :: L) (hG.cons _) hl
          rw [read_slot m d k hd hk (by omega) h2] at kr
          have kh : ∀ L, HC Tryz.prog 177 [iv k, bs (slot m.b (2 * d + k))] L (fun v L' => v = .agg ⟨enL (heldM k (slot m.b (2 * d + k)))⟩ ∧ L' = L) := fun L => held_calls _ _ L (slot_len _ _ (by omega) (by omega))
          have g1 := jgets (bp := bp) (j := ⟨lAt m.b d k, false⟩) (lAt_get m.b d k)
          have p1 := jputs (bp := bp) (j := ⟨lAt m.b d k, false⟩) (d := d) (heldM k (slot m.b (2 * d + k))) (by simp [lAt_len m.b d k (by omega)]; omega)
          repeat' (first | (show HW _ _ _ _ _ _; first | apply hw_seq | apply hw_region | apply hw_block | apply hw_exit | refine g_t ?_ | refine g_f ?_ | apply hw_skip | apply hw_ret | refine g_k S ?_ | refine g_w S ?_) | (show HO _ _ _ _ _ _ _; first | apply ho_nil | refine g_q (qe S) ?_ | refine g_q (qg S) ?_ | refine g_q (ql S) ?_ | refine g_q (qs S) ?_ | refine g_q (qn S) ?_ | refine g_q (qb S) ?_ | refine g_q (qbA S) ?_ | refine g_q (qC (kr)) ?_ | refine g_q (qC (kh _)) ?_ | refine wa S (fun b => ?_) | refine wb (fun b => ?_) | refine ws S ?_) | (show HQ _ _ _ _ _ _ _; first | apply hq_nil | refine k_q (qe S) ?_ | refine k_q (qg S) ?_ | refine k_q (ql S) ?_ | refine k_q (qs S) ?_ | refine k_q (qn S) ?_ | refine k_q (qb S) ?_ | refine k_q (qbA S) ?_ | refine k_q (qC (kr)) ?_ | refine k_q (qC (kh _)) ?_) | (show HD _ _ _ _ _ _ _ _; first | apply hd_nil | refine d_q 100 (by exact rfl) (fun _ => qe S) ?_ | refine d_q 100 (by exact rfl) (fun _ => qn S) ?_ | refine d_q 100 (by exact rfl) (fun _ => qb S) ?_ | refine d_q 100 (by exact rfl) (fun _ => qbA S) ?_ | refine dl S 100 ?_ | refine ds S 100 ?_ | refine dg S 100 (fun _ _ => ?_) | refine d_q 0 (by exact rfl) (fun _ => qC (kr)) ?_ | refine d_q 1 (by exact rfl) (fun _ => qC (kr)) ?_ | refine d_q 2 (by exact rfl) (fun _ => qC (kr)) ?_ | refine d_q 3 (by exact rfl) (fun _ => qC (kr)) ?_ | refine d_q 0 (by exact rfl) (fun _ => qC (kh _)) ?_ | refine d_q 1 (by exact rfl) (fun _ => qC (kh _)) ?_ | refine d_q 2 (by exact rfl) (fun _ => qC (kh _)) ?_ | refine d_q 3 (by exact rfl) (fun _ => qC (kh _)) ?_) | ((first | refine g_b (fun h => ?_) (fun h => ?_)) <;> ((try simp only [zA, zB, zC, zD, zE, zF, ne_eq, zG, zH, and_true, true_and, eq_self, zI, zJ, zK, reduceCtorEq, zL, zM] at h); (try (exfalso; first | omega | with_reducible exact h (by assumption) | with_reducible exact absurd h (by assumption))))) | (show HD _ _ _ _ _ _ _ _; refine da 101 ?_) | refine dx ?_ | apply dx0 | refine dxd ?_ | refine dxk ?_ | apply seqQ_normal | apply seqQ_ret | apply seqQ_exit | apply blkQ_here | refine g_bx ?_ | apply blkQ_ret | apply blkQ_normal | apply loopQ_ret | apply loopQ_exit | apply unQ_ret | apply unQ_exit | apply unQ_succ)
          · refine loopQ_normal (k + 1) (by repeat (first | exact trivial | refine ⟨rfl, ?_⟩)) ?_ (by omega) (by omega)
            rw [← lAt_upd _ _ _ h]
            exact (List.Sublist.refl _).cons _
          · refine loopQ_normal (k + 1) (by repeat (first | exact trivial | refine ⟨rfl, ?_⟩)) ?_ (by omega) (by omega)
            rw [← lAt_same _ _ _ h]
            exact (List.Sublist.refl _).cons _
        · rw [show k = 2 by omega]
          repeat' (first | (show HW _ _ _ _ _ _; first | apply hw_seq | apply hw_region | apply hw_block | apply hw_exit | refine g_t ?_ | refine g_f ?_ | apply hw_skip | apply hw_ret | refine g_k S ?_ | refine g_w S ?_) | (show HO _ _ _ _ _ _ _; first | apply ho_nil | refine g_q (qe S) ?_ | refine g_q (qg S) ?_ | refine g_q (ql S) ?_ | refine g_q (qs S) ?_ | refine g_q (qn S) ?_ | refine g_q (qb S) ?_ | refine g_q (qbA S) ?_ | refine wa S (fun b => ?_) | refine wb (fun b => ?_) | refine ws S ?_) | (show HQ _ _ _ _ _ _ _; first | apply hq_nil | refine k_q (qe S) ?_ | refine k_q (qg S) ?_ | refine k_q (ql S) ?_ | refine k_q (qs S) ?_ | refine k_q (qn S) ?_ | refine k_q (qb S) ?_ | refine k_q (qbA S) ?_) | (show HD _ _ _ _ _ _ _ _; first | apply hd_nil | refine d_q 100 (by exact rfl) (fun _ => qe S) ?_ | refine d_q 100 (by exact rfl) (fun _ => qn S) ?_ | refine d_q 100 (by exact rfl) (fun _ => qb S) ?_ | refine d_q 100 (by exact rfl) (fun _ => qbA S) ?_ | refine dl S 100 ?_ | refine ds S 100 ?_ | refine dg S 100 (fun _ _ => ?_)) | ((first | refine g_b (fun h => ?_) (fun h => ?_)) <;> ((try simp only [zA, zB, zC, zD, zE, zF, ne_eq, zG, zH, and_true, true_and, eq_self, zI, zJ, zK, reduceCtorEq, zL, zM] at h); (try (exfalso; first | omega | with_reducible exact h (by assumption) | with_reducible exact absurd h (by assumption))))) | (show HD _ _ _ _ _ _ _ _; refine da 101 ?_) | refine dx ?_ | apply dx0 | refine dxd ?_ | refine dxk ?_ | apply seqQ_normal | apply seqQ_ret | apply seqQ_exit | apply blkQ_here | refine g_bx ?_ | apply blkQ_ret | apply blkQ_normal | apply loopQ_ret | apply loopQ_exit | apply unQ_ret | apply unQ_exit | apply unQ_succ)
          refine loopQ_normal (d + 1) (by repeat (first | exact trivial | refine ⟨rfl, ?_⟩)) ?_ (by omega) (by omega)
          rw [lO_next _ _ hd]
          exact List.Sublist.refl _
      · rw [show d = 6 by omega]
        repeat' (first | (show HW _ _ _ _ _ _; first | apply hw_seq | apply hw_region | apply hw_block | apply hw_exit | refine g_t ?_ | refine g_f ?_ | apply hw_skip | apply hw_ret | refine g_k S ?_ | refine g_w S ?_) | (show HO _ _ _ _ _ _ _; first | apply ho_nil | refine g_q (qe S) ?_ | refine g_q (qg S) ?_ | refine g_q (ql S) ?_ | refine g_q (qs S) ?_ | refine g_q (qn S) ?_ | refine g_q (qb S) ?_ | refine g_q (qbA S) ?_ | refine wa S (fun b => ?_) | refine wb (fun b => ?_) | refine ws S ?_) | (show HQ _ _ _ _ _ _ _; first | apply hq_nil | refine k_q (qe S) ?_ | refine k_q (qg S) ?_ | refine k_q (ql S) ?_ | refine k_q (qs S) ?_ | refine k_q (qn S) ?_ | refine k_q (qb S) ?_ | refine k_q (qbA S) ?_) | (show HD _ _ _ _ _ _ _ _; first | apply hd_nil | refine d_q 100 (by exact rfl) (fun _ => qe S) ?_ | refine d_q 100 (by exact rfl) (fun _ => qn S) ?_ | refine d_q 100 (by exact rfl) (fun _ => qb S) ?_ | refine d_q 100 (by exact rfl) (fun _ => qbA S) ?_ | refine dl S 100 ?_ | refine ds S 100 ?_ | refine dg S 100 (fun _ _ => ?_)) | ((first | refine g_b (fun h => ?_) (fun h => ?_)) <;> ((try simp only [zA, zB, zC, zD, zE, zF, ne_eq, zG, zH, and_true, true_and, eq_self, zI, zJ, zK, reduceCtorEq, zL, zM] at h); (try (exfalso; first | omega | with_reducible exact h (by assumption) | with_reducible exact absurd h (by assumption))))) | (show HD _ _ _ _ _ _ _ _; refine da 101 ?_) | refine dx ?_ | apply dx0 | refine dxd ?_ | refine dxk ?_ | apply seqQ_normal | apply seqQ_ret | apply seqQ_exit | apply blkQ_here | refine g_bx ?_ | apply blkQ_ret | apply blkQ_normal | apply loopQ_ret | apply loopQ_exit | apply unQ_ret | apply unQ_exit | apply unQ_succ)
        refine sp2 (L' := jC b bp ⟨openM m.b, false⟩ :: plC bp ba m :: L) ?_ ⟨b, rfl, rfl⟩
        rw [show lO m.b 6 = openM m.b from rfl]
        exact LS.of_perm (by simp only [List.flatten_cons, ← List.append_assoc]; exact (List.perm_append_comm.append_right _))
end Go.HL
end

/-! JnE -/
section
namespace Go.HL
open Go Go.Proofs
set_option linter.unusedVariables false
set_option linter.unusedSimpArgs false

structure PlOk (m : Pl) : Prop where
  len : m.b.length ≤ 1000000
  lo : -1 ≤ m.cut
  hi : m.cut ≤ 9223372036854775807
theorem lookM_none {m : Pl} {a n : Int} (h : lookM m a n = none) : 0 ≤ a ∧ 0 ≤ n ∧ a + n ≤ m.b.length ∧ m.off = false := by
  unfold lookM at h
  split at h
  · cases h
  · split at h
    · cases h
    · exact ⟨by omega, by omega, by omega, by simp_all⟩
theorem writeM_len (m : Pl) (a : Int) (s : List UInt8) : (writeM m a s).1.b.length = m.b.length := by
  unfold writeM
  cases h : lookM m a s.length with
  | some e => rfl
  | none =>
    obtain ⟨h1, h2, h3, h4⟩ := lookM_none h
    exact splice_len (by simp; omega)
theorem writeM_ok {m : Pl} (h : PlOk m) (a : Int) (s : List UInt8) : PlOk (writeM m a s).1 := by
  refine ⟨by rw [writeM_len]; exact h.len, ?_, ?_⟩
  all_goals
    have h1 := h.lo
    have h2 := h.hi
    unfold writeM
    cases hm : lookM m a s.length with
    | some e => assumption
    | none =>
      simp only [wrOk]
      split
      · omega
      · have : kM m s.length ≤ m.cut.toNat := by unfold kM; rw [if_neg (by assumption)]; omega
        omega
def jAt (deal : Int) (e : Ent) : Int := (2 * deal + e.n % 2) * 18
def jw1 (m : Pl) (deal : Int) (e : Ent) : Pl × Option Nat := match (readM m (jAt deal e + 18 - 1) 1).2 with
  | some x => (m, some x)
  | none => if (readM m (jAt deal e + 18 - 1) 1).1 = [0] then (m, none) else writeM m (jAt deal e + 18 - 1) [0]
def jw2 (m : Pl) (deal : Int) (e : Ent) : Pl × Option Nat := match (jw1 m deal e).2 with
  | some x => ((jw1 m deal e).1, some x)
  | none => writeM (jw1 m deal e).1 (jAt deal e) (bodyM e)
def jwM (m : Pl) (deal : Int) (e : Ent) : Pl × Option Nat := match (jw2 m deal e).2 with
  | some x => ((jw2 m deal e).1, some x)
  | none => writeM (jw2 m deal e).1 (jAt deal e + 18 - 1) commitB
theorem jw1_ok {m : Pl} (h : PlOk m) (deal : Int) (e : Ent) : PlOk (jw1 m deal e).1 := by
  unfold jw1
  split
  · exact h
  · split
    · exact h
    · exact writeM_ok h _ _
theorem jw2_ok {m : Pl} (h : PlOk m) (deal : Int) (e : Ent) : PlOk (jw2 m deal e).1 := by
  unfold jw2
  split
  · exact jw1_ok h _ _
  · exact writeM_ok (jw1_ok h _ _) _ _
theorem jwM_ok {m : Pl} (h : PlOk m) (deal : Int) (e : Ent) : PlOk (jwM m deal e).1 := by
  unfold jwM
  split
  · exact jw2_ok h _ _
  · exact writeM_ok (jw2_ok h _ _) _ _
theorem bodyM_len (e : Ent) : (bodyM e).length = 17 := by simp [bodyM, head, numB_len]
theorem j0 (bp : Nat) (j : Jn) : (jcells bp j)[0 + 0]? = some (pt bp 0) := rfl
attribute [local irreducible] HW HO HQ HD HC QOp Has Upd Puts Gets seqQ blkQ loopQ fnQ actQ nextP unQ MapF
attribute [local irreducible] jcells plC
theorem jwrite_calls (T : Nat) (E : Nat → Addr) (bj bp ba : Nat) (m : Pl) (j : Jn) (deal : Int) (e : Ent) (L : Heap) (hG : Er T E [2, 6] L) (hm : PlOk m) (hd : 0 ≤ deal ∧ deal < 6) (he : 0 ≤ e.n ∧ e.n ≤ 4294967296) :
    HC Tryz.prog 255 [pt bj 0, iv deal, .agg ⟨enL e⟩] (plC bp ba m :: jC bj bp j :: L) (fun v L' => v = eV T E (jwM m deal e).2 ∧ L' = plC bp ba (jwM m deal e).1 :: jC bj bp j :: L) := by
  have k1 : ∀ L, Er T E [2, 6] L → HC Tryz.prog 176 [pt bp 0, iv ((2 * deal + e.n % 2) * 18 + 18 - 1), iv 1] (plC bp ba m :: L) (fun v L' => v = .tuple ⟨[bs (readM m (jAt deal e + 18 - 1) 1).1, eV T E (readM m (jAt deal e + 18 - 1) 1).2]⟩ ∧ L' = plC bp ba m :: L) := fun L hg => read_calls T E bp ba m (jAt deal e + 18 - 1) 1 L hg hm.len
  have g0 := j0 bp j
  have kb : ∀ L, HC Tryz.prog 252 [.agg ⟨enL e⟩] L (fun v L' => v = bs (bodyM e) ∧ L' = L) := fun L => body_calls e L
  have lb := bodyM_len e
  have o1 := jw1_ok hm deal e
  have o2 := jw2_ok hm deal e
  have w1 : ∀ L, Er T E [2, 6] L → HC Tryz.prog 287 [pt bp 0, iv ((2 * deal + e.n % 2) * 18 + 18 - 1), bs [0]] (plC bp ba m :: L) (fun v L' => v = eV T E (writeM m (jAt deal e + 18 - 1) [0]).2 ∧ L' = plC bp ba (writeM m (jAt deal e + 18 - 1) [0]).1 :: L) := fun L hg => write_calls T E bp ba m (jAt deal e + 18 - 1) [0] L hg hm.len (by simp) ⟨hm.lo, hm.hi⟩
  have w2 : ∀ L, Er T E [2, 6] L → HC Tryz.prog 287 [pt bp 0, iv ((2 * deal + e.n % 2) * 18), bs (bodyM e)] (plC bp ba (jw1 m deal e).1 :: L) (fun v L' => v = eV T E (writeM (jw1 m deal e).1 (jAt deal e) (bodyM e)).2 ∧ L' = plC bp ba (writeM (jw1 m deal e).1 (jAt deal e) (bodyM e)).1 :: L) := fun L hg => write_calls T E bp ba (jw1 m deal e).1 (jAt deal e) (bodyM e) L hg o1.len (by omega) ⟨o1.lo, o1.hi⟩
  have w3 : ∀ L, Er T E [2, 6] L → HC Tryz.prog 287 [pt bp 0, iv ((2 * deal + e.n % 2) * 18 + 18 - 1), bs [165]] (plC bp ba (jw2 m deal e).1 :: L) (fun v L' => v = eV T E (writeM (jw2 m deal e).1 (jAt deal e + 18 - 1) [165]).2 ∧ L' = plC bp ba (writeM (jw2 m deal e).1 (jAt deal e + 18 - 1) [165]).1 :: L) := fun L hg => write_calls T E bp ba (jw2 m deal e).1 (jAt deal e + 18 - 1) commitB L hg o2.len (by simp [commitB]) ⟨o2.lo, o2.hi⟩
  refine hc_enter (fun _ _ => Tryz.call255 _ _) Tryz.func255 rfl Tryz.ntmps255 (Nat.le_of_ble_eq_true rfl) ?_; simp only [args0, Nat.reduceAdd]
  repeat' (first | (show HW _ _ _ _ _ _; first | apply hw_seq | apply hw_region | refine g_t ?_ | refine g_f ?_ | apply hw_skip | apply hw_ret | refine g_k S ?_) | (show HO _ _ _ _ _ _ _; first | apply ho_nil | refine g_q (qe S) ?_ | refine g_q (ql S) ?_ | refine g_q (qs S) ?_ | refine g_n ?_ | refine g_on ?_ | refine wb (fun b => ?_)) | (show HQ _ _ _ _ _ _ _; first | apply hq_nil | refine k_q (qe S) ?_ | refine k_q (ql S) ?_ | refine k_q (qs S) ?_ | refine k_n ?_) | ((first | refine g_b (fun h => ?_) (fun h => ?_) | refine g_s (fun h => ?_) (fun h => ?_) | refine k_s (fun h => ?_) (fun h => ?_)) <;> ((try simp only [zA, zB, zC, zD, zE, zF, ne_eq, zG, zH, and_true, true_and, eq_self, zI, zJ, zK, reduceCtorEq, zL, zM] at h); (try (exfalso; first | omega | with_reducible exact h (by assumption) | with_reducible exact absurd h (by assumption))))) | apply seqQ_normal | apply seqQ_ret)
  refine fo 1 ?_
  have fin : ∀ (b : Nat) (o : Obj) (m' : Pl), LS (plC bp ba m' :: jC bj bp j :: L).flatten (plC bp ba m' :: [(b, o)] :: jC bj bp j :: L).flatten := fun b o m' => LS.boths _ (LS.skip _ (LS.refl _))
  cases h1 : (readM m (jAt deal e + 18 - 1) 1).2 with
  | some x =>
    have e1 : jwM m deal e = (m, some x) := by simp [jwM, jw2, jw1, h1]
    rw [h1] at k1
    refine gc (k1 _ ((hG.cons _).cons _)) ?_
    rintro v L' ⟨rfl, rfl⟩
    repeat' (first | (show HW _ _ _ _ _ _; first | apply hw_seq | apply hw_region | refine g_t ?_ | refine g_f ?_ | apply hw_skip | apply hw_ret | refine g_k S ?_) | (show HO _ _ _ _ _ _ _; first | apply ho_nil | refine g_q (qe S) ?_ | refine g_q (ql S) ?_ | refine g_q (qs S) ?_ | refine g_n ?_ | refine g_on ?_ | refine wb (fun b => ?_)) | (show HQ _ _ _ _ _ _ _; first | apply hq_nil | refine k_q (qe S) ?_ | refine k_q (ql S) ?_ | refine k_q (qs S) ?_ | refine k_n ?_) | ((first | refine g_b (fun h => ?_) (fun h => ?_) | refine g_s (fun h => ?_) (fun h => ?_) | refine k_s (fun h => ?_) (fun h => ?_)) <;> ((try simp only [zA, zB, zC, zD, zE, zF, ne_eq, zG, zH, and_true, true_and, eq_self, zI, zJ, zK, reduceCtorEq, zL, zM] at h); (try (exfalso; first | omega | with_reducible exact h (by assumption) | with_reducible exact absurd h (by assumption))))) | apply seqQ_normal | apply seqQ_ret)
    rw [e1]
    exact sp1 (fin _ _ _) ⟨rfl, rfl⟩
  | none =>
    rw [h1] at k1
    refine gc (k1 _ ((hG.cons _).cons _)) ?_
    rintro v L' ⟨rfl, rfl⟩
    by_cases h0 : (readM m (jAt deal e + 18 - 1) 1).1 = [0]
    · have e1 : jw1 m deal e = (m, none) := by simp [jw1, h1, h0]
      rw [e1] at w2
      repeat' (first | (show HW _ _ _ _ _ _; first | apply hw_seq | apply hw_region | refine g_t ?_ | refine g_f ?_ | apply hw_skip | apply hw_ret | refine g_d S ?_) | (show HO _ _ _ _ _ _ _; first | apply ho_nil | refine g_q (qe S) ?_ | refine g_q (ql S) ?_ | refine g_q (qs S) ?_ | refine g_q (qC (kb _)) ?_ | refine g_n ?_ | refine g_on ?_ | refine wb (fun b => ?_)) | (show HD _ _ _ _ _ _ _ _; first | apply hd_nil | refine d_q 100 (by exact rfl) (fun _ => qe S) ?_ | refine dl S 100 ?_ | refine ds S 100 ?_ | refine d_n 100 ?_ | refine d_q 0 (by exact rfl) (fun _ => qC (kb _)) ?_ | refine d_q 1 (by exact rfl) (fun _ => qC (kb _)) ?_ | refine d_q 2 (by exact rfl) (fun _ => qC (kb _)) ?_ | refine d_q 3 (by exact rfl) (fun _ => qC (kb _)) ?_) | ((first | refine g_b (fun h => ?_) (fun h => ?_) | refine g_s (fun h => ?_) (fun h => ?_) | refine d_sp 100 (fun h => ?_) (fun h => ?_)) <;> ((try simp only [zA, zB, zC, zD, zE, zF, ne_eq, zG, zH, and_true, true_and, eq_self, zI, zJ, zK, reduceCtorEq, zL, zM] at h); (try (exfalso; first | omega | with_reducible exact h (by assumption) | with_reducible exact absurd h (by assumption))))) | (show HD _ _ _ _ _ _ _ _; refine da 101 ?_) | refine dx ?_ | apply dx0 | refine dxd ?_ | refine dxk ?_ | apply seqQ_normal | apply seqQ_ret)
      all_goals try exact absurd h0 h
      refine gc (w2 _ ((hG.cons _).cons _)) ?_
      rintro v L' ⟨rfl, rfl⟩
      have e2 : jw2 m deal e = writeM m (jAt deal e) (bodyM e) := by simp [jw2, e1]
      rw [← e2]
      cases h2 : (jw2 m deal e).2 with
      | some x =>
        have e3 : jwM m deal e = ((jw2 m deal e).1, some x) := by simp [jwM, h2]
        repeat' (first | (show HW _ _ _ _ _ _; first | apply hw_seq | apply hw_region | refine g_t ?_ | refine g_f ?_ | apply hw_skip | apply hw_ret | refine g_d S ?_) | (show HO _ _ _ _ _ _ _; first | apply ho_nil | refine g_q (qe S) ?_ | refine g_q (ql S) ?_ | refine g_q (qs S) ?_ | refine g_q (qC (kb _)) ?_ | refine g_n ?_ | refine g_on ?_ | refine wb (fun b => ?_)) | (show HD _ _ _ _ _ _ _ _; first | apply hd_nil | refine d_q 100 (by exact rfl) (fun _ => qe S) ?_ | refine dl S 100 ?_ | refine ds S 100 ?_ | refine d_n 100 ?_ | refine d_q 0 (by exact rfl) (fun _ => qC (kb _)) ?_ | refine d_q 1 (by exact rfl) (fun _ => qC (kb _)) ?_ | refine d_q 2 (by exact rfl) (fun _ => qC (kb _)) ?_ | refine d_q 3 (by exact rfl) (fun _ => qC (kb _)) ?_) | ((first | refine g_b (fun h => ?_) (fun h => ?_) | refine g_s (fun h => ?_) (fun h => ?_) | refine d_sp 100 (fun h => ?_) (fun h => ?_)) <;> ((try simp only [zA, zB, zC, zD, zE, zF, ne_eq, zG, zH, and_true, true_and, eq_self, zI, zJ, zK, reduceCtorEq, zL, zM] at h); (try (exfalso; first | omega | with_reducible exact h (by assumption) | with_reducible exact absurd h (by assumption))))) | (show HD _ _ _ _ _ _ _ _; refine da 101 ?_) | refine dx ?_ | apply dx0 | refine dxd ?_ | refine dxk ?_ | apply seqQ_normal | apply seqQ_ret)
        rw [e3]
        exact sp1 (fin _ _ _) ⟨rfl, rfl⟩
      | none =>
        have e3 : jwM m deal e = writeM (jw2 m deal e).1 (jAt deal e + 18 - 1) [165] := by simp [jwM, h2, commitB]
        rw [← e3] at w3
        repeat' (first | (show HW _ _ _ _ _ _; first | apply hw_seq | apply hw_region | refine g_t ?_ | refine g_f ?_ | apply hw_skip | apply hw_ret | refine g_d S ?_) | (show HO _ _ _ _ _ _ _; first | apply ho_nil | refine g_q (qe S) ?_ | refine g_q (ql S) ?_ | refine g_q (qs S) ?_ | refine g_q (qC (kb _)) ?_ | refine g_n ?_ | refine g_on ?_ | refine wb (fun b => ?_)) | (show HD _ _ _ _ _ _ _ _; first | apply hd_nil | refine d_q 100 (by exact rfl) (fun _ => qe S) ?_ | refine dl S 100 ?_ | refine ds S 100 ?_ | refine d_n 100 ?_ | refine d_q 0 (by exact rfl) (fun _ => qC (kb _)) ?_ | refine d_q 1 (by exact rfl) (fun _ => qC (kb _)) ?_ | refine d_q 2 (by exact rfl) (fun _ => qC (kb _)) ?_ | refine d_q 3 (by exact rfl) (fun _ => qC (kb _)) ?_) | ((first | refine g_b (fun h => ?_) (fun h => ?_) | refine g_s (fun h => ?_) (fun h => ?_) | refine d_sp 100 (fun h => ?_) (fun h => ?_)) <;> ((try simp only [zA, zB, zC, zD, zE, zF, ne_eq, zG, zH, and_true, true_and, eq_self, zI, zJ, zK, reduceCtorEq, zL, zM] at h); (try (exfalso; first | omega | with_reducible exact h (by assumption) | with_reducible exact absurd h (by assumption))))) | (show HD _ _ _ _ _ _ _ _; refine da 101 ?_) | refine dx ?_ | apply dx0 | refine dxd ?_ | refine dxk ?_ | apply seqQ_normal | apply seqQ_ret)
        refine gc (w3 _ ((hG.cons _).cons _)) ?_
        rintro v L' ⟨rfl, rfl⟩
        repeat' (first | (show HW _ _ _ _ _ _; first | apply hw_seq | apply hw_region | refine g_t ?_ | refine g_f ?_ | apply hw_skip | apply hw_ret | refine g_d S ?_) | (show HO _ _ _ _ _ _ _; first | apply ho_nil | refine g_q (qe S) ?_ | refine g_q (ql S) ?_ | refine g_q (qs S) ?_ | refine g_q (qC (kb _)) ?_ | refine g_n ?_ | refine g_on ?_ | refine wb (fun b => ?_)) | (show HD _ _ _ _ _ _ _ _; first | apply hd_nil | refine d_q 100 (by exact rfl) (fun _ => qe S) ?_ | refine dl S 100 ?_ | refine ds S 100 ?_ | refine d_n 100 ?_ | refine d_q 0 (by exact rfl) (fun _ => qC (kb _)) ?_ | refine d_q 1 (by exact rfl) (fun _ => qC (kb _)) ?_ | refine d_q 2 (by exact rfl) (fun _ => qC (kb _)) ?_ | refine d_q 3 (by exact rfl) (fun _ => qC (kb _)) ?_) | ((first | refine g_b (fun h => ?_) (fun h => ?_) | refine g_s (fun h => ?_) (fun h => ?_) | refine d_sp 100 (fun h => ?_) (fun h => ?_)) <;> ((try simp only [zA, zB, zC, zD, zE, zF, ne_eq, zG, zH, and_true, true_and, eq_self, zI, zJ, zK, reduceCtorEq, zL, zM] at h); (try (exfalso; first | omega | with_reducible exact h (by assumption) | with_reducible exact absurd h (by assumption))))) | (show HD _ _ _ _ _ _ _ _; refine da 101 ?_) | refine dx ?_ | apply dx0 | refine dxd ?_ | refine dxk ?_ | apply seqQ_normal | apply seqQ_ret)
        exact sp1 (fin _ _ _) ⟨rfl, rfl⟩
    · have e1 : jw1 m deal e = writeM m (jAt deal e + 18 - 1) [0] := by simp [jw1, h1, h0]
      rw [← e1] at w1
      repeat' (first | (show HW _ _ _ _ _ _; first | apply hw_seq | apply hw_region | refine g_t ?_ | refine g_f ?_ | apply hw_skip | apply hw_ret | refine g_d S ?_) | (show HO _ _ _ _ _ _ _; first | apply ho_nil | refine g_q (qe S) ?_ | refine g_q (ql S) ?_ | refine g_q (qs S) ?_ | refine g_q (qC (kb _)) ?_ | refine g_n ?_ | refine g_on ?_ | refine wb (fun b => ?_)) | (show HD _ _ _ _ _ _ _ _; first | apply hd_nil | refine d_q 100 (by exact rfl) (fun _ => qe S) ?_ | refine dl S 100 ?_ | refine ds S 100 ?_ | refine d_n 100 ?_ | refine d_q 0 (by exact rfl) (fun _ => qC (kb _)) ?_ | refine d_q 1 (by exact rfl) (fun _ => qC (kb _)) ?_ | refine d_q 2 (by exact rfl) (fun _ => qC (kb _)) ?_ | refine d_q 3 (by exact rfl) (fun _ => qC (kb _)) ?_) | ((first | refine g_b (fun h => ?_) (fun h => ?_) | refine g_s (fun h => ?_) (fun h => ?_) | refine d_sp 100 (fun h => ?_) (fun h => ?_)) <;> ((try simp only [zA, zB, zC, zD, zE, zF, ne_eq, zG, zH, and_true, true_and, eq_self, zI, zJ, zK, reduceCtorEq, zL, zM] at h); (try (exfalso; first | omega | with_reducible exact h (by assumption) | with_reducible exact absurd h (by assumption))))) | (show HD _ _ _ _ _ _ _ _; refine da 101 ?_) | refine dx ?_ | apply dx0 | refine dxd ?_ | refine dxk ?_ | apply seqQ_normal | apply seqQ_ret)
      all_goals try exact absurd h h0
      refine gc (w1 _ ((hG.cons _).cons _)) ?_
      rintro v L' ⟨rfl, rfl⟩
      cases h4 : (jw1 m deal e).2 with
      | some x =>
        have e3 : jwM m deal e = ((jw1 m deal e).1, some x) := by simp [jwM, jw2, h4]
        repeat' (first | (show HW _ _ _ _ _ _; first | apply hw_seq | apply hw_region | refine g_t ?_ | refine g_f ?_ | apply hw_skip | apply hw_ret | refine g_d S ?_) | (show HO _ _ _ _ _ _ _; first | apply ho_nil | refine g_q (qe S) ?_ | refine g_q (ql S) ?_ | refine g_q (qs S) ?_ | refine g_q (qC (kb _)) ?_ | refine g_n ?_ | refine g_on ?_ | refine wb (fun b => ?_)) | (show HD _ _ _ _ _ _ _ _; first | apply hd_nil | refine d_q 100 (by exact rfl) (fun _ => qe S) ?_ | refine dl S 100 ?_ | refine ds S 100 ?_ | refine d_n 100 ?_ | refine d_q 0 (by exact rfl) (fun _ => qC (kb _)) ?_ | refine d_q 1 (by exact rfl) (fun _ => qC (kb _)) ?_ | refine d_q 2 (by exact rfl) (fun _ => qC (kb _)) ?_ | refine d_q 3 (by exact rfl) (fun _ => qC (kb _)) ?_) | ((first | refine g_b (fun h => ?_) (fun h => ?_) | refine g_s (fun h => ?_) (fun h => ?_) | refine d_sp 100 (fun h => ?_) (fun h => ?_)) <;> ((try simp only [zA, zB, zC, zD, zE, zF, ne_eq, zG, zH, and_true, true_and, eq_self, zI, zJ, zK, reduceCtorEq, zL, zM] at h); (try (exfalso; first | omega | with_reducible exact h (by assumption) | with_reducible exact absurd h (by assumption))))) | (show HD _ _ _ _ _ _ _ _; refine da 101 ?_) | refine dx ?_ | apply dx0 | refine dxd ?_ | refine dxk ?_ | apply seqQ_normal | apply seqQ_ret)
        rw [e3]
        exact sp1 (fin _ _ _) ⟨rfl, rfl⟩
      | none =>
        have e2 : jw2 m deal e = writeM (jw1 m deal e).1 (jAt deal e) (bodyM e) := by simp [jw2, h4]
        rw [← e2] at w2
        repeat' (first | (show HW _ _ _ _ _ _; first | apply hw_seq | apply hw_region | refine g_t ?_ | refine g_f ?_ | apply hw_skip | apply hw_ret | refine g_d S ?_) | (show HO _ _ _ _ _ _ _; first | apply ho_nil | refine g_q (qe S) ?_ | refine g_q (ql S) ?_ | refine g_q (qs S) ?_ | refine g_q (qC (kb _)) ?_ | refine g_n ?_ | refine g_on ?_ | refine wb (fun b => ?_)) | (show HD _ _ _ _ _ _ _ _; first | apply hd_nil | refine d_q 100 (by exact rfl) (fun _ => qe S) ?_ | refine dl S 100 ?_ | refine ds S 100 ?_ | refine d_n 100 ?_ | refine d_q 0 (by exact rfl) (fun _ => qC (kb _)) ?_ | refine d_q 1 (by exact rfl) (fun _ => qC (kb _)) ?_ | refine d_q 2 (by exact rfl) (fun _ => qC (kb _)) ?_ | refine d_q 3 (by exact rfl) (fun _ => qC (kb _)) ?_) | ((first | refine g_b (fun h => ?_) (fun h => ?_) | refine g_s (fun h => ?_) (fun h => ?_) | refine d_sp 100 (fun h => ?_) (fun h => ?_)) <;> ((try simp only [zA, zB, zC, zD, zE, zF, ne_eq, zG, zH, and_true, true_and, eq_self, zI, zJ, zK, reduceCtorEq, zL, zM] at h); (try (exfalso; first | omega | with_reducible exact h (by assumption) | with_reducible exact absurd h (by assumption))))) | (show HD _ _ _ _ _ _ _ _; refine da 101 ?_) | refine dx ?_ | apply dx0 | refine dxd ?_ | refine dxk ?_ | apply seqQ_normal | apply seqQ_ret)
        refine gc (w2 _ ((hG.cons _).cons _)) ?_
        rintro v L' ⟨rfl, rfl⟩
        cases h2 : (jw2 m deal e).2 with
        | some x =>
          have e3 : jwM m deal e = ((jw2 m deal e).1, some x) := by simp [jwM, h2]
          repeat' (first | (show HW _ _ _ _ _ _; first | apply hw_seq | apply hw_region | refine g_t ?_ | refine g_f ?_ | apply hw_skip | apply hw_ret | refine g_d S ?_) | (show HO _ _ _ _ _ _ _; first | apply ho_nil | refine g_q (qe S) ?_ | refine g_q (ql S) ?_ | refine g_q (qs S) ?_ | refine g_q (qC (kb _)) ?_ | refine g_n ?_ | refine g_on ?_ | refine wb (fun b => ?_)) | (show HD _ _ _ _ _ _ _ _; first | apply hd_nil | refine d_q 100 (by exact rfl) (fun _ => qe S) ?_ | refine dl S 100 ?_ | refine ds S 100 ?_ | refine d_n 100 ?_ | refine d_q 0 (by exact rfl) (fun _ => qC (kb _)) ?_ | refine d_q 1 (by exact rfl) (fun _ => qC (kb _)) ?_ | refine d_q 2 (by exact rfl) (fun _ => qC (kb _)) ?_ | refine d_q 3 (by exact rfl) (fun _ => qC (kb _)) ?_) | ((first | refine g_b (fun h => ?_) (fun h => ?_) | refine g_s (fun h => ?_) (fun h => ?_) | refine d_sp 100 (fun h => ?_) (fun h => ?_)) <;> ((try simp only [zA, zB, zC, zD, zE, zF, ne_eq, zG, zH, and_true, true_and, eq_self, zI, zJ, zK, reduceCtorEq, zL, zM] at h); (try (exfalso; first | omega | with_reducible exact h (by assumption) | with_reducible exact absurd h (by assumption))))) | (show HD _ _ _ _ _ _ _ _; refine da 101 ?_) | refine dx ?_ | apply dx0 | refine dxd ?_ | refine dxk ?_ | apply seqQ_normal | apply seqQ_ret)
          rw [e3]
          exact sp1 (fin _ _ _) ⟨rfl, rfl⟩
        | none =>
          have e3 : jwM m deal e = writeM (jw2 m deal e).1 (jAt deal e + 18 - 1) [165] := by simp [jwM, h2, commitB]
          rw [← e3] at w3
          repeat' (first | (show HW _ _ _ _ _ _; first | apply hw_seq | apply hw_region | refine g_t ?_ | refine g_f ?_ | apply hw_skip | apply hw_ret | refine g_d S ?_) | (show HO _ _ _ _ _ _ _; first | apply ho_nil | refine g_q (qe S) ?_ | refine g_q (ql S) ?_ | refine g_q (qs S) ?_ | refine g_q (qC (kb _)) ?_ | refine g_n ?_ | refine g_on ?_ | refine wb (fun b => ?_)) | (show HD _ _ _ _ _ _ _ _; first | apply hd_nil | refine d_q 100 (by exact rfl) (fun _ => qe S) ?_ | refine dl S 100 ?_ | refine ds S 100 ?_ | refine d_n 100 ?_ | refine d_q 0 (by exact rfl) (fun _ => qC (kb _)) ?_ | refine d_q 1 (by exact rfl) (fun _ => qC (kb _)) ?_ | refine d_q 2 (by exact rfl) (fun _ => qC (kb _)) ?_ | refine d_q 3 (by exact rfl) (fun _ => qC (kb _)) ?_) | ((first | refine g_b (fun h => ?_) (fun h => ?_) | refine g_s (fun h => ?_) (fun h => ?_) | refine d_sp 100 (fun h => ?_) (fun h => ?_)) <;> ((try simp only [zA, zB, zC, zD, zE, zF, ne_eq, zG, zH, and_true, true_and, eq_self, zI, zJ, zK, reduceCtorEq, zL, zM] at h); (try (exfalso; first | omega | with_reducible exact h (by assumption) | with_reducible exact absurd h (by assumption))))) | (show HD _ _ _ _ _ _ _ _; refine da 101 ?_) | refine dx ?_ | apply dx0 | refine dxd ?_ | refine dxk ?_ | apply seqQ_normal | apply seqQ_ret)
          refine gc (w3 _ ((hG.cons _).cons _)) ?_
          rintro v L' ⟨rfl, rfl⟩
          repeat' (first | (show HW _ _ _ _ _ _; first | apply hw_seq | apply hw_region | refine g_t ?_ | refine g_f ?_ | apply hw_skip | apply hw_ret | refine g_d S ?_) | (show HO _ _ _ _ _ _ _; first | apply ho_nil | refine g_q (qe S) ?_ | refine g_q (ql S) ?_ | refine g_q (qs S) ?_ | refine g_q (qC (kb _)) ?_ | refine g_n ?_ | refine g_on ?_ | refine wb (fun b => ?_)) | (show HD _ _ _ _ _ _ _ _; first | apply hd_nil | refine d_q 100 (by exact rfl) (fun _ => qe S) ?_ | refine dl S 100 ?_ | refine ds S 100 ?_ | refine d_n 100 ?_ | refine d_q 0 (by exact rfl) (fun _ => qC (kb _)) ?_ | refine d_q 1 (by exact rfl) (fun _ => qC (kb _)) ?_ | refine d_q 2 (by exact rfl) (fun _ => qC (kb _)) ?_ | refine d_q 3 (by exact rfl) (fun _ => qC (kb _)) ?_) | ((first | refine g_b (fun h => ?_) (fun h => ?_) | refine g_s (fun h => ?_) (fun h => ?_) | refine d_sp 100 (fun h => ?_) (fun h => ?_)) <;> ((try simp only [zA, zB, zC, zD, zE, zF, ne_eq, zG, zH, and_true, true_and, eq_self, zI, zJ, zK, reduceCtorEq, zL, zM] at h); (try (exfalso; first | omega | with_reducible exact h (by assumption) | with_reducible exact absurd h (by assumption))))) | (show HD _ _ _ _ _ _ _ _; refine da 101 ?_) | refine dx ?_ | apply dx0 | refine dxd ?_ | refine dxk ?_ | apply seqQ_normal | apply seqQ_ret)
          exact sp1 (fin _ _ _) ⟨rfl, rfl⟩
end Go.HL
end

/-! JnF -/
section
namespace Go.HL
open Go Go.Proofs
set_option linter.unusedVariables false
set_option linter.unusedSimpArgs false

def badPut (deal : Int) (s : St) : Prop := deal < 0 ∨ 6 ≤ deal ∨ s.ph < 0 ∨ 255 < s.ph ∨ s.pr < 0 ∨ s.att < 0 ∨ 1048576 < max s.pr s.att
instance (deal : Int) (s : St) : Decidable (badPut deal s) := by unfold badPut; infer_instance
instance : DecidableEq St := fun a b => decidable_of_iff (a.ph = b.ph ∧ a.pr = b.pr ∧ a.att = b.att) (by
  obtain ⟨a1, a2, a3⟩ := a
  obtain ⟨b1, b2, b3⟩ := b
  simp)
theorem St.ext3 {a b : St} (h : a.ph = b.ph ∧ a.pr = b.pr ∧ a.att = b.att) : a = b := by
  obtain ⟨a1, a2, a3⟩ := a
  obtain ⟨b1, b2, b3⟩ := b
  simp_all
def putM (m : Pl) (j : Jn) (deal : Int) (s : St) : Pl × Jn × Option Nat :=
  if j.dead = true then (m, j, some 6) else if badPut deal s then (m, j, some 2) else
  if (j.l.getD deal.toNat zeroE).s = s then (m, j, none) else
  if 4294967296 ≤ (j.l.getD deal.toNat zeroE).n + 1 then (m, j, some 5) else
  match (jwM m deal ⟨(j.l.getD deal.toNat zeroE).n + 1, s⟩).2 with
  | some x => ((jwM m deal ⟨(j.l.getD deal.toNat zeroE).n + 1, s⟩).1, ⟨j.l, true⟩, some x)
  | none => ((jwM m deal ⟨(j.l.getD deal.toNat zeroE).n + 1, s⟩).1, ⟨j.l.set deal.toNat ⟨(j.l.getD deal.toNat zeroE).n + 1, s⟩, j.dead⟩, none)
structure JnOk (j : Jn) : Prop where
  len : j.l.length = 6
  n0 : ∀ d, 0 ≤ (j.l.getD d zeroE).n
  n1 : ∀ d, (j.l.getD d zeroE).n ≤ 4294967296
attribute [local irreducible] HW HO HQ HD HC QOp Has Upd Puts Gets seqQ blkQ loopQ fnQ actQ nextP unQ MapF
attribute [local irreducible] jcells plC
theorem put_calls (T : Nat) (E : Nat → Addr) (bj bp ba : Nat) (m : Pl) (j : Jn) (deal : Int) (s : St) (L : Heap) (hG : Er T E [2, 5, 6] L) (hm : PlOk m) (hj : JnOk j) :
    HC Tryz.prog 184 [pt bj 0, iv deal, .agg ⟨sc s⟩] (plC bp ba m :: jC bj bp j :: L) (fun v L' => v = eV T E (putM m j deal s).2.2 ∧ L' = plC bp ba (putM m j deal s).1 :: jC bj bp (putM m j deal s).2.1 :: L) := by
  have gd := jdead (bp := bp) hj.len
  by_cases h1 : j.dead = true
  · rw [h1] at gd
    rw [show putM m j deal s = (m, j, some 6) from if_pos h1]
    refine hc_enter (fun _ _ => Tryz.call184 _ _) Tryz.func184 rfl Tryz.ntmps184 (Nat.le_of_ble_eq_true rfl) ?_; simp only [args0, Nat.reduceAdd]
    repeat' (first | (show HW _ _ _ _ _ _; first | apply hw_seq | apply hw_region | apply hw_block | apply hw_exit | refine g_t ?_ | refine g_f ?_ | apply hw_skip | apply hw_ret | refine g_d S ?_) | (show HO _ _ _ _ _ _ _; first | apply ho_nil | refine g_q (qe S) ?_ | refine g_q (qg S) ?_ | refine g_q (ql S) ?_ | refine g_q (qs S) ?_ | refine g_q (qb S) ?_ | refine g_q (qbA S) ?_ | refine g_q (qA S) ?_ | refine g_n ?_ | refine g_on ?_ | refine wa S (fun b => ?_) | refine wb (fun b => ?_) | refine ws S ?_) | (show HD _ _ _ _ _ _ _ _; first | apply hd_nil | refine d_q 100 (by exact rfl) (fun _ => qe S) ?_ | refine d_q 100 (by exact rfl) (fun _ => qb S) ?_ | refine d_q 100 (by exact rfl) (fun _ => qbA S) ?_ | refine d_q 100 (by exact rfl) (fun _ => qA S) ?_ | refine dl S 100 ?_ | refine ds S 100 ?_ | refine dg S 100 (fun _ _ => ?_) | refine d_n 100 ?_) | ((first | refine g_b (fun h => ?_) (fun h => ?_) | refine g_s (fun h => ?_) (fun h => ?_) | refine d_sp 100 (fun h => ?_) (fun h => ?_)) <;> ((try simp only [zA, zB, zC, zD, zE, zF, ne_eq, zG, zH, and_true, true_and, eq_self, zI, zJ, zK, reduceCtorEq, zL, zM] at h); (try (exfalso; first | omega | with_reducible exact h (by assumption) | with_reducible exact absurd h (by assumption))))) | (show HD _ _ _ _ _ _ _ _; refine da 101 ?_) | refine dx ?_ | apply dx0 | refine dxd ?_ | refine dxk ?_ | apply seqQ_normal | apply seqQ_ret | apply seqQ_exit | apply blkQ_here | refine g_bx ?_ | apply blkQ_ret | apply blkQ_normal)
    exact sp1 (LS.skip _ (LS.refl _)) ⟨rfl, rfl⟩
  by_cases h2 : badPut deal s
  · rw [show j.dead = false by simpa using h1] at gd
    rw [show putM m j deal s = (m, j, some 2) by unfold putM; rw [if_neg h1, if_pos h2]]
    unfold badPut at h2
    refine hc_enter (fun _ _ => Tryz.call184 _ _) Tryz.func184 rfl Tryz.ntmps184 (Nat.le_of_ble_eq_true rfl) ?_; simp only [args0, Nat.reduceAdd]
    repeat' (first | (show HW _ _ _ _ _ _; first | apply hw_seq | apply hw_region | apply hw_block | apply hw_exit | refine g_t ?_ | refine g_f ?_ | apply hw_skip | apply hw_ret | refine g_d S ?_) | (show HO _ _ _ _ _ _ _; first | apply ho_nil | refine g_q (qe S) ?_ | refine g_q (qg S) ?_ | refine g_q (ql S) ?_ | refine g_q (qs S) ?_ | refine g_q (qb S) ?_ | refine g_q (qbA S) ?_ | refine g_q (qA S) ?_ | refine g_n ?_ | refine g_on ?_ | refine wa S (fun b => ?_) | refine wb (fun b => ?_) | refine ws S ?_) | (show HD _ _ _ _ _ _ _ _; first | apply hd_nil | refine d_q 100 (by exact rfl) (fun _ => qe S) ?_ | refine d_q 100 (by exact rfl) (fun _ => qb S) ?_ | refine d_q 100 (by exact rfl) (fun _ => qbA S) ?_ | refine d_q 100 (by exact rfl) (fun _ => qA S) ?_ | refine dl S 100 ?_ | refine ds S 100 ?_ | refine dg S 100 (fun _ _ => ?_) | refine d_n 100 ?_) | ((first | refine g_b (fun h => ?_) (fun h => ?_) | refine g_s (fun h => ?_) (fun h => ?_) | refine d_sp 100 (fun h => ?_) (fun h => ?_)) <;> ((try simp only [zA, zB, zC, zD, zE, zF, ne_eq, zG, zH, and_true, true_and, eq_self, zI, zJ, zK, reduceCtorEq, zL, zM] at h); (try (exfalso; first | omega | with_reducible exact h (by assumption) | with_reducible exact absurd h (by assumption))))) | (show HD _ _ _ _ _ _ _ _; refine da 101 ?_) | refine dx ?_ | apply dx0 | refine dxd ?_ | refine dxk ?_ | apply seqQ_normal | apply seqQ_ret | apply seqQ_exit | apply blkQ_here | refine g_bx ?_ | apply blkQ_ret | apply blkQ_normal)
    all_goals exact sp1 (LS.skip _ (LS.refl _)) ⟨rfl, rfl⟩
  rw [show j.dead = false by simpa using h1] at gd
  have hb := h2
  unfold badPut at hb
  obtain ⟨d, rfl⟩ := Int.eq_ofNat_of_zero_le (show 0 ≤ deal by omega)
  have hd : d < 6 := by omega
  have hlen := hj.len
  have n0 := hj.n0 d
  have n1 := hj.n1 d
  have hp : putM m j d s = if (j.l.getD d zeroE).s = s then (m, j, none) else if 4294967296 ≤ (j.l.getD d zeroE).n + 1 then (m, j, some 5) else
      match (jwM m d ⟨(j.l.getD d zeroE).n + 1, s⟩).2 with
      | some x => ((jwM m d ⟨(j.l.getD d zeroE).n + 1, s⟩).1, ⟨j.l, true⟩, some x)
      | none => ((jwM m d ⟨(j.l.getD d zeroE).n + 1, s⟩).1, ⟨j.l.set d ⟨(j.l.getD d zeroE).n + 1, s⟩, j.dead⟩, none) := by
    unfold putM; rw [if_neg h1, if_neg h2]; rfl
  have he : j.l[d]? = some (j.l.getD d zeroE) := by
    rw [List.getD, List.getElem?_eq_getElem (by omega)]; rfl
  have g1 := jgets (bp := bp) he
  have g2 := jgetsS (bp := bp) he
  have pD := jputsD (bp := bp) hlen true
  have p1 := jputs (bp := bp) (j := j) (d := d) ⟨(j.l.getD d zeroE).n + 1, s⟩ (by omega)
  have kw := jwrite_calls T E bj bp ba m j d ⟨(j.l.getD d zeroE).n + 1, s⟩
  generalize hE : j.l.getD d zeroE = e at *
  clear hj h2 he hE
  by_cases h3 : e.s = s
  · rw [hp, if_pos h3]
    subst h3
    refine hc_enter (fun _ _ => Tryz.call184 _ _) Tryz.func184 rfl Tryz.ntmps184 (Nat.le_of_ble_eq_true rfl) ?_; simp only [args0, Nat.reduceAdd]
    repeat' (first | (show HW _ _ _ _ _ _; first | apply hw_seq | apply hw_region | apply hw_block | apply hw_exit | refine g_t ?_ | refine g_f ?_ | apply hw_skip | apply hw_ret | refine g_d S ?_) | (show HO _ _ _ _ _ _ _; first | apply ho_nil | refine g_q (qe S) ?_ | refine g_q (qg S) ?_ | refine g_q (ql S) ?_ | refine g_q (qs S) ?_ | refine g_q (qb S) ?_ | refine g_q (qbA S) ?_ | refine g_q (qA S) ?_ | refine g_n ?_ | refine g_on ?_ | refine wa S (fun b => ?_) | refine wb (fun b => ?_) | refine ws S ?_) | (show HD _ _ _ _ _ _ _ _; first | apply hd_nil | refine d_q 100 (by exact rfl) (fun _ => qe S) ?_ | refine d_q 100 (by exact rfl) (fun _ => qb S) ?_ | refine d_q 100 (by exact rfl) (fun _ => qbA S) ?_ | refine d_q 100 (by exact rfl) (fun _ => qA S) ?_ | refine dl S 100 ?_ | refine ds S 100 ?_ | refine dg S 100 (fun _ _ => ?_) | refine d_n 100 ?_) | ((first | refine g_b (fun h => ?_) (fun h => ?_) | refine g_s (fun h => ?_) (fun h => ?_) | refine d_sp 100 (fun h => ?_) (fun h => ?_)) <;> ((try simp only [zA, zB, zC, zD, zE, zF, ne_eq, zG, zH, and_true, true_and, eq_self, zI, zJ, zK, reduceCtorEq, zL, zM] at h); (try (exfalso; first | omega | with_reducible exact h (by assumption) | with_reducible exact absurd h (by assumption))))) | (show HD _ _ _ _ _ _ _ _; refine da 101 ?_) | refine dx ?_ | apply dx0 | refine dxd ?_ | refine dxk ?_ | apply seqQ_normal | apply seqQ_ret | apply seqQ_exit | apply blkQ_here | refine g_bx ?_ | apply blkQ_ret | apply blkQ_normal)
    exact sp1 (LS.skip _ (LS.refl _)) ⟨rfl, rfl⟩
  have h3' : ¬ (e.s.ph = s.ph ∧ e.s.pr = s.pr ∧ e.s.att = s.att) := fun h => h3 (St.ext3 h)
  by_cases h4 : 4294967296 ≤ e.n + 1
  · rw [hp, if_neg h3, if_pos h4]
    refine hc_enter (fun _ _ => Tryz.call184 _ _) Tryz.func184 rfl Tryz.ntmps184 (Nat.le_of_ble_eq_true rfl) ?_; simp only [args0, Nat.reduceAdd]
    repeat' (first | (show HW _ _ _ _ _ _; first | apply hw_seq | apply hw_region | apply hw_block | apply hw_exit | refine g_t ?_ | refine g_f ?_ | apply hw_skip | apply hw_ret | refine g_d S ?_) | (show HO _ _ _ _ _ _ _; first | apply ho_nil | refine g_q (qe S) ?_ | refine g_q (qg S) ?_ | refine g_q (ql S) ?_ | refine g_q (qs S) ?_ | refine g_q (qb S) ?_ | refine g_q (qbA S) ?_ | refine g_q (qA S) ?_ | refine g_n ?_ | refine g_on ?_ | refine wa S (fun b => ?_) | refine wb (fun b => ?_) | refine ws S ?_) | (show HD _ _ _ _ _ _ _ _; first | apply hd_nil | refine d_q 100 (by exact rfl) (fun _ => qe S) ?_ | refine d_q 100 (by exact rfl) (fun _ => qb S) ?_ | refine d_q 100 (by exact rfl) (fun _ => qbA S) ?_ | refine d_q 100 (by exact rfl) (fun _ => qA S) ?_ | refine dl S 100 ?_ | refine ds S 100 ?_ | refine dg S 100 (fun _ _ => ?_) | refine d_n 100 ?_) | ((first | refine g_b (fun h => ?_) (fun h => ?_) | refine g_s (fun h => ?_) (fun h => ?_) | refine d_sp 100 (fun h => ?_) (fun h => ?_)) <;> ((try simp only [zA, zB, zC, zD, zE, zF, ne_eq, zG, zH, and_true, true_and, eq_self, zI, zJ, zK, reduceCtorEq, zL, zM] at h); (try (exfalso; first | omega | with_reducible exact h (by assumption) | with_reducible exact absurd h (by assumption))))) | (show HD _ _ _ _ _ _ _ _; refine da 101 ?_) | refine dx ?_ | apply dx0 | refine dxd ?_ | refine dxk ?_ | apply seqQ_normal | apply seqQ_ret | apply seqQ_exit | apply blkQ_here | refine g_bx ?_ | apply blkQ_ret | apply blkQ_normal)
    exact sp1 (LS.skip _ (LS.skip _ (LS.refl _))) ⟨rfl, rfl⟩
  · rw [hp, if_neg h3, if_neg h4]
    have fin : ∀ (b b' : Nat) (o o' : Obj) (m' : Pl) (c : List Blk), LS (plC bp ba m' :: c :: L).flatten (plC bp ba m' :: c :: [(b, o)] :: [(b', o')] :: L).flatten := fun b b' o o' m' c => LS.boths _ (LS.boths _ (LS.skip _ (LS.skip _ (LS.refl _))))
    refine hc_enter (fun _ _ => Tryz.call184 _ _) Tryz.func184 rfl Tryz.ntmps184 (Nat.le_of_ble_eq_true rfl) ?_; simp only [args0, Nat.reduceAdd]
    repeat' (first | (show HW _ _ _ _ _ _; first | apply hw_seq | apply hw_region | apply hw_block | apply hw_exit | refine g_t ?_ | refine g_f ?_ | apply hw_skip | apply hw_ret | refine g_d S ?_) | (show HO _ _ _ _ _ _ _; first | apply ho_nil | refine g_q (qe S) ?_ | refine g_q (qg S) ?_ | refine g_q (ql S) ?_ | refine g_q (qs S) ?_ | refine g_q (qb S) ?_ | refine g_q (qbA S) ?_ | refine g_q (qA S) ?_ | refine g_n ?_ | refine g_on ?_ | refine wa S (fun b => ?_) | refine wb (fun b => ?_) | refine ws S ?_) | (show HD _ _ _ _ _ _ _ _; first | apply hd_nil | refine d_q 100 (by exact rfl) (fun _ => qe S) ?_ | refine d_q 100 (by exact rfl) (fun _ => qb S) ?_ | refine d_q 100 (by exact rfl) (fun _ => qbA S) ?_ | refine d_q 100 (by exact rfl) (fun _ => qA S) ?_ | refine dl S 100 ?_ | refine ds S 100 ?_ | refine dg S 100 (fun _ _ => ?_) | refine d_n 100 ?_) | ((first | refine g_b (fun h => ?_) (fun h => ?_) | refine g_s (fun h => ?_) (fun h => ?_) | refine d_sp 100 (fun h => ?_) (fun h => ?_)) <;> ((try simp only [zA, zB, zC, zD, zE, zF, ne_eq, zG, zH, and_true, true_and, eq_self, zI, zJ, zK, reduceCtorEq, zL, zM] at h); (try (exfalso; first | omega | with_reducible exact h (by assumption) | with_reducible exact absurd h (by assumption))))) | (show HD _ _ _ _ _ _ _ _; refine da 101 ?_) | refine dx ?_ | apply dx0 | refine dxd ?_ | refine dxk ?_ | apply seqQ_normal | apply seqQ_ret | apply seqQ_exit | apply blkQ_here | refine g_bx ?_ | apply blkQ_ret | apply blkQ_normal)
    refine fo 3 ?_
    refine fo 3 ?_
    refine gc (kw _ ((hG.cons _).cons _).sub hm (by omega) (by simp only; omega)) ?_
    rintro v L' ⟨rfl, rfl⟩
    cases h5 : (jwM m d ⟨e.n + 1, s⟩).2 with
    | some x =>
      repeat' (first | (show HW _ _ _ _ _ _; first | apply hw_seq | apply hw_region | apply hw_block | apply hw_exit | refine g_t ?_ | refine g_f ?_ | apply hw_skip | apply hw_ret | refine g_d S ?_) | (show HO _ _ _ _ _ _ _; first | apply ho_nil | refine g_q (qe S) ?_ | refine g_q (qg S) ?_ | refine g_q (ql S) ?_ | refine g_q (qs S) ?_ | refine g_q (qb S) ?_ | refine g_q (qbA S) ?_ | refine g_q (qA S) ?_ | refine g_n ?_ | refine g_on ?_ | refine wa S (fun b => ?_) | refine wb (fun b => ?_) | refine ws S ?_) | (show HD _ _ _ _ _ _ _ _; first | apply hd_nil | refine d_q 100 (by exact rfl) (fun _ => qe S) ?_ | refine d_q 100 (by exact rfl) (fun _ => qb S) ?_ | refine d_q 100 (by exact rfl) (fun _ => qbA S) ?_ | refine d_q 100 (by exact rfl) (fun _ => qA S) ?_ | refine dl S 100 ?_ | refine ds S 100 ?_ | refine dg S 100 (fun _ _ => ?_) | refine d_n 100 ?_) | ((first | refine g_b (fun h => ?_) (fun h => ?_) | refine g_s (fun h => ?_) (fun h => ?_) | refine d_sp 100 (fun h => ?_) (fun h => ?_)) <;> ((try simp only [zA, zB, zC, zD, zE, zF, ne_eq, zG, zH, and_true, true_and, eq_self, zI, zJ, zK, reduceCtorEq, zL, zM] at h); (try (exfalso; first | omega | with_reducible exact h (by assumption) | with_reducible exact absurd h (by assumption))))) | (show HD _ _ _ _ _ _ _ _; refine da 101 ?_) | refine dx ?_ | apply dx0 | refine dxd ?_ | refine dxk ?_ | apply seqQ_normal | apply seqQ_ret | apply seqQ_exit | apply blkQ_here | refine g_bx ?_ | apply blkQ_ret | apply blkQ_normal)
      exact sp1 (fin _ _ _ _ _ _) ⟨rfl, rfl⟩
    | none =>
      repeat' (first | (show HW _ _ _ _ _ _; first | apply hw_seq | apply hw_region | apply hw_block | apply hw_exit | refine g_t ?_ | refine g_f ?_ | apply hw_skip | apply hw_ret | refine g_d S ?_) | (show HO _ _ _ _ _ _ _; first | apply ho_nil | refine g_q (qe S) ?_ | refine g_q (qg S) ?_ | refine g_q (ql S) ?_ | refine g_q (qs S) ?_ | refine g_q (qb S) ?_ | refine g_q (qbA S) ?_ | refine g_q (qA S) ?_ | refine g_n ?_ | refine g_on ?_ | refine wa S (fun b => ?_) | refine wb (fun b => ?_) | refine ws S ?_) | (show HD _ _ _ _ _ _ _ _; first | apply hd_nil | refine d_q 100 (by exact rfl) (fun _ => qe S) ?_ | refine d_q 100 (by exact rfl) (fun _ => qb S) ?_ | refine d_q 100 (by exact rfl) (fun _ => qbA S) ?_ | refine d_q 100 (by exact rfl) (fun _ => qA S) ?_ | refine dl S 100 ?_ | refine ds S 100 ?_ | refine dg S 100 (fun _ _ => ?_) | refine d_n 100 ?_) | ((first | refine g_b (fun h => ?_) (fun h => ?_) | refine g_s (fun h => ?_) (fun h => ?_) | refine d_sp 100 (fun h => ?_) (fun h => ?_)) <;> ((try simp only [zA, zB, zC, zD, zE, zF, ne_eq, zG, zH, and_true, true_and, eq_self, zI, zJ, zK, reduceCtorEq, zL, zM] at h); (try (exfalso; first | omega | with_reducible exact h (by assumption) | with_reducible exact absurd h (by assumption))))) | (show HD _ _ _ _ _ _ _ _; refine da 101 ?_) | refine dx ?_ | apply dx0 | refine dxd ?_ | refine dxk ?_ | apply seqQ_normal | apply seqQ_ret | apply seqQ_exit | apply blkQ_here | refine g_bx ?_ | apply blkQ_ret | apply blkQ_normal)
      exact sp1 (fin _ _ _ _ _ _) ⟨rfl, rfl⟩
end Go.HL
end

/-! TabA -/
section
namespace Go.HL
open Go Go.Proofs
set_option linter.unusedVariables false
set_option linter.unusedSimpArgs false
attribute [local irreducible] HW HO HQ HD HC QOp Has Upd Puts Gets seqQ blkQ loopQ fnQ actQ nextP unQ MapF

def afterS (p : Int) : Int := if p = 4 then 2 else if p = 5 then 3 else 0
theorem after_calls (p : Int) (L : Heap) : HC Tryz.prog 131 [iv p] L (fun v L' => v = iv (afterS p) ∧ L' = L) := by
  refine hc_enter (fun _ _ => Tryz.call131 _ _) Tryz.func131 rfl Tryz.ntmps131 (Nat.le_of_ble_eq_true rfl) ?_; simp only [args0, Nat.reduceAdd]
  repeat' (first | (show HW _ _ _ _ _ _; first | apply hw_seq | apply hw_region | apply hw_block | apply hw_exit | refine g_t ?_ | refine g_f ?_ | apply hw_skip | apply hw_ret) | (show HO _ _ _ _ _ _ _; first | apply ho_nil | refine g_q (qe S) ?_) | ((first | refine g_b (fun h => ?_) (fun h => ?_)) <;> ((try simp only [zA, zB, zC, zD, zE, zF, ne_eq, zG, zH, and_true, true_and, eq_self, zI, zJ, zK, reduceCtorEq, zL, zM] at h); (try (exfalso; first | omega | with_reducible exact h (by assumption) | with_reducible exact absurd h (by assumption))))) | apply seqQ_normal | apply seqQ_ret | apply seqQ_exit | apply blkQ_here | refine g_bx ?_ | apply blkQ_ret | apply blkQ_normal)
  all_goals (refine fn_ret1 rfl rfl ?_ ⟨?_, rfl⟩; (next => (repeat (first | exact List.Sublist.refl _ | apply List.Sublist.cons))))
  all_goals simp [afterS, *]
def mayS (a b : Int) : Bool := decide ((0 ≤ a ∧ a ≤ 5 ∧ 0 ≤ b ∧ b ≤ 5) ∧ (a = b ∨ a = 0 ∨ (a ≠ 2 ∧ a ≠ 3 ∧ b ≠ 0 ∧ (a = 1 ∨ b ≠ 1))))
def toldS (xs : List St) (p : Int) : Bool := xs.any fun s => decide (s.ph = p)
def prep (s : St) : Bool := decide (s.ph = 4 ∨ s.ph = 5)
/-- the greatest attempt of those that are prepared; 0 if there are none -/
def bestS : List St → Int → Bool → Int × Bool
  | [], b, first => (b, first)
  | s :: r, b, first => if prep s then (if first || decide (b < s.att) then bestS r s.att false else bestS r b false) else bestS r b first
theorem bestS_append (r : List St) : ∀ (l : List St) (b : Int) (f : Bool), bestS (l ++ r) b f = bestS r (bestS l b f).1 (bestS l b f).2
  | [], b, f => rfl
  | s :: l, b, f => by
    simp only [List.cons_append, bestS]
    split
    · split
      · exact bestS_append r l _ _
      · exact bestS_append r l _ _
    · exact bestS_append r l _ _
def chooseS (xs : List St) : Int × Bool :=
  if toldS xs 2 then (2, true) else if toldS xs 3 then (3, true) else
  if xs.any (fun s => decide (s.ph = 4 ∧ s.att = (bestS xs 0 true).1)) then (4, false) else (5, false)
end Go.HL
end

/-! WcA -/
section
namespace Go.HL
open Go Go.Proofs
set_option linter.unusedVariables false
set_option linter.unusedSimpArgs false
def badF (f : Fr) : Prop := f.fr < 0 ∨ 6 < f.fr ∨ f.to < 0 ∨ 6 < f.to ∨ f.dl < 0 ∨ 5 < f.dl ∨ f.kd < 1 ∨ 7 < f.kd ∨ f.att < 0 ∨ 1048576 < f.att ∨ f.s.pr < 0 ∨ 1048576 < f.s.pr ∨ f.s.att < 0 ∨ 1048576 < f.s.att ∨ f.s.ph < 0 ∨ 5 < f.s.ph
instance (f : Fr) : Decidable (badF f) := by unfold badF; infer_instance
def frameE (f : Fr) : Option Nat := if badF f then some 2 else none
attribute [local irreducible] HW HO HQ HD HC QOp Has Upd Puts Gets seqQ blkQ loopQ fnQ actQ nextP unQ MapF
set_option maxHeartbeats 1000000 in
theorem wcheck_calls (T : Nat) (E : Nat → Addr) (f : Fr) (L : Heap) (hG : Er T E [2] L) : HC Tryz.prog 182 [.agg ⟨fc f⟩] L (fun v L' => v = eV T E (frameE f) ∧ L' = L) := by
  unfold frameE
  refine hc_enter (fun _ _ => Tryz.call182 _ _) Tryz.func182 rfl Tryz.ntmps182 (Nat.le_of_ble_eq_true rfl) ?_; simp only [args0, Nat.reduceAdd]
  repeat' (first | (show HW _ _ _ _ _ _; first | apply hw_seq | apply hw_region | apply hw_block | apply hw_exit | refine g_t ?_ | refine g_f ?_ | apply hw_skip | apply hw_ret) | (show HO _ _ _ _ _ _ _; first | apply ho_nil | refine g_q (qe S) ?_ | refine g_q (qg S) ?_ | refine g_q (ql S) ?_ | refine g_q (qs S) ?_ | refine g_q (qb S) ?_ | refine g_q (qbA S) ?_ | refine g_n ?_ | refine g_on ?_ | refine wa S (fun b => ?_) | refine wb (fun b => ?_) | refine ws S ?_ | refine wS S (fun b => ?_) | refine wSa S (fun b => ?_) | refine wSn S (fun b => ?_)) | ((first | refine g_b (fun h => ?_) (fun h => ?_) | refine g_s (fun h => ?_) (fun h => ?_)) <;> ((try simp only [zA, zB, zC, zD, zE, zF, ne_eq, zG, zH, and_true, true_and, eq_self, zI, zJ, zK, reduceCtorEq, zL, zM] at h); (try (exfalso; first | omega | with_reducible exact h (by assumption) | with_reducible exact absurd h (by assumption))))) | apply seqQ_normal | apply seqQ_ret | apply seqQ_exit | apply blkQ_here | refine g_bx ?_ | apply blkQ_ret | apply blkQ_normal | apply loopQ_ret | apply loopQ_exit | apply unQ_ret | apply unQ_exit | apply unQ_succ)
  refine hw_rounds 8 ?_
  repeat' (first | (show HW _ _ _ _ _ _; first | apply hw_seq | apply hw_region | apply hw_block | apply hw_exit | refine g_t ?_ | refine g_f ?_ | apply hw_skip | apply hw_ret) | (show HO _ _ _ _ _ _ _; first | apply ho_nil | refine g_q (qe S) ?_ | refine g_q (qg S) ?_ | refine g_q (ql S) ?_ | refine g_q (qs S) ?_ | refine g_q (qb S) ?_ | refine g_q (qbA S) ?_ | refine g_n ?_ | refine g_on ?_ | refine wa S (fun b => ?_) | refine wb (fun b => ?_) | refine ws S ?_ | refine wS S (fun b => ?_) | refine wSa S (fun b => ?_) | refine wSn S (fun b => ?_)) | ((first | refine g_b (fun h => ?_) (fun h => ?_) | refine g_s (fun h => ?_) (fun h => ?_)) <;> ((try simp only [zA, zB, zC, zD, zE, zF, ne_eq, zG, zH, and_true, true_and, eq_self, zI, zJ, zK, reduceCtorEq, zL, zM] at h); (try (exfalso; first | omega | with_reducible exact h (by assumption) | with_reducible exact absurd h (by assumption))))) | apply seqQ_normal | apply seqQ_ret | apply seqQ_exit | apply blkQ_here | refine g_bx ?_ | apply blkQ_ret | apply blkQ_normal | apply loopQ_ret | apply loopQ_exit | apply unQ_ret | apply unQ_exit | apply unQ_succ)
  all_goals first
    | (exact sp1 (by repeat (first | exact LS.refl _ | apply LS.k | apply LS.c)) ⟨by rw [if_pos (by unfold badF; omega)], rfl⟩; done)
    | (exact sp1 (by repeat (first | exact LS.refl _ | apply LS.k | apply LS.c)) ⟨by rw [if_neg (by unfold badF; omega)], rfl⟩; done)
end Go.HL
end

/-! StA -/
section
namespace Go.HL
open Go Go.Proofs
set_option linter.unusedVariables false
set_option linter.unusedSimpArgs false
attribute [local irreducible] HW HO HQ HD HC QOp Has Upd Puts Gets seqQ blkQ loopQ fnQ actQ nextP unQ MapF
/-- a site: its journal, its number; the deals that it refuses -/
def siC (sp bj mb : Nat) (id : Int) : List Blk := [(sp, .cells ⟨[pt bj 0, iv id, .map (some mb)]⟩ 187)]
def mpC (mb : Nat) (es : List MapEntry) (ck : Nat) : List Blk := [(mb, .map ⟨es⟩ ck)]
def openS (st : St) : Bool := decide (st.ph ≠ 2 ∧ st.ph ≠ 3)
def askM (ref : Int → Bool) (f : Fr) (st : St) : St := if st.ph = 0 then (if ref f.dl then { st with ph := 3 } else { st with ph := 1 }) else st
/-- the state behind a frame, the answer's kind, whether it is yes -/
def turnM (ref : Int → Bool) (f : Fr) (st : St) : St × Int × Bool :=
  if f.kd = 1 then (askM ref f st, 2, decide ((askM ref f st).ph ≠ 3)) else
  if f.kd = 3 then ({ st with pr := max st.pr f.att }, 4, decide (st.pr < f.att)) else
  if f.kd = 5 then (if afterS f.s.ph = 0 then (st, 0, false) else if openS st = true ∧ st.pr ≤ f.att then (⟨f.s.ph, f.att, f.att⟩, 6, true) else (st, 6, false)) else
  if f.kd = 7 then (if openS st = true ∧ (f.s.ph = 2 ∨ f.s.ph = 3) then { st with ph := f.s.ph } else st, 0, false) else (st, 0, false)
set_option maxHeartbeats 1000000 in
theorem turn_calls (sp bj mb : Nat) (id : Int) (es : List MapEntry) (ck : Nat) (ref : Int → Bool) (f : Fr) (st : St) (L : Heap) (hF : MapF iv es ref) :
    HC Tryz.prog 183 [pt sp 0, .agg ⟨fc f⟩, .agg ⟨sc st⟩] (siC sp bj mb id :: mpC mb es ck :: L) (fun v L' => v = .tuple ⟨[.agg ⟨sc (turnM ref f st).1⟩, iv (turnM ref f st).2.1, .bool (turnM ref f st).2.2]⟩ ∧ L' = siC sp bj mb id :: mpC mb es ck :: L) := by
  unfold turnM
  have hop : ∀ b, openS st = b → (b = true ↔ st.ph ≠ 2 ∧ st.ph ≠ 3) := fun b h => by rw [← h]; simp [openS]
  generalize openS st = op at *
  replace hop := hop op rfl
  by_cases k1 : f.kd = 1
  · rw [if_pos k1]
    unfold askM
    refine hc_enter (fun _ _ => Tryz.call183 _ _) Tryz.func183 rfl Tryz.ntmps183 (Nat.le_of_ble_eq_true rfl) ?_; simp only [args0, Nat.reduceAdd]
    repeat' (first | (show HW _ _ _ _ _ _; first | apply hw_seq | apply hw_region | apply hw_block | apply hw_exit | refine g_t ?_ | refine g_f ?_ | apply hw_skip | apply hw_ret | refine g_k S ?_ | refine g_w S ?_) | (show HO _ _ _ _ _ _ _; first | apply ho_nil | refine g_q (qe S) ?_ | refine g_q (ql S) ?_ | refine g_q (qs S) ?_ | refine g_q (qb S) ?_ | refine g_q (qbA S) ?_ | refine g_q (qmI S) ?_ | refine g_n ?_ | refine g_on ?_ | refine wa S (fun b => ?_) | refine wb (fun b => ?_) | refine ws S ?_) | (show HQ _ _ _ _ _ _ _; first | apply hq_nil | refine k_q (qe S) ?_ | refine k_q (ql S) ?_ | refine k_q (qs S) ?_ | refine k_q (qb S) ?_ | refine k_q (qbA S) ?_ | refine k_q (qmI S) ?_ | refine k_n ?_) | (show HD _ _ _ _ _ _ _ _; first | apply hd_nil | refine d_q 100 (by exact rfl) (fun _ => qe S) ?_ | refine d_q 100 (by exact rfl) (fun _ => qb S) ?_ | refine d_q 100 (by exact rfl) (fun _ => qbA S) ?_ | refine d_q 100 (by exact rfl) (fun _ => qmI S) ?_ | refine dl S 100 ?_ | refine ds S 100 ?_ | refine d_n 100 ?_) | ((first | refine g_b (fun h => ?_) (fun h => ?_) | refine g_s (fun h => ?_) (fun h => ?_) | refine k_s (fun h => ?_) (fun h => ?_) | refine d_sp 100 (fun h => ?_) (fun h => ?_)) <;> ((try simp only [zA, zB, zC, zD, zE, zF, ne_eq, zG, zH, and_true, true_and, eq_self, zI, zJ, zK, reduceCtorEq, zL, zM] at h); (try (exfalso; first | omega | with_reducible exact h (by assumption) | with_reducible exact absurd h (by assumption))))) | (show HD _ _ _ _ _ _ _ _; refine da 101 ?_) | refine dx ?_ | apply dx0 | refine dxd ?_ | refine dxk ?_ | apply seqQ_normal | apply seqQ_ret | apply seqQ_exit | apply blkQ_here | refine g_bx ?_ | apply blkQ_ret | apply blkQ_normal)
    all_goals refine sp3 (LS.skip _ (LS.skip _ (LS.skip _ (LS.refl _)))) ⟨?_, rfl⟩ (hx := rcell S (hg := gets_cons rfl (gets_cons rfl (gets_cons rfl gets_nil))))
    all_goals simp [sc, *]
  rw [if_neg k1]
  by_cases k3 : f.kd = 3
  · rw [if_pos k3]
    refine hc_enter (fun _ _ => Tryz.call183 _ _) Tryz.func183 rfl Tryz.ntmps183 (Nat.le_of_ble_eq_true rfl) ?_; simp only [args0, Nat.reduceAdd]
    repeat' (first | (show HW _ _ _ _ _ _; first | apply hw_seq | apply hw_region | apply hw_block | apply hw_exit | refine g_t ?_ | refine g_f ?_ | apply hw_skip | apply hw_ret | refine g_k S ?_ | refine g_w S ?_) | (show HO _ _ _ _ _ _ _; first | apply ho_nil | refine g_q (qe S) ?_ | refine g_q (ql S) ?_ | refine g_q (qs S) ?_ | refine g_q (qb S) ?_ | refine g_q (qbA S) ?_ | refine g_q (qmI S) ?_ | refine g_n ?_ | refine g_on ?_ | refine wa S (fun b => ?_) | refine wb (fun b => ?_) | refine ws S ?_) | (show HQ _ _ _ _ _ _ _; first | apply hq_nil | refine k_q (qe S) ?_ | refine k_q (ql S) ?_ | refine k_q (qs S) ?_ | refine k_q (qb S) ?_ | refine k_q (qbA S) ?_ | refine k_q (qmI S) ?_ | refine k_n ?_) | (show HD _ _ _ _ _ _ _ _; first | apply hd_nil | refine d_q 100 (by exact rfl) (fun _ => qe S) ?_ | refine d_q 100 (by exact rfl) (fun _ => qb S) ?_ | refine d_q 100 (by exact rfl) (fun _ => qbA S) ?_ | refine d_q 100 (by exact rfl) (fun _ => qmI S) ?_ | refine dl S 100 ?_ | refine ds S 100 ?_ | refine d_n 100 ?_) | ((first | refine g_b (fun h => ?_) (fun h => ?_) | refine g_s (fun h => ?_) (fun h => ?_) | refine k_s (fun h => ?_) (fun h => ?_) | refine d_sp 100 (fun h => ?_) (fun h => ?_)) <;> ((try simp only [zA, zB, zC, zD, zE, zF, ne_eq, zG, zH, and_true, true_and, eq_self, zI, zJ, zK, reduceCtorEq, zL, zM] at h); (try (exfalso; first | omega | with_reducible exact h (by assumption) | with_reducible exact absurd h (by assumption))))) | (show HD _ _ _ _ _ _ _ _; refine da 101 ?_) | refine dx ?_ | apply dx0 | refine dxd ?_ | refine dxk ?_ | apply seqQ_normal | apply seqQ_ret | apply seqQ_exit | apply blkQ_here | refine g_bx ?_ | apply blkQ_ret | apply blkQ_normal)
    all_goals refine sp3 (LS.skip _ (LS.skip _ (LS.skip _ (LS.refl _)))) ⟨?_, rfl⟩ (hx := rcell S (hg := gets_cons rfl (gets_cons rfl (gets_cons rfl gets_nil))))
    all_goals simp [sc, *]
  rw [if_neg k3]
  by_cases k5 : f.kd = 5
  · rw [if_pos k5]
    by_cases ha : afterS f.s.ph = 0
    · rw [if_pos ha]
      refine hc_enter (fun _ _ => Tryz.call183 _ _) Tryz.func183 rfl Tryz.ntmps183 (Nat.le_of_ble_eq_true rfl) ?_; simp only [args0, Nat.reduceAdd]
      repeat' (first | (show HW _ _ _ _ _ _; first | apply hw_seq | apply hw_region | apply hw_block | apply hw_exit | refine g_t ?_ | refine g_f ?_ | apply hw_skip | apply hw_ret | refine g_k S ?_ | refine g_w S ?_) | (show HO _ _ _ _ _ _ _; first | apply ho_nil | refine g_q (qe S) ?_ | refine g_q (ql S) ?_ | refine g_q (qs S) ?_ | refine g_q (qb S) ?_ | refine g_q (qbA S) ?_ | refine g_q (qmI S) ?_ | refine g_q (qC (after_calls _ _)) ?_ | refine g_n ?_ | refine g_on ?_ | refine wa S (fun b => ?_) | refine wb (fun b => ?_) | refine ws S ?_) | (show HQ _ _ _ _ _ _ _; first | apply hq_nil | refine k_q (qe S) ?_ | refine k_q (ql S) ?_ | refine k_q (qs S) ?_ | refine k_q (qb S) ?_ | refine k_q (qbA S) ?_ | refine k_q (qmI S) ?_ | refine k_q (qC (after_calls _ _)) ?_ | refine k_n ?_) | (show HD _ _ _ _ _ _ _ _; first | apply hd_nil | refine d_q 100 (by exact rfl) (fun _ => qe S) ?_ | refine d_q 100 (by exact rfl) (fun _ => qb S) ?_ | refine d_q 100 (by exact rfl) (fun _ => qbA S) ?_ | refine d_q 100 (by exact rfl) (fun _ => qmI S) ?_ | refine dl S 100 ?_ | refine ds S 100 ?_ | refine d_n 100 ?_ | refine d_q 0 (by exact rfl) (fun _ => qC (after_calls _ _)) ?_ | refine d_q 1 (by exact rfl) (fun _ => qC (after_calls _ _)) ?_ | refine d_q 2 (by exact rfl) (fun _ => qC (after_calls _ _)) ?_ | refine d_q 3 (by exact rfl) (fun _ => qC (after_calls _ _)) ?_) | ((first | refine g_b (fun h => ?_) (fun h => ?_) | refine g_s (fun h => ?_) (fun h => ?_) | refine k_s (fun h => ?_) (fun h => ?_) | refine d_sp 100 (fun h => ?_) (fun h => ?_)) <;> ((try simp only [zA, zB, zC, zD, zE, zF, ne_eq, zG, zH, and_true, true_and, eq_self, zI, zJ, zK, reduceCtorEq, zL, zM] at h); (try (exfalso; first | omega | with_reducible exact h (by assumption) | with_reducible exact absurd h (by assumption))))) | (show HD _ _ _ _ _ _ _ _; refine da 101 ?_) | refine dx ?_ | apply dx0 | refine dxd ?_ | refine dxk ?_ | apply seqQ_normal | apply seqQ_ret | apply seqQ_exit | apply blkQ_here | refine g_bx ?_ | apply blkQ_ret | apply blkQ_normal)
      all_goals refine sp3 (LS.skip _ (LS.skip _ (LS.skip _ (LS.refl _)))) ⟨?_, rfl⟩ (hx := rcell S (hg := gets_cons rfl (gets_cons rfl (gets_cons rfl gets_nil))))
      all_goals simp [sc]
    · rw [if_neg ha]
      refine hc_enter (fun _ _ => Tryz.call183 _ _) Tryz.func183 rfl Tryz.ntmps183 (Nat.le_of_ble_eq_true rfl) ?_; simp only [args0, Nat.reduceAdd]
      repeat' (first | (show HW _ _ _ _ _ _; first | apply hw_seq | apply hw_region | apply hw_block | apply hw_exit | refine g_t ?_ | refine g_f ?_ | apply hw_skip | apply hw_ret | refine g_k S ?_ | refine g_w S ?_) | (show HO _ _ _ _ _ _ _; first | apply ho_nil | refine g_q (qe S) ?_ | refine g_q (ql S) ?_ | refine g_q (qs S) ?_ | refine g_q (qb S) ?_ | refine g_q (qbA S) ?_ | refine g_q (qmI S) ?_ | refine g_q (qC (after_calls _ _)) ?_ | refine g_n ?_ | refine g_on ?_ | refine wa S (fun b => ?_) | refine wb (fun b => ?_) | refine ws S ?_) | (show HQ _ _ _ _ _ _ _; first | apply hq_nil | refine k_q (qe S) ?_ | refine k_q (ql S) ?_ | refine k_q (qs S) ?_ | refine k_q (qb S) ?_ | refine k_q (qbA S) ?_ | refine k_q (qmI S) ?_ | refine k_q (qC (after_calls _ _)) ?_ | refine k_n ?_) | (show HD _ _ _ _ _ _ _ _; first | apply hd_nil | refine d_q 100 (by exact rfl) (fun _ => qe S) ?_ | refine d_q 100 (by exact rfl) (fun _ => qb S) ?_ | refine d_q 100 (by exact rfl) (fun _ => qbA S) ?_ | refine d_q 100 (by exact rfl) (fun _ => qmI S) ?_ | refine dl S 100 ?_ | refine ds S 100 ?_ | refine d_n 100 ?_ | refine d_q 0 (by exact rfl) (fun _ => qC (after_calls _ _)) ?_ | refine d_q 1 (by exact rfl) (fun _ => qC (after_calls _ _)) ?_ | refine d_q 2 (by exact rfl) (fun _ => qC (after_calls _ _)) ?_ | refine d_q 3 (by exact rfl) (fun _ => qC (after_calls _ _)) ?_) | ((first | refine g_b (fun h => ?_) (fun h => ?_) | refine g_s (fun h => ?_) (fun h => ?_) | refine k_s (fun h => ?_) (fun h => ?_) | refine d_sp 100 (fun h => ?_) (fun h => ?_)) <;> ((try simp only [zA, zB, zC, zD, zE, zF, ne_eq, zG, zH, and_true, true_and, eq_self, zI, zJ, zK, reduceCtorEq, zL, zM] at h); (try (exfalso; first | omega | with_reducible exact h (by assumption) | with_reducible exact absurd h (by assumption))))) | (show HD _ _ _ _ _ _ _ _; refine da 101 ?_) | refine dx ?_ | apply dx0 | refine dxd ?_ | refine dxk ?_ | apply seqQ_normal | apply seqQ_ret | apply seqQ_exit | apply blkQ_here | refine g_bx ?_ | apply blkQ_ret | apply blkQ_normal)
      all_goals refine sp3 (LS.skip _ (LS.skip _ (LS.skip _ (LS.refl _)))) ⟨?_, rfl⟩ (hx := rcell S (hg := gets_cons rfl (gets_cons rfl (gets_cons rfl gets_nil))))
      all_goals simp [sc, hop, *]
  rw [if_neg k5]
  by_cases k7 : f.kd = 7
  · rw [if_pos k7]
    refine hc_enter (fun _ _ => Tryz.call183 _ _) Tryz.func183 rfl Tryz.ntmps183 (Nat.le_of_ble_eq_true rfl) ?_; simp only [args0, Nat.reduceAdd]
    repeat' (first | (show HW _ _ _ _ _ _; first | apply hw_seq | apply hw_region | apply hw_block | apply hw_exit | refine g_t ?_ | refine g_f ?_ | apply hw_skip | apply hw_ret | refine g_k S ?_ | refine g_w S ?_) | (show HO _ _ _ _ _ _ _; first | apply ho_nil | refine g_q (qe S) ?_ | refine g_q (ql S) ?_ | refine g_q (qs S) ?_ | refine g_q (qb S) ?_ | refine g_q (qbA S) ?_ | refine g_q (qmI S) ?_ | refine g_n ?_ | refine g_on ?_ | refine wa S (fun b => ?_) | refine wb (fun b => ?_) | refine ws S ?_) | (show HQ _ _ _ _ _ _ _; first | apply hq_nil | refine k_q (qe S) ?_ | refine k_q (ql S) ?_ | refine k_q (qs S) ?_ | refine k_q (qb S) ?_ | refine k_q (qbA S) ?_ | refine k_q (qmI S) ?_ | refine k_n ?_) | (show HD _ _ _ _ _ _ _ _; first | apply hd_nil | refine d_q 100 (by exact rfl) (fun _ => qe S) ?_ | refine d_q 100 (by exact rfl) (fun _ => qb S) ?_ | refine d_q 100 (by exact rfl) (fun _ => qbA S) ?_ | refine d_q 100 (by exact rfl) (fun _ => qmI S) ?_ | refine dl S 100 ?_ | refine ds S 100 ?_ | refine d_n 100 ?_) | ((first | refine g_b (fun h => ?_) (fun h => ?_) | refine g_s (fun h => ?_) (fun h => ?_) | refine k_s (fun h => ?_) (fun h => ?_) | refine d_sp 100 (fun h => ?_) (fun h => ?_)) <;> ((try simp only [zA, zB, zC, zD, zE, zF, ne_eq, zG, zH, and_true, true_and, eq_self, zI, zJ, zK, reduceCtorEq, zL, zM] at h); (try (exfalso; first | omega | with_reducible exact h (by assumption) | with_reducible exact absurd h (by assumption))))) | (show HD _ _ _ _ _ _ _ _; refine da 101 ?_) | refine dx ?_ | apply dx0 | refine dxd ?_ | refine dxk ?_ | apply seqQ_normal | apply seqQ_ret | apply seqQ_exit | apply blkQ_here | refine g_bx ?_ | apply blkQ_ret | apply blkQ_normal)
    all_goals refine sp3 (LS.skip _ (LS.skip _ (LS.skip _ (LS.refl _)))) ⟨?_, rfl⟩ (hx := rcell S (hg := gets_cons rfl (gets_cons rfl (gets_cons rfl gets_nil))))
    all_goals simp [sc, hop, *]
  rw [if_neg k7]
  refine hc_enter (fun _ _ => Tryz.call183 _ _) Tryz.func183 rfl Tryz.ntmps183 (Nat.le_of_ble_eq_true rfl) ?_; simp only [args0, Nat.reduceAdd]
  repeat' (first | (show HW _ _ _ _ _ _; first | apply hw_seq | apply hw_region | apply hw_block | apply hw_exit | refine g_t ?_ | refine g_f ?_ | apply hw_skip | apply hw_ret | refine g_k S ?_ | refine g_w S ?_) | (show HO _ _ _ _ _ _ _; first | apply ho_nil | refine g_q (qe S) ?_ | refine g_q (ql S) ?_ | refine g_q (qs S) ?_ | refine g_q (qb S) ?_ | refine g_q (qbA S) ?_ | refine g_q (qmI S) ?_ | refine g_n ?_ | refine g_on ?_ | refine wa S (fun b => ?_) | refine wb (fun b => ?_) | refine ws S ?_) | (show HQ _ _ _ _ _ _ _; first | apply hq_nil | refine k_q (qe S) ?_ | refine k_q (ql S) ?_ | refine k_q (qs S) ?_ | refine k_q (qb S) ?_ | refine k_q (qbA S) ?_ | refine k_q (qmI S) ?_ | refine k_n ?_) | (show HD _ _ _ _ _ _ _ _; first | apply hd_nil | refine d_q 100 (by exact rfl) (fun _ => qe S) ?_ | refine d_q 100 (by exact rfl) (fun _ => qb S) ?_ | refine d_q 100 (by exact rfl) (fun _ => qbA S) ?_ | refine d_q 100 (by exact rfl) (fun _ => qmI S) ?_ | refine dl S 100 ?_ | refine ds S 100 ?_ | refine d_n 100 ?_) | ((first | refine g_b (fun h => ?_) (fun h => ?_) | refine g_s (fun h => ?_) (fun h => ?_) | refine k_s (fun h => ?_) (fun h => ?_) | refine d_sp 100 (fun h => ?_) (fun h => ?_)) <;> ((try simp only [zA, zB, zC, zD, zE, zF, ne_eq, zG, zH, and_true, true_and, eq_self, zI, zJ, zK, reduceCtorEq, zL, zM] at h); (try (exfalso; first | omega | with_reducible exact h (by assumption) | with_reducible exact absurd h (by assumption))))) | (show HD _ _ _ _ _ _ _ _; refine da 101 ?_) | refine dx ?_ | apply dx0 | refine dxd ?_ | refine dxk ?_ | apply seqQ_normal | apply seqQ_ret | apply seqQ_exit | apply blkQ_here | refine g_bx ?_ | apply blkQ_ret | apply blkQ_normal)
  all_goals refine sp3 (LS.skip _ (LS.skip _ (LS.skip _ (LS.refl _)))) ⟨?_, rfl⟩ (hx := rcell S (hg := gets_cons rfl (gets_cons rfl (gets_cons rfl gets_nil))))
  all_goals simp [sc]
end Go.HL
end

/-! StB -/
section
namespace Go.HL
open Go Go.Proofs
set_option linter.unusedVariables false
set_option linter.unusedSimpArgs false
def siteE (id : Int) (m : Pl) : Option Nat := if id < 0 ∨ 7 ≤ id then some 2 else if m.b.length < 216 then some 2 else if m.off then some 6 else none
attribute [local irreducible] HW HO HQ HD HC QOp Has Upd Puts Gets seqQ blkQ loopQ fnQ actQ nextP unQ MapF
attribute [local irreducible] jcells plC
theorem getOk_calls (bj bp : Nat) (j : Jn) (d : Nat) (L : Heap) (hb : Has L bj (.cells ⟨jcells bp j⟩ 261)) (hl : j.l.length = 6) (hd : d < 6) : HC Tryz.prog 121 [pt bj 0, iv d] L (fun v L' => v = .tuple ⟨[.agg ⟨sc (j.l.getD d zeroE).s⟩, .nilIface]⟩ ∧ L' = L) := by
  refine hcHas (fun L => ?_) hb
  have he : j.l[d]? = some (j.l.getD d zeroE) := by
    rw [List.getD, List.getElem?_eq_getElem (by omega)]; rfl
  have g1 := jgets (bp := bp) he
  have g2 := jgetsS (bp := bp) he
  refine hc_enter (fun _ _ => Tryz.call121 _ _) Tryz.func121 rfl Tryz.ntmps121 (Nat.le_of_ble_eq_true rfl) ?_; simp only [args0, Nat.reduceAdd]
  repeat' (first | (show HW _ _ _ _ _ _; first | apply hw_seq | apply hw_region | refine g_t ?_ | refine g_f ?_ | apply hw_skip | apply hw_ret | refine g_k S ?_ | refine g_w S ?_) | (show HO _ _ _ _ _ _ _; first | apply ho_nil | refine g_q (qe S) ?_ | refine g_q (qg S) ?_ | refine g_q (qs S) ?_ | refine g_q (qb S) ?_ | refine g_q (qbA S) ?_ | refine g_n ?_ | refine g_on ?_ | refine wa S (fun b => ?_) | refine ws S ?_) | (show HQ _ _ _ _ _ _ _; first | apply hq_nil | refine k_q (qe S) ?_ | refine k_q (qg S) ?_ | refine k_q (qs S) ?_ | refine k_q (qb S) ?_ | refine k_q (qbA S) ?_ | refine k_n ?_) | (show HD _ _ _ _ _ _ _ _; first | apply hd_nil | refine d_q 100 (by exact rfl) (fun _ => qe S) ?_ | refine d_q 100 (by exact rfl) (fun _ => qb S) ?_ | refine d_q 100 (by exact rfl) (fun _ => qbA S) ?_ | refine ds S 100 ?_ | refine dg S 100 (fun _ _ => ?_) | refine d_n 100 ?_) | ((first | refine g_b (fun h => ?_) (fun h => ?_) | refine g_s (fun h => ?_) (fun h => ?_) | refine k_s (fun h => ?_) (fun h => ?_) | refine d_sp 100 (fun h => ?_) (fun h => ?_)) <;> ((try simp only [zA, zB, zC, zD, zE, zF, ne_eq, zG, zH, and_true, true_and, eq_self, zI, zJ, zK, reduceCtorEq, zL, zM] at h); (try (exfalso; first | omega | with_reducible exact h (by assumption) | with_reducible exact absurd h (by assumption))))) | (show HD _ _ _ _ _ _ _ _; refine da 101 ?_) | refine dx ?_ | apply dx0 | refine dxd ?_ | refine dxk ?_ | apply seqQ_normal | apply seqQ_ret)
  exact sp2 (LS.skip _ (LS.refl _)) ⟨rfl, rfl⟩ (hx := rcell S (hg := gets_cons rfl (gets_cons rfl (gets_cons rfl gets_nil))))
theorem snew_calls (T : Nat) (E : Nat → Addr) (id : Int) (bp ba : Nat) (m : Pl) (L : Heap) (hG : Er T E [2, 3, 6] L) (hm : m.b.length ≤ 1000000) : HC Tryz.prog 65 [iv id, pt bp 0] (plC bp ba m :: L) (fun v L' => match siteE id m with
    | some e => v = .tuple ⟨[.pointer none, eV T E (some e)]⟩ ∧ L' = plC bp ba m :: L
    | none => ∃ sp bj mb, v = .tuple ⟨[pt sp 0, .nilIface]⟩ ∧ L' = siC sp bj mb id :: mpC mb [] 0 :: plC bp ba m :: jC bj bp ⟨openM m.b, false⟩ :: L) := by
  have ko := open_calls T E bp ba m L hG.sub hm
  have hG2 := hG.cons (plC bp ba m)
  unfold siteE
  by_cases h1 : id < 0 ∨ 7 ≤ id
  · rw [if_pos h1]
    refine hc_enter (fun _ _ => Tryz.call65 _ _) Tryz.func65 rfl Tryz.ntmps65 (Nat.le_of_ble_eq_true rfl) ?_; simp only [args0, Nat.reduceAdd]
    repeat' (first | (show HW _ _ _ _ _ _; first | apply hw_seq | apply hw_region | refine g_t ?_ | refine g_f ?_ | apply hw_skip | apply hw_ret | refine g_d S ?_) | (show HO _ _ _ _ _ _ _; first | apply ho_nil | refine g_q (qe S) ?_ | refine g_q (qg S) ?_ | refine g_q (qb S) ?_ | refine g_q (qbA S) ?_ | refine g_n ?_ | refine g_on ?_ | refine wb (fun b => ?_) | refine wMk (fun b => ?_)) | (show HD _ _ _ _ _ _ _ _; first | apply hd_nil | refine d_q 100 (by exact rfl) (fun _ => qe S) ?_ | refine d_q 100 (by exact rfl) (fun _ => qb S) ?_ | refine d_q 100 (by exact rfl) (fun _ => qbA S) ?_ | refine dg S 100 (fun _ _ => ?_) | refine d_n 100 ?_) | ((first | refine g_b (fun h => ?_) (fun h => ?_) | refine g_s (fun h => ?_) (fun h => ?_) | refine d_sp 100 (fun h => ?_) (fun h => ?_)) <;> ((try simp only [zA, zB, zC, zD, zE, zF, ne_eq, zG, zH, and_true, true_and, eq_self, zI, zJ, zK, reduceCtorEq, zL, zM] at h); (try (exfalso; first | omega | with_reducible exact h (by assumption) | with_reducible exact absurd h (by assumption))))) | (show HD _ _ _ _ _ _ _ _; refine da 101 ?_) | refine dx ?_ | apply dx0 | refine dxd ?_ | refine dxk ?_ | apply seqQ_normal | apply seqQ_ret)
    all_goals exact sp2 (LS.refl _) ⟨rfl, rfl⟩
  rw [if_neg h1]
  by_cases h2 : m.b.length < 216
  · simp only [if_pos h2] at ko ⊢
    refine hc_enter (fun _ _ => Tryz.call65 _ _) Tryz.func65 rfl Tryz.ntmps65 (Nat.le_of_ble_eq_true rfl) ?_; simp only [args0, Nat.reduceAdd]
    repeat' (first | (show HW _ _ _ _ _ _; first | apply hw_seq | apply hw_region | refine g_t ?_ | refine g_f ?_ | apply hw_skip | apply hw_ret | refine g_d S ?_) | (show HO _ _ _ _ _ _ _; first | apply ho_nil | refine g_q (qe S) ?_ | refine g_q (qg S) ?_ | refine g_q (qb S) ?_ | refine g_q (qbA S) ?_ | refine g_n ?_ | refine g_on ?_ | refine wb (fun b => ?_) | refine wMk (fun b => ?_)) | (show HD _ _ _ _ _ _ _ _; first | apply hd_nil | refine d_q 100 (by exact rfl) (fun _ => qe S) ?_ | refine d_q 100 (by exact rfl) (fun _ => qb S) ?_ | refine d_q 100 (by exact rfl) (fun _ => qbA S) ?_ | refine dg S 100 (fun _ _ => ?_) | refine d_n 100 ?_) | ((first | refine g_b (fun h => ?_) (fun h => ?_) | refine g_s (fun h => ?_) (fun h => ?_) | refine d_sp 100 (fun h => ?_) (fun h => ?_)) <;> ((try simp only [zA, zB, zC, zD, zE, zF, ne_eq, zG, zH, and_true, true_and, eq_self, zI, zJ, zK, reduceCtorEq, zL, zM] at h); (try (exfalso; first | omega | with_reducible exact h (by assumption) | with_reducible exact absurd h (by assumption))))) | (show HD _ _ _ _ _ _ _ _; refine da 101 ?_) | refine dx ?_ | apply dx0 | refine dxd ?_ | refine dxk ?_ | apply seqQ_normal | apply seqQ_ret)
    refine gc ko ?_
    rintro v L' ⟨rfl, rfl⟩
    repeat' (first | (show HW _ _ _ _ _ _; first | apply hw_seq | apply hw_region | refine g_t ?_ | refine g_f ?_ | apply hw_skip | apply hw_ret | refine g_d S ?_) | (show HO _ _ _ _ _ _ _; first | apply ho_nil | refine g_q (qe S) ?_ | refine g_q (qg S) ?_ | refine g_q (qb S) ?_ | refine g_q (qbA S) ?_ | refine g_n ?_ | refine g_on ?_ | refine wb (fun b => ?_) | refine wMk (fun b => ?_)) | (show HD _ _ _ _ _ _ _ _; first | apply hd_nil | refine d_q 100 (by exact rfl) (fun _ => qe S) ?_ | refine d_q 100 (by exact rfl) (fun _ => qb S) ?_ | refine d_q 100 (by exact rfl) (fun _ => qbA S) ?_ | refine dg S 100 (fun _ _ => ?_) | refine d_n 100 ?_) | ((first | refine g_b (fun h => ?_) (fun h => ?_) | refine g_s (fun h => ?_) (fun h => ?_) | refine d_sp 100 (fun h => ?_) (fun h => ?_)) <;> ((try simp only [zA, zB, zC, zD, zE, zF, ne_eq, zG, zH, and_true, true_and, eq_self, zI, zJ, zK, reduceCtorEq, zL, zM] at h); (try (exfalso; first | omega | with_reducible exact h (by assumption) | with_reducible exact absurd h (by assumption))))) | (show HD _ _ _ _ _ _ _ _; refine da 101 ?_) | refine dx ?_ | apply dx0 | refine dxd ?_ | refine dxk ?_ | apply seqQ_normal | apply seqQ_ret)
    exact sp2 (LS.refl _) ⟨rfl, rfl⟩
  simp only [if_neg h2] at ko ⊢
  by_cases h3 : m.off = true
  · simp only [if_pos h3] at ko ⊢
    refine hc_enter (fun _ _ => Tryz.call65 _ _) Tryz.func65 rfl Tryz.ntmps65 (Nat.le_of_ble_eq_true rfl) ?_; simp only [args0, Nat.reduceAdd]
    repeat' (first | (show HW _ _ _ _ _ _; first | apply hw_seq | apply hw_region | refine g_t ?_ | refine g_f ?_ | apply hw_skip | apply hw_ret | refine g_d S ?_) | (show HO _ _ _ _ _ _ _; first | apply ho_nil | refine g_q (qe S) ?_ | refine g_q (qg S) ?_ | refine g_q (qb S) ?_ | refine g_q (qbA S) ?_ | refine g_n ?_ | refine g_on ?_ | refine wb (fun b => ?_) | refine wMk (fun b => ?_)) | (show HD _ _ _ _ _ _ _ _; first | apply hd_nil | refine d_q 100 (by exact rfl) (fun _ => qe S) ?_ | refine d_q 100 (by exact rfl) (fun _ => qb S) ?_ | refine d_q 100 (by exact rfl) (fun _ => qbA S) ?_ | refine dg S 100 (fun _ _ => ?_) | refine d_n 100 ?_) | ((first | refine g_b (fun h => ?_) (fun h => ?_) | refine g_s (fun h => ?_) (fun h => ?_) | refine d_sp 100 (fun h => ?_) (fun h => ?_)) <;> ((try simp only [zA, zB, zC, zD, zE, zF, ne_eq, zG, zH, and_true, true_and, eq_self, zI, zJ, zK, reduceCtorEq, zL, zM] at h); (try (exfalso; first | omega | with_reducible exact h (by assumption) | with_reducible exact absurd h (by assumption))))) | (show HD _ _ _ _ _ _ _ _; refine da 101 ?_) | refine dx ?_ | apply dx0 | refine dxd ?_ | refine dxk ?_ | apply seqQ_normal | apply seqQ_ret)
    refine gc ko ?_
    rintro v L' ⟨rfl, rfl⟩
    repeat' (first | (show HW _ _ _ _ _ _; first | apply hw_seq | apply hw_region | refine g_t ?_ | refine g_f ?_ | apply hw_skip | apply hw_ret | refine g_d S ?_) | (show HO _ _ _ _ _ _ _; first | apply ho_nil | refine g_q (qe S) ?_ | refine g_q (qg S) ?_ | refine g_q (qb S) ?_ | refine g_q (qbA S) ?_ | refine g_n ?_ | refine g_on ?_ | refine wb (fun b => ?_) | refine wMk (fun b => ?_)) | (show HD _ _ _ _ _ _ _ _; first | apply hd_nil | refine d_q 100 (by exact rfl) (fun _ => qe S) ?_ | refine d_q 100 (by exact rfl) (fun _ => qb S) ?_ | refine d_q 100 (by exact rfl) (fun _ => qbA S) ?_ | refine dg S 100 (fun _ _ => ?_) | refine d_n 100 ?_) | ((first | refine g_b (fun h => ?_) (fun h => ?_) | refine g_s (fun h => ?_) (fun h => ?_) | refine d_sp 100 (fun h => ?_) (fun h => ?_)) <;> ((try simp only [zA, zB, zC, zD, zE, zF, ne_eq, zG, zH, and_true, true_and, eq_self, zI, zJ, zK, reduceCtorEq, zL, zM] at h); (try (exfalso; first | omega | with_reducible exact h (by assumption) | with_reducible exact absurd h (by assumption))))) | (show HD _ _ _ _ _ _ _ _; refine da 101 ?_) | refine dx ?_ | apply dx0 | refine dxd ?_ | refine dxk ?_ | apply seqQ_normal | apply seqQ_ret)
    exact sp2 (LS.refl _) ⟨rfl, rfl⟩
  simp only [if_neg h3] at ko ⊢
  refine hc_enter (fun _ _ => Tryz.call65 _ _) Tryz.func65 rfl Tryz.ntmps65 (Nat.le_of_ble_eq_true rfl) ?_; simp only [args0, Nat.reduceAdd]
  repeat' (first | (show HW _ _ _ _ _ _; first | apply hw_seq | apply hw_region | refine g_t ?_ | refine g_f ?_ | apply hw_skip | apply hw_ret | refine g_d S ?_) | (show HO _ _ _ _ _ _ _; first | apply ho_nil | refine g_q (qe S) ?_ | refine g_q (qg S) ?_ | refine g_q (qb S) ?_ | refine g_q (qbA S) ?_ | refine g_n ?_ | refine g_on ?_ | refine wb (fun b => ?_) | refine wMk (fun b => ?_)) | (show HD _ _ _ _ _ _ _ _; first | apply hd_nil | refine d_q 100 (by exact rfl) (fun _ => qe S) ?_ | refine d_q 100 (by exact rfl) (fun _ => qb S) ?_ | refine d_q 100 (by exact rfl) (fun _ => qbA S) ?_ | refine dg S 100 (fun _ _ => ?_) | refine d_n 100 ?_) | ((first | refine g_b (fun h => ?_) (fun h => ?_) | refine g_s (fun h => ?_) (fun h => ?_) | refine d_sp 100 (fun h => ?_) (fun h => ?_)) <;> ((try simp only [zA, zB, zC, zD, zE, zF, ne_eq, zG, zH, and_true, true_and, eq_self, zI, zJ, zK, reduceCtorEq, zL, zM] at h); (try (exfalso; first | omega | with_reducible exact h (by assumption) | with_reducible exact absurd h (by assumption))))) | (show HD _ _ _ _ _ _ _ _; refine da 101 ?_) | refine dx ?_ | apply dx0 | refine dxd ?_ | refine dxk ?_ | apply seqQ_normal | apply seqQ_ret)
  refine gc ko ?_
  rintro v L' ⟨bj, rfl, rfl⟩
  repeat' (first | (show HW _ _ _ _ _ _; first | apply hw_seq | apply hw_region | refine g_t ?_ | refine g_f ?_ | apply hw_skip | apply hw_ret | refine g_d S ?_) | (show HO _ _ _ _ _ _ _; first | apply ho_nil | refine g_q (qe S) ?_ | refine g_q (qg S) ?_ | refine g_q (qb S) ?_ | refine g_q (qbA S) ?_ | refine g_n ?_ | refine g_on ?_ | refine wb (fun b => ?_) | refine wMk (fun b => ?_)) | (show HD _ _ _ _ _ _ _ _; first | apply hd_nil | refine d_q 100 (by exact rfl) (fun _ => qe S) ?_ | refine d_q 100 (by exact rfl) (fun _ => qb S) ?_ | refine d_q 100 (by exact rfl) (fun _ => qbA S) ?_ | refine dg S 100 (fun _ _ => ?_) | refine d_n 100 ?_) | ((first | refine g_b (fun h => ?_) (fun h => ?_) | refine g_s (fun h => ?_) (fun h => ?_) | refine d_sp 100 (fun h => ?_) (fun h => ?_)) <;> ((try simp only [zA, zB, zC, zD, zE, zF, ne_eq, zG, zH, and_true, true_and, eq_self, zI, zJ, zK, reduceCtorEq, zL, zM] at h); (try (exfalso; first | omega | with_reducible exact h (by assumption) | with_reducible exact absurd h (by assumption))))) | (show HD _ _ _ _ _ _ _ _; refine da 101 ?_) | refine dx ?_ | apply dx0 | refine dxd ?_ | refine dxk ?_ | apply seqQ_normal | apply seqQ_ret)
  exact sp2 (by repeat (first | (with_reducible first | refine LS.p0 ?_ | refine LS.p1 ?_ | refine LS.p2 ?_ | refine LS.p3 ?_ | refine LS.p4 ?_ | refine LS.p5 ?_ | refine LS.p6 ?_ | refine LS.p7 ?_ | refine LS.p8 ?_ | refine LS.p9 ?_ | refine LS.p10 ?_ | refine LS.p11 ?_ | refine LS.p12 ?_ | refine LS.e ?_ | exact LS.refl _) | refine LS.p0 ?_ | refine LS.p1 ?_ | refine LS.p2 ?_ | refine LS.p3 ?_ | refine LS.p4 ?_ | refine LS.p5 ?_ | refine LS.p6 ?_ | refine LS.p7 ?_ | refine LS.p8 ?_ | refine LS.p9 ?_ | refine LS.p10 ?_ | refine LS.p11 ?_ | refine LS.p12 ?_ | (with_reducible refine LS.c ?_))) ⟨_, _, _, rfl, rfl⟩
theorem refuse_calls (T : Nat) (E : Nat → Addr) (sp bj mb bp : Nat) (id : Int) (es : List MapEntry) (ck : Nat) (ref : Int → Bool) (j : Jn) (d : Int) (L : Heap) (hG : Er T E [2] L) (hl : j.l.length = 6) (hF : MapF iv es ref) :
    HC Tryz.prog 67 [pt sp 0, iv d] (siC sp bj mb id :: mpC mb es ck :: jC bj bp j :: L) (fun v L' => if d < 0 ∨ 6 ≤ d then v = eV T E (some 2) ∧ L' = siC sp bj mb id :: mpC mb es ck :: jC bj bp j :: L
      else ∃ es' ck', MapF iv es' (fun x => if x = d then true else ref x) ∧ v = .nilIface ∧ L' = siC sp bj mb id :: mpC mb es' ck' :: jC bj bp j :: L) := by
  have kg := fun L hG => get_calls T E bj bp j d L hG hl
  by_cases h : d < 0 ∨ 6 ≤ d
  · simp only [if_pos h] at kg ⊢
    refine hc_enter (fun _ _ => Tryz.call67 _ _) Tryz.func67 rfl Tryz.ntmps67 (Nat.le_of_ble_eq_true rfl) ?_; simp only [args0, Nat.reduceAdd]
    repeat' (first | (show HW _ _ _ _ _ _; first | apply hw_seq | apply hw_region | refine g_t ?_ | refine g_f ?_ | apply hw_skip | apply hw_ret) | (show HO _ _ _ _ _ _ _; first | apply ho_nil | refine g_q (qe S) ?_ | refine g_q (ql S) ?_ | refine wa S (fun b => ?_) | refine ws S ?_) | ((first | refine g_b (fun h => ?_) (fun h => ?_)) <;> ((try simp only [zA, zB, zC, zD, zE, zF, ne_eq, zG, zH, and_true, true_and, eq_self, zI, zJ, zK, reduceCtorEq, zL, zM] at h); (try (exfalso; first | omega | with_reducible exact h (by assumption) | with_reducible exact absurd h (by assumption))))) | apply seqQ_normal | apply seqQ_ret)
    refine fo 2 ?_
    refine gc (kg _ ((hG.cons _).cons _)) ?_
    rintro v L' ⟨rfl, rfl⟩
    repeat' (first | (show HW _ _ _ _ _ _; first | apply hw_seq | apply hw_region | refine g_t ?_ | refine g_f ?_ | apply hw_skip | apply hw_ret) | (show HO _ _ _ _ _ _ _; first | apply ho_nil | refine g_q (qe S) ?_ | refine g_q (ql S) ?_ | refine wa S (fun b => ?_) | refine ws S ?_) | ((first | refine g_b (fun h => ?_) (fun h => ?_)) <;> ((try simp only [zA, zB, zC, zD, zE, zF, ne_eq, zG, zH, and_true, true_and, eq_self, zI, zJ, zK, reduceCtorEq, zL, zM] at h); (try (exfalso; first | omega | with_reducible exact h (by assumption) | with_reducible exact absurd h (by assumption))))) | apply seqQ_normal | apply seqQ_ret)
    exact sp1 (by repeat (first | (with_reducible first | refine LS.p0 ?_ | refine LS.p1 ?_ | refine LS.p2 ?_ | refine LS.p3 ?_ | refine LS.p4 ?_ | refine LS.p5 ?_ | refine LS.p6 ?_ | refine LS.p7 ?_ | refine LS.p8 ?_ | refine LS.p9 ?_ | refine LS.p10 ?_ | refine LS.p11 ?_ | refine LS.p12 ?_ | refine LS.e ?_ | exact LS.refl _) | refine LS.p0 ?_ | refine LS.p1 ?_ | refine LS.p2 ?_ | refine LS.p3 ?_ | refine LS.p4 ?_ | refine LS.p5 ?_ | refine LS.p6 ?_ | refine LS.p7 ?_ | refine LS.p8 ?_ | refine LS.p9 ?_ | refine LS.p10 ?_ | refine LS.p11 ?_ | refine LS.p12 ?_ | (with_reducible refine LS.c ?_))) ⟨rfl, rfl⟩
  · simp only [if_neg h] at kg ⊢
    refine hc_enter (fun _ _ => Tryz.call67 _ _) Tryz.func67 rfl Tryz.ntmps67 (Nat.le_of_ble_eq_true rfl) ?_; simp only [args0, Nat.reduceAdd]
    repeat' (first | (show HW _ _ _ _ _ _; first | apply hw_seq | apply hw_region | refine g_t ?_ | refine g_f ?_ | apply hw_skip | apply hw_ret) | (show HO _ _ _ _ _ _ _; first | apply ho_nil | refine g_q (qe S) ?_ | refine g_q (ql S) ?_ | refine wa S (fun b => ?_) | refine ws S ?_) | ((first | refine g_b (fun h => ?_) (fun h => ?_)) <;> ((try simp only [zA, zB, zC, zD, zE, zF, ne_eq, zG, zH, and_true, true_and, eq_self, zI, zJ, zK, reduceCtorEq, zL, zM] at h); (try (exfalso; first | omega | with_reducible exact h (by assumption) | with_reducible exact absurd h (by assumption))))) | apply seqQ_normal | apply seqQ_ret)
    refine fo 2 ?_
    refine gc (kg _ ((hG.cons _).cons _)) ?_
    rintro v L' ⟨rfl, rfl⟩
    repeat' (first | (show HW _ _ _ _ _ _; first | apply hw_seq | apply hw_region | refine g_t ?_ | refine g_f ?_ | apply hw_skip | apply hw_ret) | (show HO _ _ _ _ _ _ _; first | apply ho_nil | refine g_q (qe S) ?_ | refine g_q (ql S) ?_ | refine wa S (fun b => ?_) | refine ws S ?_) | ((first | refine g_b (fun h => ?_) (fun h => ?_)) <;> ((try simp only [zA, zB, zC, zD, zE, zF, ne_eq, zG, zH, and_true, true_and, eq_self, zI, zJ, zK, reduceCtorEq, zL, zM] at h); (try (exfalso; first | omega | with_reducible exact h (by assumption) | with_reducible exact absurd h (by assumption))))) | apply seqQ_normal | apply seqQ_ret)
    refine fo 3 ?_
    refine wmI S hF (fun es' ck' hF' => ?_)
    repeat' (first | (show HW _ _ _ _ _ _; first | apply hw_seq | apply hw_region | refine g_t ?_ | refine g_f ?_ | apply hw_skip | apply hw_ret) | (show HO _ _ _ _ _ _ _; first | apply ho_nil | refine g_q (qe S) ?_ | refine g_q (ql S) ?_ | refine wa S (fun b => ?_) | refine ws S ?_) | ((first | refine g_b (fun h => ?_) (fun h => ?_)) <;> ((try simp only [zA, zB, zC, zD, zE, zF, ne_eq, zG, zH, and_true, true_and, eq_self, zI, zJ, zK, reduceCtorEq, zL, zM] at h); (try (exfalso; first | omega | with_reducible exact h (by assumption) | with_reducible exact absurd h (by assumption))))) | apply seqQ_normal | apply seqQ_ret)
    exact sp1 (by repeat (first | (with_reducible first | refine LS.p0 ?_ | refine LS.p1 ?_ | refine LS.p2 ?_ | refine LS.p3 ?_ | refine LS.p4 ?_ | refine LS.p5 ?_ | refine LS.p6 ?_ | refine LS.p7 ?_ | refine LS.p8 ?_ | refine LS.p9 ?_ | refine LS.p10 ?_ | refine LS.p11 ?_ | refine LS.p12 ?_ | refine LS.e ?_ | exact LS.refl _) | refine LS.p0 ?_ | refine LS.p1 ?_ | refine LS.p2 ?_ | refine LS.p3 ?_ | refine LS.p4 ?_ | refine LS.p5 ?_ | refine LS.p6 ?_ | refine LS.p7 ?_ | refine LS.p8 ?_ | refine LS.p9 ?_ | refine LS.p10 ?_ | refine LS.p11 ?_ | refine LS.p12 ?_ | (with_reducible refine LS.c ?_))) ⟨_, _, hF', rfl, rfl⟩
end Go.HL
end

/-! StC -/
section
namespace Go.HL
open Go Go.Proofs
set_option linter.unusedVariables false
set_option linter.unusedSimpArgs false
/-- what a site hears: its plate, its journal, what it answers, its error -/
def siteM (id : Int) (ref : Int → Bool) (m : Pl) (j : Jn) (f : Fr) : Pl × Jn × List Fr × Option Nat :=
  if badF f then (m, j, [], some 2) else if f.to ≠ id then (m, j, [], some 3) else
  match (putM m j f.dl (turnM ref f (j.l.getD f.dl.toNat zeroE).s).1).2.2 with
  | some e => ((putM m j f.dl (turnM ref f (j.l.getD f.dl.toNat zeroE).s).1).1, (putM m j f.dl (turnM ref f (j.l.getD f.dl.toNat zeroE).s).1).2.1, [], some e)
  | none => ((putM m j f.dl (turnM ref f (j.l.getD f.dl.toNat zeroE).s).1).1, (putM m j f.dl (turnM ref f (j.l.getD f.dl.toNat zeroE).s).1).2.1,
    if (turnM ref f (j.l.getD f.dl.toNat zeroE).s).2.1 = 0 then [] else [⟨id, f.fr, f.dl, (turnM ref f (j.l.getD f.dl.toNat zeroE).s).2.1, f.att, (turnM ref f (j.l.getD f.dl.toNat zeroE).s).2.2, (turnM ref f (j.l.getD f.dl.toNat zeroE).s).1⟩], none)
theorem vec_one {α : Type} {E sz : Nat} {enc : α → List Value} {b : Nat} (x : α) (hsz : (enc x).length = sz) : Vec E sz enc (sl b 0 1 1) [x] [(b, .cells ⟨enc x⟩ E)] :=
  .inr ⟨b, 1, [], rfl, by simp, by simp [hsz], by simp, by simp [hsz]⟩
attribute [local irreducible] HW HO HQ HD HC QOp Has Upd Puts Gets seqQ blkQ loopQ fnQ actQ nextP unQ MapF
attribute [local irreducible] jcells plC putM turnM
set_option maxHeartbeats 1000000 in
theorem shear_calls (T : Nat) (E : Nat → Addr) (sp bj mb bp ba : Nat) (id : Int) (es : List MapEntry) (ck : Nat) (ref : Int → Bool) (m : Pl) (j : Jn) (f : Fr) (L : Heap) (hG : Er T E [2, 3, 5, 6] L) (hF : MapF iv es ref) (hm : PlOk m) (hj : JnOk j) :
    HC Tryz.prog 134 [pt sp 0, .agg ⟨fc f⟩] (siC sp bj mb id :: mpC mb es ck :: plC bp ba m :: jC bj bp j :: L) (fun v L' => ∃ fv c, v = .tuple ⟨[fv, eV T E (siteM id ref m j f).2.2.2]⟩ ∧ FrVec fv (siteM id ref m j f).2.2.1 c ∧
      L' = siC sp bj mb id :: mpC mb es ck :: plC bp ba (siteM id ref m j f).1 :: jC bj bp (siteM id ref m j f).2.1 :: c :: L) := by
  have hG4 := (((hG.cons (jC bj bp j)).cons (plC bp ba m)).cons (mpC mb es ck)).cons (siC sp bj mb id)
  have kc := fun L hG => wcheck_calls T E f L hG
  unfold siteM frameE at *
  by_cases hb : badF f
  · simp only [if_pos hb] at kc ⊢
    refine hc_enter (fun _ _ => Tryz.call134 _ _) Tryz.func134 rfl Tryz.ntmps134 (Nat.le_of_ble_eq_true rfl) ?_; simp only [args0, Nat.reduceAdd]
    repeat' (first | (show HW _ _ _ _ _ _; first | apply hw_seq | apply hw_region | refine g_t ?_ | refine g_f ?_ | apply hw_skip | apply hw_ret | refine g_k S ?_ | refine g_w S ?_) | (show HO _ _ _ _ _ _ _; first | apply ho_nil | refine g_q (qe S) ?_ | refine g_q (qg S) ?_ | refine g_q (ql S) ?_ | refine g_q (qs S) ?_ | refine g_q (qb S) ?_ | refine g_q (qbA S) ?_ | refine g_q (qC (kc _ (hG4.sub.cons _))) ?_ | refine wa S (fun b => ?_) | refine wb (fun b => ?_) | refine ws S ?_ | refine wS S (fun b => ?_) | refine wSa S (fun b => ?_) | refine wSn S (fun b => ?_)) | (show HQ _ _ _ _ _ _ _; first | apply hq_nil | refine k_q (qe S) ?_ | refine k_q (qg S) ?_ | refine k_q (ql S) ?_ | refine k_q (qs S) ?_ | refine k_q (qb S) ?_ | refine k_q (qbA S) ?_ | refine k_q (qC (kc _ (hG4.sub.cons _))) ?_) | (show HD _ _ _ _ _ _ _ _; first | apply hd_nil | refine d_q 100 (by exact rfl) (fun _ => qe S) ?_ | refine d_q 100 (by exact rfl) (fun _ => qb S) ?_ | refine d_q 100 (by exact rfl) (fun _ => qbA S) ?_ | refine dl S 100 ?_ | refine ds S 100 ?_ | refine dg S 100 (fun _ _ => ?_) | refine d_q 0 (by exact rfl) (fun _ => qC (kc _ (hG4.sub.cons _))) ?_ | refine d_q 1 (by exact rfl) (fun _ => qC (kc _ (hG4.sub.cons _))) ?_ | refine d_q 2 (by exact rfl) (fun _ => qC (kc _ (hG4.sub.cons _))) ?_ | refine d_q 3 (by exact rfl) (fun _ => qC (kc _ (hG4.sub.cons _))) ?_) | ((first | refine g_b (fun h => ?_) (fun h => ?_)) <;> ((try simp only [zA, zB, zC, zD, zE, zF, ne_eq, zG, zH, and_true, true_and, eq_self, zI, zJ, zK, reduceCtorEq, zL, zM] at h); (try (exfalso; first | omega | with_reducible exact h (by assumption) | with_reducible exact absurd h (by assumption))))) | (show HD _ _ _ _ _ _ _ _; refine da 101 ?_) | refine dx ?_ | apply dx0 | refine dxd ?_ | refine dxk ?_ | apply seqQ_normal | apply seqQ_ret)
    exact sp2 (L' := siC sp bj mb id :: mpC mb es ck :: plC bp ba m :: jC bj bp j :: [] :: L) (LS.skip _ (LS.refl _)) ⟨_, [], rfl, vec_nil, rfl⟩
  simp only [if_neg hb] at kc ⊢
  by_cases hto : f.to = id
  · simp only [ne_eq, hto, not_true_eq_false, if_false]
    unfold badF at hb
    obtain ⟨fr0, to0, dl0, kd0, at0, ys0, fs0⟩ := f
    simp only at hb hto ⊢
    subst hto
    obtain ⟨d, rfl⟩ := Int.eq_ofNat_of_zero_le (show 0 ≤ dl0 by omega)
    have hd6 : d < 6 := by omega
    clear hb
    simp only [Int.toNat_natCast]
    have kg := fun L h => getOk_calls bj bp j d L h hj.len hd6
    generalize hst : (j.l.getD d zeroE).s = st at *
    have kt := fun L => turn_calls sp bj mb to0 es ck ref ⟨fr0, to0, d, kd0, at0, ys0, fs0⟩ st L hF
    generalize htr : turnM ref ⟨fr0, to0, d, kd0, at0, ys0, fs0⟩ st = tr at *
    have kp := put_calls T E bj bp ba m j d tr.1
    generalize hpr : putM m j d tr.1 = pr at *
    refine hc_enter (fun _ _ => Tryz.call134 _ _) Tryz.func134 rfl Tryz.ntmps134 (Nat.le_of_ble_eq_true rfl) ?_; simp only [args0, Nat.reduceAdd]
    repeat' (first | (show HW _ _ _ _ _ _; first | apply hw_seq | apply hw_region | refine g_t ?_ | refine g_f ?_ | apply hw_skip | apply hw_ret | refine g_k S ?_ | refine g_w S ?_) | (show HO _ _ _ _ _ _ _; first | apply ho_nil | refine g_q (qe S) ?_ | refine g_q (qg S) ?_ | refine g_q (ql S) ?_ | refine g_q (qs S) ?_ | refine g_q (qb S) ?_ | refine g_q (qbA S) ?_ | refine g_q (qC (kc _ (hG4.sub.cons _))) ?_ | refine wa S (fun b => ?_) | refine wb (fun b => ?_) | refine ws S ?_ | refine wS S (fun b => ?_) | refine wSa S (fun b => ?_) | refine wSn S (fun b => ?_)) | (show HQ _ _ _ _ _ _ _; first | apply hq_nil | refine k_q (qe S) ?_ | refine k_q (qg S) ?_ | refine k_q (ql S) ?_ | refine k_q (qs S) ?_ | refine k_q (qb S) ?_ | refine k_q (qbA S) ?_ | refine k_q (qC (kc _ (hG4.sub.cons _))) ?_) | (show HD _ _ _ _ _ _ _ _; first | apply hd_nil | refine d_q 100 (by exact rfl) (fun _ => qe S) ?_ | refine d_q 100 (by exact rfl) (fun _ => qb S) ?_ | refine d_q 100 (by exact rfl) (fun _ => qbA S) ?_ | refine dl S 100 ?_ | refine ds S 100 ?_ | refine dg S 100 (fun _ _ => ?_) | refine d_q 0 (by exact rfl) (fun _ => qC (kc _ (hG4.sub.cons _))) ?_ | refine d_q 1 (by exact rfl) (fun _ => qC (kc _ (hG4.sub.cons _))) ?_ | refine d_q 2 (by exact rfl) (fun _ => qC (kc _ (hG4.sub.cons _))) ?_ | refine d_q 3 (by exact rfl) (fun _ => qC (kc _ (hG4.sub.cons _))) ?_) | ((first | refine g_b (fun h => ?_) (fun h => ?_)) <;> ((try simp only [zA, zB, zC, zD, zE, zF, ne_eq, zG, zH, and_true, true_and, eq_self, zI, zJ, zK, reduceCtorEq, zL, zM] at h); (try (exfalso; first | omega | with_reducible exact h (by assumption) | with_reducible exact absurd h (by assumption))))) | (show HD _ _ _ _ _ _ _ _; refine da 101 ?_) | refine dx ?_ | apply dx0 | refine dxd ?_ | refine dxk ?_ | apply seqQ_normal | apply seqQ_ret)
    refine dcF 0 [(bj, .cells ⟨jcells bp j⟩ 261)] (fun L hL => kg L (hL _ (List.mem_singleton.2 rfl))) (fun p hp => by
      rw [List.mem_singleton.1 hp]
      exact has_next (has_next (has_next (has_next has_here)))) ?_
    simp only [List.map_cons, List.map_nil, List.cons_append, List.nil_append]
    repeat' (first | (show HW _ _ _ _ _ _; first | apply hw_seq | apply hw_region | refine g_t ?_ | refine g_f ?_ | apply hw_skip | apply hw_ret | refine g_k S ?_ | refine g_w S ?_) | (show HO _ _ _ _ _ _ _; first | apply ho_nil | refine g_q (qe S) ?_ | refine g_q (qg S) ?_ | refine g_q (ql S) ?_ | refine g_q (qs S) ?_ | refine g_q (qb S) ?_ | refine g_q (qbA S) ?_ | refine g_q (qC (kc _ (hG4.sub.cons _))) ?_ | refine wa S (fun b => ?_) | refine wb (fun b => ?_) | refine ws S ?_ | refine wS S (fun b => ?_) | refine wSa S (fun b => ?_) | refine wSn S (fun b => ?_)) | (show HQ _ _ _ _ _ _ _; first | apply hq_nil | refine k_q (qe S) ?_ | refine k_q (qg S) ?_ | refine k_q (ql S) ?_ | refine k_q (qs S) ?_ | refine k_q (qb S) ?_ | refine k_q (qbA S) ?_ | refine k_q (qC (kc _ (hG4.sub.cons _))) ?_) | (show HD _ _ _ _ _ _ _ _; first | apply hd_nil | refine d_q 100 (by exact rfl) (fun _ => qe S) ?_ | refine d_q 100 (by exact rfl) (fun _ => qb S) ?_ | refine d_q 100 (by exact rfl) (fun _ => qbA S) ?_ | refine dl S 100 ?_ | refine ds S 100 ?_ | refine dg S 100 (fun _ _ => ?_) | refine d_q 0 (by exact rfl) (fun _ => qC (kc _ (hG4.sub.cons _))) ?_ | refine d_q 1 (by exact rfl) (fun _ => qC (kc _ (hG4.sub.cons _))) ?_ | refine d_q 2 (by exact rfl) (fun _ => qC (kc _ (hG4.sub.cons _))) ?_ | refine d_q 3 (by exact rfl) (fun _ => qC (kc _ (hG4.sub.cons _))) ?_) | ((first | refine g_b (fun h => ?_) (fun h => ?_)) <;> ((try simp only [zA, zB, zC, zD, zE, zF, ne_eq, zG, zH, and_true, true_and, eq_self, zI, zJ, zK, reduceCtorEq, zL, zM] at h); (try (exfalso; first | omega | with_reducible exact h (by assumption) | with_reducible exact absurd h (by assumption))))) | (show HD _ _ _ _ _ _ _ _; refine da 101 ?_) | refine dx ?_ | apply dx0 | refine dxd ?_ | refine dxk ?_ | apply seqQ_normal | apply seqQ_ret)
    repeat' (first | (show HW _ _ _ _ _ _; first | apply hw_seq | apply hw_region | refine g_t ?_ | refine g_f ?_ | apply hw_skip | apply hw_ret | refine g_d S ?_) | (show HO _ _ _ _ _ _ _; first | apply ho_nil | refine g_q (qe S) ?_ | refine g_q (qg S) ?_ | refine g_q (ql S) ?_ | refine g_q (qs S) ?_ | refine g_q (qb S) ?_ | refine g_q (qbA S) ?_ | refine g_q (qC (hq2 kt 2 2)) ?_ | refine wa S (fun b => ?_) | refine wb (fun b => ?_) | refine ws S ?_ | refine wS S (fun b => ?_) | refine wSa S (fun b => ?_) | refine wSn S (fun b => ?_)) | (show HD _ _ _ _ _ _ _ _; first | apply hd_nil | refine d_q 100 (by exact rfl) (fun _ => qe S) ?_ | refine d_q 100 (by exact rfl) (fun _ => qb S) ?_ | refine d_q 100 (by exact rfl) (fun _ => qbA S) ?_ | refine dl S 100 ?_ | refine ds S 100 ?_ | refine dg S 100 (fun _ _ => ?_) | refine d_q 0 (by exact rfl) (fun _ => qC (hq2 kt 2 2)) ?_ | refine d_q 1 (by exact rfl) (fun _ => qC (hq2 kt 2 2)) ?_ | refine d_q 2 (by exact rfl) (fun _ => qC (hq2 kt 2 2)) ?_ | refine d_q 3 (by exact rfl) (fun _ => qC (hq2 kt 2 2)) ?_) | ((first | refine g_b (fun h => ?_) (fun h => ?_)) <;> ((try simp only [zA, zB, zC, zD, zE, zF, ne_eq, zG, zH, and_true, true_and, eq_self, zI, zJ, zK, reduceCtorEq, zL, zM] at h); (try (exfalso; first | omega | with_reducible exact h (by assumption) | with_reducible exact absurd h (by assumption))))) | (show HD _ _ _ _ _ _ _ _; refine da 101 ?_) | refine dx ?_ | apply dx0 | refine dxd ?_ | refine dxk ?_ | apply seqQ_normal | apply seqQ_ret)
    refine fo 6 ?_
    refine fo 6 ?_
    refine gc (kp _ (((((hG.cons _).cons _).cons _).cons _).cons _).sub hm hj) ?_
    rintro v L' ⟨rfl, rfl⟩
    cases he : pr.2.2 with
    | some e =>
      simp only
      repeat' (first | (show HW _ _ _ _ _ _; first | apply hw_seq | apply hw_region | refine g_t ?_ | refine g_f ?_ | apply hw_skip | apply hw_ret | refine g_d S ?_) | (show HO _ _ _ _ _ _ _; first | apply ho_nil | refine g_q (qe S) ?_ | refine g_q (qg S) ?_ | refine g_q (ql S) ?_ | refine g_q (qs S) ?_ | refine g_q (qb S) ?_ | refine g_q (qbA S) ?_ | refine wa S (fun b => ?_) | refine wb (fun b => ?_) | refine ws S ?_ | refine wS S (fun b => ?_) | refine wSa S (fun b => ?_) | refine wSn S (fun b => ?_)) | (show HD _ _ _ _ _ _ _ _; first | apply hd_nil | refine d_q 100 (by exact rfl) (fun _ => qe S) ?_ | refine d_q 100 (by exact rfl) (fun _ => qb S) ?_ | refine d_q 100 (by exact rfl) (fun _ => qbA S) ?_ | refine dl S 100 ?_ | refine ds S 100 ?_ | refine dg S 100 (fun _ _ => ?_)) | ((first | refine g_b (fun h => ?_) (fun h => ?_)) <;> ((try simp only [zA, zB, zC, zD, zE, zF, ne_eq, zG, zH, and_true, true_and, eq_self, zI, zJ, zK, reduceCtorEq, zL, zM] at h); (try (exfalso; first | omega | with_reducible exact h (by assumption) | with_reducible exact absurd h (by assumption))))) | (show HD _ _ _ _ _ _ _ _; refine da 101 ?_) | refine dx ?_ | apply dx0 | refine dxd ?_ | refine dxk ?_ | apply seqQ_normal | apply seqQ_ret)
      exact sp2 (L' := siC sp bj mb to0 :: mpC mb es ck :: plC bp ba pr.1 :: jC bj bp pr.2.1 :: [] :: L) (by repeat (first | (with_reducible first | refine LS.p0 ?_ | refine LS.p1 ?_ | refine LS.p2 ?_ | refine LS.p3 ?_ | refine LS.p4 ?_ | refine LS.p5 ?_ | refine LS.p6 ?_ | refine LS.p7 ?_ | refine LS.p8 ?_ | refine LS.p9 ?_ | refine LS.p10 ?_ | refine LS.p11 ?_ | refine LS.p12 ?_ | refine LS.e ?_ | exact LS.refl _) | refine LS.p0 ?_ | refine LS.p1 ?_ | refine LS.p2 ?_ | refine LS.p3 ?_ | refine LS.p4 ?_ | refine LS.p5 ?_ | refine LS.p6 ?_ | refine LS.p7 ?_ | refine LS.p8 ?_ | refine LS.p9 ?_ | refine LS.p10 ?_ | refine LS.p11 ?_ | refine LS.p12 ?_ | (with_reducible refine LS.c ?_))) ⟨_, [], rfl, vec_nil, rfl⟩
    | none =>
      simp only
      by_cases hk : tr.2.1 = 0
      · simp only [if_pos hk]
        repeat' (first | (show HW _ _ _ _ _ _; first | apply hw_seq | apply hw_region | refine g_t ?_ | refine g_f ?_ | apply hw_skip | apply hw_ret | refine g_d S ?_) | (show HO _ _ _ _ _ _ _; first | apply ho_nil | refine g_q (qe S) ?_ | refine g_q (qg S) ?_ | refine g_q (ql S) ?_ | refine g_q (qs S) ?_ | refine g_q (qb S) ?_ | refine g_q (qbA S) ?_ | refine wa S (fun b => ?_) | refine wb (fun b => ?_) | refine ws S ?_ | refine wS S (fun b => ?_) | refine wSa S (fun b => ?_) | refine wSn S (fun b => ?_)) | (show HD _ _ _ _ _ _ _ _; first | apply hd_nil | refine d_q 100 (by exact rfl) (fun _ => qe S) ?_ | refine d_q 100 (by exact rfl) (fun _ => qb S) ?_ | refine d_q 100 (by exact rfl) (fun _ => qbA S) ?_ | refine dl S 100 ?_ | refine ds S 100 ?_ | refine dg S 100 (fun _ _ => ?_)) | ((first | refine g_b (fun h => ?_) (fun h => ?_)) <;> ((try simp only [zA, zB, zC, zD, zE, zF, ne_eq, zG, zH, and_true, true_and, eq_self, zI, zJ, zK, reduceCtorEq, zL, zM] at h); (try (exfalso; first | omega | with_reducible exact h (by assumption) | with_reducible exact absurd h (by assumption))))) | (show HD _ _ _ _ _ _ _ _; refine da 101 ?_) | refine dx ?_ | apply dx0 | refine dxd ?_ | refine dxk ?_ | apply seqQ_normal | apply seqQ_ret)
        exact sp2 (L' := siC sp bj mb to0 :: mpC mb es ck :: plC bp ba pr.1 :: jC bj bp pr.2.1 :: [] :: L) (by repeat (first | (with_reducible first | refine LS.p0 ?_ | refine LS.p1 ?_ | refine LS.p2 ?_ | refine LS.p3 ?_ | refine LS.p4 ?_ | refine LS.p5 ?_ | refine LS.p6 ?_ | refine LS.p7 ?_ | refine LS.p8 ?_ | refine LS.p9 ?_ | refine LS.p10 ?_ | refine LS.p11 ?_ | refine LS.p12 ?_ | refine LS.e ?_ | exact LS.refl _) | refine LS.p0 ?_ | refine LS.p1 ?_ | refine LS.p2 ?_ | refine LS.p3 ?_ | refine LS.p4 ?_ | refine LS.p5 ?_ | refine LS.p6 ?_ | refine LS.p7 ?_ | refine LS.p8 ?_ | refine LS.p9 ?_ | refine LS.p10 ?_ | refine LS.p11 ?_ | refine LS.p12 ?_ | (with_reducible refine LS.c ?_))) ⟨_, [], rfl, vec_nil, rfl⟩
      · simp only [if_neg hk]
        repeat' (first | (show HW _ _ _ _ _ _; first | apply hw_seq | apply hw_region | refine g_t ?_ | refine g_f ?_ | apply hw_skip | apply hw_ret | refine g_d S ?_) | (show HO _ _ _ _ _ _ _; first | apply ho_nil | refine g_q (qe S) ?_ | refine g_q (qg S) ?_ | refine g_q (ql S) ?_ | refine g_q (qs S) ?_ | refine g_q (qb S) ?_ | refine g_q (qbA S) ?_ | refine wa S (fun b => ?_) | refine wb (fun b => ?_) | refine ws S ?_ | refine wS S (fun b => ?_) | refine wSa S (fun b => ?_) | refine wSn S (fun b => ?_)) | (show HD _ _ _ _ _ _ _ _; first | apply hd_nil | refine d_q 100 (by exact rfl) (fun _ => qe S) ?_ | refine d_q 100 (by exact rfl) (fun _ => qb S) ?_ | refine d_q 100 (by exact rfl) (fun _ => qbA S) ?_ | refine dl S 100 ?_ | refine ds S 100 ?_ | refine dg S 100 (fun _ _ => ?_)) | ((first | refine g_b (fun h => ?_) (fun h => ?_)) <;> ((try simp only [zA, zB, zC, zD, zE, zF, ne_eq, zG, zH, and_true, true_and, eq_self, zI, zJ, zK, reduceCtorEq, zL, zM] at h); (try (exfalso; first | omega | with_reducible exact h (by assumption) | with_reducible exact absurd h (by assumption))))) | (show HD _ _ _ _ _ _ _ _; refine da 101 ?_) | refine dx ?_ | apply dx0 | refine dxd ?_ | refine dxk ?_ | apply seqQ_normal | apply seqQ_ret)
        exact sp2 (L' := siC sp bj mb to0 :: mpC mb es ck :: plC bp ba pr.1 :: jC bj bp pr.2.1 :: [(b, .cells ⟨fc ⟨to0, fr0, d, tr.2.1, at0, tr.2.2, tr.1⟩⟩ 131)] :: L) (LS.p6 (LS.p6 (LS.p1 (LS.p1 (LS.p0 (LS.c (LS.c (LS.c (LS.refl _))))))))) ⟨_, _, rfl, vec_one _ rfl, rfl⟩
  · simp only [ne_eq, hto, not_false_eq_true, if_true]
    refine hc_enter (fun _ _ => Tryz.call134 _ _) Tryz.func134 rfl Tryz.ntmps134 (Nat.le_of_ble_eq_true rfl) ?_; simp only [args0, Nat.reduceAdd]
    repeat' (first | (show HW _ _ _ _ _ _; first | apply hw_seq | apply hw_region | refine g_t ?_ | refine g_f ?_ | apply hw_skip | apply hw_ret | refine g_k S ?_ | refine g_w S ?_) | (show HO _ _ _ _ _ _ _; first | apply ho_nil | refine g_q (qe S) ?_ | refine g_q (qg S) ?_ | refine g_q (ql S) ?_ | refine g_q (qs S) ?_ | refine g_q (qb S) ?_ | refine g_q (qbA S) ?_ | refine g_q (qC (kc _ (hG4.sub.cons _))) ?_ | refine wa S (fun b => ?_) | refine wb (fun b => ?_) | refine ws S ?_ | refine wS S (fun b => ?_) | refine wSa S (fun b => ?_) | refine wSn S (fun b => ?_)) | (show HQ _ _ _ _ _ _ _; first | apply hq_nil | refine k_q (qe S) ?_ | refine k_q (qg S) ?_ | refine k_q (ql S) ?_ | refine k_q (qs S) ?_ | refine k_q (qb S) ?_ | refine k_q (qbA S) ?_ | refine k_q (qC (kc _ (hG4.sub.cons _))) ?_) | (show HD _ _ _ _ _ _ _ _; first | apply hd_nil | refine d_q 100 (by exact rfl) (fun _ => qe S) ?_ | refine d_q 100 (by exact rfl) (fun _ => qb S) ?_ | refine d_q 100 (by exact rfl) (fun _ => qbA S) ?_ | refine dl S 100 ?_ | refine ds S 100 ?_ | refine dg S 100 (fun _ _ => ?_) | refine d_q 0 (by exact rfl) (fun _ => qC (kc _ (hG4.sub.cons _))) ?_ | refine d_q 1 (by exact rfl) (fun _ => qC (kc _ (hG4.sub.cons _))) ?_ | refine d_q 2 (by exact rfl) (fun _ => qC (kc _ (hG4.sub.cons _))) ?_ | refine d_q 3 (by exact rfl) (fun _ => qC (kc _ (hG4.sub.cons _))) ?_) | ((first | refine g_b (fun h => ?_) (fun h => ?_)) <;> ((try simp only [zA, zB, zC, zD, zE, zF, ne_eq, zG, zH, and_true, true_and, eq_self, zI, zJ, zK, reduceCtorEq, zL, zM] at h); (try (exfalso; first | omega | with_reducible exact h (by assumption) | with_reducible exact absurd h (by assumption))))) | (show HD _ _ _ _ _ _ _ _; refine da 101 ?_) | refine dx ?_ | apply dx0 | refine dxd ?_ | refine dxk ?_ | apply seqQ_normal | apply seqQ_ret)
    exact sp2 (L' := siC sp bj mb id :: mpC mb es ck :: plC bp ba m :: jC bj bp j :: [] :: L) (LS.skip _ (LS.refl _)) ⟨_, [], rfl, vec_nil, rfl⟩
end Go.HL
end

/-! JnN -/
section
namespace Go.HL
open Go Go.Proofs
set_option linter.unusedVariables false
set_option linter.unusedSimpArgs false
theorem rdN_foldl (s : List UInt8) (a : Nat) : s.foldl (fun n b => n * 256 + b.toNat) a = a * 256 ^ s.length + rdN s := by
  induction s generalizing a with
  | nil => simp [rdN]
  | cons b s ih =>
    rw [rdN, List.foldl_cons, List.foldl_cons, ih, ih]
    simp only [List.length_cons, Nat.pow_succ]
    have e : a * 256 * 256 ^ s.length = a * (256 ^ s.length * 256) := by rw [Nat.mul_assoc, Nat.mul_comm 256]
    rw [Nat.add_mul, e, Nat.zero_mul, Nat.zero_add]
    omega
theorem rdN_cons (b : UInt8) (s : List UInt8) : rdN (b :: s) = b.toNat * 256 ^ s.length + rdN s := by
  rw [rdN, List.foldl_cons, rdN_foldl]; simp
theorem bt_nat (n k : Nat) : (bt (n : Int) k).toNat = n / 256 ^ k % 256 := by
  have h := bt_val (n : Int) k
  have e : (n : Int) / 2 ^ (8 * k) % 256 = ((n / 256 ^ k % 256 : Nat) : Int) := by
    rw [Int.pow_mul]
    simp
  rw [e] at h
  exact Int.ofNat.inj h
theorem rdN_numB (n k : Nat) : rdN (numB (n : Int) k) = n % 256 ^ k := by
  induction k with
  | zero => simp [numB, rdN, Nat.mod_one]
  | succ k ih =>
    rw [numB, rdN_cons, ih, bt_nat, numB_len, Nat.pow_succ, Nat.mod_mul]
    rw [Nat.mul_comm, Nat.add_comm]
theorem rd_num {n : Int} {k : Nat} (h0 : 0 ≤ n) (h1 : n < 256 ^ k) : ((rdN (numB n k) : Nat) : Int) = n := by
  obtain ⟨n, rfl⟩ := Int.eq_ofNat_of_zero_le h0
  rw [rdN_numB, Nat.mod_eq_of_lt]
  exact Int.ofNat_lt.1 (by simpa using h1)
end Go.HL
end

/-! JnG -/
section
namespace Go.HL
open Go Go.Proofs
set_option linter.unusedVariables false
set_option linter.unusedSimpArgs false

structure EntOk (e : Ent) : Prop where
  n0 : 1 ≤ e.n
  n1 : e.n < 4294967296
  p0 : 0 ≤ e.s.ph
  p1 : e.s.ph ≤ 255
  r0 : 0 ≤ e.s.pr
  r1 : e.s.pr ≤ 1048576
  a0 : 0 ≤ e.s.att
  a1 : e.s.att ≤ 1048576
theorem parse_body {e : Ent} (h : EntOk e) (r : List UInt8) : parse (bodyM e ++ r) = e := by
  obtain ⟨n, ⟨p, q, a⟩⟩ := e
  have l1 := numB_len n 4
  have l2 := numB_len p 1
  have l3 := numB_len q 4
  have l4 := numB_len a 4
  have h1 := h.n0; have h2 := h.n1; have h3 := h.p0; have h4 := h.p1; have h5 := h.r0; have h6 := h.r1; have h7 := h.a0; have h8 := h.a1
  simp only at h1 h2 h3 h4 h5 h6 h7 h8
  have e1 : bodyM ⟨n, p, q, a⟩ ++ r = numB n 4 ++ (numB p 1 ++ (numB q 4 ++ (numB a 4 ++ (numB (crc (head ⟨n, p, q, a⟩)) 4 ++ r)))) := by simp [bodyM, head]
  have t1 : (bodyM ⟨n, p, q, a⟩ ++ r).take 4 = numB n 4 := by rw [e1, List.take_left' l1]
  have t2 : ((bodyM ⟨n, p, q, a⟩ ++ r).take 5).drop 4 = numB p 1 := by
    rw [e1, ← List.append_assoc, List.take_left' (by simp [l1, l2]), List.drop_left' l1]
  have t3 : ((bodyM ⟨n, p, q, a⟩ ++ r).take 9).drop 5 = numB q 4 := by
    rw [e1, ← List.append_assoc, ← List.append_assoc, List.take_left' (by simp [l1, l2, l3]), List.drop_left' (by simp [l1, l2])]
  have t4 : ((bodyM ⟨n, p, q, a⟩ ++ r).take 13).drop 9 = numB a 4 := by
    rw [e1, ← List.append_assoc, ← List.append_assoc, ← List.append_assoc, List.take_left' (by simp [l1, l2, l3, l4]), List.drop_left' (by simp [l1, l2, l3])]
  unfold parse
  rw [t1, t2, t3, t4, rd_num (by omega) (by omega), rd_num (by omega) (by omega), rd_num (by omega) (by omega), rd_num (by omega) (by omega)]
theorem held_body {e : Ent} (h : EntOk e) : heldM (e.n % 2) (bodyM e ++ commitB) = e := by
  rw [heldM_eq, parse_body h]
  rw [if_neg]
  have := h.n0
  simp
  omega
theorem heldM_n (k : Int) (s : List UInt8) (hs : 4 ≤ s.length) : 0 ≤ (heldM k s).n ∧ (heldM k s).n < 4294967296 := by
  rw [heldM_eq]
  split
  · simp
  · have := rdN_lt (s.take 4)
    rw [show (s.take 4).length = 4 by simp; omega] at this
    show 0 ≤ ((rdN (s.take 4) : Nat) : Int) ∧ ((rdN (s.take 4) : Nat) : Int) < 4294967296
    omega
theorem updE_n (a b : Ent) : (updE a b).n = max a.n b.n := by
  unfold updE
  split <;> omega
/-- the slots of bytes whose slot i is X -/
theorem slot_here (Pr X R : List UInt8) (i : Nat) (hP : Pr.length = i * 18) (hX : X.length = 18) : slot (Pr ++ X ++ R) i = X := by
  unfold slot
  rw [List.append_assoc, List.drop_left' hP, List.take_left' hX]
theorem slot_else (Pr X Y R : List UInt8) (i i' : Nat) (hP : Pr.length = i * 18) (hX : X.length = 18) (hY : Y.length = 18) (h : i' ≠ i) : slot (Pr ++ X ++ R) i' = slot (Pr ++ Y ++ R) i' := by
  unfold slot
  rcases Nat.lt_or_gt_of_ne h with h | h
  · have e : ∀ Z : List UInt8, ((Pr ++ Z ++ R).drop (i' * 18)).take 18 = (Pr.drop (i' * 18)).take 18 := fun Z => by
      rw [List.append_assoc, List.drop_append_of_le_length (by omega), List.take_append_of_le_length (by simp; omega)]
    rw [e, e]
  · have e : ∀ Z : List UInt8, Z.length = 18 → ((Pr ++ Z ++ R).drop (i' * 18)).take 18 = (R.drop (i' * 18 - (i * 18 + 18))).take 18 := fun Z hZ => by
      have hl : (Pr ++ Z).length = i * 18 + 18 := by simp [hP, hZ]
      rw [List.drop_append, hl, List.drop_of_length_le (by omega), List.nil_append]
    rw [e X hX, e Y hY]
theorem splice_mid (Pr S X R : List UInt8) (h : X.length = S.length) : splice (Pr ++ S ++ R) Pr.length X = Pr ++ X ++ R := by
  unfold splice
  have e1 : (Pr ++ S ++ R).take Pr.length = Pr := by rw [List.append_assoc, List.take_left' rfl]
  have e2 : (Pr ++ S ++ R).drop (Pr.length + X.length) = R := by rw [List.drop_left' (by simp [h])]
  rw [e1, e2]
end Go.HL
end

/-! JnH -/
section
namespace Go.HL
open Go Go.Proofs
set_option linter.unusedVariables false
set_option linter.unusedSimpArgs false

/-- bytes cut at a slot -/
theorem cut_slot (b : List UInt8) (i : Nat) (h : i * 18 + 18 ≤ b.length) : ∃ Pr S c R, b = Pr ++ (S ++ [c]) ++ R ∧ Pr.length = i * 18 ∧ S.length = 17 := by
  have hd : i * 18 + 17 < b.length := by omega
  refine ⟨b.take (i * 18), (b.drop (i * 18)).take 17, b[i * 18 + 17], b.drop (i * 18 + 18), ?_, by simp; omega, by simp; omega⟩
  have e1 : b.drop (i * 18) = (b.drop (i * 18)).take 17 ++ b.drop (i * 18 + 17) := by
    have := (List.take_append_drop 17 (b.drop (i * 18))).symm
    rwa [List.drop_drop] at this
  have e2 : b.drop (i * 18 + 17) = b[i * 18 + 17] :: b.drop (i * 18 + 18) := List.drop_eq_getElem_cons hd
  have e3 := (List.take_append_drop (i * 18) b).symm
  rw [e1, e2] at e3
  simpa using e3
theorem splice_at {Pr S X R : List UInt8} {n : Nat} (hn : n = Pr.length) (h : X.length = S.length) : splice (Pr ++ S ++ R) n X = Pr ++ X ++ R := by
  subst hn; exact splice_mid Pr S X R h
theorem part1_n {b : List UInt8} {d : Nat} (hd : d < 6) (hl : 216 ≤ b.length) (k : Nat) (hk : k ≤ 2) : 0 ≤ (partE b d k).n ∧ (partE b d k).n < 4294967296 := by
  induction k with
  | zero => simp [partE, zeroE]
  | succ k ih =>
    have h1 := ih (by omega)
    have h2 := heldM_n k (slot b (2 * d + k)) (by rw [slot_len _ _ (by omega) hl]; omega)
    rw [partE, updE_n]
    omega
/-- what is opened behind an entry -/
theorem deal_new {b b' : List UInt8} {d : Nat} {e : Ent} (hl : 216 ≤ b.length) (hd : d < 6) (he : EntOk e) (hn : e.n = (dealM b d).n + 1) {Pr S R : List UInt8} (hb : b = Pr ++ S ++ R) (hb' : b' = Pr ++ (bodyM e ++ commitB) ++ R) (hP : Pr.length = (2 * d + (e.n % 2).toNat) * 18) (hS : S.length = 18) :
    openM b' = (openM b).set d e := by
  have hX : (bodyM e ++ commitB).length = 18 := by simp [bodyM_len, commitB]
  have hk : e.n % 2 = 0 ∨ e.n % 2 = 1 := by omega
  have here : slot b' (2 * d + (e.n % 2).toNat) = bodyM e ++ commitB := by rw [hb']; exact slot_here _ _ _ _ hP hX
  have els : ∀ i, i ≠ 2 * d + (e.n % 2).toNat → slot b' i = slot b i := fun i hi => by rw [hb, hb']; exact slot_else _ _ _ _ _ _ hP hX hS hi
  have hh := held_body he
  have h0 := he.n0
  have hd2 : dealM b' d = e := by
    have q1 : dealM b d = updE (updE zeroE (heldM 0 (slot b (2 * d + 0)))) (heldM 1 (slot b (2 * d + 1))) := rfl
    have q2 : dealM b' d = updE (updE zeroE (heldM 0 (slot b' (2 * d + 0)))) (heldM 1 (slot b' (2 * d + 1))) := rfl
    have m1 : (dealM b d).n = max (max 0 (heldM 0 (slot b (2 * d + 0))).n) (heldM 1 (slot b (2 * d + 1))).n := by rw [q1, updE_n, updE_n]; rfl
    rcases hk with hk | hk
    · rw [hk] at here hh els
      rw [q2, show slot b' (2 * d + 0) = bodyM e ++ commitB from here, hh, els (2 * d + 1) (by simp)]
      have u1 : updE zeroE e = e := by unfold updE; rw [if_pos (by show (0 : Int) < e.n; omega)]
      rw [u1]
      unfold updE
      rw [if_neg (by omega)]
    · rw [hk] at here hh els
      rw [q2, show slot b' (2 * d + 1) = bodyM e ++ commitB from here, hh, els (2 * d + 0) (by simp)]
      have u1 : (updE zeroE (heldM 0 (slot b (2 * d + 0)))).n = max 0 (heldM 0 (slot b (2 * d + 0))).n := by rw [updE_n]; rfl
      generalize updE zeroE (heldM 0 (slot b (2 * d + 0))) = u at *
      unfold updE
      rw [if_pos (by omega)]
  have hdo : ∀ i, i ≠ d → dealM b' i = dealM b i := fun i hi => by
    unfold dealM partE partE partE
    rw [els (2 * i + 0) (by omega), els (2 * i + 1) (by omega)]
  apply List.ext_getElem?
  intro i
  rw [List.getElem?_set]
  by_cases hi : d = i
  · subst hi
    simp [openM, hd, hd2]
  · simp only [hi, if_false, openM, List.getElem?_map]
    by_cases h6 : i < 6
    · simp [h6, hdo i (fun h => hi h.symm)]
    · simp [h6]
structure Good (m : Pl) (j : Jn) : Prop where
  off : m.off = false
  cut : m.cut = -1
  lo : 216 ≤ m.b.length
  hi : m.b.length ≤ 1000000
  dead : j.dead = false
  l : j.l = openM m.b
theorem openM_get {b : List UInt8} {d : Nat} (hd : d < 6) : (openM b).getD d zeroE = dealM b d := by simp [openM, hd]
theorem open_ok {b : List UInt8} (hl : 216 ≤ b.length) : JnOk ⟨openM b, false⟩ := by
  have key : ∀ d, 0 ≤ ((openM b).getD d zeroE).n ∧ ((openM b).getD d zeroE).n < 4294967296 := fun d => by
    by_cases hd : d < 6
    · rw [openM_get hd]; exact part1_n hd hl 2 (by omega)
    · simp [openM, hd, zeroE]
  exact ⟨by simp [openM], fun d => (key d).1, fun d => by have := (key d).2; show ((openM b).getD d zeroE).n ≤ _; omega⟩
theorem Good.ok {m : Pl} {j : Jn} (h : Good m j) : PlOk m ∧ JnOk j := by
  obtain ⟨jl, jd⟩ := j
  have h1 := h.dead
  have h2 := h.l
  simp only at h1 h2
  subst h1; subst h2
  exact ⟨⟨h.hi, by rw [h.cut]; decide, by rw [h.cut]; decide⟩, open_ok h.lo⟩
theorem open_zeros {n : Nat} (h : 216 ≤ n) : openM (zeros n) = List.replicate 6 zeroE := by
  have hs : ∀ i, i < 12 → slot (zeros n) i = zeros 18 := fun i hi => by
    unfold slot zeros
    rw [List.drop_replicate, List.take_replicate, Nat.min_eq_left (by omega)]
  have hh : ∀ k, heldM k (zeros 18) = zeroE := fun k => by
    rw [heldM_eq, if_pos (.inl (by decide))]; rfl
  have hd : ∀ d, d < 6 → dealM (zeros n) d = zeroE := fun d hd => by
    unfold dealM partE partE partE
    rw [hs _ (by omega), hs _ (by omega), hh, hh]
    rfl
  apply List.ext_getElem?
  intro i
  by_cases h : i < 6
  · rw [List.getElem?_replicate, if_pos h]; simp [openM, h, hd i h]
  · simp [openM, h]
theorem zeros_len (n : Nat) : (zeros n).length = n := by simp [zeros]
end Go.HL
end

/-! JnK -/
section
namespace Go.HL
open Go Go.Proofs
set_option linter.unusedVariables false
set_option linter.unusedSimpArgs false
/-- so many bytes less until power fails -/
def cutBy (c : Int) (n : Nat) : Int := if c = -1 then -1 else c - n
theorem writeC {b : List UInt8} {c a : Int} {s : List UInt8} (h0 : 0 ≤ a) (h1 : a + s.length ≤ b.length) :
    writeM ⟨b, false, c⟩ a s = wrOk ⟨b, false, c⟩ a.toNat s := by
  unfold writeM lookM
  simp only [Bool.false_eq_true, if_false]
  rw [if_neg (by omega)]
theorem wrOk_all {b : List UInt8} {c : Int} {a : Nat} {s : List UInt8} (h : c = -1 ∨ s.length ≤ c.toNat) : wrOk ⟨b, false, c⟩ a s = (⟨splice b a s, false, cutBy c s.length⟩, none) := by
  have hk : kM ⟨b, false, c⟩ s.length = s.length := by
    unfold kM; split
    · rfl
    · rcases h with h | h
      · contradiction
      · simp only; omega
  simp [wrOk, hk, cutBy]
theorem wrOk_part {b : List UInt8} {c : Int} {a : Nat} {s : List UInt8} (h0 : 0 ≤ c) (h : c.toNat < s.length) : wrOk ⟨b, false, c⟩ a s = (⟨splice b a (s.take c.toNat), true, 0⟩, some 6) := by
  have hk : kM ⟨b, false, c⟩ s.length = c.toNat := by
    unfold kM; rw [if_neg (by simp only; omega)]; simp only; omega
  simp only [wrOk, hk]
  rw [if_neg (by omega), if_pos h]
  simp [h]
  omega
theorem read_C {b : List UInt8} {c a : Int} {n : Int} (h0 : 0 ≤ a) (h2 : 0 ≤ n) (h1 : a + n ≤ b.length) : readM ⟨b, false, c⟩ a n = ((b.drop a.toNat).take n.toNat, none) := by
  unfold readM lookM
  simp only [Bool.false_eq_true, if_false]
  rw [if_neg (by omega)]
/-- the outcome of an entry's write at a slot -/
def JW (b : List UInt8) (Pr R : List UInt8) (e : Ent) (r : Pl × Option Nat) : Prop :=
  (r.2 = none ∧ r.1.off = false ∧ r.1.b = Pr ++ (bodyM e ++ commitB) ++ R ∧ -1 ≤ r.1.cut) ∨
  (r.2 = some 6 ∧ r.1.off = true ∧ r.1.cut = 0 ∧ (r.1.b = b ∨ ∃ X, X.length = 17 ∧ r.1.b = Pr ++ (X ++ [0]) ++ R))
theorem jw_cut {b : List UInt8} {ct : Int} {d : Nat} {e : Ent} (hct : -1 ≤ ct) (hl : 216 ≤ b.length) (hd : d < 6) (he : 0 ≤ e.n) : ∃ Pr S c R, b = Pr ++ (S ++ [c]) ++ R ∧ Pr.length = (2 * d + (e.n % 2).toNat) * 18 ∧ S.length = 17 ∧
    JW b Pr R e (jwM ⟨b, false, ct⟩ d e) := by
  have hk : 0 ≤ e.n % 2 ∧ e.n % 2 < 2 := by omega
  obtain ⟨Pr, S, c, R, hb, hP, hS⟩ := cut_slot b (2 * d + (e.n % 2).toNat) (by omega)
  refine ⟨Pr, S, c, R, hb, hP, hS, ?_⟩
  have hlen : b.length = (2 * d + (e.n % 2).toNat) * 18 + 18 + R.length := by rw [hb]; simp [hP, hS]; omega
  have ha : jAt d e = ((Pr.length : Nat) : Int) := by unfold jAt; omega
  have lb := bodyM_len e
  have r1 : readM ⟨b, false, ct⟩ (jAt d e + 18 - 1) 1 = ([c], none) := by
    rw [read_C (by omega) (by omega) (by omega)]
    have e1 : (jAt (d : Int) e + 18 - 1).toNat = (Pr ++ S).length := by simp [hS]; omega
    rw [e1, hb, ← List.append_assoc, List.append_assoc (Pr ++ S), List.drop_left' rfl]
    rfl
  have w1 : (∃ c1, -1 ≤ c1 ∧ jw1 ⟨b, false, ct⟩ d e = (⟨Pr ++ (S ++ [0]) ++ R, false, c1⟩, none)) ∨ jw1 ⟨b, false, ct⟩ d e = (⟨b, true, 0⟩, some 6) := by
    unfold jw1
    rw [r1]
    simp only
    split
    · rename_i h
      refine .inl ⟨ct, hct, ?_⟩
      rw [hb, show c = 0 by simpa using h]
    · have hz : Pr ++ (S ++ [c]) ++ R = (Pr ++ S) ++ [c] ++ R := by simp
      rw [writeC (by omega) (by simp; omega)]
      by_cases hc : ct = -1 ∨ 1 ≤ ct.toNat
      · refine .inl ⟨cutBy ct 1, by unfold cutBy; split <;> omega, ?_⟩
        rw [wrOk_all (by simpa using hc), hb, hz, splice_at (S := [c]) (X := [0]) (by simp [hS]; omega) rfl]
        simp
      · refine .inr ?_
        rw [wrOk_part (by omega) (by simp; omega), show ct.toNat = 0 by omega]
        simp [splice_nil]
  unfold JW jwM jw2
  rcases w1 with ⟨c1, hc1, w1⟩ | w1
  · rw [w1]
    simp only
    have hl1 : (Pr ++ (S ++ [0]) ++ R).length = b.length := by rw [hb]; simp
    have hz : Pr ++ (S ++ [0]) ++ R = Pr ++ S ++ ([0] ++ R) := by simp
    rw [writeC (by omega) (by rw [hl1]; omega)]
    by_cases hc : c1 = -1 ∨ 17 ≤ c1.toNat
    · rw [wrOk_all (by rw [lb]; exact hc), hz, splice_at (by omega) (by omega)]
      simp only
      have hl2 : (Pr ++ bodyM e ++ ([0] ++ R)).length = b.length := by rw [hb]; simp [lb, hS]
      have hz2 : Pr ++ bodyM e ++ ([0] ++ R) = (Pr ++ bodyM e) ++ [0] ++ R := by simp
      have hc2 : -1 ≤ cutBy c1 17 := by unfold cutBy; split <;> omega
      rw [lb, writeC (by omega) (by rw [hl2]; simp [commitB]; omega)]
      by_cases hc3 : cutBy c1 17 = -1 ∨ 1 ≤ (cutBy c1 17).toNat
      · left
        rw [wrOk_all (by simpa [commitB] using hc3), hz2, splice_at (S := [0]) (X := commitB) (by simp [lb]; omega) rfl]
        refine ⟨rfl, rfl, by simp, ?_⟩
        show -1 ≤ cutBy (cutBy c1 17) 1
        generalize cutBy c1 17 = q at *
        unfold cutBy; split <;> omega
      · right
        rw [wrOk_part (by omega) (by simp [commitB]; omega), show (cutBy c1 17).toNat = 0 by omega]
        refine ⟨rfl, rfl, rfl, .inr ⟨bodyM e, lb, ?_⟩⟩
        simp [splice_nil]
    · right
      rw [wrOk_part (by omega) (by omega), hz]
      refine ⟨rfl, rfl, rfl, .inr ⟨(bodyM e).take c1.toNat ++ S.drop c1.toNat, by simp [lb, hS]; omega, ?_⟩⟩
      have hS2 : S = S.take c1.toNat ++ S.drop c1.toNat := (List.take_append_drop _ _).symm
      have : Pr ++ S ++ ([0] ++ R) = Pr ++ S.take c1.toNat ++ (S.drop c1.toNat ++ ([0] ++ R)) := by
        rw [← List.append_assoc (Pr ++ S.take c1.toNat), List.append_assoc Pr (S.take c1.toNat), ← hS2]
      show splice (Pr ++ S ++ ([0] ++ R)) _ _ = _
      rw [this, splice_at (by omega) (by simp [lb, hS])]
      simp
  · right
    rw [w1]
    exact ⟨rfl, rfl, rfl, .inl rfl⟩
theorem held_zero {k : Int} {X : List UInt8} : heldM k (X ++ [0]) = zeroE := by
  rw [heldM_eq]
  split
  · rfl
  · rename_i h
    exfalso
    apply h
    right; right
    intro e
    have := congrArg List.getLast? e
    simp [commitB] at this
theorem held_par {k : Int} {s : List UInt8} (h : (heldM k s).n ≠ 0) : (heldM k s).n % 2 = k := by
  rw [heldM_eq] at *
  split at h
  · exact absurd rfl h
  · rename_i hc
    rw [if_neg hc]
    by_cases e : (parse s).n % 2 = k
    · exact e
    · exact absurd (.inr (.inl e)) hc
/-- a slot that held no newest entry is lost: nothing is -/
theorem deal_zap {b b' : List UInt8} {d : Nat} (hl : 216 ≤ b.length) (hd : d < 6) {Pr S R X : List UInt8} {st : Int} (hst : st = ((dealM b d).n + 1) % 2) (hb : b = Pr ++ S ++ R) (hb' : b' = Pr ++ (X ++ [0]) ++ R) (hP : Pr.length = (2 * d + st.toNat) * 18) (hS : S.length = 18) (hX : X.length = 17) :
    openM b' = openM b := by
  have hX' : (X ++ [0]).length = 18 := by simp [hX]
  have hk : st = 0 ∨ st = 1 := by omega
  have here : slot b' (2 * d + st.toNat) = X ++ [0] := by rw [hb']; exact slot_here _ _ _ _ hP hX'
  have els : ∀ i, i ≠ 2 * d + st.toNat → slot b' i = slot b i := fun i hi => by rw [hb, hb']; exact slot_else _ _ _ _ _ _ hP hX' hS hi
  have q1 : dealM b d = updE (updE zeroE (heldM 0 (slot b (2 * d + 0)))) (heldM 1 (slot b (2 * d + 1))) := rfl
  have q2 : dealM b' d = updE (updE zeroE (heldM 0 (slot b' (2 * d + 0)))) (heldM 1 (slot b' (2 * d + 1))) := rfl
  have m1 : (dealM b d).n = max (max 0 (heldM 0 (slot b (2 * d + 0))).n) (heldM 1 (slot b (2 * d + 1))).n := by rw [q1, updE_n, updE_n]; rfl
  have l0 := slot_len b (2 * d + 0) (by omega) hl
  have l1 := slot_len b (2 * d + 1) (by omega) hl
  have n0 := heldM_n 0 (slot b (2 * d + 0)) (by omega)
  have n1 := heldM_n 1 (slot b (2 * d + 1)) (by omega)
  have p0 := held_par (k := 0) (s := slot b (2 * d + 0))
  have p1 := held_par (k := 1) (s := slot b (2 * d + 1))
  have hz : ∀ e : Ent, e.n = 0 → updE zeroE e = zeroE := fun e h => by unfold updE; rw [if_neg (by show ¬ (0 : Int) < e.n; omega)]
  have hd2 : dealM b' d = dealM b d := by
    rcases hk with rfl | rfl
    · rw [q2, show slot b' (2 * d + 0) = X ++ [0] from here, held_zero, els (2 * d + 1) (by simp), q1]
      generalize heldM 0 (slot b (2 * d + 0)) = u at *
      generalize heldM 1 (slot b (2 * d + 1)) = v at *
      have hzz : updE zeroE zeroE = zeroE := by unfold updE; rw [if_neg (by show ¬ (0 : Int) < 0; omega)]
      rw [hzz]
      have hun : (updE zeroE u).n = max 0 u.n := by rw [updE_n]; rfl
      generalize hw : updE zeroE u = w at *
      have hlt : w.n < v.n := by
        by_cases hu0 : u.n = 0
        · omega
        · have := p0 hu0
          omega
      unfold updE
      rw [if_pos (by show (0 : Int) < v.n; omega), if_pos hlt]
    · rw [q2, show slot b' (2 * d + 1) = X ++ [0] from here, held_zero, els (2 * d + 0) (by simp), q1]
      generalize heldM 0 (slot b (2 * d + 0)) = u at *
      generalize heldM 1 (slot b (2 * d + 1)) = v at *
      have hun : (updE zeroE u).n = max 0 u.n := by rw [updE_n]; rfl
      generalize updE zeroE u = w at *
      have hle : v.n ≤ w.n := by
        by_cases hv0 : v.n = 0
        · omega
        · have := p1 hv0
          omega
      unfold updE
      rw [if_neg (by show ¬ w.n < (0 : Int); omega), if_neg (by omega)]
  have hdo : ∀ i, i ≠ d → dealM b' i = dealM b i := fun i hi => by
    unfold dealM partE partE partE
    rw [els (2 * i + 0) (by omega), els (2 * i + 1) (by omega)]
  unfold openM
  apply List.map_congr_left
  intro i hi
  by_cases e : i = d
  · subst e; exact hd2
  · exact hdo i e
/-- a plate and its journal: both alive, or neither -/
structure JI (m : Pl) (j : Jn) : Prop where
  lo : 216 ≤ m.b.length
  hi : m.b.length ≤ 1000000
  c0 : -1 ≤ m.cut
  c1 : m.cut ≤ 9223372036854775807
  off : j.dead = m.off
  l : j.l = openM m.b
theorem JI.pl {m : Pl} {j : Jn} (h : JI m j) : PlOk m := ⟨h.hi, h.c0, h.c1⟩
theorem JI.jn {m : Pl} {j : Jn} (h : JI m j) : JnOk j := by
  have := open_ok h.lo
  exact ⟨by rw [h.l]; exact this.len, by rw [h.l]; exact this.n0, by rw [h.l]; exact this.n1⟩
/-- any Put at all -/
theorem put_any {m : Pl} {j : Jn} (h : JI m j) (deal : Int) (s : St) : JI (putM m j deal s).1 (putM m j deal s).2.1 ∧ (putM m j deal s).1.b.length = m.b.length ∧
    (((putM m j deal s).2.1.l = j.l ∧ (((putM m j deal s).2.2 = some 6 ∧ (putM m j deal s).1.off = true) ∨ (putM m j deal s).2.2 = some 2 ∧ badPut deal s ∨ (putM m j deal s).2.2 = some 5 ∧ 4294967296 ≤ (j.l.getD deal.toNat zeroE).n + 1)) ∨
     (¬ badPut deal s ∧ (putM m j deal s).2.2 = none ∧ m.off = false ∧ (putM m j deal s).1.off = false ∧ (((j.l.getD deal.toNat zeroE).s = s ∧ (putM m j deal s).2.1.l = j.l ∧ (putM m j deal s).1 = m) ∨
        (j.l.getD deal.toNat zeroE).s ≠ s ∧ (putM m j deal s).2.1.l = j.l.set deal.toNat ⟨(j.l.getD deal.toNat zeroE).n + 1, s⟩))) := by
  obtain ⟨b, off, cut⟩ := m
  obtain ⟨jl, dead⟩ := j
  have hJ := h
  obtain ⟨h1, h2, h3, h4, h5, h6⟩ := h
  simp only at h1 h2 h3 h4 h5 h6
  subst h5; subst h6
  unfold putM
  by_cases hdd : dead = true
  · subst hdd
    simp only [if_true]
    exact ⟨hJ, by trivial, .inl ⟨by trivial, .inl ⟨by trivial, by trivial⟩⟩⟩
  have hdd' : dead = false := by simpa using hdd
  subst hdd'
  simp only [Bool.false_eq_true, if_false]
  by_cases hb : badPut deal s
  · rw [if_pos hb]
    exact ⟨hJ, by trivial, .inl ⟨by trivial, .inr (.inl ⟨by trivial, hb⟩)⟩⟩
  rw [if_neg hb]
  have hb2 := hb
  unfold badPut at hb2
  obtain ⟨d, rfl⟩ := Int.eq_ofNat_of_zero_le (show 0 ≤ deal by omega)
  have hd : d < 6 := by omega
  simp only [Int.toNat_natCast, openM_get hd]
  by_cases he : (dealM b d).s = s
  · rw [if_pos he]
    exact ⟨hJ, rfl, .inr ⟨hb, by trivial, by trivial, by trivial, .inl ⟨he, by trivial, by trivial⟩⟩⟩
  rw [if_neg he]
  by_cases hf : 4294967296 ≤ (dealM b d).n + 1
  · rw [if_pos hf]
    exact ⟨hJ, rfl, .inl ⟨rfl, .inr (.inr ⟨by trivial, hf⟩)⟩⟩
  rw [if_neg hf]
  have hn := part1_n hd h1 2 (by omega)
  have hn' : 0 ≤ (dealM b d).n ∧ (dealM b d).n < 4294967296 := hn
  obtain ⟨Pr, S, c, R, e1, e2, e3, hjw⟩ := jw_cut (b := b) (d := d) (ct := cut) (e := ⟨(dealM b d).n + 1, s⟩) h3 h1 hd (by simp only; omega)
  have hpl := jwM_ok hJ.pl d ⟨(dealM b d).n + 1, s⟩
  generalize jwM ⟨b, false, cut⟩ d ⟨(dealM b d).n + 1, s⟩ = r at *
  obtain ⟨⟨b', off', cut'⟩, er⟩ := r
  simp only [JW] at hjw
  rcases hjw with ⟨rfl, rfl, rfl, hc⟩ | ⟨rfl, rfl, rfl, hc⟩
  · have hok : EntOk ⟨(dealM b d).n + 1, s⟩ := ⟨by simp only; omega, by simp only; omega, by simp only; omega, by simp only; omega, by simp only; omega, by simp only; omega, by simp only; omega, by simp only; omega⟩
    have hnew := deal_new (b' := Pr ++ (bodyM ⟨(dealM b d).n + 1, s⟩ ++ commitB) ++ R) h1 hd hok rfl e1 rfl e2 (by simp [e3])
    have hL : (Pr ++ (bodyM ⟨(dealM b d).n + 1, s⟩ ++ commitB) ++ R).length = b.length := by rw [e1]; simp [bodyM_len, commitB, e3]
    refine ⟨⟨by rw [hL]; exact h1, by rw [hL]; exact h2, hc, hpl.hi, rfl, hnew.symm⟩, hL, .inr ⟨hb, by trivial, by trivial, by trivial, .inr ⟨he, by trivial⟩⟩⟩
  · have hopen : openM b' = openM b := by
      rcases hc with hc | ⟨X, hX, hc⟩
      · rw [hc]
      · exact deal_zap h1 hd rfl e1 hc e2 (by simp [e3]) hX
    have hL : b'.length = b.length := by
      rcases hc with hc | ⟨X, hX, hc⟩
      · rw [hc]
      · rw [hc, e1]; simp [hX, e3]
    refine ⟨⟨by rw [hL]; exact h1, by rw [hL]; exact h2, by simp, by simp, rfl, hopen.symm⟩, hL, .inl ⟨by trivial, .inl ⟨by trivial, by trivial⟩⟩⟩
/-- power is cut later; power comes again, and the journal is opened anew -/
theorem JI.cut {m : Pl} {j : Jn} (h : JI m j) {n : Int} (h0 : 0 ≤ n) (h1 : n ≤ 9223372036854775807) : JI { m with cut := n } j := ⟨h.lo, h.hi, by simp only; omega, h1, h.off, h.l⟩
theorem JI.boot {m : Pl} {j : Jn} (h : JI m j) : JI { m with off := false, cut := -1 } ⟨openM m.b, false⟩ := ⟨h.lo, h.hi, by simp, by simp, rfl, rfl⟩
end Go.HL
end

/-! StD -/
section
namespace Go.HL
open Go Go.Proofs
set_option linter.unusedVariables false
set_option linter.unusedSimpArgs false
def stOk (s : St) : Prop := 0 ≤ s.ph ∧ s.ph ≤ 5 ∧ 0 ≤ s.att ∧ s.att ≤ s.pr ∧ s.pr ≤ 1048576
/-- a state behind another one -/
def stLe (a b : St) : Prop := a.pr ≤ b.pr ∧ a.att ≤ b.att ∧ mayS a.ph b.ph = true
theorem stLe_refl {a : St} (h : stOk a) : stLe a a := by
  obtain ⟨h1, h2, -⟩ := h
  exact ⟨Int.le_refl _, Int.le_refl _, decide_eq_true (by omega)⟩
def stAt (j : Jn) (d : Nat) : St := (j.l.getD d zeroE).s
theorem afterS_pos {p : Int} : afterS p ≠ 0 ↔ p = 4 ∨ p = 5 := by unfold afterS; split <;> (try split) <;> omega
theorem turn_ok {ref : Int → Bool} {f : Fr} {st : St} (h : stOk st) (hf : ¬ badF f) : stOk (turnM ref f st).1 ∧ stLe st (turnM ref f st).1 := by
  obtain ⟨h1, h2, h3, h4, h5⟩ := h
  unfold badF at hf
  unfold turnM
  split
  · unfold askM
    split
    · split
      · exact ⟨⟨by simp, by simp, h3, h4, h5⟩, by simp, by simp, decide_eq_true (by simp only; omega)⟩
      · exact ⟨⟨by simp, by simp, h3, h4, h5⟩, by simp, by simp, decide_eq_true (by simp only; omega)⟩
    · exact ⟨⟨h1, h2, h3, h4, h5⟩, stLe_refl ⟨h1, h2, h3, h4, h5⟩⟩
  split
  · have e1 : st.pr ≤ max st.pr f.att := Int.le_max_left _ _
    have e2 : max st.pr f.att ≤ 1048576 := by omega
    exact ⟨⟨h1, h2, h3, Int.le_trans h4 e1, e2⟩, e1, Int.le_refl _, decide_eq_true (by show _ ∧ (st.ph = st.ph ∨ _); exact ⟨⟨h1, h2, h1, h2⟩, .inl rfl⟩)⟩
  split
  · split
    · exact ⟨⟨h1, h2, h3, h4, h5⟩, stLe_refl ⟨h1, h2, h3, h4, h5⟩⟩
    · rename_i ha
      have ha' := afterS_pos.1 ha
      split
      · rename_i ho
        have ho' : st.ph ≠ 2 ∧ st.ph ≠ 3 := by simpa [openS] using ho.1
        exact ⟨⟨by simp only; omega, by simp only; omega, by simp only; omega, by simp, by simp only; omega⟩, by simp only; omega, by simp only; omega, decide_eq_true (by simp only; omega)⟩
      · exact ⟨⟨h1, h2, h3, h4, h5⟩, stLe_refl ⟨h1, h2, h3, h4, h5⟩⟩
  split
  · split
    · rename_i ho
      have ho' : st.ph ≠ 2 ∧ st.ph ≠ 3 := by simpa [openS] using ho.1
      exact ⟨⟨by simp only; omega, by simp only; omega, h3, h4, h5⟩, by simp, by simp, decide_eq_true (by simp only; omega)⟩
    · exact ⟨⟨h1, h2, h3, h4, h5⟩, stLe_refl ⟨h1, h2, h3, h4, h5⟩⟩
  · exact ⟨⟨h1, h2, h3, h4, h5⟩, stLe_refl ⟨h1, h2, h3, h4, h5⟩⟩
/-- a site's plate and journal -/
structure SI (m : Pl) (j : Jn) : Prop where
  ji : JI m j
  st : ∀ d, d < 6 → stOk (stAt j d)
theorem SI.boot {m : Pl} {j : Jn} (h : SI m j) : SI { m with off := false, cut := -1 } ⟨openM m.b, false⟩ := ⟨h.ji.boot, fun d hd => by have := h.st d hd; unfold stAt at *; rw [h.ji.l] at this; exact this⟩
theorem SI.cut {m : Pl} {j : Jn} (h : SI m j) {n : Int} (h0 : 0 ≤ n) (h1 : n ≤ 9223372036854775807) : SI { m with cut := n } j := ⟨h.ji.cut h0 h1, h.st⟩
/-- whatever it hears -/
theorem site_any {id : Int} {ref : Int → Bool} {m : Pl} {j : Jn} (h : SI m j) (f : Fr) : SI (siteM id ref m j f).1 (siteM id ref m j f).2.1 ∧ (siteM id ref m j f).1.b.length = m.b.length ∧ (∀ d, d < 6 → stLe (stAt j d) (stAt (siteM id ref m j f).2.1 d)) ∧
    (((siteM id ref m j f).2.2.1 = []) ∨ (¬ badF f ∧ f.to = id ∧ (siteM id ref m j f).2.2.2 = none ∧ (turnM ref f (stAt j f.dl.toNat)).2.1 ≠ 0 ∧ stAt (siteM id ref m j f).2.1 f.dl.toNat = (turnM ref f (stAt j f.dl.toNat)).1 ∧
      (∀ d, d < 6 → d ≠ f.dl.toNat → stAt (siteM id ref m j f).2.1 d = stAt j d) ∧
      (siteM id ref m j f).2.2.1 = [⟨id, f.fr, f.dl, (turnM ref f (stAt j f.dl.toNat)).2.1, f.att, (turnM ref f (stAt j f.dl.toNat)).2.2, (turnM ref f (stAt j f.dl.toNat)).1⟩])) := by
  unfold siteM
  have same : ∀ d, d < 6 → stLe (stAt j d) (stAt j d) := fun d hd => stLe_refl (h.st d hd)
  by_cases hb : badF f
  · simp only [if_pos hb]
    exact ⟨h, by trivial, same, .inl (by trivial)⟩
  simp only [if_neg hb]
  by_cases hto : f.to = id
  · simp only [ne_eq, hto, not_true_eq_false, if_false]
    have hb2 := hb
    unfold badF at hb2
    obtain ⟨d, hd⟩ := Int.eq_ofNat_of_zero_le (show 0 ≤ f.dl by omega)
    have hd6 : d < 6 := by omega
    rw [hd]
    simp only [Int.toNat_natCast]
    show _ ∧ _ ∧ _ ∧ _
    have ht := turn_ok (ref := ref) (h.st d hd6) hb
    change stOk (turnM ref f (j.l.getD d zeroE).s).1 ∧ stLe (stAt j d) (turnM ref f (j.l.getD d zeroE).s).1 at ht
    have est : stAt j d = (j.l.getD d zeroE).s := rfl
    rw [est]
    generalize htr : turnM ref f (j.l.getD d zeroE).s = tr at *
    have hp := put_any h.ji d tr.1
    generalize putM m j d tr.1 = r at *
    obtain ⟨m', j', er⟩ := r
    simp only at hp ⊢
    obtain ⟨hJ, hL, hp⟩ := hp
    rcases hp with ⟨hl, he⟩ | ⟨hnb, he, ho, ho', hp⟩
    · have hsame : ∀ q, stAt j' q = stAt j q := fun q => by unfold stAt; rw [hl]
      have hS : SI m' j' := ⟨hJ, fun q hq => by rw [hsame]; exact h.st q hq⟩
      have he2 : ∃ x, er = some x := by
        rcases he with ⟨he, -⟩ | ⟨he, -⟩ | ⟨he, -⟩ <;> exact ⟨_, he⟩
      obtain ⟨x, rfl⟩ := he2
      exact ⟨hS, hL, fun q hq => by rw [hsame]; exact same q hq, .inl rfl⟩
    · subst he
      simp only [Int.toNat_natCast] at hp
      have hlen : j.l.length = 6 := h.ji.jn.len
      have hst' : stAt j' d = tr.1 ∧ ∀ q, q ≠ d → stAt j' q = stAt j q := by
        rcases hp with ⟨h1, h2, -⟩ | ⟨h1, h2⟩
        · refine ⟨by unfold stAt; rw [h2, h1], fun q _ => by unfold stAt; rw [h2]⟩
        · refine ⟨by unfold stAt; rw [h2]; simp [List.getD, hlen, hd6], fun q hq => by unfold stAt; rw [h2]; simp [List.getD, List.getElem?_set, Ne.symm hq]⟩
      have hS : SI m' j' := ⟨hJ, fun q hq => by
        by_cases e : q = d
        · rw [e, hst'.1]; exact ht.1
        · rw [hst'.2 q e]; exact h.st q hq⟩
      refine ⟨hS, hL, fun q hq => ?_, ?_⟩
      · by_cases e : q = d
        · rw [e, hst'.1]; exact ht.2
        · rw [hst'.2 q e]; exact same q hq
      · by_cases hk : tr.2.1 = 0
        · exact .inl (if_pos hk)
        · exact .inr ⟨hb, by trivial, rfl, hk, hst'.1, fun q _ hq => hst'.2 q hq, if_neg hk⟩
  · simp only [ne_eq, hto, not_false_eq_true, if_true]
    exact ⟨h, by trivial, same, .inl (by trivial)⟩
end Go.HL
end

/-! TabB -/
section
namespace Go.HL
open Go Go.Proofs
set_option linter.unusedVariables false
set_option linter.unusedSimpArgs false
attribute [local irreducible] HW HO HQ HD HC QOp Has Upd Puts Gets seqQ blkQ loopQ fnQ actQ nextP unQ MapF

theorem stIs_calls (s : St) (b : Nat) (p : Int) (L : Heap) {F : Nat} {fr : Nat × Nat} (hb : Has L b (.cells ⟨[iv p]⟩ F fr)) :
    HC Tryz.prog 181 [.agg ⟨sc s⟩, pt b 0] L (fun v L' => v = .bool (decide (s.ph = p)) ∧ L' = L) := by
  refine hc_enter (fun _ _ => Tryz.call181 _ _) Tryz.func181 rfl Tryz.ntmps181 (Nat.le_of_ble_eq_true rfl) ?_; simp only [args0, Nat.reduceAdd]
  repeat' (first | (show HW _ _ _ _ _ _; first | apply hw_seq | apply hw_region | apply hw_ret) | (show HO _ _ _ _ _ _ _; first | apply ho_nil | refine g_q (qe S) ?_ | refine g_q (ql S) ?_ | refine wb (fun b => ?_)) | apply seqQ_normal | apply seqQ_ret)
  (refine fn_ret1 rfl rfl ?_ ⟨?_, rfl⟩; (next => (repeat (first | exact List.Sublist.refl _ | apply List.Sublist.cons))))
  rfl
theorem findIdx_take {xs : List St} {f : St → Bool} {j : Int} (h0 : 0 ≤ j) (hlt : j < xs.length) (hn : (xs.take j.toNat).any f = false) (h : f (xs[j.toNat]'(by omega)) = true) : xs.any f = true ∧ (xs.findIdx f : Int) = j := by
  have hj : j.toNat < xs.length := by omega
  refine ⟨List.any_eq_true.2 ⟨_, List.getElem_mem hj, h⟩, ?_⟩
  have : xs.findIdx f = j.toNat := by
    rw [List.findIdx_eq hj]
    refine ⟨h, fun k hk => ?_⟩
    rw [List.any_eq_false] at hn
    have hk' : k < (xs.take j.toNat).length := by simp; omega
    have := hn _ (List.getElem_mem hk')
    rw [List.getElem_take] at this
    simpa using this
  omega
theorem index_calls (a : Option Addr) (cap : Nat) (xs : List St) (F : Nat) (cs : List Value) (f : St → Bool) (L : Heap) (hR : Rd sc 3 L a xs) (hl : xs.length ≤ 1000000)
    (hf : ∀ s, HC Tryz.prog F (.agg ⟨sc s⟩ :: cs) L (fun v L' => v = .bool (f s) ∧ L' = L)) :
    HC Tryz.prog 254 [.slice a xs.length cap, .func (.func F) #[] ⟨cs⟩] L (fun v L' => v = iv (if xs.any f then (xs.findIdx f : Int) else -1) ∧ L' = L) := by
  refine hc_enter (fun _ _ => Tryz.call254 _ _) Tryz.func254 rfl Tryz.ntmps254 (Nat.le_of_ble_eq_true rfl) ?_; simp only [args0, Nat.reduceAdd]
  repeat' (first | (show HW _ _ _ _ _ _; first | apply hw_seq | apply hw_region | apply hw_block | apply hw_exit | refine g_t ?_ | refine g_f ?_ | apply hw_skip | apply hw_ret) | (show HO _ _ _ _ _ _ _; first | apply ho_nil | refine g_q (qe S) ?_ | refine g_q (qs S) ?_) | ((first | refine g_b (fun h => ?_) (fun h => ?_)) <;> ((try simp only [zA, zB, zC, zD, zE, zF, ne_eq, zG, zH, and_true, true_and, eq_self, zI, zJ, zK, reduceCtorEq, zL, zM] at h); (try (exfalso; first | omega | with_reducible exact h (by assumption) | with_reducible exact absurd h (by assumption))))) | apply seqQ_normal | apply seqQ_ret | apply seqQ_exit | apply blkQ_here | refine g_bx ?_ | apply blkQ_ret | apply blkQ_normal | apply loopQ_ret | apply loopQ_exit | apply unQ_ret | apply unQ_exit | apply unQ_succ)
  refine hw_loop (σ := Int) (fun j => [(0, .slice a xs.length cap), (1, .func (.func F) #[] ⟨cs⟩), (6, .slice a xs.length cap), (7, iv xs.length), (8, iv j)]) (fun _ => L) (fun j => 0 ≤ j ∧ j ≤ xs.length ∧ (xs.take j.toNat).any f = false) (fun j => (xs.length - j).toNat) 0 (by repeat (first | exact trivial | refine ⟨rfl, ?_⟩)) (List.Sublist.refl _) ⟨by omega, by omega, by simp⟩ ?_
  rintro j ⟨h0, h1, h2⟩
  by_cases hlt : j < xs.length
  · obtain ⟨b, i, l, E, fr, rfl, hb, hg⟩ := hR.at h0 hlt
    repeat' (first | (show HW _ _ _ _ _ _; first | apply hw_seq | apply hw_region | apply hw_block | apply hw_exit | refine g_t ?_ | refine g_f ?_ | apply hw_skip | apply hw_ret) | (show HO _ _ _ _ _ _ _; first | apply ho_nil | refine g_q (qe S) ?_ | refine g_q (qs S) ?_ | refine g_q (qC (hf _)) ?_) | ((first | refine g_b (fun h => ?_) (fun h => ?_)) <;> ((try simp only [zA, zB, zC, zD, zE, zF, ne_eq, zG, zH, and_true, true_and, eq_self, zI, zJ, zK, reduceCtorEq, zL, zM] at h); (try (exfalso; first | omega | with_reducible exact h (by assumption) | with_reducible exact absurd h (by assumption))))) | apply seqQ_normal | apply seqQ_ret | apply seqQ_exit | apply blkQ_here | refine g_bx ?_ | apply blkQ_ret | apply blkQ_normal | apply loopQ_ret | apply loopQ_exit | apply unQ_ret | apply unQ_exit | apply unQ_succ)
    · (refine fn_ret1 rfl rfl ?_ ⟨?_, rfl⟩; (next => (repeat (first | exact List.Sublist.refl _ | apply List.Sublist.cons))))
      obtain ⟨e1, e2⟩ := findIdx_take h0 hlt h2 (by assumption)
      rw [if_pos e1, e2]
    · exact loopQ_normal (j + 1) (by repeat (first | exact trivial | refine ⟨rfl, ?_⟩)) (List.Sublist.refl _) ⟨by omega, by omega, by rw [take_succ h0 hlt, List.any_append, h2]; simp [*]⟩ (by omega)
  · repeat' (first | (show HW _ _ _ _ _ _; first | apply hw_seq | apply hw_region | apply hw_block | apply hw_exit | refine g_t ?_ | refine g_f ?_ | apply hw_skip | apply hw_ret) | (show HO _ _ _ _ _ _ _; first | apply ho_nil | refine g_q (qe S) ?_ | refine g_q (qs S) ?_) | ((first | refine g_b (fun h => ?_) (fun h => ?_)) <;> ((try simp only [zA, zB, zC, zD, zE, zF, ne_eq, zG, zH, and_true, true_and, eq_self, zI, zJ, zK, reduceCtorEq, zL, zM] at h); (try (exfalso; first | omega | with_reducible exact h (by assumption) | with_reducible exact absurd h (by assumption))))) | apply seqQ_normal | apply seqQ_ret | apply seqQ_exit | apply blkQ_here | refine g_bx ?_ | apply blkQ_ret | apply blkQ_normal | apply loopQ_ret | apply loopQ_exit | apply unQ_ret | apply unQ_exit | apply unQ_succ)
    (refine fn_ret1 rfl rfl ?_ ⟨?_, rfl⟩; (next => (repeat (first | exact List.Sublist.refl _ | apply List.Sublist.cons))))
    rw [take_all hlt] at h2
    rw [if_neg (by simp [h2])]
theorem contains_calls (a : Option Addr) (cap : Nat) (xs : List St) (F : Nat) (cs : List Value) (f : St → Bool) (L : Heap) (hR : Rd sc 3 L a xs) (hl : xs.length ≤ 1000000)
    (hf : ∀ s, HC Tryz.prog F (.agg ⟨sc s⟩ :: cs) L (fun v L' => v = .bool (f s) ∧ L' = L)) :
    HC Tryz.prog 180 [.slice a xs.length cap, .func (.func F) #[] ⟨cs⟩] L (fun v L' => v = .bool (xs.any f) ∧ L' = L) := by
  refine hc_enter (fun _ _ => Tryz.call180 _ _) Tryz.func180 rfl Tryz.ntmps180 (Nat.le_of_ble_eq_true rfl) ?_; simp only [args0, Nat.reduceAdd]
  repeat' (first | (show HW _ _ _ _ _ _; first | apply hw_seq | apply hw_region | apply hw_ret) | (show HO _ _ _ _ _ _ _; first | apply ho_nil | refine g_q (qe S) ?_ | refine g_q (qC (index_calls _ _ _ _ _ f _ hR hl hf)) ?_) | apply seqQ_normal | apply seqQ_ret)
  (refine fn_ret1 rfl rfl ?_ ⟨?_, rfl⟩; (next => (repeat (first | exact List.Sublist.refl _ | apply List.Sublist.cons))))
  refine congrArg Value.bool ?_
  cases hx : xs.any f <;> simp
theorem has_calls (p : Int) (a : Option Addr) (cap : Nat) (xs : List St) (L : Heap) (b E : Nat) (fr : Nat × Nat) (hb : Has L b (.cells ⟨[.slice a xs.length cap]⟩ E fr)) (hR : Rd sc 3 L a xs) (hl : xs.length ≤ 1000000) :
    HC Tryz.prog 179 [iv p, pt b 0] L (fun v L' => v = .bool (toldS xs p) ∧ L' = L) := by
  refine hc_enter (fun _ _ => Tryz.call179 _ _) Tryz.func179 rfl Tryz.ntmps179 (Nat.le_of_ble_eq_true rfl) ?_; simp only [args0, Nat.reduceAdd]
  repeat' (first | (show HW _ _ _ _ _ _; first | apply hw_seq | apply hw_region | apply hw_ret) | (show HO _ _ _ _ _ _ _; first | apply ho_nil | refine g_q (qe S) ?_ | refine g_q (ql S) ?_ | refine g_q (qC (contains_calls _ _ _ _ _ (fun s => decide (s.ph = p)) _ (hR.cons _) hl (fun s => stIs_calls s _ p _ has_here))) ?_ | refine wb (fun b => ?_)) | apply seqQ_normal | apply seqQ_ret)
  (refine fn_ret1 rfl rfl ?_ ⟨?_, rfl⟩; (next => (repeat (first | exact List.Sublist.refl _ | apply List.Sublist.cons))))
  rfl
def stepP (m s : St) : St := if prep s then (if m.ph = 0 ∨ m.att < s.att ∨ (s.att = m.att ∧ s.ph = 4) then s else m) else m
def bestP (xs : List St) : St := xs.foldl stepP ⟨0, 0, 0⟩
theorem bestP_snoc (xs : List St) (s : St) : bestP (xs ++ [s]) = stepP (bestP xs) s := by simp [bestP]
def BI (xs : List St) (m : St) (b : Int × Bool) : Prop :=
  (m = ⟨0, 0, 0⟩ ∧ b = (0, true) ∧ ∀ s ∈ xs, prep s = false) ∨
  (b = (m.att, false) ∧ (m.ph = 4 ∧ (∃ s ∈ xs, s.ph = 4 ∧ s.att = m.att) ∨ m.ph = 5 ∧ ∀ s ∈ xs, ¬ (s.ph = 4 ∧ s.att = m.att)) ∧ ∀ s ∈ xs, prep s = true → s.att ≤ m.att)
theorem bi_step (xs : List St) (m s : St) (b : Int × Bool) (h : BI xs m b) : BI (xs ++ [s]) (stepP m s) (bestS [s] b.1 b.2) := by
  unfold BI at *
  simp only [bestS, stepP, List.mem_append, List.mem_singleton]
  by_cases hp : prep s = true
  · have hp' : s.ph = 4 ∨ s.ph = 5 := by simpa [prep] using hp
    rw [if_pos hp, if_pos hp]
    right
    rcases h with ⟨rfl, rfl, hall⟩ | ⟨rfl, hm, hle⟩
    · simp only [Bool.true_or, if_true, true_or]
      refine ⟨trivial, ?_, ?_⟩
      · rcases hp' with h4 | h5
        · exact .inl ⟨h4, s, .inr rfl, h4, rfl⟩
        · refine .inr ⟨h5, fun x hx h => ?_⟩
          rcases hx with hx | rfl
          · have := hall x hx; simp [prep, h.1] at this
          · omega
      · intro x hx hpx
        rcases hx with hx | rfl
        · rw [hall x hx] at hpx; cases hpx
        · omega
    · have hm0 : m.ph ≠ 0 := by rcases hm with h | h <;> omega
      simp only [Bool.false_or, decide_eq_true_eq]
      by_cases hlt : m.att < s.att
      · rw [if_pos hlt, if_pos (.inr (.inl hlt))]
        refine ⟨rfl, ?_, ?_⟩
        · rcases hp' with h4 | h5
          · exact .inl ⟨h4, s, .inr rfl, h4, rfl⟩
          · refine .inr ⟨h5, fun x hx h => ?_⟩
            rcases hx with hx | rfl
            · have := hle x hx (by simp [prep, h.1]); omega
            · omega
        · intro x hx hpx
          rcases hx with hx | rfl
          · have := hle x hx hpx; omega
          · omega
      · rw [if_neg hlt]
        by_cases he : s.att = m.att ∧ s.ph = 4
        · rw [if_pos (.inr (.inr he))]
          refine ⟨by rw [he.1], .inl ⟨he.2, s, .inr rfl, he.2, rfl⟩, ?_⟩
          intro x hx hpx
          rcases hx with hx | rfl
          · have := hle x hx hpx; omega
          · omega
        · rw [if_neg (by simp [hm0, hlt]; omega)]
          refine ⟨rfl, ?_, ?_⟩
          · rcases hm with ⟨h4, x, hx, hx2⟩ | ⟨h5, hno⟩
            · exact .inl ⟨h4, x, .inl hx, hx2⟩
            · refine .inr ⟨h5, fun x hx h => ?_⟩
              rcases hx with hx | rfl
              · exact hno x hx h
              · exact he ⟨h.2, h.1⟩
          · intro x hx hpx
            rcases hx with hx | rfl
            · exact hle x hx hpx
            · omega
  · have hp' : prep s = false := by simpa using hp
    have h4 : s.ph ≠ 4 := fun e => by simp [prep, e] at hp
    rw [if_neg hp, if_neg hp]
    rcases h with ⟨rfl, rfl, hall⟩ | ⟨rfl, hm, hle⟩
    · refine .inl ⟨rfl, rfl, fun x hx => ?_⟩
      rcases hx with hx | rfl
      · exact hall x hx
      · exact hp'
    · refine .inr ⟨rfl, ?_, fun x hx hpx => ?_⟩
      · rcases hm with ⟨h4', x, hx, hx2⟩ | ⟨h5, hno⟩
        · exact .inl ⟨h4', x, .inl hx, hx2⟩
        · refine .inr ⟨h5, fun x hx h => ?_⟩
          rcases hx with hx | rfl
          · exact hno x hx h
          · exact h4 h.1
      · rcases hx with hx | rfl
        · exact hle x hx hpx
        · rw [hp'] at hpx; cases hpx
theorem bi_all (xs : List St) : BI xs (bestP xs) (bestS xs 0 true) := by
  have key : ∀ ys : List St, BI ys.reverse (bestP ys.reverse) (bestS ys.reverse 0 true) := by
    intro ys
    induction ys with
    | nil => exact .inl ⟨rfl, rfl, by simp⟩
    | cons s ys ih =>
      rw [List.reverse_cons, bestP_snoc, bestS_append]
      exact bi_step _ _ s _ ih
  simpa using key xs.reverse
/-- what the two ways of the search have in common -/
theorem best_inv (xs : List St) :
    (bestP xs = ⟨0, 0, 0⟩ ∧ (bestS xs 0 true) = (0, true) ∧ xs.all (fun s => !prep s) = true) ∨
    ((bestP xs).ph = 4 ∧ bestS xs 0 true = ((bestP xs).att, false) ∧ xs.any (fun s => decide (s.ph = 4 ∧ s.att = (bestP xs).att)) = true) ∨
    ((bestP xs).ph = 5 ∧ bestS xs 0 true = ((bestP xs).att, false) ∧ xs.any (fun s => decide (s.ph = 4 ∧ s.att = (bestP xs).att)) = false) := by
  rcases bi_all xs with ⟨h1, h2, h3⟩ | ⟨h1, h2 | h2, h3⟩
  · exact .inl ⟨h1, h2, by simpa using h3⟩
  · refine .inr (.inl ⟨h2.1, h1, ?_⟩)
    simp only [List.any_eq_true, decide_eq_true_eq]
    exact h2.2
  · refine .inr (.inr ⟨h2.1, h1, ?_⟩)
    rw [List.any_eq_false]
    intro x hx
    simpa using h2.2 x hx
theorem choose_calls (a : Option Addr) (cap : Nat) (xs : List St) (L : Heap) (hR : Rd sc 3 L a xs) (hl : xs.length ≤ 1000000) : HC Tryz.prog 132 [.slice a xs.length cap] L (fun v L' => v = .tuple ⟨[iv (chooseS xs).1, .bool (chooseS xs).2]⟩ ∧ L' = L) := by
  refine hc_enter (fun _ _ => Tryz.call132 _ _) Tryz.func132 rfl Tryz.ntmps132 (Nat.le_of_ble_eq_true rfl) ?_; simp only [args0, Nat.reduceAdd]
  repeat' (first | (show HW _ _ _ _ _ _; first | apply hw_seq | apply hw_region | apply hw_block | apply hw_exit | refine g_t ?_ | refine g_f ?_ | apply hw_skip | apply hw_ret) | (show HO _ _ _ _ _ _ _; first | apply ho_nil | refine g_q (qe S) ?_ | refine g_q (ql S) ?_ | refine g_q (qs S) ?_ | refine g_n ?_ | refine g_on ?_ | refine wa S (fun b => ?_) | refine wb (fun b => ?_) | refine ws S ?_ | refine wS S (fun b => ?_) | refine wSa S (fun b => ?_) | refine wSn S (fun b => ?_)) | ((first | refine g_b (fun h => ?_) (fun h => ?_) | refine g_s (fun h => ?_) (fun h => ?_)) <;> ((try simp only [zA, zB, zC, zD, zE, zF, ne_eq, zG, zH, and_true, true_and, eq_self, zI, zJ, zK, reduceCtorEq, zL, zM] at h); (try (exfalso; first | omega | with_reducible exact h (by assumption) | with_reducible exact absurd h (by assumption))))) | apply seqQ_normal | apply seqQ_ret | apply seqQ_exit | apply blkQ_here | refine g_bx ?_ | apply blkQ_ret | apply blkQ_normal | apply loopQ_ret | apply loopQ_exit | apply unQ_ret | apply unQ_exit | apply unQ_succ)
  rename_i b1
  refine hw_loop (σ := Int) (fun j => [(1, pt b1 0), (4, .func (.func 179) #[] ⟨[pt b1 0]⟩), (11, sl b 0 2 2), (12, iv 2), (13, iv j)]) (fun _ => [(b, .cells ⟨[iv 2, iv 3]⟩ 3)] :: [(b1, .cells ⟨[.slice a xs.length cap]⟩ 37)] :: L)
    (fun j => 0 ≤ j ∧ j ≤ 2 ∧ (1 ≤ j → toldS xs 2 = false) ∧ (2 ≤ j → toldS xs 3 = false)) (fun j => (2 - j).toNat) 0 (by repeat (first | exact trivial | refine ⟨rfl, ?_⟩)) (List.Sublist.refl _) ⟨by omega, by omega, by omega, by omega⟩ ?_
  rintro j ⟨h0, h1, h2, h3⟩
  have hj : j = 0 ∨ j = 1 ∨ j = 2 := by omega
  rcases hj with rfl | rfl | rfl
  · repeat' (first | (show HW _ _ _ _ _ _; first | apply hw_seq | apply hw_region | apply hw_block | apply hw_exit | refine g_t ?_ | refine g_f ?_ | apply hw_skip | apply hw_ret) | (show HO _ _ _ _ _ _ _; first | apply ho_nil | refine g_q (qe S) ?_ | refine g_q (ql S) ?_ | refine g_q (qs S) ?_ | refine g_q (qC (has_calls _ _ _ _ _ _ _ _ (has_next has_here) ((hR.cons _).cons _) hl)) ?_ | refine g_n ?_ | refine g_on ?_ | refine wa S (fun b => ?_) | refine wb (fun b => ?_) | refine ws S ?_ | refine wS S (fun b => ?_) | refine wSa S (fun b => ?_) | refine wSn S (fun b => ?_)) | ((first | refine g_b (fun h => ?_) (fun h => ?_) | refine g_s (fun h => ?_) (fun h => ?_)) <;> ((try simp only [zA, zB, zC, zD, zE, zF, ne_eq, zG, zH, and_true, true_and, eq_self, zI, zJ, zK, reduceCtorEq, zL, zM] at h); (try (exfalso; first | omega | with_reducible exact h (by assumption) | with_reducible exact absurd h (by assumption))))) | apply seqQ_normal | apply seqQ_ret | apply seqQ_exit | apply blkQ_here | refine g_bx ?_ | apply blkQ_ret | apply blkQ_normal | apply loopQ_ret | apply loopQ_exit | apply unQ_ret | apply unQ_exit | apply unQ_succ)
    · (refine fn_ret2 rfl rfl rfl ?_ ⟨?_, rfl⟩; (next => (repeat (first | exact List.Sublist.refl _ | apply List.Sublist.cons))))
      simp [chooseS, *]
    · exact loopQ_normal 1 (by repeat (first | exact trivial | refine ⟨rfl, ?_⟩)) (List.Sublist.refl _) ⟨by omega, by omega, fun _ => by assumption, by omega⟩ (by decide)
  · repeat' (first | (show HW _ _ _ _ _ _; first | apply hw_seq | apply hw_region | apply hw_block | apply hw_exit | refine g_t ?_ | refine g_f ?_ | apply hw_skip | apply hw_ret) | (show HO _ _ _ _ _ _ _; first | apply ho_nil | refine g_q (qe S) ?_ | refine g_q (ql S) ?_ | refine g_q (qs S) ?_ | refine g_q (qC (has_calls _ _ _ _ _ _ _ _ (has_next has_here) ((hR.cons _).cons _) hl)) ?_ | refine g_n ?_ | refine g_on ?_ | refine wa S (fun b => ?_) | refine wb (fun b => ?_) | refine ws S ?_ | refine wS S (fun b => ?_) | refine wSa S (fun b => ?_) | refine wSn S (fun b => ?_)) | ((first | refine g_b (fun h => ?_) (fun h => ?_) | refine g_s (fun h => ?_) (fun h => ?_)) <;> ((try simp only [zA, zB, zC, zD, zE, zF, ne_eq, zG, zH, and_true, true_and, eq_self, zI, zJ, zK, reduceCtorEq, zL, zM] at h); (try (exfalso; first | omega | with_reducible exact h (by assumption) | with_reducible exact absurd h (by assumption))))) | apply seqQ_normal | apply seqQ_ret | apply seqQ_exit | apply blkQ_here | refine g_bx ?_ | apply blkQ_ret | apply blkQ_normal | apply loopQ_ret | apply loopQ_exit | apply unQ_ret | apply unQ_exit | apply unQ_succ)
    · (refine fn_ret2 rfl rfl rfl ?_ ⟨?_, rfl⟩; (next => (repeat (first | exact List.Sublist.refl _ | apply List.Sublist.cons))))
      have e := h2 (by omega)
      simp [chooseS, *]
    · exact loopQ_normal 2 (by repeat (first | exact trivial | refine ⟨rfl, ?_⟩)) (List.Sublist.refl _) ⟨by omega, by omega, fun _ => h2 (by omega), fun _ => by assumption⟩ (by decide)
  · have e2 := h2 (by omega)
    have e3 := h3 (by omega)
    repeat' (first | (show HW _ _ _ _ _ _; first | apply hw_seq | apply hw_region | apply hw_block | apply hw_exit | refine g_t ?_ | refine g_f ?_ | apply hw_skip | apply hw_ret) | (show HO _ _ _ _ _ _ _; first | apply ho_nil | refine g_q (qe S) ?_ | refine g_q (ql S) ?_ | refine g_q (qs S) ?_ | refine g_n ?_ | refine g_on ?_ | refine wa S (fun b => ?_) | refine wb (fun b => ?_) | refine ws S ?_ | refine wS S (fun b => ?_) | refine wSa S (fun b => ?_) | refine wSn S (fun b => ?_)) | ((first | refine g_b (fun h => ?_) (fun h => ?_) | refine g_s (fun h => ?_) (fun h => ?_)) <;> ((try simp only [zA, zB, zC, zD, zE, zF, ne_eq, zG, zH, and_true, true_and, eq_self, zI, zJ, zK, reduceCtorEq, zL, zM] at h); (try (exfalso; first | omega | with_reducible exact h (by assumption) | with_reducible exact absurd h (by assumption))))) | apply seqQ_normal | apply seqQ_ret | apply seqQ_exit | apply blkQ_here | refine g_bx ?_ | apply blkQ_ret | apply blkQ_normal | apply loopQ_ret | apply loopQ_exit | apply unQ_ret | apply unQ_exit | apply unQ_succ)
    clear h0 h1 h2 h3
    refine hw_loop (σ := Int × St) (fun s => [(7, pt b 0), (22, .slice a xs.length cap), (23, iv xs.length), (24, iv s.1)]) (fun s => [(b, .cells ⟨sc s.2⟩ 43)] :: L)
      (fun s => 0 ≤ s.1 ∧ s.1 ≤ xs.length ∧ bestP (xs.take s.1.toNat) = s.2) (fun s => (xs.length - s.1).toNat) (0, ⟨0, 0, 0⟩) (by repeat (first | exact trivial | refine ⟨rfl, ?_⟩)) (by exact .cons_cons _ (.cons _ (.cons _ (.refl _)))) ⟨by simp, by simp, by simp [bestP]⟩ ?_
    rintro ⟨j, m⟩ ⟨j0, j1, hm⟩
    simp only at j0 j1 hm
    by_cases hlt : j < xs.length
    · obtain ⟨bb, i, l, E, fr, rfl, hb, hg⟩ := hR.at j0 hlt
      have e := bestP_snoc (xs.take j.toNat) (xs[j.toNat]'(by omega))
      rw [← take_succ j0 hlt, hm] at e
      clear hm
      repeat' (first | (show HW _ _ _ _ _ _; first | apply hw_seq | apply hw_region | apply hw_block | apply hw_exit | refine g_t ?_ | refine g_f ?_ | apply hw_skip | apply hw_ret) | (show HO _ _ _ _ _ _ _; first | apply ho_nil | refine g_q (qe S) ?_ | refine g_q (ql S) ?_ | refine g_q (qs S) ?_ | refine g_n ?_ | refine g_on ?_ | refine wa S (fun b => ?_) | refine wb (fun b => ?_) | refine ws S ?_ | refine wS S (fun b => ?_) | refine wSa S (fun b => ?_) | refine wSn S (fun b => ?_)) | ((first | refine g_b (fun h => ?_) (fun h => ?_) | refine g_s (fun h => ?_) (fun h => ?_)) <;> ((try simp only [zA, zB, zC, zD, zE, zF, ne_eq, zG, zH, and_true, true_and, eq_self, zI, zJ, zK, reduceCtorEq, zL, zM] at h); (try (exfalso; first | omega | with_reducible exact h (by assumption) | with_reducible exact absurd h (by assumption))))) | apply seqQ_normal | apply seqQ_ret | apply seqQ_exit | apply blkQ_here | refine g_bx ?_ | apply blkQ_ret | apply blkQ_normal | apply loopQ_ret | apply loopQ_exit | apply unQ_ret | apply unQ_exit | apply unQ_succ)
      all_goals first
        | ((refine loopQ_normal (j + 1, xs[j.toNat]'(by omega)) ?_ ?_ ?_ ?_; (next => (repeat (first | exact trivial | refine ⟨rfl, ?_⟩))); (next => (repeat (first | exact List.Sublist.refl _ | apply List.Sublist.cons)))); (next => refine ⟨?_, ?_, ?_⟩; (next => show 0 ≤ j + 1; omega); (next => show j + 1 ≤ (xs.length : Int); omega); (next => show bestP (List.take (j + 1).toNat xs) = _; rw [e]; simp [stepP, prep, *]; done)); (next => show (xs.length - (j + 1)).toNat < (xs.length - j).toNat; omega))
        | ((refine loopQ_normal (j + 1, m) ?_ ?_ ?_ ?_; (next => (repeat (first | exact trivial | refine ⟨rfl, ?_⟩))); (next => (repeat (first | exact List.Sublist.refl _ | apply List.Sublist.cons)))); (next => refine ⟨?_, ?_, ?_⟩; (next => show 0 ≤ j + 1; omega); (next => show j + 1 ≤ (xs.length : Int); omega); (next => show bestP (List.take (j + 1).toNat xs) = _; rw [e]; simp [stepP, prep, *]; done)); (next => show (xs.length - (j + 1)).toNat < (xs.length - j).toNat; omega))
    · rw [take_all hlt] at hm
      have hinv := best_inv xs
      rw [hm] at hinv
      repeat' (first | (show HW _ _ _ _ _ _; first | apply hw_seq | apply hw_region | apply hw_block | apply hw_exit | refine g_t ?_ | refine g_f ?_ | apply hw_skip | apply hw_ret) | (show HO _ _ _ _ _ _ _; first | apply ho_nil | refine g_q (qe S) ?_ | refine g_q (ql S) ?_ | refine g_q (qs S) ?_ | refine g_n ?_ | refine g_on ?_ | refine wa S (fun b => ?_) | refine wb (fun b => ?_) | refine ws S ?_ | refine wS S (fun b => ?_) | refine wSa S (fun b => ?_) | refine wSn S (fun b => ?_)) | ((first | refine g_b (fun h => ?_) (fun h => ?_) | refine g_s (fun h => ?_) (fun h => ?_)) <;> ((try simp only [zA, zB, zC, zD, zE, zF, ne_eq, zG, zH, and_true, true_and, eq_self, zI, zJ, zK, reduceCtorEq, zL, zM] at h); (try (exfalso; first | omega | with_reducible exact h (by assumption) | with_reducible exact absurd h (by assumption))))) | apply seqQ_normal | apply seqQ_ret | apply seqQ_exit | apply blkQ_here | refine g_bx ?_ | apply blkQ_ret | apply blkQ_normal | apply loopQ_ret | apply loopQ_exit | apply unQ_ret | apply unQ_exit | apply unQ_succ)
      · (refine fn_ret2 rfl rfl rfl ?_ ⟨?_, rfl⟩; (next => (repeat (first | exact List.Sublist.refl _ | apply List.Sublist.cons))))
        have e4 : chooseS xs = (5, false) := by
          unfold chooseS
          rw [if_neg (by simp [*]), if_neg (by simp [*])]
          rcases hinv with ⟨rfl, h5, h6⟩ | ⟨h4, -, -⟩ | ⟨h4, -, -⟩
          · rw [if_neg]
            simp only [List.any_eq_true, not_exists, not_and, decide_eq_true_eq]
            intro x hx h4
            have := List.all_eq_true.1 h6 x hx
            simp [prep, h4] at this
          · simp_all
          · simp_all
        rw [e4]
      · (refine fn_ret2 rfl rfl rfl ?_ ⟨?_, rfl⟩; (next => (repeat (first | exact List.Sublist.refl _ | apply List.Sublist.cons))))
        have e4 : chooseS xs = (m.ph, false) := by
          unfold chooseS
          rw [if_neg (by simp [*]), if_neg (by simp [*])]
          rcases hinv with ⟨rfl, h5, h6⟩ | ⟨h4, h5, h6⟩ | ⟨h4, h5, h6⟩
          · simp_all
          · rw [h5, if_pos h6, h4]
          · rw [h5, if_neg (by rw [h6]; simp), h4]
        rw [e4]
end Go.HL
end

/-! WgA -/
section
namespace Go.HL
open Go Go.Proofs
set_option linter.unusedVariables false
set_option linter.unusedSimpArgs false

def blen (n : Nat) : Nat := if n = 0 then 0 else Nat.log2 n + 1
theorem blen_le {n k : Nat} : blen n ≤ k ↔ n < 2 ^ k := by
  unfold blen
  split
  · rename_i h
    subst h
    simp [Nat.two_pow_pos]
  · rename_i h
    rw [← Nat.log2_lt h]
    omega
theorem blen_div {n k : Nat} (h : 2 ^ k ≤ n) : blen n = blen (n / 2 ^ k) + k := by
  have key : ∀ j, blen n ≤ j ↔ blen (n / 2 ^ k) + k ≤ j := fun j => by
    constructor
    · intro h1
      have h2 := blen_le.1 h1
      have h3 : k < j := by
        rcases Nat.lt_or_ge k j with h3 | h3
        · exact h3
        · have := Nat.pow_le_pow_right (n := 2) (by decide) h3
          omega
      have h4 : blen (n / 2 ^ k) ≤ j - k := blen_le.2 (by
        rw [Nat.div_lt_iff_lt_mul (Nat.two_pow_pos k), ← Nat.pow_add, Nat.sub_add_cancel (by omega)]
        exact h2)
      omega
    · intro h1
      have h4 : blen (n / 2 ^ k) ≤ j - k := by omega
      have h5 := blen_le.1 h4
      rw [Nat.div_lt_iff_lt_mul (Nat.two_pow_pos k), ← Nat.pow_add, Nat.sub_add_cancel (by omega)] at h5
      exact blen_le.2 h5
  have h1 := (key (blen n)).1 (Nat.le_refl _)
  have h2 := (key (blen (n / 2 ^ k) + k)).2 (Nat.le_refl _)
  omega
theorem tab_ok {l : List UInt8} (h : ((List.range 256).all fun i => Nat.beq (l.getD i 0).toNat (blen i)) = true) {i : Nat} (hi : i < 256) : (l.getD i 0).toNat = blen i :=
  Nat.eq_of_beq_eq_true (List.all_eq_true.1 h i (List.mem_range.2 hi))
theorem ho_len8 {P : Program} (S : Tab P) {n : Nat} {ops : List Oper} {Q : Exit → Env → Heap → Prop} {rest : List Oper} {ρ : Env} {L : Heap} {ty : TypeId} {pos : String} {af : Array Edge} {d t : Nat} {l : List UInt8} {k : IntKind} {j : Int} {ti : TyI} {y : Operand} {c : Value}
    (hc : c = bs l) (hy : ev ρ y = some (.int k j)) (ht : lkN S.ty t = some ti) (hk : Nat.beq ti.kind 3 = true) (hn : Nat.blt d n = true) (hl : Nat.beq l.length 256 = true) (htab : ((List.range 256).all fun i => Nat.beq (l.getD i 0).toNat (blen i)) = true) (hj : 0 ≤ j ∧ j < 256)
    (h : ∀ m : Nat, m = blen j.toNat → m ≤ 8 → HO P n ops Q rest ((d, .int .u8 (m : Int)) :: ρ) L) : HO P n ops Q (⟨some d, .index t (.const c) y, ty, pos, af, none⟩ :: rest) ρ L := by
  have h1 := h _ rfl (blen_le.2 (by omega))
  rw [← tab_ok htab (i := j.toNat) (by omega)] at h1
  exact ho_go rfl hn (q_ixT S hc hy ht hk hl hj) h1
attribute [local irreducible] HW HO HQ HD HC QOp Has Upd Puts Gets seqQ blkQ loopQ fnQ actQ nextP unQ MapF
set_option maxRecDepth 100000 in
theorem len64_calls (n : Nat) (hn : n < 18446744073709551616) (L : Heap) : HC Tryz.prog 286 [.int .u64 n] L (fun v L' => v = iv (blen n) ∧ L' = L) := by
  refine hc_enter (fun _ _ => Tryz.call286 _ _) Tryz.func286 rfl Tryz.ntmps286 (Nat.le_of_ble_eq_true rfl) ?_; simp only [args0, Nat.reduceAdd]
  repeat' (first | (show HW _ _ _ _ _ _; first | apply hw_seq | apply hw_region | refine g_t ?_ | refine g_f ?_ | apply hw_skip | apply hw_ret) | (show HO _ _ _ _ _ _ _; first | apply ho_nil | refine g_q (qe S) ?_ | refine g_q (qt S) ?_ | refine g_q (qc8 S) ?_ | refine g_q (qc32 S) ?_) | ((first | refine g_b (fun h => ?_) (fun h => ?_)) <;> ((try simp only [zA, zB, zC, zD, zE, zF, ne_eq, zG, zH, and_true, true_and, eq_self, zI, zJ, zK, reduceCtorEq, zL, zM] at h); (try (exfalso; first | omega | with_reducible exact h (by assumption) | with_reducible exact absurd h (by assumption))))) | apply seqQ_normal | apply seqQ_ret)
  all_goals try simp only [Int.reduceToNat, Int.reducePow] at *
  all_goals (apply ho_len8 S; (case hc => exact rfl); (case hy => exact rfl); (case ht => exact rfl); (case hk => exact rfl); (case hn => exact rfl); (case hl => exact rfl); (case htab => decide +kernel); (case hj => omega); (case' h => intro m hm hm8))
  all_goals repeat' (first | (show HW _ _ _ _ _ _; first | apply hw_seq | apply hw_region | refine g_t ?_ | refine g_f ?_ | apply hw_skip | apply hw_ret) | (show HO _ _ _ _ _ _ _; first | apply ho_nil | refine g_q (qe S) ?_ | refine g_q (qt S) ?_ | refine g_q (qc8 S) ?_ | refine g_q (qc32 S) ?_) | ((first | refine g_b (fun h => ?_) (fun h => ?_)) <;> ((try simp only [zA, zB, zC, zD, zE, zF, ne_eq, zG, zH, and_true, true_and, eq_self, zI, zJ, zK, reduceCtorEq, zL, zM] at h); (try (exfalso; first | omega | with_reducible exact h (by assumption) | with_reducible exact absurd h (by assumption))))) | apply seqQ_normal | apply seqQ_ret)
  all_goals (refine fn_ret1 rfl rfl ?_ ⟨?_, rfl⟩; (next => (repeat (first | exact List.Sublist.refl _ | apply List.Sublist.cons))))
  all_goals refine congrArg iv ?_
  all_goals (have e1 : ∀ x, 4294967296 ≤ x → blen x = blen (x / 4294967296) + 32 := fun x hx => blen_div (k := 32) hx)
  all_goals (have e2 : ∀ x, 65536 ≤ x → blen x = blen (x / 65536) + 16 := fun x hx => blen_div (k := 16) hx)
  all_goals (have e3 : ∀ x, 256 ≤ x → blen x = blen (x / 256) + 8 := fun x hx => blen_div (k := 8) hx)
  all_goals first
    | (have g0 := e1 (n) (by omega); have g1 := e2 (n / 4294967296) (by omega); have g2 := e3 (n / 4294967296 / 65536) (by omega); have g9 : ((n : Int) / 4294967296 / 65536 / 256).toNat = n / 4294967296 / 65536 / 256 := (by omega); rw [g9] at hm; omega)
    | (have g0 := e1 (n) (by omega); have g1 := e2 (n / 4294967296) (by omega); have g9 : ((n : Int) / 4294967296 / 65536).toNat = n / 4294967296 / 65536 := (by omega); rw [g9] at hm; omega)
    | (have g0 := e1 (n) (by omega); have g1 := e3 (n / 4294967296) (by omega); have g9 : ((n : Int) / 4294967296 / 256).toNat = n / 4294967296 / 256 := (by omega); rw [g9] at hm; omega)
    | (have g0 := e1 (n) (by omega); have g9 : ((n : Int) / 4294967296).toNat = n / 4294967296 := (by omega); rw [g9] at hm; omega)
    | (have g0 := e2 (n) (by omega); have g1 := e3 (n / 65536) (by omega); have g9 : ((n : Int) / 65536 / 256).toNat = n / 65536 / 256 := (by omega); rw [g9] at hm; omega)
    | (have g0 := e2 (n) (by omega); have g9 : ((n : Int) / 65536).toNat = n / 65536 := (by omega); rw [g9] at hm; omega)
    | (have g0 := e3 (n) (by omega); have g9 : ((n : Int) / 256).toNat = n / 256 := (by omega); rw [g9] at hm; omega)
    | (have g9 : ((n : Int)).toNat = n := (by omega); rw [g9] at hm; omega)
theorem len_calls (n : Nat) (hn : n < 18446744073709551616) (L : Heap) : HC Tryz.prog 253 [.int .u64 n] L (fun v L' => v = iv (blen n) ∧ L' = L) := by
  refine hc_enter (fun _ _ => Tryz.call253 _ _) Tryz.func253 rfl Tryz.ntmps253 (Nat.le_of_ble_eq_true rfl) ?_; simp only [args0, Nat.reduceAdd]
  repeat' (first | (show HW _ _ _ _ _ _; first | apply hw_seq | apply hw_region | refine g_t ?_ | refine g_f ?_ | apply hw_skip | apply hw_ret) | (show HO _ _ _ _ _ _ _; first | apply ho_nil | refine g_q (qe S) ?_ | refine g_q (qt S) ?_ | refine g_q (qc8 S) ?_ | refine g_q (qc32 S) ?_ | refine g_q (qC (len64_calls _ hn _)) ?_) | ((first | refine g_b (fun h => ?_) (fun h => ?_)) <;> ((try simp only [zA, zB, zC, zD, zE, zF, ne_eq, zG, zH, and_true, true_and, eq_self, zI, zJ, zK, reduceCtorEq, zL, zM] at h); (try (exfalso; first | omega | with_reducible exact h (by assumption) | with_reducible exact absurd h (by assumption))))) | apply seqQ_normal | apply seqQ_ret)
  all_goals (refine fn_ret1 rfl rfl ?_ ⟨?_, rfl⟩; (next => (repeat (first | exact List.Sublist.refl _ | apply List.Sublist.cons))))
  all_goals rfl
def mx : List Int → Int
  | [] => 0
  | x :: r => r.foldl max x
theorem mx_snoc {l : List Int} {y : Int} (h : l ≠ []) : mx (l ++ [y]) = max (mx l) y := by
  cases l with
  | nil => exact absurd rfl h
  | cons x r => simp [mx]
theorem max_calls (a : Option Addr) (cap : Nat) (xs : List Int) (L : Heap) (hR : Rd ic 1 L a xs) (h1 : 1 ≤ xs.length) (hl : xs.length ≤ 1000000) :
    HC Tryz.prog 119 [.slice a xs.length cap] L (fun v L' => v = iv (mx xs) ∧ L' = L) := by
  refine hc_enter (fun _ _ => Tryz.call119 _ _) Tryz.func119 rfl Tryz.ntmps119 (Nat.le_of_ble_eq_true rfl) ?_; simp only [args0, Nat.reduceAdd]
  obtain ⟨b, i, l, E, fr, rfl, hb, hg⟩ := hR.at1 (j := 0) (by omega) (by omega)
  repeat' (first | (show HW _ _ _ _ _ _; first | apply hw_seq | apply hw_region | apply hw_block | apply hw_exit | refine g_t ?_ | refine g_f ?_ | apply hw_skip | apply hw_ret) | (show HO _ _ _ _ _ _ _; first | apply ho_nil | refine g_q (qe S) ?_ | refine g_q (ql S) ?_) | ((first | refine g_b (fun h => ?_) (fun h => ?_)) <;> ((try simp only [zA, zB, zC, zD, zE, zF, ne_eq, zG, zH, and_true, true_and, eq_self, zI, zJ, zK, reduceCtorEq, zL, zM] at h); (try (exfalso; first | omega | with_reducible exact h (by assumption) | with_reducible exact absurd h (by assumption))))) | apply seqQ_normal | apply seqQ_ret | apply seqQ_exit | apply blkQ_here | refine g_bx ?_ | apply blkQ_ret | apply blkQ_normal | apply loopQ_ret | apply loopQ_exit | apply unQ_ret | apply unQ_exit | apply unQ_succ)
  refine hw_loop (σ := Int × Int) (fun s => [(0, .slice (some ⟨b, i, none⟩) xs.length cap), (3, iv s.2), (4, iv s.1)]) (fun _ => L) (fun s => 1 ≤ s.1 ∧ s.1 ≤ xs.length ∧ mx (xs.take s.1.toNat) = s.2) (fun s => (xs.length - s.1).toNat) (1, xs[Int.toNat 0]) (by repeat (first | exact trivial | refine ⟨rfl, ?_⟩)) (List.Sublist.refl _) ⟨by simp, by simp; omega, ?_⟩ ?_
  · cases xs with
    | nil => simp at h1
    | cons x r => rfl
  clear hb hg
  rintro ⟨j, m⟩ ⟨h0, h2, hm⟩
  simp only at h0 h2 hm
  by_cases hlt : j < xs.length
  · obtain ⟨b', i', l', E', fr', e, hb', hg'⟩ := hR.at1 (j := j) (by omega) hlt
    cases e
    repeat' (first | (show HW _ _ _ _ _ _; first | apply hw_seq | apply hw_region | apply hw_block | apply hw_exit | refine g_t ?_ | refine g_f ?_ | apply hw_skip | apply hw_ret) | (show HO _ _ _ _ _ _ _; first | apply ho_nil | refine g_q (qe S) ?_ | refine g_q (ql S) ?_) | ((first | refine g_b (fun h => ?_) (fun h => ?_)) <;> ((try simp only [zA, zB, zC, zD, zE, zF, ne_eq, zG, zH, and_true, true_and, eq_self, zI, zJ, zK, reduceCtorEq, zL, zM] at h); (try (exfalso; first | omega | with_reducible exact h (by assumption) | with_reducible exact absurd h (by assumption))))) | apply seqQ_normal | apply seqQ_ret | apply seqQ_exit | apply blkQ_here | refine g_bx ?_ | apply blkQ_ret | apply blkQ_normal | apply loopQ_ret | apply loopQ_exit | apply unQ_ret | apply unQ_exit | apply unQ_succ)
    refine loopQ_normal (j + 1, _) (by repeat (first | exact trivial | refine ⟨rfl, ?_⟩)) (List.Sublist.refl _) ⟨by show 1 ≤ j + 1; omega, by show j + 1 ≤ (xs.length : Int); omega, ?_⟩ (by show (xs.length - (j + 1)).toNat < (xs.length - j).toNat; omega)
    show mx (xs.take (j + 1).toNat) = _
    rw [take_succ (by omega) hlt, mx_snoc (by intro e; have h5 : (xs.take j.toNat).length = 0 := (by rw [e]; rfl); rw [List.length_take] at h5; omega), hm]
  · repeat' (first | (show HW _ _ _ _ _ _; first | apply hw_seq | apply hw_region | apply hw_block | apply hw_exit | refine g_t ?_ | refine g_f ?_ | apply hw_skip | apply hw_ret) | (show HO _ _ _ _ _ _ _; first | apply ho_nil | refine g_q (qe S) ?_ | refine g_q (ql S) ?_) | ((first | refine g_b (fun h => ?_) (fun h => ?_)) <;> ((try simp only [zA, zB, zC, zD, zE, zF, ne_eq, zG, zH, and_true, true_and, eq_self, zI, zJ, zK, reduceCtorEq, zL, zM] at h); (try (exfalso; first | omega | with_reducible exact h (by assumption) | with_reducible exact absurd h (by assumption))))) | apply seqQ_normal | apply seqQ_ret | apply seqQ_exit | apply blkQ_here | refine g_bx ?_ | apply blkQ_ret | apply blkQ_normal | apply loopQ_ret | apply loopQ_exit | apply unQ_ret | apply unQ_exit | apply unQ_succ)
    (refine fn_ret1 rfl rfl ?_ ⟨?_, rfl⟩; (next => (repeat (first | exact List.Sublist.refl _ | apply List.Sublist.cons))))
    rw [take_all hlt] at hm
    rw [hm]
theorem bad_calls (x : Int) (L : Heap) : HC Tryz.prog 118 [iv x] L (fun v L' => v = .bool (decide (x < 0 ∨ 1000 < x)) ∧ L' = L) := by
  refine hc_enter (fun _ _ => Tryz.call118 _ _) Tryz.func118 rfl Tryz.ntmps118 (Nat.le_of_ble_eq_true rfl) ?_; simp only [args0, Nat.reduceAdd]
  repeat' (first | (show HW _ _ _ _ _ _; first | apply hw_seq | apply hw_region | apply hw_ret) | (show HO _ _ _ _ _ _ _; first | apply ho_nil | refine g_q (qe S) ?_ | refine g_n ?_ | refine g_on ?_) | ((first | refine g_s (fun h => ?_) (fun h => ?_)) <;> ((try simp only [zA, zB, zC, zD, zE, zF, ne_eq, zG, zH, and_true, true_and, eq_self, zI, zJ, zK, reduceCtorEq, zL, zM] at h); (try (exfalso; first | omega | with_reducible exact h (by assumption) | with_reducible exact absurd h (by assumption))))) | apply seqQ_normal | apply seqQ_ret)
  all_goals (refine fn_ret1 rfl rfl ?_ ⟨?_, rfl⟩; (next => (repeat (first | exact List.Sublist.refl _ | apply List.Sublist.cons))))
  all_goals (refine congrArg Value.bool ?_; first | (refine Eq.symm (decide_eq_true ?_); omega) | (refine Eq.symm (decide_eq_false ?_); omega) | (refine decide_eq_decide.2 ?_; omega))
theorem findIdx_takeA {α : Type} {xs : List α} {f : α → Bool} {j : Int} (h0 : 0 ≤ j) (hlt : j < xs.length) (hn : (xs.take j.toNat).any f = false) (h : f (xs[j.toNat]'(by omega)) = true) : xs.any f = true ∧ (xs.findIdx f : Int) = j := by
  have hj : j.toNat < xs.length := by omega
  refine ⟨List.any_eq_true.2 ⟨_, List.getElem_mem hj, h⟩, ?_⟩
  have : xs.findIdx f = j.toNat := by
    rw [List.findIdx_eq hj]
    refine ⟨h, fun k hk => ?_⟩
    rw [List.any_eq_false] at hn
    have hk' : k < (xs.take j.toNat).length := by simp; omega
    have := hn _ (List.getElem_mem hk')
    rw [List.getElem_take] at this
    simpa using this
  omega
theorem indexI_calls (a : Option Addr) (cap : Nat) (xs : List Int) (F : Nat) (cs : List Value) (f : Int → Bool) (L : Heap) (hR : Rd ic 1 L a xs) (hl : xs.length ≤ 1000000)
    (hf : ∀ s, HC Tryz.prog F (iv s :: cs) L (fun v L' => v = .bool (f s) ∧ L' = L)) :
    HC Tryz.prog 175 [.slice a xs.length cap, .func (.func F) #[] ⟨cs⟩] L (fun v L' => v = iv (if xs.any f then (xs.findIdx f : Int) else -1) ∧ L' = L) := by
  refine hc_enter (fun _ _ => Tryz.call175 _ _) Tryz.func175 rfl Tryz.ntmps175 (Nat.le_of_ble_eq_true rfl) ?_; simp only [args0, Nat.reduceAdd]
  repeat' (first | (show HW _ _ _ _ _ _; first | apply hw_seq | apply hw_region | apply hw_block | apply hw_exit | refine g_t ?_ | refine g_f ?_ | apply hw_skip | apply hw_ret) | (show HO _ _ _ _ _ _ _; first | apply ho_nil | refine g_q (qe S) ?_ | refine g_q (ql S) ?_) | ((first | refine g_b (fun h => ?_) (fun h => ?_)) <;> ((try simp only [zA, zB, zC, zD, zE, zF, ne_eq, zG, zH, and_true, true_and, eq_self, zI, zJ, zK, reduceCtorEq, zL, zM] at h); (try (exfalso; first | omega | with_reducible exact h (by assumption) | with_reducible exact absurd h (by assumption))))) | apply seqQ_normal | apply seqQ_ret | apply seqQ_exit | apply blkQ_here | refine g_bx ?_ | apply blkQ_ret | apply blkQ_normal | apply loopQ_ret | apply loopQ_exit | apply unQ_ret | apply unQ_exit | apply unQ_succ)
  refine hw_loop (σ := Int) (fun j => [(0, .slice a xs.length cap), (1, .func (.func F) #[] ⟨cs⟩), (6, .slice a xs.length cap), (7, iv xs.length), (8, iv j)]) (fun _ => L) (fun j => 0 ≤ j ∧ j ≤ xs.length ∧ (xs.take j.toNat).any f = false) (fun j => (xs.length - j).toNat) 0 (by repeat (first | exact trivial | refine ⟨rfl, ?_⟩)) (List.Sublist.refl _) ⟨by omega, by omega, by simp⟩ ?_
  rintro j ⟨h0, h1, h2⟩
  by_cases hlt : j < xs.length
  · obtain ⟨b, i, l, E, fr, rfl, hb, hg⟩ := hR.at1 h0 hlt
    repeat' (first | (show HW _ _ _ _ _ _; first | apply hw_seq | apply hw_region | apply hw_block | apply hw_exit | refine g_t ?_ | refine g_f ?_ | apply hw_skip | apply hw_ret) | (show HO _ _ _ _ _ _ _; first | apply ho_nil | refine g_q (qe S) ?_ | refine g_q (ql S) ?_ | refine g_q (qC (hf _)) ?_) | ((first | refine g_b (fun h => ?_) (fun h => ?_)) <;> ((try simp only [zA, zB, zC, zD, zE, zF, ne_eq, zG, zH, and_true, true_and, eq_self, zI, zJ, zK, reduceCtorEq, zL, zM] at h); (try (exfalso; first | omega | with_reducible exact h (by assumption) | with_reducible exact absurd h (by assumption))))) | apply seqQ_normal | apply seqQ_ret | apply seqQ_exit | apply blkQ_here | refine g_bx ?_ | apply blkQ_ret | apply blkQ_normal | apply loopQ_ret | apply loopQ_exit | apply unQ_ret | apply unQ_exit | apply unQ_succ)
    · (refine fn_ret1 rfl rfl ?_ ⟨?_, rfl⟩; (next => (repeat (first | exact List.Sublist.refl _ | apply List.Sublist.cons))))
      obtain ⟨e1, e2⟩ := findIdx_takeA h0 hlt h2 (by assumption)
      rw [if_pos e1, e2]
    · exact loopQ_normal (j + 1) (by repeat (first | exact trivial | refine ⟨rfl, ?_⟩)) (List.Sublist.refl _) ⟨by omega, by omega, by rw [take_succ h0 hlt, List.any_append, h2]; simp [*]⟩ (by omega)
  · repeat' (first | (show HW _ _ _ _ _ _; first | apply hw_seq | apply hw_region | apply hw_block | apply hw_exit | refine g_t ?_ | refine g_f ?_ | apply hw_skip | apply hw_ret) | (show HO _ _ _ _ _ _ _; first | apply ho_nil | refine g_q (qe S) ?_ | refine g_q (ql S) ?_) | ((first | refine g_b (fun h => ?_) (fun h => ?_)) <;> ((try simp only [zA, zB, zC, zD, zE, zF, ne_eq, zG, zH, and_true, true_and, eq_self, zI, zJ, zK, reduceCtorEq, zL, zM] at h); (try (exfalso; first | omega | with_reducible exact h (by assumption) | with_reducible exact absurd h (by assumption))))) | apply seqQ_normal | apply seqQ_ret | apply seqQ_exit | apply blkQ_here | refine g_bx ?_ | apply blkQ_ret | apply blkQ_normal | apply loopQ_ret | apply loopQ_exit | apply unQ_ret | apply unQ_exit | apply unQ_succ)
    (refine fn_ret1 rfl rfl ?_ ⟨?_, rfl⟩; (next => (repeat (first | exact List.Sublist.refl _ | apply List.Sublist.cons))))
    rw [take_all hlt] at h2
    rw [if_neg (by simp [h2])]
theorem containsI_calls (a : Option Addr) (cap : Nat) (xs : List Int) (F : Nat) (cs : List Value) (f : Int → Bool) (L : Heap) (hR : Rd ic 1 L a xs) (hl : xs.length ≤ 1000000)
    (hf : ∀ s, HC Tryz.prog F (iv s :: cs) L (fun v L' => v = .bool (f s) ∧ L' = L)) :
    HC Tryz.prog 117 [.slice a xs.length cap, .func (.func F) #[] ⟨cs⟩] L (fun v L' => v = .bool (xs.any f) ∧ L' = L) := by
  refine hc_enter (fun _ _ => Tryz.call117 _ _) Tryz.func117 rfl Tryz.ntmps117 (Nat.le_of_ble_eq_true rfl) ?_; simp only [args0, Nat.reduceAdd]
  repeat' (first | (show HW _ _ _ _ _ _; first | apply hw_seq | apply hw_region | apply hw_ret) | (show HO _ _ _ _ _ _ _; first | apply ho_nil | refine g_q (qe S) ?_ | refine g_q (qC (indexI_calls _ _ _ _ _ f _ hR hl hf)) ?_) | apply seqQ_normal | apply seqQ_ret)
  (refine fn_ret1 rfl rfl ?_ ⟨?_, rfl⟩; (next => (repeat (first | exact List.Sublist.refl _ | apply List.Sublist.cons))))
  refine congrArg Value.bool ?_
  cases hx : xs.any f <;> simp
  done
def badW (x : Int) : Bool := decide (x < 0 ∨ 1000 < x)
/-- which error a list of weights has: by its variable's number -/
def checkW (ws : List Int) : Option Nat := if ws.length < 1 ∨ 7 < ws.length then some 3 else if ws.any badW then some 2 else if mx ws = 0 then some 4 else none
theorem check_calls (T : Nat) (E : Nat → Addr) (a : Option Addr) (cap : Nat) (xs : List Int) (L : Heap) (hG : Er T E [2, 3, 4] L) (hR : Rd ic 1 L a xs) (hl : xs.length ≤ 1000000) :
    HC Tryz.prog 62 [.slice a xs.length cap] L (fun v L' => v = eV T E (checkW xs) ∧ L' = L) := by
  refine hc_enter (fun _ _ => Tryz.call62 _ _) Tryz.func62 rfl Tryz.ntmps62 (Nat.le_of_ble_eq_true rfl) ?_; simp only [args0, Nat.reduceAdd]
  repeat' (first | (show HW _ _ _ _ _ _; first | apply hw_seq | apply hw_region | apply hw_block | apply hw_exit | refine g_t ?_ | refine g_f ?_ | apply hw_skip | apply hw_ret) | (show HO _ _ _ _ _ _ _; first | apply ho_nil | refine g_q (qe S) ?_ | refine g_q (qg S) ?_ | refine g_q (qC (containsI_calls _ _ _ _ _ badW _ hR hl (fun s => bad_calls s _))) ?_ | refine g_q (qC (max_calls _ _ _ _ hR (by omega) hl)) ?_ | refine g_n ?_ | refine g_on ?_) | ((first | refine g_b (fun h => ?_) (fun h => ?_) | refine g_s (fun h => ?_) (fun h => ?_)) <;> ((try simp only [zA, zB, zC, zD, zE, zF, ne_eq, zG, zH, and_true, true_and, eq_self, zI, zJ, zK, reduceCtorEq, zL, zM] at h); (try (exfalso; first | omega | with_reducible exact h (by assumption) | with_reducible exact absurd h (by assumption))))) | apply seqQ_normal | apply seqQ_ret | apply seqQ_exit | apply blkQ_here | refine g_bx ?_ | apply blkQ_ret | apply blkQ_normal)
  all_goals (refine fn_ret1 rfl rfl ?_ ⟨?_, rfl⟩; (next => (repeat (first | exact List.Sublist.refl _ | apply List.Sublist.cons))))
  all_goals (unfold checkW)
  all_goals first
    | (rw [if_pos (by omega)]; rfl)
    | (rw [if_neg (by omega), if_pos (by assumption)]; rfl)
    | (rw [if_neg (by omega), if_neg (by simp [*]), if_pos (by assumption)]; rfl)
    | (rw [if_neg (by omega), if_neg (by simp [*]), if_neg (by assumption)]; rfl)
end Go.HL
end

/-! WgB -/
section
namespace Go.HL
open Go Go.Proofs
set_option linter.unusedVariables false
set_option linter.unusedSimpArgs false
attribute [local irreducible] HW HO HQ HD HC QOp Has Upd Puts Gets seqQ blkQ loopQ fnQ actQ nextP unQ MapF

def wsum : List Int → Nat → Int
  | [], _ => 0
  | x :: r, s => (if s % 2 = 1 then x else 0) + wsum r (s / 2)
theorem wsum_snoc (y : Int) : ∀ (l : List Int) (s : Nat), wsum (l ++ [y]) s = wsum l s + (if s / 2 ^ l.length % 2 = 1 then y else 0)
  | [], s => by simp [wsum]
  | x :: r, s => by
    simp only [List.cons_append, wsum, wsum_snoc y r (s / 2), List.length_cons, Nat.div_div_eq_div_mul, Nat.pow_succ, Nat.mul_comm 2]
    omega
theorem wsum_le : ∀ (l : List Int) (s : Nat), (∀ x ∈ l, 0 ≤ x ∧ x ≤ 1000) → 0 ≤ wsum l s ∧ wsum l s ≤ 1000 * l.length
  | [], s, _ => by simp [wsum]
  | x :: r, s, h => by
    have h1 := wsum_le r (s / 2) (fun y hy => h y (by simp [hy]))
    have h2 := h x (by simp)
    simp only [wsum, List.length_cons]
    split <;> omega
def sumW (ws : List Int) (set : Int) : Int × Option Nat :=
  match checkW ws with
  | some e => (0, some e)
  | none => if set < 0 ∨ ws.length < blen set.toNat then (0, some 2) else (wsum ws set.toNat, none)
theorem check_none {ws : List Int} (h : checkW ws = none) : 1 ≤ ws.length ∧ ws.length ≤ 7 ∧ (∀ x ∈ ws, 0 ≤ x ∧ x ≤ 1000) ∧ mx ws ≠ 0 := by
  unfold checkW at h
  split at h
  · cases h
  · split at h
    · cases h
    · split at h
      · cases h
      · rename_i h1 h2 h3
        refine ⟨by omega, by omega, fun x hx => ?_, h3⟩
        simp only [Bool.not_eq_true, List.any_eq_false, badW, decide_eq_true_eq] at h2
        have := h2 x hx
        omega
theorem bit_iff (n k : Nat) : (((((n : Int) / 2 ^ k).toNat &&& Int.toNat 1 : Nat) : Int) = 1) ↔ n / 2 ^ k % 2 = 1 := by
  have e : ((n : Int) / 2 ^ k).toNat = n / 2 ^ k := by
    have : ((n : Int) / 2 ^ k) = ((n / 2 ^ k : Nat) : Int) := by simp
    rw [this]; rfl
  rw [e, show Int.toNat 1 = 1 from rfl, Nat.and_one_is_mod]
  omega
theorem bit_ok (n k : Nat) (h : (n : Int) ≤ 9223372036854775807) : 0 ≤ (n : Int) / 2 ^ k ∧ (n : Int) / 2 ^ k ≤ hiE .i64 ∧ (0 : Int) ≤ 1 ∧ (1 : Int) ≤ hiE .i64 := by
  have : ((n : Int) / 2 ^ k) = ((n / 2 ^ k : Nat) : Int) := by simp
  have h2 : n / 2 ^ k ≤ n := Nat.div_le_self _ _
  rw [this]
  clear this
  generalize n / 2 ^ k = q at h2 ⊢
  simp only [hiE]
  omega
theorem sum_calls (T : Nat) (E : Nat → Addr) (a : Option Addr) (cap : Nat) (xs : List Int) (set : Int) (L : Heap) (hG : Er T E [2, 3, 4] L) (hR : Rd ic 1 L a xs) (hl : xs.length ≤ 1000000) (hs : set ≤ 9223372036854775807) :
    HC Tryz.prog 178 [.slice a xs.length cap, iv set] L (fun v L' => v = .tuple ⟨[iv (sumW xs set).1, eV T E (sumW xs set).2]⟩ ∧ L' = L) := by
  refine hc_enter (fun _ _ => Tryz.call178 _ _) Tryz.func178 rfl Tryz.ntmps178 (Nat.le_of_ble_eq_true rfl) ?_; simp only [args0, Nat.reduceAdd]
  have hk := check_calls T E a cap xs L hG hR hl
  cases hc : checkW xs with
  | some e =>
    rw [hc] at hk
    repeat' (first | (show HW _ _ _ _ _ _; first | apply hw_seq | apply hw_region | apply hw_block | apply hw_exit | refine g_t ?_ | refine g_f ?_ | apply hw_skip | apply hw_ret | refine g_k S ?_) | (show HO _ _ _ _ _ _ _; first | apply ho_nil | refine g_q (qe S) ?_ | refine g_q (qg S) ?_ | refine g_q (ql S) ?_ | refine g_q (qt S) ?_ | refine g_q (qc8 S) ?_ | refine g_q (qc32 S) ?_ | refine g_q (qC (hk)) ?_ | refine g_n ?_ | refine g_on ?_) | (show HQ _ _ _ _ _ _ _; first | apply hq_nil | refine k_q (qe S) ?_ | refine k_q (qg S) ?_ | refine k_q (ql S) ?_ | refine k_q (qt S) ?_ | refine k_q (qc8 S) ?_ | refine k_q (qc32 S) ?_ | refine k_q (qC (hk)) ?_ | refine k_n ?_) | ((first | refine g_b (fun h => ?_) (fun h => ?_) | refine g_s (fun h => ?_) (fun h => ?_) | refine k_s (fun h => ?_) (fun h => ?_)) <;> ((try simp only [zA, zB, zC, zD, zE, zF, ne_eq, zG, zH, and_true, true_and, eq_self, zI, zJ, zK, reduceCtorEq, zL, zM] at h); (try (exfalso; first | omega | with_reducible exact h (by assumption) | with_reducible exact absurd h (by assumption))))) | apply seqQ_normal | apply seqQ_ret | apply seqQ_exit | apply blkQ_here | refine g_bx ?_ | apply blkQ_ret | apply blkQ_normal | apply loopQ_ret | apply loopQ_exit | apply unQ_ret | apply unQ_exit | apply unQ_succ)
    (refine fn_ret2 rfl rfl rfl ?_ ⟨?_, rfl⟩; (next => (repeat (first | exact List.Sublist.refl _ | apply List.Sublist.cons))))
    simp [sumW, hc]
  | none =>
    rw [hc] at hk
    obtain ⟨c1, c2, c3, c4⟩ := check_none hc
    by_cases h0 : 0 ≤ set
    · obtain ⟨n, rfl⟩ := Int.eq_ofNat_of_zero_le h0
      have hb := len_calls n (by omega) L
      repeat' (first | (show HW _ _ _ _ _ _; first | apply hw_seq | apply hw_region | apply hw_block | apply hw_exit | refine g_t ?_ | refine g_f ?_ | apply hw_skip | apply hw_ret | refine g_k S ?_) | (show HO _ _ _ _ _ _ _; first | apply ho_nil | refine g_q (qe S) ?_ | refine g_q (qg S) ?_ | refine g_q (ql S) ?_ | refine g_q (qt S) ?_ | refine g_q (qc8 S) ?_ | refine g_q (qc32 S) ?_ | refine g_q (qC (hk)) ?_ | refine g_q (qC (hb)) ?_ | refine g_n ?_ | refine g_on ?_) | (show HQ _ _ _ _ _ _ _; first | apply hq_nil | refine k_q (qe S) ?_ | refine k_q (qg S) ?_ | refine k_q (ql S) ?_ | refine k_q (qt S) ?_ | refine k_q (qc8 S) ?_ | refine k_q (qc32 S) ?_ | refine k_q (qC (hk)) ?_ | refine k_q (qC (hb)) ?_ | refine k_n ?_) | ((first | refine g_b (fun h => ?_) (fun h => ?_) | refine g_s (fun h => ?_) (fun h => ?_) | refine k_s (fun h => ?_) (fun h => ?_)) <;> ((try simp only [zA, zB, zC, zD, zE, zF, ne_eq, zG, zH, and_true, true_and, eq_self, zI, zJ, zK, reduceCtorEq, zL, zM] at h); (try (exfalso; first | omega | with_reducible exact h (by assumption) | with_reducible exact absurd h (by assumption))))) | apply seqQ_normal | apply seqQ_ret | apply seqQ_exit | apply blkQ_here | refine g_bx ?_ | apply blkQ_ret | apply blkQ_normal | apply loopQ_ret | apply loopQ_exit | apply unQ_ret | apply unQ_exit | apply unQ_succ)
      · (refine fn_ret2 rfl rfl rfl ?_ ⟨?_, rfl⟩; (next => (repeat (first | exact List.Sublist.refl _ | apply List.Sublist.cons))))
        simp only [sumW, hc]
        rw [if_pos (by simp; omega)]
        rfl
      · refine hw_loop (σ := Int × Int) (fun s => [(1, iv n), (7, iv s.2), (26, .slice a xs.length cap), (27, iv xs.length), (28, iv s.1)]) (fun _ => L) (fun s => 0 ≤ s.1 ∧ s.1 ≤ xs.length ∧ wsum (xs.take s.1.toNat) n = s.2) (fun s => (xs.length - s.1).toNat) (0, 0) (by repeat (first | exact trivial | refine ⟨rfl, ?_⟩)) (List.Sublist.refl _) ⟨by simp, by simp, by simp [wsum]⟩ ?_
        rintro ⟨j, m⟩ ⟨j0, j1, hm⟩
        simp only at j0 j1 hm
        by_cases hlt : j < xs.length
        · obtain ⟨b, i, l, E', fr, rfl, hb', hg'⟩ := hR.at1 j0 hlt
          have hm2 := wsum_le (xs.take j.toNat) n (fun x hx => c3 x (List.mem_of_mem_take hx))
          have hx := c3 (xs[j.toNat]'(by omega)) (List.getElem_mem _)
          have hn := wsum_snoc (xs[j.toNat]'(by omega)) (xs.take j.toNat) n
          rw [← take_succ j0 hlt] at hn
          rw [hm] at hm2 hn
          rw [List.length_take] at hm2 hn
          rw [Nat.min_eq_left (by omega)] at hn
          have hb1 := bit_ok n j.toNat hs
          have hb2 := bit_iff n j.toNat
          repeat' (first | (show HW _ _ _ _ _ _; first | apply hw_seq | apply hw_region | apply hw_block | apply hw_exit | refine g_t ?_ | refine g_f ?_ | apply hw_skip | apply hw_ret | refine g_k S ?_) | (show HO _ _ _ _ _ _ _; first | apply ho_nil | refine g_q (qe S) ?_ | refine g_q (qg S) ?_ | refine g_q (ql S) ?_ | refine g_q (qt S) ?_ | refine g_q (qc8 S) ?_ | refine g_q (qc32 S) ?_ | refine g_n ?_ | refine g_on ?_) | (show HQ _ _ _ _ _ _ _; first | apply hq_nil | refine k_q (qe S) ?_ | refine k_q (qg S) ?_ | refine k_q (ql S) ?_ | refine k_q (qt S) ?_ | refine k_q (qc8 S) ?_ | refine k_q (qc32 S) ?_ | refine k_n ?_) | ((first | refine g_b (fun h => ?_) (fun h => ?_) | refine g_s (fun h => ?_) (fun h => ?_) | refine k_s (fun h => ?_) (fun h => ?_)) <;> ((try simp only [zA, zB, zC, zD, zE, zF, ne_eq, zG, zH, and_true, true_and, eq_self, zI, zJ, zK, reduceCtorEq, zL, zM] at h); (try (exfalso; first | omega | with_reducible exact h (by assumption) | with_reducible exact absurd h (by assumption))))) | apply seqQ_normal | apply seqQ_ret | apply seqQ_exit | apply blkQ_here | refine g_bx ?_ | apply blkQ_ret | apply blkQ_normal | apply loopQ_ret | apply loopQ_exit | apply unQ_ret | apply unQ_exit | apply unQ_succ)
          all_goals (refine loopQ_normal (j + 1, _) (by repeat (first | exact trivial | refine ⟨rfl, ?_⟩)) (List.Sublist.refl _) ⟨by show 0 ≤ j + 1; omega, by show j + 1 ≤ (xs.length : Int); omega, ?_⟩ (by show (xs.length - (j + 1)).toNat < (xs.length - j).toNat; omega))
          all_goals (show wsum (xs.take (j + 1).toNat) n = _; rw [hn])
          · rw [if_pos (hb2.1 (by assumption))]
          · rw [if_neg (fun e => by have := hb2.2 e; contradiction)]; omega
        · repeat' (first | (show HW _ _ _ _ _ _; first | apply hw_seq | apply hw_region | apply hw_block | apply hw_exit | refine g_t ?_ | refine g_f ?_ | apply hw_skip | apply hw_ret | refine g_k S ?_) | (show HO _ _ _ _ _ _ _; first | apply ho_nil | refine g_q (qe S) ?_ | refine g_q (qg S) ?_ | refine g_q (ql S) ?_ | refine g_q (qt S) ?_ | refine g_q (qc8 S) ?_ | refine g_q (qc32 S) ?_ | refine g_n ?_ | refine g_on ?_) | (show HQ _ _ _ _ _ _ _; first | apply hq_nil | refine k_q (qe S) ?_ | refine k_q (qg S) ?_ | refine k_q (ql S) ?_ | refine k_q (qt S) ?_ | refine k_q (qc8 S) ?_ | refine k_q (qc32 S) ?_ | refine k_n ?_) | ((first | refine g_b (fun h => ?_) (fun h => ?_) | refine g_s (fun h => ?_) (fun h => ?_) | refine k_s (fun h => ?_) (fun h => ?_)) <;> ((try simp only [zA, zB, zC, zD, zE, zF, ne_eq, zG, zH, and_true, true_and, eq_self, zI, zJ, zK, reduceCtorEq, zL, zM] at h); (try (exfalso; first | omega | with_reducible exact h (by assumption) | with_reducible exact absurd h (by assumption))))) | apply seqQ_normal | apply seqQ_ret | apply seqQ_exit | apply blkQ_here | refine g_bx ?_ | apply blkQ_ret | apply blkQ_normal | apply loopQ_ret | apply loopQ_exit | apply unQ_ret | apply unQ_exit | apply unQ_succ)
          (refine fn_ret2 rfl rfl rfl ?_ ⟨?_, rfl⟩; (next => (repeat (first | exact List.Sublist.refl _ | apply List.Sublist.cons))))
          rw [take_all hlt] at hm
          simp only [sumW, hc]
          rw [if_neg (by simp; omega), ← hm]
          rfl
    · repeat' (first | (show HW _ _ _ _ _ _; first | apply hw_seq | apply hw_region | apply hw_block | apply hw_exit | refine g_t ?_ | refine g_f ?_ | apply hw_skip | apply hw_ret | refine g_k S ?_) | (show HO _ _ _ _ _ _ _; first | apply ho_nil | refine g_q (qe S) ?_ | refine g_q (qg S) ?_ | refine g_q (ql S) ?_ | refine g_q (qt S) ?_ | refine g_q (qc8 S) ?_ | refine g_q (qc32 S) ?_ | refine g_q (qC (hk)) ?_ | refine g_n ?_ | refine g_on ?_) | (show HQ _ _ _ _ _ _ _; first | apply hq_nil | refine k_q (qe S) ?_ | refine k_q (qg S) ?_ | refine k_q (ql S) ?_ | refine k_q (qt S) ?_ | refine k_q (qc8 S) ?_ | refine k_q (qc32 S) ?_ | refine k_q (qC (hk)) ?_ | refine k_n ?_) | ((first | refine g_b (fun h => ?_) (fun h => ?_) | refine g_s (fun h => ?_) (fun h => ?_) | refine k_s (fun h => ?_) (fun h => ?_)) <;> ((try simp only [zA, zB, zC, zD, zE, zF, ne_eq, zG, zH, and_true, true_and, eq_self, zI, zJ, zK, reduceCtorEq, zL, zM] at h); (try (exfalso; first | omega | with_reducible exact h (by assumption) | with_reducible exact absurd h (by assumption))))) | apply seqQ_normal | apply seqQ_ret | apply seqQ_exit | apply blkQ_here | refine g_bx ?_ | apply blkQ_ret | apply blkQ_normal | apply loopQ_ret | apply loopQ_exit | apply unQ_ret | apply unQ_exit | apply unQ_succ)
      (refine fn_ret2 rfl rfl rfl ?_ ⟨?_, rfl⟩; (next => (repeat (first | exact List.Sublist.refl _ | apply List.Sublist.cons))))
      simp only [sumW, hc]
      rw [if_pos (by omega)]
      rfl
theorem one_shl {k : Nat} (h : k ≤ 30) : 0 ≤ (k : Int) ∧ (k : Int) ≤ 64 ∧ -9223372036854775808 ≤ (1 : Int) * 2 ^ (k : Int).toNat ∧ (1 : Int) * 2 ^ (k : Int).toNat ≤ 9223372036854775807 := by
  have h1 : (2 : Nat) ^ k ≤ 2 ^ 30 := Nat.pow_le_pow_right (by decide) h
  have e : (1 : Int) * 2 ^ (k : Int).toNat = ((2 ^ k : Nat) : Int) := by simp
  rw [e]
  have h2 := Nat.two_pow_pos k
  generalize (2 : Nat) ^ k = q at *
  omega
def enoughW (ws : List Int) (set : Int) : Bool × Option Nat :=
  match sumW ws set with
  | (_, some e) => (false, some e)
  | (n, none) => (decide ((sumW ws (2 ^ ws.length - 1)).1 < 2 * n), (sumW ws (2 ^ ws.length - 1)).2)
theorem sumW_none {ws : List Int} {set : Int} (h : (sumW ws set).2 = none) : checkW ws = none ∧ 0 ≤ set ∧ blen set.toNat ≤ ws.length ∧ (sumW ws set).1 = wsum ws set.toNat := by
  unfold sumW at *
  cases hc : checkW ws with
  | some e => rw [hc] at h; cases h
  | none =>
    rw [hc] at h
    simp only at *
    split at h
    · cases h
    · rename_i h1
      rw [if_neg h1]
      refine ⟨trivial, ?_, ?_, rfl⟩ <;> omega
theorem enough_calls (T : Nat) (E : Nat → Addr) (a : Option Addr) (cap : Nat) (xs : List Int) (set : Int) (L : Heap) (hG : Er T E [2, 3, 4] L) (hR : Rd ic 1 L a xs) (hl : xs.length ≤ 1000000) (hs : set ≤ 9223372036854775807) :
    HC Tryz.prog 128 [.slice a xs.length cap, iv set] L (fun v L' => v = .tuple ⟨[.bool (enoughW xs set).1, eV T E (enoughW xs set).2]⟩ ∧ L' = L) := by
  refine hc_enter (fun _ _ => Tryz.call128 _ _) Tryz.func128 rfl Tryz.ntmps128 (Nat.le_of_ble_eq_true rfl) ?_; simp only [args0, Nat.reduceAdd]
  have hk := sum_calls T E a cap xs set L hG hR hl hs
  cases hc : (sumW xs set).2 with
  | some e =>
    rw [hc] at hk
    repeat' (first | (show HW _ _ _ _ _ _; first | apply hw_seq | apply hw_region | refine g_t ?_ | refine g_f ?_ | apply hw_skip | apply hw_ret) | (show HO _ _ _ _ _ _ _; first | apply ho_nil | refine g_q (qe S) ?_ | refine g_q (qC (hk)) ?_) | ((first | refine g_b (fun h => ?_) (fun h => ?_)) <;> ((try simp only [zA, zB, zC, zD, zE, zF, ne_eq, zG, zH, and_true, true_and, eq_self, zI, zJ, zK, reduceCtorEq, zL, zM] at h); (try (exfalso; first | omega | with_reducible exact h (by assumption) | with_reducible exact absurd h (by assumption))))) | apply seqQ_normal | apply seqQ_ret)
    (refine fn_ret2 rfl rfl rfl ?_ ⟨?_, rfl⟩; (next => (repeat (first | exact List.Sublist.refl _ | apply List.Sublist.cons))))
    have : enoughW xs set = (false, some e) := by
      unfold enoughW
      split
      · rename_i h; rw [h] at hc; cases hc; rfl
      · rename_i h; rw [h] at hc; cases hc
    rw [this]
  | none =>
    rw [hc] at hk
    obtain ⟨h1, h2, h3, h4⟩ := sumW_none hc
    obtain ⟨c1, c2, c3, c4⟩ := check_none h1
    have hsh := one_shl (k := xs.length) (by omega)
    have e2 : (1 : Int) * 2 ^ (xs.length : Int).toNat = 2 ^ xs.length := by simp
    have hp : 1 ≤ (1 : Int) * 2 ^ (xs.length : Int).toNat := by
      rw [e2]
      have e3 : (2 : Int) ^ xs.length = ((2 ^ xs.length : Nat) : Int) := by simp
      rw [e3]
      have := Nat.two_pow_pos xs.length
      generalize (2 : Nat) ^ xs.length = q at *
      omega
    have hk2 := sum_calls T E a cap xs (1 * 2 ^ (xs.length : Int).toNat - 1) L hG hR hl (by omega)
    have hb := wsum_le xs set.toNat c3
    rw [← h4] at hb
    repeat' (first | (show HW _ _ _ _ _ _; first | apply hw_seq | apply hw_region | refine g_t ?_ | refine g_f ?_ | apply hw_skip | apply hw_ret) | (show HO _ _ _ _ _ _ _; first | apply ho_nil | refine g_q (qe S) ?_ | refine g_q (qC (hk)) ?_ | refine g_q (qC (hk2)) ?_) | ((first | refine g_b (fun h => ?_) (fun h => ?_)) <;> ((try simp only [zA, zB, zC, zD, zE, zF, ne_eq, zG, zH, and_true, true_and, eq_self, zI, zJ, zK, reduceCtorEq, zL, zM] at h); (try (exfalso; first | omega | with_reducible exact h (by assumption) | with_reducible exact absurd h (by assumption))))) | apply seqQ_normal | apply seqQ_ret)
    (refine fn_ret2 rfl rfl rfl ?_ ⟨?_, rfl⟩; (next => (repeat (first | exact List.Sublist.refl _ | apply List.Sublist.cons))))
    rw [e2]
    have : enoughW xs set = (decide ((sumW xs (2 ^ xs.length - 1)).1 < 2 * (sumW xs set).1), (sumW xs (2 ^ xs.length - 1)).2) := by
      unfold enoughW
      split
      · rename_i h; rw [h] at hc; cases hc
      · rename_i h; rw [h]
    rw [this]
end Go.HL
end

/-! LdB -/
section
namespace Go.HL
open Go Go.Proofs
set_option linter.unusedVariables false
set_option linter.unusedSimpArgs false
theorem Rd.inn {α : Type} {enc : α → List Value} {sz : Nat} {L : Heap} {c : List Blk} {a : Option Addr} {xs : List α} (e : Blk) (h : Rd enc sz (c :: L) a xs) : Rd enc sz ((e :: c) :: L) a xs := by
  rcases h with h | ⟨b, i, l, E, fr, h1, h2, h3⟩
  · exact .inl h
  · exact .inr ⟨b, i, l, E, fr, h1, has_in h2, h3⟩
theorem bit_iff0 (n k : Nat) : (((((n : Int) / 2 ^ k).toNat &&& Int.toNat 1 : Nat) : Int) = 0) ↔ n / 2 ^ k % 2 = 0 := by
  have e : ((n : Int) / 2 ^ k).toNat = n / 2 ^ k := by
    have : ((n : Int) / 2 ^ k) = ((n / 2 ^ k : Nat) : Int) := by simp
    rw [this]; rfl
  rw [e, show Int.toNat 1 = 1 from rfl, Nat.and_one_is_mod]
  omega
def fitsM (m : Ld) (f : Fr) : Prop := f.kd = m.wait ∧ f.dl = m.deal ∧ f.att = m.att ∧ f.to = m.id ∧ 0 ≤ f.fr ∧ f.fr < m.w.length ∧ m.heard / 2 ^ f.fr.toNat % 2 = 0
instance (m : Ld) (f : Fr) : Decidable (fitsM m f) := by unfold fitsM; infer_instance
def stOf (m : Ld) (i : Nat) : List St := if m.heard / 2 ^ i % 2 = 1 then [m.told.getD i zeroS] else []
def statesM (m : Ld) : List St := (List.range m.w.length).flatMap (stOf m)
def m1M (m : Ld) (f : Fr) : Ld := if f.kd = 2 then m else { m with seen := max m.seen f.s.pr }
def m2M (m : Ld) (f : Fr) : Ld := { m1M m f with heard := m.heard ||| 2 ^ f.fr.toNat, told := m.told.set f.fr.toNat f.s }
def decdM (m : Ld) (p : Int) : Ld × List Fr := (doneM m, allM (doneM m) 7 p)
def preM (m : Ld) (p : Int) : Ld × List Fr := (prepM m p, allM (prepM m p) 5 p)
/-- behind an answer that counts -/
def countM (m : Ld) : Ld × List Fr :=
  if m.wait = 2 ∧ m.heard = 2 ^ m.w.length - 1 then preM m 4 else
  if m.wait = 2 ∨ (enoughW m.w m.heard).1 = false then (m, []) else
  if m.wait = 6 then decdM m (afterS m.phase) else
  if (chooseS (statesM m)).2 then decdM m (chooseS (statesM m)).1 else preM m (chooseS (statesM m)).1
def hearM (m : Ld) (f : Fr) : Ld × List Fr :=
  if m.wait = 0 ∨ ¬ fitsM m f then (m, []) else
  if f.yes = false then noM (m1M m f) else countM (m2M m f)
theorem range_flatS (f : Nat → List St) (i : Nat) : (List.range (i + 1)).flatMap f = (List.range i).flatMap f ++ f i := by
  rw [List.range_succ, List.flatMap_append]; simp
theorem flat_len_leS (f : Nat → List St) (hf : ∀ i, (f i).length ≤ 1) : ∀ i, ((List.range i).flatMap f).length ≤ i
  | 0 => by simp
  | i + 1 => by rw [range_flatS, List.length_append]; have := flat_len_leS f hf i; have := hf i; omega
theorem stOf_le (m : Ld) (i : Nat) : (stOf m i).length ≤ 1 := by unfold stOf; split <;> simp
theorem heard_lt {a : Nat} {k n : Nat} (h : a < 2 ^ n) (hk : k < n) : a ||| 2 ^ k < 2 ^ n := Nat.or_lt_two_pow h (Nat.pow_lt_pow_right (by decide) hk)
attribute [local irreducible] HW HO HQ HD HC QOp Has Upd Puts Gets seqQ blkQ loopQ fnQ actQ nextP unQ MapF
attribute [local irreducible] ldL
theorem states_calls (lp : Nat) (wv : Value) (wc : List Blk) (m : Ld) (L : Heap) (hm : LdOk wv wc m) (hh : m.heard < 128) : HC Tryz.prog 133 [pt lp 0] (ldC lp wv wc m :: L)
    (fun v L' => ∃ c, Vec 43 3 sc v (statesM m) c ∧ L' = c :: ldC lp wv wc m :: L) := by
  obtain ⟨a, cap, rfl, hcap, hR⟩ := hm.vec.rd ic_len
  have hlen := hm.len
  have htl := hm.told
  generalize hwv : Value.slice a m.w.length cap = wv at *
  have g3 : (ldL wv m)[0 + 3]? = some (.slice a m.w.length cap) := by rw [hwv]; exact ld_pre rfl
  have g6 : (ldL wv m)[0 + 6]? = some (iv m.heard) := ld_pre rfl
  refine hc_enter (fun _ _ => Tryz.call133 _ _) Tryz.func133 rfl Tryz.ntmps133 (Nat.le_of_ble_eq_true rfl) ?_; simp only [args0, Nat.reduceAdd]
  repeat' (first | (show HW _ _ _ _ _ _; first | apply hw_seq | apply hw_region | apply hw_block | apply hw_exit | refine g_t ?_ | refine g_f ?_ | apply hw_skip | apply hw_ret) | (show HO _ _ _ _ _ _ _; first | apply ho_nil | refine g_q (qe S) ?_ | refine g_q (ql S) ?_ | refine g_q (qs S) ?_ | refine wS S (fun b => ?_) | refine wSa S (fun b => ?_) | refine wSn S (fun b => ?_)) | ((first | refine g_b (fun h => ?_) (fun h => ?_)) <;> ((try simp only [zA, zB, zC, zD, zE, zF, ne_eq, zG, zH, and_true, true_and, eq_self, zI, zJ, zK, reduceCtorEq, zL, zM] at h); (try (exfalso; first | omega | with_reducible exact h (by assumption) | with_reducible exact absurd h (by assumption))))) | apply seqQ_normal | apply seqQ_ret | apply seqQ_exit | apply blkQ_here | refine g_bx ?_ | apply blkQ_ret | apply blkQ_normal | apply loopQ_ret | apply loopQ_exit | apply unQ_ret | apply unQ_exit | apply unQ_succ)
  refine hw_nilc ?_
  refine hw_loop (σ := Nat × Value × List Blk) (fun q => [(0, pt lp 0), (3, q.2.1), (9, iv m.w.length), (10, iv q.1)]) (fun q => q.2.2 :: ldC lp wv wc m :: L) (fun q => q.1 ≤ m.w.length ∧ Vec 43 3 sc q.2.1 ((List.range q.1).flatMap (stOf m)) q.2.2) (fun q => m.w.length - q.1) (0, nilS, []) (by repeat (first | exact trivial | refine ⟨rfl, ?_⟩)) (List.Sublist.refl _) ⟨by simp, vec_nil⟩ ?_
  rintro ⟨i, v, c⟩ ⟨hi, hv⟩
  simp only at hi hv ⊢
  have hle := flat_len_leS (stOf m) (stOf_le m) i
  by_cases hlt : i < m.w.length
  · have hb1 := bit_ok m.heard (i : Int).toNat (by omega)
    have hb2 := bit_iff m.heard (i : Int).toNat
    have ht : m.told[i]? = some (m.told.getD i zeroS) := by rw [List.getD, List.getElem?_eq_getElem (by omega)]; rfl
    have gt := ld_told (wv := wv) ht
    by_cases hbit : m.heard / 2 ^ i % 2 = 1
    · have e : stOf m i = [m.told.getD i zeroS] := if_pos hbit
      have hb3 := hb2.2 hbit
      repeat' (first | (show HW _ _ _ _ _ _; first | apply hw_seq | apply hw_region | apply hw_block | apply hw_exit | refine g_t ?_ | refine g_f ?_ | apply hw_skip | apply hw_ret | refine g_d S ?_) | (show HO _ _ _ _ _ _ _; first | apply ho_nil | refine g_q (qe S) ?_ | refine g_q (ql S) ?_ | refine g_q (qs S) ?_ | refine wS S (fun b => ?_) | refine wSa S (fun b => ?_) | refine wSn S (fun b => ?_)) | (show HD _ _ _ _ _ _ _ _; first | apply hd_nil | refine d_q 100 (by exact rfl) (fun _ => qe S) ?_ | refine dl S 100 ?_ | refine ds S 100 ?_) | ((first | refine g_b (fun h => ?_) (fun h => ?_)) <;> ((try simp only [zA, zB, zC, zD, zE, zF, ne_eq, zG, zH, and_true, true_and, eq_self, zI, zJ, zK, reduceCtorEq, zL, zM] at h); (try (exfalso; first | omega | with_reducible exact h (by assumption) | with_reducible exact absurd h (by assumption))))) | (show HD _ _ _ _ _ _ _ _; refine da 101 ?_) | refine dx ?_ | apply dx0 | refine dxd ?_ | refine dxk ?_ | apply seqQ_normal | apply seqQ_ret | apply seqQ_exit | apply blkQ_here | refine g_bx ?_ | apply blkQ_ret | apply blkQ_normal | apply loopQ_ret | apply loopQ_exit | apply unQ_ret | apply unQ_exit | apply unQ_succ)
      refine fo 1 ?_
      refine wp1 S (m.told.getD i zeroS) hv sc_len sc_one ?_
      intro v' c' hv'
      repeat' (first | (show HW _ _ _ _ _ _; first | apply hw_seq | apply hw_region | apply hw_block | apply hw_exit | refine g_t ?_ | refine g_f ?_ | apply hw_skip | apply hw_ret | refine g_d S ?_) | (show HO _ _ _ _ _ _ _; first | apply ho_nil | refine g_q (qe S) ?_ | refine g_q (ql S) ?_ | refine g_q (qs S) ?_ | refine wS S (fun b => ?_) | refine wSa S (fun b => ?_) | refine wSn S (fun b => ?_)) | (show HD _ _ _ _ _ _ _ _; first | apply hd_nil | refine d_q 100 (by exact rfl) (fun _ => qe S) ?_ | refine dl S 100 ?_ | refine ds S 100 ?_) | ((first | refine g_b (fun h => ?_) (fun h => ?_)) <;> ((try simp only [zA, zB, zC, zD, zE, zF, ne_eq, zG, zH, and_true, true_and, eq_self, zI, zJ, zK, reduceCtorEq, zL, zM] at h); (try (exfalso; first | omega | with_reducible exact h (by assumption) | with_reducible exact absurd h (by assumption))))) | (show HD _ _ _ _ _ _ _ _; refine da 101 ?_) | refine dx ?_ | apply dx0 | refine dxd ?_ | refine dxk ?_ | apply seqQ_normal | apply seqQ_ret | apply seqQ_exit | apply blkQ_here | refine g_bx ?_ | apply blkQ_ret | apply blkQ_normal | apply loopQ_ret | apply loopQ_exit | apply unQ_ret | apply unQ_exit | apply unQ_succ)
      refine loopQ_normal (i + 1, v', c') (by repeat (first | exact trivial | refine ⟨rfl, ?_⟩)) (.cons_cons _ (.cons _ (.refl _))) ⟨by simp only; omega, ?_⟩ (by simp only; omega)
      simp only
      rw [range_flatS, e]
      exact hv'
    · have e : stOf m i = [] := if_neg hbit
      have hb3 : ¬ _ := fun h => hbit (hb2.1 h)
      repeat' (first | (show HW _ _ _ _ _ _; first | apply hw_seq | apply hw_region | apply hw_block | apply hw_exit | refine g_t ?_ | refine g_f ?_ | apply hw_skip | apply hw_ret | refine g_d S ?_) | (show HO _ _ _ _ _ _ _; first | apply ho_nil | refine g_q (qe S) ?_ | refine g_q (ql S) ?_ | refine g_q (qs S) ?_ | refine wS S (fun b => ?_) | refine wSa S (fun b => ?_) | refine wSn S (fun b => ?_)) | (show HD _ _ _ _ _ _ _ _; first | apply hd_nil | refine d_q 100 (by exact rfl) (fun _ => qe S) ?_ | refine dl S 100 ?_ | refine ds S 100 ?_) | ((first | refine g_b (fun h => ?_) (fun h => ?_)) <;> ((try simp only [zA, zB, zC, zD, zE, zF, ne_eq, zG, zH, and_true, true_and, eq_self, zI, zJ, zK, reduceCtorEq, zL, zM] at h); (try (exfalso; first | omega | with_reducible exact h (by assumption) | with_reducible exact absurd h (by assumption))))) | (show HD _ _ _ _ _ _ _ _; refine da 101 ?_) | refine dx ?_ | apply dx0 | refine dxd ?_ | refine dxk ?_ | apply seqQ_normal | apply seqQ_ret | apply seqQ_exit | apply blkQ_here | refine g_bx ?_ | apply blkQ_ret | apply blkQ_normal | apply loopQ_ret | apply loopQ_exit | apply unQ_ret | apply unQ_exit | apply unQ_succ)
      refine loopQ_normal (i + 1, v, c) (by repeat (first | exact trivial | refine ⟨rfl, ?_⟩)) (List.Sublist.refl _) ⟨by simp only; omega, ?_⟩ (by simp only; omega)
      simp only
      rw [range_flatS, e, List.append_nil]
      exact hv
  · repeat' (first | (show HW _ _ _ _ _ _; first | apply hw_seq | apply hw_region | apply hw_block | apply hw_exit | refine g_t ?_ | refine g_f ?_ | apply hw_skip | apply hw_ret | refine g_d S ?_) | (show HO _ _ _ _ _ _ _; first | apply ho_nil | refine g_q (qe S) ?_ | refine g_q (ql S) ?_ | refine g_q (qs S) ?_ | refine wS S (fun b => ?_) | refine wSa S (fun b => ?_) | refine wSn S (fun b => ?_)) | (show HD _ _ _ _ _ _ _ _; first | apply hd_nil | refine d_q 100 (by exact rfl) (fun _ => qe S) ?_ | refine dl S 100 ?_ | refine ds S 100 ?_) | ((first | refine g_b (fun h => ?_) (fun h => ?_)) <;> ((try simp only [zA, zB, zC, zD, zE, zF, ne_eq, zG, zH, and_true, true_and, eq_self, zI, zJ, zK, reduceCtorEq, zL, zM] at h); (try (exfalso; first | omega | with_reducible exact h (by assumption) | with_reducible exact absurd h (by assumption))))) | (show HD _ _ _ _ _ _ _ _; refine da 101 ?_) | refine dx ?_ | apply dx0 | refine dxd ?_ | refine dxk ?_ | apply seqQ_normal | apply seqQ_ret | apply seqQ_exit | apply blkQ_here | refine g_bx ?_ | apply blkQ_ret | apply blkQ_normal | apply loopQ_ret | apply loopQ_exit | apply unQ_ret | apply unQ_exit | apply unQ_succ)
    have hi2 : i = m.w.length := by omega
    subst hi2
    exact sp1 (LS.refl _) ⟨c, hv, rfl⟩
theorem fits_calls (lp : Nat) (wv : Value) (wc : List Blk) (m : Ld) (f : Fr) (L : Heap) (hm : LdOk wv wc m) (hh : m.heard < 128) : HC Tryz.prog 126 [pt lp 0, .agg ⟨fc f⟩] (ldC lp wv wc m :: L)
    (fun v L' => v = .bool (decide (fitsM m f)) ∧ L' = ldC lp wv wc m :: L) := by
  obtain ⟨a, cap, rfl, hcap, hR⟩ := hm.vec.rd ic_len
  have hlen := hm.len
  generalize hwv : Value.slice a m.w.length cap = wv at *
  have g0 : (ldL wv m)[0 + 0]? = some (iv m.id) := ld_pre rfl
  have g1 : (ldL wv m)[0 + 1]? = some (iv m.deal) := ld_pre rfl
  have g2 : (ldL wv m)[0 + 2]? = some (iv m.att) := ld_pre rfl
  have g3 : (ldL wv m)[0 + 3]? = some (.slice a m.w.length cap) := by rw [hwv]; exact ld_pre rfl
  have g5 : (ldL wv m)[0 + 5]? = some (iv m.wait) := ld_pre rfl
  have g6 : (ldL wv m)[0 + 6]? = some (iv m.heard) := ld_pre rfl
  have hb1 := bit_ok m.heard f.fr.toNat (by omega)
  have hb2 := bit_iff0 m.heard f.fr.toNat
  refine hc_enter (fun _ _ => Tryz.call126 _ _) Tryz.func126 rfl Tryz.ntmps126 (Nat.le_of_ble_eq_true rfl) ?_; simp only [args0, Nat.reduceAdd]
  repeat' (first | (show HW _ _ _ _ _ _; first | apply hw_seq | apply hw_region | apply hw_ret | refine g_k S ?_) | (show HO _ _ _ _ _ _ _; first | apply ho_nil | refine g_q (qe S) ?_ | refine g_q (ql S) ?_ | refine g_n ?_ | refine g_on ?_ | refine wb (fun b => ?_)) | (show HQ _ _ _ _ _ _ _; first | apply hq_nil | refine k_q (qe S) ?_ | refine k_q (ql S) ?_ | refine k_n ?_) | ((first | refine g_s (fun h => ?_) (fun h => ?_) | refine k_s (fun h => ?_) (fun h => ?_)) <;> ((try simp only [zA, zB, zC, zD, zE, zF, ne_eq, zG, zH, and_true, true_and, eq_self, zI, zJ, zK, reduceCtorEq, zL, zM] at h); (try (exfalso; first | omega | with_reducible exact h (by assumption) | with_reducible exact absurd h (by assumption))))) | apply seqQ_normal | apply seqQ_ret)
  all_goals refine sp1 (LS.skip _ (LS.refl _)) ⟨congrArg Value.bool ?_, rfl⟩
  all_goals first
    | (refine (decide_eq_false (fun h => ?_)).symm; obtain ⟨h1, h2, h3, h4, h5, h6, h7⟩ := h; omega)
    | (refine decide_eq_decide.2 ⟨fun h => ⟨?_, ?_, ?_, ?_, ?_, ?_, hb2.1 h⟩, fun h => hb2.2 h.2.2.2.2.2.2⟩ <;> assumption)
theorem hear_wait {m : Ld} {f : Fr} (h : m.wait = 0 ∨ ¬ fitsM m f) : hearM m f = (m, []) := if_pos h
theorem LdOk.m1 {wv : Value} {wc : List Blk} {m : Ld} (h : LdOk wv wc m) (f : Fr) : LdOk wv wc (m1M m f) := by
  unfold m1M; split
  · exact h
  · exact h.of rfl rfl
theorem LdOk.m2 {wv : Value} {wc : List Blk} {m : Ld} (h : LdOk wv wc m) (f : Fr) : LdOk wv wc (m2M m f) := by
  refine h.of ?_ ?_
  · unfold m2M m1M; split <;> rfl
  · simp [m2M]
theorem fitsM_heard {m : Ld} {f : Fr} (h : fitsM m f) : 0 ≤ f.fr ∧ f.fr < m.w.length ∧ f.kd = m.wait := ⟨h.2.2.2.2.1, h.2.2.2.2.2.1, h.1⟩
theorem or_int (a k : Nat) : (((a : Int).toNat ||| ((1 : Int) * 2 ^ (k : Int).toNat).toNat : Nat) : Int) = ((a ||| 2 ^ k : Nat) : Int) := by
  have : ((1 : Int) * 2 ^ (k : Int).toNat) = ((2 ^ k : Nat) : Int) := by simp
  rw [this]; rfl
theorem or_ok {a k : Nat} (ha : a < 128) (hk : k < 7) : 0 ≤ (a : Int) ∧ (a : Int) ≤ hiE .i64 ∧ 0 ≤ (1 : Int) * 2 ^ (k : Int).toNat ∧ (1 : Int) * 2 ^ (k : Int).toNat ≤ hiE .i64 := by
  have e : ((1 : Int) * 2 ^ (k : Int).toNat) = ((2 ^ k : Nat) : Int) := by simp
  have : 2 ^ k < 2 ^ 7 := Nat.pow_lt_pow_right (by decide) hk
  rw [e]
  simp only [hiE]
  generalize 2 ^ k = q at *
  omega
theorem full_int (n : Nat) : ((1 : Int) * 2 ^ (n : Int).toNat - 1) = ((2 ^ n - 1 : Nat) : Int) := by
  have e : ((1 : Int) * 2 ^ (n : Int).toNat) = ((2 ^ n : Nat) : Int) := by simp
  have := Nat.two_pow_pos n
  rw [e]; generalize 2 ^ n = q at *; omega
theorem shl_le {n : Nat} (h : n ≤ 7) : 1 ≤ (1 : Int) * 2 ^ (n : Int).toNat ∧ (1 : Int) * 2 ^ (n : Int).toNat ≤ 128 := by
  have e : ((1 : Int) * 2 ^ (n : Int).toNat) = ((2 ^ n : Nat) : Int) := by simp
  have := Nat.two_pow_pos n
  have : 2 ^ n ≤ 2 ^ 7 := Nat.pow_le_pow_right (by decide) h
  rw [e]; generalize 2 ^ n = q at *; omega
end Go.HL
end
