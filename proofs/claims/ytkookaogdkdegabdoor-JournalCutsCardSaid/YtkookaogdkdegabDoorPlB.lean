/- Chapter 2: a plate: Write. Conditions: none. -/
import Derived.Test.YtkookaogdkdegabDoorPlA
namespace Go.HL
open Go Go.Proofs
set_option linter.unusedVariables false
set_option linter.unusedSimpArgs false

def wrAt (m : Pl) (a : Nat) (s : List UInt8) (i : Nat) : Pl := ⟨splice m.b a (s.take i), false, if m.cut = -1 then -1 else m.cut - i⟩
theorem wrAt_succ {m : Pl} {a : Nat} {s : List UInt8} {i : Nat} (ha : a + s.length ≤ m.b.length) (hi : i < s.length) : (wrAt m a s (i + 1)).b = (wrAt m a s i).b.set (a + i) (s.getD i 0) := by
  show splice m.b a (s.take (i + 1)) = (splice m.b a (s.take i)).set (a + i) (s.getD i 0)
  rw [List.take_succ_eq_append_getElem hi, splice_snoc (by simp; omega)]
  simp [List.getD, hi, Nat.min_eq_left (Nat.le_of_lt hi)]
theorem wrAt_len {m : Pl} {a : Nat} {s : List UInt8} {i : Nat} (ha : a + s.length ≤ m.b.length) : (wrAt m a s i).b.length = m.b.length := splice_len (by simp; omega)
attribute [local irreducible] HW HO HQ HD HC QOp Has Upd Puts Gets seqQ blkQ loopQ fnQ actQ nextP unQ MapF
theorem write_calls (T : Nat) (E : Nat → Addr) (bp ba : Nat) (m : Pl) (at_ : Int) (s : List UInt8) (L : Heap) (hG : Er T E [2, 6] L) (hl : m.b.length ≤ 1000000) (hs : s.length ≤ 1000000) (hc : -1 ≤ m.cut ∧ m.cut ≤ 9223372036854775807) :
    HC Tryd.prog 136 [pt bp 0, iv at_, bs s] (plC bp ba m :: L) (fun v L' => v = eV T E (writeM m at_ s).2 ∧ L' = plC bp ba (writeM m at_ s).1 :: L) := by
  have hk := look_calls T E bp ba m at_ s.length L hG hl
  have hG' : ∀ m', Er T E [2, 6] (plC bp ba m' :: L) := fun m' => hG.cons _
  refine hc_enter (fun _ _ => Tryd.call136 _ _) Tryd.func136 rfl Tryd.ntmps136 (Nat.le_of_ble_eq_true rfl) ?_; simp only [args0, Nat.reduceAdd]
  unfold writeM
  cases hm : lookM m at_ s.length with
  | some e =>
    rw [hm] at hk
    repeat' (first | (show HW _ _ _ _ _ _; first | apply hw_seq | apply hw_region | apply hw_block | apply hw_exit | refine g_t ?_ | refine g_f ?_ | (refine g_b (fun h => ?_) (fun h => ?_) <;> ((try simp only [Bool.not_eq_eq_eq_not, Bool.not_true, Bool.not_false, decide_eq_true_eq, decide_eq_false_iff_not, Decidable.not_not, ne_eq, Bool.and_eq_true, beq_iff_eq, and_true, true_and, eq_self, decide_true, Bool.and_true, Bool.true_and, reduceCtorEq, not_true_eq_false, not_false_eq_true] at h); (try (exfalso; first | omega | with_reducible exact h (by assumption) | with_reducible exact absurd h (by assumption))))) | apply hw_skip | apply hw_ret | refine g_k S ?_ | refine g_w S ?_) | (show HO _ _ _ _ _ _ _; first | apply ho_nil | refine g_q (qe S) ?_ | refine g_q (qg S) ?_ | refine g_q (ql S) ?_ | refine g_q (qC (hk)) ?_ | refine ws S ?_) | (show HQ _ _ _ _ _ _ _; first | apply hq_nil | refine k_q (qe S) ?_ | refine k_q (qg S) ?_ | refine k_q (ql S) ?_ | refine k_q (qC (hk)) ?_) | (show HD _ _ _ _ _ _ _ _; first | apply hd_nil | refine d_q 100 (by exact rfl) (fun _ => qe S) ?_ | refine dl S 100 ?_ | refine dg S 100 (fun _ _ => ?_) | refine d_q 0 (by exact rfl) (fun _ => qC (hk)) ?_ | refine d_q 1 (by exact rfl) (fun _ => qC (hk)) ?_ | refine d_q 2 (by exact rfl) (fun _ => qC (hk)) ?_ | refine d_q 3 (by exact rfl) (fun _ => qC (hk)) ?_ | refine da 101 ?_) | refine dx ?_ | apply dx0 | refine dxd ?_ | refine dxk ?_ | apply seqQ_normal | apply seqQ_ret | apply seqQ_exit | apply blkQ_here | refine g_bx ?_ | apply blkQ_ret | apply blkQ_normal | apply loopQ_ret | apply loopQ_exit | apply unQ_ret | apply unQ_exit | apply unQ_succ)
    exact er1 rfl ⟨rfl, rfl⟩
  | none =>
    rw [hm] at hk
    have h0 : 0 ≤ at_ ∧ at_ + s.length ≤ m.b.length ∧ m.off = false := by
      unfold lookM at hm
      split at hm
      · cases hm
      · split at hm
        · cases hm
        · exact ⟨by omega, by omega, by simp_all⟩
    obtain ⟨a, rfl⟩ := Int.eq_ofNat_of_zero_le h0.1
    obtain ⟨-, h1, hoff⟩ := h0
    have h2 : a + s.length ≤ m.b.length := by omega
    clear hm
    repeat' (first | (show HW _ _ _ _ _ _; first | apply hw_seq | apply hw_region | apply hw_block | apply hw_exit | refine g_t ?_ | refine g_f ?_ | (refine g_b (fun h => ?_) (fun h => ?_) <;> ((try simp only [Bool.not_eq_eq_eq_not, Bool.not_true, Bool.not_false, decide_eq_true_eq, decide_eq_false_iff_not, Decidable.not_not, ne_eq, Bool.and_eq_true, beq_iff_eq, and_true, true_and, eq_self, decide_true, Bool.and_true, Bool.true_and, reduceCtorEq, not_true_eq_false, not_false_eq_true] at h); (try (exfalso; first | omega | with_reducible exact h (by assumption) | with_reducible exact absurd h (by assumption))))) | apply hw_skip | apply hw_ret | refine g_k S ?_ | refine g_w S ?_) | (show HO _ _ _ _ _ _ _; first | apply ho_nil | refine g_q (qe S) ?_ | refine g_q (qg S) ?_ | refine g_q (ql S) ?_ | refine g_q (qC (hk)) ?_ | refine ws S ?_) | (show HQ _ _ _ _ _ _ _; first | apply hq_nil | refine k_q (qe S) ?_ | refine k_q (qg S) ?_ | refine k_q (ql S) ?_ | refine k_q (qC (hk)) ?_) | (show HD _ _ _ _ _ _ _ _; first | apply hd_nil | refine d_q 100 (by exact rfl) (fun _ => qe S) ?_ | refine dl S 100 ?_ | refine dg S 100 (fun _ _ => ?_) | refine d_q 0 (by exact rfl) (fun _ => qC (hk)) ?_ | refine d_q 1 (by exact rfl) (fun _ => qC (hk)) ?_ | refine d_q 2 (by exact rfl) (fun _ => qC (hk)) ?_ | refine d_q 3 (by exact rfl) (fun _ => qC (hk)) ?_ | refine da 101 ?_) | refine dx ?_ | apply dx0 | refine dxd ?_ | refine dxk ?_ | apply seqQ_normal | apply seqQ_ret | apply seqQ_exit | apply blkQ_here | refine g_bx ?_ | apply blkQ_ret | apply blkQ_normal | apply loopQ_ret | apply loopQ_exit | apply unQ_ret | apply unQ_exit | apply unQ_succ)
    have hst : plC bp ba m = plC bp ba (wrAt m a s 0) := by
      obtain ⟨mb, mo, mc⟩ := m
      simp only at hoff
      subst hoff
      simp only [wrAt, List.take_zero, splice_nil]
      by_cases h : mc = -1 <;> simp [h, plC]
    rw [hst]
    refine hw_loop (σ := Nat) (fun i => [(0, pt bp 0), (1, iv a), (2, bs s), (18, iv s.length), (19, iv i)]) (fun i => plC bp ba (wrAt m a s i) :: L) (fun i => i ≤ s.length ∧ (m.cut = -1 ∨ (i : Int) ≤ m.cut)) (fun i => s.length - i) 0 (by repeat (first | exact trivial | refine ⟨rfl, ?_⟩)) (List.Sublist.refl _) ⟨by omega, by omega⟩ ?_
    rintro i ⟨i1, i2⟩
    have hG2 := hG' (wrAt m a s i)
    have hlen := wrAt_len (i := i) h2
    have hcut : (m.cut = -1 ∧ (wrAt m a s i).cut = -1) ∨ (m.cut ≠ -1 ∧ (wrAt m a s i).cut = m.cut - i) := by
      unfold wrAt
      by_cases h : m.cut = -1
      · exact .inl ⟨h, by simp [h]⟩
      · exact .inr ⟨h, by simp [h]⟩
    by_cases hlt : i < s.length
    · have hP : Puts ((wrAt m a s i).b.map u8) (0 + ((a : Int) + (i : Int)).toNat) [.int .u8 (((s.getD (i : Int).toNat 0).toNat : Nat) : Int)] ((wrAt m a s (i + 1)).b.map u8) := by
        rw [wrAt_succ h2 hlt, List.map_set]
        have e : 0 + ((a : Int) + (i : Int)).toNat = a + i := by omega
        rw [e]
        exact puts_set (by simp; omega)
      have hnext : plC bp ba (wrAt m a s (i + 1)) = [(bp, .cells ⟨[sl ba 0 (wrAt m a s i).b.length (wrAt m a s i).b.length, .bool (wrAt m a s i).off, iv (max (-1) ((wrAt m a s i).cut - 1))]⟩ 155), (ba, .cells ⟨(wrAt m a s (i + 1)).b.map u8⟩ 5)] := by
        have e1 : (wrAt m a s (i + 1)).b.length = (wrAt m a s i).b.length := by rw [wrAt_len h2, wrAt_len h2]
        have e2 : (wrAt m a s (i + 1)).cut = max (-1) ((wrAt m a s i).cut - 1) := by
          have e3 : (wrAt m a s (i + 1)).cut = if m.cut = -1 then -1 else m.cut - ((i + 1 : Nat) : Int) := rfl
          rw [e3]
          rcases hcut with hcut | hcut
          · rw [if_pos hcut.1]; omega
          · rw [if_neg hcut.1]; omega
        have e4 : (wrAt m a s (i + 1)).off = (wrAt m a s i).off := rfl
        unfold plC
        rw [e1, e2, e4]
      repeat' (first | (show HW _ _ _ _ _ _; first | apply hw_seq | apply hw_region | apply hw_block | apply hw_exit | refine g_t ?_ | refine g_f ?_ | (refine g_b (fun h => ?_) (fun h => ?_) <;> ((try simp only [Bool.not_eq_eq_eq_not, Bool.not_true, Bool.not_false, decide_eq_true_eq, decide_eq_false_iff_not, Decidable.not_not, ne_eq, Bool.and_eq_true, beq_iff_eq, and_true, true_and, eq_self, decide_true, Bool.and_true, Bool.true_and, reduceCtorEq, not_true_eq_false, not_false_eq_true] at h); (try (exfalso; first | omega | with_reducible exact h (by assumption) | with_reducible exact absurd h (by assumption))))) | apply hw_skip | apply hw_ret | refine g_k S ?_ | refine g_w S ?_) | (show HO _ _ _ _ _ _ _; first | apply ho_nil | refine g_q (qe S) ?_ | refine g_q (qg S) ?_ | refine g_q (ql S) ?_ | refine ws S ?_) | (show HQ _ _ _ _ _ _ _; first | apply hq_nil | refine k_q (qe S) ?_ | refine k_q (qg S) ?_ | refine k_q (ql S) ?_) | (show HD _ _ _ _ _ _ _ _; first | apply hd_nil | refine d_q 100 (by exact rfl) (fun _ => qe S) ?_ | refine dl S 100 ?_ | refine dg S 100 (fun _ _ => ?_) | refine da 101 ?_) | refine dx ?_ | apply dx0 | refine dxd ?_ | refine dxk ?_ | apply seqQ_normal | apply seqQ_ret | apply seqQ_exit | apply blkQ_here | refine g_bx ?_ | apply blkQ_ret | apply blkQ_normal | apply loopQ_ret | apply loopQ_exit | apply unQ_ret | apply unQ_exit | apply unQ_succ)
      · have hk0 : kM m s.length = i := by
          unfold kM
          rcases hcut with hcut | hcut
          · omega
          · rw [if_neg hcut.1]
            omega
        refine er1 (L' := plC bp ba (wrOk m a s).1 :: L) ?_ ?_
        · simp only [wrOk, hk0, hoff, decide_eq_true hlt, Bool.or_true, List.flatten_cons]
          have e : plC bp ba (wrAt m a s i) = plC bp ba ⟨splice m.b a (s.take i), false, if m.cut = -1 then -1 else m.cut - i⟩ := rfl
          simp [plC, wrAt]
        · simp [wrOk, hk0, hlt, eV]
      · refine loopQ_normal (i + 1) (by repeat (first | exact trivial | refine ⟨rfl, ?_⟩)) ?_ ⟨by omega, by omega⟩ (by omega)
        rw [hnext]
        exact List.Sublist.refl _
    · repeat' (first | (show HW _ _ _ _ _ _; first | apply hw_seq | apply hw_region | apply hw_block | apply hw_exit | refine g_t ?_ | refine g_f ?_ | (refine g_b (fun h => ?_) (fun h => ?_) <;> ((try simp only [Bool.not_eq_eq_eq_not, Bool.not_true, Bool.not_false, decide_eq_true_eq, decide_eq_false_iff_not, Decidable.not_not, ne_eq, Bool.and_eq_true, beq_iff_eq, and_true, true_and, eq_self, decide_true, Bool.and_true, Bool.true_and, reduceCtorEq, not_true_eq_false, not_false_eq_true] at h); (try (exfalso; first | omega | with_reducible exact h (by assumption) | with_reducible exact absurd h (by assumption))))) | apply hw_skip | apply hw_ret | refine g_k S ?_ | refine g_w S ?_) | (show HO _ _ _ _ _ _ _; first | apply ho_nil | refine g_q (qe S) ?_ | refine g_q (qg S) ?_ | refine g_q (ql S) ?_ | refine ws S ?_) | (show HQ _ _ _ _ _ _ _; first | apply hq_nil | refine k_q (qe S) ?_ | refine k_q (qg S) ?_ | refine k_q (ql S) ?_) | (show HD _ _ _ _ _ _ _ _; first | apply hd_nil | refine d_q 100 (by exact rfl) (fun _ => qe S) ?_ | refine dl S 100 ?_ | refine dg S 100 (fun _ _ => ?_) | refine da 101 ?_) | refine dx ?_ | apply dx0 | refine dxd ?_ | refine dxk ?_ | apply seqQ_normal | apply seqQ_ret | apply seqQ_exit | apply blkQ_here | refine g_bx ?_ | apply blkQ_ret | apply blkQ_normal | apply loopQ_ret | apply loopQ_exit | apply unQ_ret | apply unQ_exit | apply unQ_succ)
      have hi : i = s.length := by omega
      subst hi
      have hk0 : kM m s.length = s.length := by
        unfold kM
        split
        · rfl
        · omega
      refine er1 (L' := plC bp ba (wrOk m a s).1 :: L) ?_ ?_
      · simp [plC, wrAt, wrOk, hk0, hoff]
      · simp [wrOk, hk0, eV]
end Go.HL
