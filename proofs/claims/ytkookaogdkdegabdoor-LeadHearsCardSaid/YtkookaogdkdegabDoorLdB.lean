/- Chapter 7: what a lead hears. Conditions: none. -/
import Derived.Test.YtkookaogdkdegabDoorLdA
import Derived.Test.YtkookaogdkdegabDoorTabB
import Derived.Test.YtkookaogdkdegabDoorWgB
namespace Go.HL
open Go Go.Proofs
set_option linter.unusedVariables false
set_option linter.unusedSimpArgs false
theorem Rd.inn {α : Type} {enc : α → List Value} {sz : Nat} {L : Heap} {c : List Blk} {a : Option Addr} {xs : List α} (e : Blk) (h : Rd enc sz (c :: L) a xs) : Rd enc sz ((e :: c) :: L) a xs := by
  rcases h with h | ⟨b, i, l, E, fr, h1, h2, h3⟩
  · exact .inl h
  · exact .inr ⟨b, i, l, E, fr, h1, has_in h2, h3⟩
theorem bit_iff0 (n k : Nat) : (((((n : Int) / 2 ^ k).toNat &&& Int.toNat 1 : Nat) : Int) = 0) ↔ n / 2 ^ k % 2 = 0 := by
  have e : ((n : Int) / 2 ^ k).toNat = n / 2 ^ k := by
    have : ((n : Int) / 2 ^ k) = ((n / 2 ^ k : Nat) : Int) := by simp
    rw [this]; rfl
  rw [e, show Int.toNat 1 = 1 from rfl, Nat.and_one_is_mod]
  omega
def fitsM (m : Ld) (f : Fr) : Prop := f.kd = m.wait ∧ f.dl = m.deal ∧ f.att = m.att ∧ f.to = m.id ∧ 0 ≤ f.fr ∧ f.fr < m.w.length ∧ m.heard / 2 ^ f.fr.toNat % 2 = 0
instance (m : Ld) (f : Fr) : Decidable (fitsM m f) := by unfold fitsM; infer_instance
def stOf (m : Ld) (i : Nat) : List St := if m.heard / 2 ^ i % 2 = 1 then [m.told.getD i zeroS] else []
def statesM (m : Ld) : List St := (List.range m.w.length).flatMap (stOf m)
def m1M (m : Ld) (f : Fr) : Ld := if f.kd = 2 then m else { m with seen := max m.seen f.s.pr }
def m2M (m : Ld) (f : Fr) : Ld := { m1M m f with heard := m.heard ||| 2 ^ f.fr.toNat, told := m.told.set f.fr.toNat f.s }
def decdM (m : Ld) (p : Int) : Ld × List Fr := (doneM m, allM (doneM m) 7 p)
def preM (m : Ld) (p : Int) : Ld × List Fr := (prepM m p, allM (prepM m p) 5 p)
/-- behind an answer that counts -/
def countM (m : Ld) : Ld × List Fr :=
  if m.wait = 2 ∧ m.heard = 2 ^ m.w.length - 1 then preM m 4 else
  if m.wait = 2 ∨ (enoughW m.w m.heard).1 = false then (m, []) else
  if m.wait = 6 then decdM m (afterS m.phase) else
  if (chooseS (statesM m)).2 then decdM m (chooseS (statesM m)).1 else preM m (chooseS (statesM m)).1
def hearM (m : Ld) (f : Fr) : Ld × List Fr :=
  if m.wait = 0 ∨ ¬ fitsM m f then (m, []) else
  if f.yes = false then noM (m1M m f) else countM (m2M m f)
theorem range_flatS (f : Nat → List St) (i : Nat) : (List.range (i + 1)).flatMap f = (List.range i).flatMap f ++ f i := by
  rw [List.range_succ, List.flatMap_append]; simp
theorem flat_len_leS (f : Nat → List St) (hf : ∀ i, (f i).length ≤ 1) : ∀ i, ((List.range i).flatMap f).length ≤ i
  | 0 => by simp
  | i + 1 => by rw [range_flatS, List.length_append]; have := flat_len_leS f hf i; have := hf i; omega
theorem stOf_le (m : Ld) (i : Nat) : (stOf m i).length ≤ 1 := by unfold stOf; split <;> simp
theorem heard_lt {a : Nat} {k n : Nat} (h : a < 2 ^ n) (hk : k < n) : a ||| 2 ^ k < 2 ^ n := Nat.or_lt_two_pow h (Nat.pow_lt_pow_right (by decide) hk)
attribute [local irreducible] HW HO HQ HD HC QOp Has Upd Puts Gets seqQ blkQ loopQ fnQ actQ nextP unQ MapF
attribute [local irreducible] ldL
theorem states_calls (lp : Nat) (wv : Value) (wc : List Blk) (m : Ld) (L : Heap) (hm : LdOk wv wc m) (hh : m.heard < 128) : HC Tryd.prog 119 [pt lp 0] (ldC lp wv wc m :: L)
    (fun v L' => ∃ c, Vec 34 3 sc v (statesM m) c ∧ L' = c :: ldC lp wv wc m :: L) := by
  obtain ⟨a, cap, rfl, hcap, hR⟩ := hm.vec.rd ic_len
  have hlen := hm.len
  have htl := hm.told
  generalize hwv : Value.slice a m.w.length cap = wv at *
  have g3 : (ldL wv m)[0 + 3]? = some (.slice a m.w.length cap) := by rw [hwv]; exact ld_pre rfl
  have g6 : (ldL wv m)[0 + 6]? = some (iv m.heard) := ld_pre rfl
  refine hc_enter (fun _ _ => Tryd.call119 _ _) Tryd.func119 rfl Tryd.ntmps119 (Nat.le_of_ble_eq_true rfl) ?_; simp only [args0, Nat.reduceAdd]
  repeat' (first | (show HW _ _ _ _ _ _; first | apply hw_seq | apply hw_region | apply hw_block | apply hw_exit | refine g_t ?_ | refine g_f ?_ | (refine g_b (fun h => ?_) (fun h => ?_) <;> ((try simp only [Bool.not_eq_eq_eq_not, Bool.not_true, Bool.not_false, decide_eq_true_eq, decide_eq_false_iff_not, Decidable.not_not, ne_eq, Bool.and_eq_true, beq_iff_eq, and_true, true_and, eq_self, decide_true, Bool.and_true, Bool.true_and, reduceCtorEq, not_true_eq_false, not_false_eq_true] at h); (try (exfalso; first | omega | with_reducible exact h (by assumption) | with_reducible exact absurd h (by assumption))))) | apply hw_skip | apply hw_ret) | (show HO _ _ _ _ _ _ _; first | apply ho_nil | refine g_q (qe S) ?_ | refine g_q (ql S) ?_ | refine g_q (qs S) ?_ | refine wS S (fun b => ?_) | refine wSa S (fun b => ?_) | refine wSn S (fun b => ?_)) | apply seqQ_normal | apply seqQ_ret | apply seqQ_exit | apply blkQ_here | refine g_bx ?_ | apply blkQ_ret | apply blkQ_normal | apply loopQ_ret | apply loopQ_exit | apply unQ_ret | apply unQ_exit | apply unQ_succ)
  refine hw_nilc ?_
  refine hw_loop (σ := Nat × Value × List Blk) (fun q => [(0, pt lp 0), (3, q.2.1), (9, iv m.w.length), (10, iv q.1)]) (fun q => q.2.2 :: ldC lp wv wc m :: L) (fun q => q.1 ≤ m.w.length ∧ Vec 34 3 sc q.2.1 ((List.range q.1).flatMap (stOf m)) q.2.2) (fun q => m.w.length - q.1) (0, nilS, []) (by repeat (first | exact trivial | refine ⟨rfl, ?_⟩)) (List.Sublist.refl _) ⟨by simp, vec_nil⟩ ?_
  rintro ⟨i, v, c⟩ ⟨hi, hv⟩
  simp only at hi hv ⊢
  have hle := flat_len_leS (stOf m) (stOf_le m) i
  by_cases hlt : i < m.w.length
  · have hb1 := bit_ok m.heard (i : Int).toNat (by omega)
    have hb2 := bit_iff m.heard (i : Int).toNat
    have ht : m.told[i]? = some (m.told.getD i zeroS) := by rw [List.getD, List.getElem?_eq_getElem (by omega)]; rfl
    have gt := ld_told (wv := wv) ht
    by_cases hbit : m.heard / 2 ^ i % 2 = 1
    · have e : stOf m i = [m.told.getD i zeroS] := if_pos hbit
      have hb3 := hb2.2 hbit
      repeat' (first | (show HW _ _ _ _ _ _; first | apply hw_seq | apply hw_region | apply hw_block | apply hw_exit | refine g_t ?_ | refine g_f ?_ | (refine g_b (fun h => ?_) (fun h => ?_) <;> ((try simp only [Bool.not_eq_eq_eq_not, Bool.not_true, Bool.not_false, decide_eq_true_eq, decide_eq_false_iff_not, Decidable.not_not, ne_eq, Bool.and_eq_true, beq_iff_eq, and_true, true_and, eq_self, decide_true, Bool.and_true, Bool.true_and, reduceCtorEq, not_true_eq_false, not_false_eq_true] at h); (try (exfalso; first | omega | with_reducible exact h (by assumption) | with_reducible exact absurd h (by assumption))))) | apply hw_skip | apply hw_ret | refine g_d S ?_) | (show HO _ _ _ _ _ _ _; first | apply ho_nil | refine g_q (qe S) ?_ | refine g_q (ql S) ?_ | refine g_q (qs S) ?_ | refine wS S (fun b => ?_) | refine wSa S (fun b => ?_) | refine wSn S (fun b => ?_)) | (show HD _ _ _ _ _ _ _ _; first | apply hd_nil | refine d_q 100 (by exact rfl) (fun _ => qe S) ?_ | refine dl S 100 ?_ | refine ds S 100 ?_ | refine da 101 ?_) | refine dx ?_ | apply dx0 | refine dxd ?_ | refine dxk ?_ | apply seqQ_normal | apply seqQ_ret | apply seqQ_exit | apply blkQ_here | refine g_bx ?_ | apply blkQ_ret | apply blkQ_normal | apply loopQ_ret | apply loopQ_exit | apply unQ_ret | apply unQ_exit | apply unQ_succ)
      refine fo 1 ?_
      refine wp1 S (m.told.getD i zeroS) hv sc_len sc_one ?_
      intro v' c' hv'
      repeat' (first | (show HW _ _ _ _ _ _; first | apply hw_seq | apply hw_region | apply hw_block | apply hw_exit | refine g_t ?_ | refine g_f ?_ | (refine g_b (fun h => ?_) (fun h => ?_) <;> ((try simp only [Bool.not_eq_eq_eq_not, Bool.not_true, Bool.not_false, decide_eq_true_eq, decide_eq_false_iff_not, Decidable.not_not, ne_eq, Bool.and_eq_true, beq_iff_eq, and_true, true_and, eq_self, decide_true, Bool.and_true, Bool.true_and, reduceCtorEq, not_true_eq_false, not_false_eq_true] at h); (try (exfalso; first | omega | with_reducible exact h (by assumption) | with_reducible exact absurd h (by assumption))))) | apply hw_skip | apply hw_ret | refine g_d S ?_) | (show HO _ _ _ _ _ _ _; first | apply ho_nil | refine g_q (qe S) ?_ | refine g_q (ql S) ?_ | refine g_q (qs S) ?_ | refine wS S (fun b => ?_) | refine wSa S (fun b => ?_) | refine wSn S (fun b => ?_)) | (show HD _ _ _ _ _ _ _ _; first | apply hd_nil | refine d_q 100 (by exact rfl) (fun _ => qe S) ?_ | refine dl S 100 ?_ | refine ds S 100 ?_ | refine da 101 ?_) | refine dx ?_ | apply dx0 | refine dxd ?_ | refine dxk ?_ | apply seqQ_normal | apply seqQ_ret | apply seqQ_exit | apply blkQ_here | refine g_bx ?_ | apply blkQ_ret | apply blkQ_normal | apply loopQ_ret | apply loopQ_exit | apply unQ_ret | apply unQ_exit | apply unQ_succ)
      refine loopQ_normal (i + 1, v', c') (by repeat (first | exact trivial | refine ⟨rfl, ?_⟩)) (.cons_cons _ (.cons _ (.refl _))) ⟨by simp only; omega, ?_⟩ (by simp only; omega)
      simp only
      rw [range_flatS, e]
      exact hv'
    · have e : stOf m i = [] := if_neg hbit
      have hb3 : ¬ _ := fun h => hbit (hb2.1 h)
      repeat' (first | (show HW _ _ _ _ _ _; first | apply hw_seq | apply hw_region | apply hw_block | apply hw_exit | refine g_t ?_ | refine g_f ?_ | (refine g_b (fun h => ?_) (fun h => ?_) <;> ((try simp only [Bool.not_eq_eq_eq_not, Bool.not_true, Bool.not_false, decide_eq_true_eq, decide_eq_false_iff_not, Decidable.not_not, ne_eq, Bool.and_eq_true, beq_iff_eq, and_true, true_and, eq_self, decide_true, Bool.and_true, Bool.true_and, reduceCtorEq, not_true_eq_false, not_false_eq_true] at h); (try (exfalso; first | omega | with_reducible exact h (by assumption) | with_reducible exact absurd h (by assumption))))) | apply hw_skip | apply hw_ret | refine g_d S ?_) | (show HO _ _ _ _ _ _ _; first | apply ho_nil | refine g_q (qe S) ?_ | refine g_q (ql S) ?_ | refine g_q (qs S) ?_ | refine wS S (fun b => ?_) | refine wSa S (fun b => ?_) | refine wSn S (fun b => ?_)) | (show HD _ _ _ _ _ _ _ _; first | apply hd_nil | refine d_q 100 (by exact rfl) (fun _ => qe S) ?_ | refine dl S 100 ?_ | refine ds S 100 ?_ | refine da 101 ?_) | refine dx ?_ | apply dx0 | refine dxd ?_ | refine dxk ?_ | apply seqQ_normal | apply seqQ_ret | apply seqQ_exit | apply blkQ_here | refine g_bx ?_ | apply blkQ_ret | apply blkQ_normal | apply loopQ_ret | apply loopQ_exit | apply unQ_ret | apply unQ_exit | apply unQ_succ)
      refine loopQ_normal (i + 1, v, c) (by repeat (first | exact trivial | refine ⟨rfl, ?_⟩)) (List.Sublist.refl _) ⟨by simp only; omega, ?_⟩ (by simp only; omega)
      simp only
      rw [range_flatS, e, List.append_nil]
      exact hv
  · repeat' (first | (show HW _ _ _ _ _ _; first | apply hw_seq | apply hw_region | apply hw_block | apply hw_exit | refine g_t ?_ | refine g_f ?_ | (refine g_b (fun h => ?_) (fun h => ?_) <;> ((try simp only [Bool.not_eq_eq_eq_not, Bool.not_true, Bool.not_false, decide_eq_true_eq, decide_eq_false_iff_not, Decidable.not_not, ne_eq, Bool.and_eq_true, beq_iff_eq, and_true, true_and, eq_self, decide_true, Bool.and_true, Bool.true_and, reduceCtorEq, not_true_eq_false, not_false_eq_true] at h); (try (exfalso; first | omega | with_reducible exact h (by assumption) | with_reducible exact absurd h (by assumption))))) | apply hw_skip | apply hw_ret | refine g_d S ?_) | (show HO _ _ _ _ _ _ _; first | apply ho_nil | refine g_q (qe S) ?_ | refine g_q (ql S) ?_ | refine g_q (qs S) ?_ | refine wS S (fun b => ?_) | refine wSa S (fun b => ?_) | refine wSn S (fun b => ?_)) | (show HD _ _ _ _ _ _ _ _; first | apply hd_nil | refine d_q 100 (by exact rfl) (fun _ => qe S) ?_ | refine dl S 100 ?_ | refine ds S 100 ?_ | refine da 101 ?_) | refine dx ?_ | apply dx0 | refine dxd ?_ | refine dxk ?_ | apply seqQ_normal | apply seqQ_ret | apply seqQ_exit | apply blkQ_here | refine g_bx ?_ | apply blkQ_ret | apply blkQ_normal | apply loopQ_ret | apply loopQ_exit | apply unQ_ret | apply unQ_exit | apply unQ_succ)
    have hi2 : i = m.w.length := by omega
    subst hi2
    exact sp1 (LS.refl _) ⟨c, hv, rfl⟩
theorem fits_calls (lp : Nat) (wv : Value) (wc : List Blk) (m : Ld) (f : Fr) (L : Heap) (hm : LdOk wv wc m) (hh : m.heard < 128) : HC Tryd.prog 113 [pt lp 0, .agg ⟨fc f⟩] (ldC lp wv wc m :: L)
    (fun v L' => v = .bool (decide (fitsM m f)) ∧ L' = ldC lp wv wc m :: L) := by
  obtain ⟨a, cap, rfl, hcap, hR⟩ := hm.vec.rd ic_len
  have hlen := hm.len
  generalize hwv : Value.slice a m.w.length cap = wv at *
  have g0 : (ldL wv m)[0 + 0]? = some (iv m.id) := ld_pre rfl
  have g1 : (ldL wv m)[0 + 1]? = some (iv m.deal) := ld_pre rfl
  have g2 : (ldL wv m)[0 + 2]? = some (iv m.att) := ld_pre rfl
  have g3 : (ldL wv m)[0 + 3]? = some (.slice a m.w.length cap) := by rw [hwv]; exact ld_pre rfl
  have g5 : (ldL wv m)[0 + 5]? = some (iv m.wait) := ld_pre rfl
  have g6 : (ldL wv m)[0 + 6]? = some (iv m.heard) := ld_pre rfl
  have hb1 := bit_ok m.heard f.fr.toNat (by omega)
  have hb2 := bit_iff0 m.heard f.fr.toNat
  refine hc_enter (fun _ _ => Tryd.call113 _ _) Tryd.func113 rfl Tryd.ntmps113 (Nat.le_of_ble_eq_true rfl) ?_; simp only [args0, Nat.reduceAdd]
  repeat' (first | (show HW _ _ _ _ _ _; first | apply hw_seq | apply hw_region | apply hw_ret | refine g_k S ?_) | (show HO _ _ _ _ _ _ _; first | apply ho_nil | refine g_q (qe S) ?_ | refine g_q (ql S) ?_ | refine g_n ?_ | refine g_on ?_ | (refine g_s (fun h => ?_) (fun h => ?_) <;> ((try simp only [Bool.not_eq_eq_eq_not, Bool.not_true, Bool.not_false, decide_eq_true_eq, decide_eq_false_iff_not, Decidable.not_not, ne_eq, Bool.and_eq_true, beq_iff_eq, and_true, true_and, eq_self, decide_true, Bool.and_true, Bool.true_and, reduceCtorEq, not_true_eq_false, not_false_eq_true] at h); (try (exfalso; first | omega | with_reducible exact h (by assumption) | with_reducible exact absurd h (by assumption))))) | refine wb (fun b => ?_)) | (show HQ _ _ _ _ _ _ _; first | apply hq_nil | refine k_q (qe S) ?_ | refine k_q (ql S) ?_ | refine k_n ?_ | (refine k_s (fun h => ?_) (fun h => ?_) <;> ((try simp only [Bool.not_eq_eq_eq_not, Bool.not_true, Bool.not_false, decide_eq_true_eq, decide_eq_false_iff_not, Decidable.not_not, ne_eq, Bool.and_eq_true, beq_iff_eq, and_true, true_and, eq_self, decide_true, Bool.and_true, Bool.true_and, reduceCtorEq, not_true_eq_false, not_false_eq_true] at h); (try (exfalso; first | omega | with_reducible exact h (by assumption) | with_reducible exact absurd h (by assumption)))))) | apply seqQ_normal | apply seqQ_ret)
  all_goals refine sp1 (LS.skip _ (LS.refl _)) ⟨congrArg Value.bool ?_, rfl⟩
  all_goals first
    | (refine (decide_eq_false (fun h => ?_)).symm; obtain ⟨h1, h2, h3, h4, h5, h6, h7⟩ := h; omega)
    | (refine decide_eq_decide.2 ⟨fun h => ⟨?_, ?_, ?_, ?_, ?_, ?_, hb2.1 h⟩, fun h => hb2.2 h.2.2.2.2.2.2⟩ <;> assumption)
theorem hear_wait {m : Ld} {f : Fr} (h : m.wait = 0 ∨ ¬ fitsM m f) : hearM m f = (m, []) := if_pos h
theorem LdOk.m1 {wv : Value} {wc : List Blk} {m : Ld} (h : LdOk wv wc m) (f : Fr) : LdOk wv wc (m1M m f) := by
  unfold m1M; split
  · exact h
  · exact h.of rfl rfl
theorem LdOk.m2 {wv : Value} {wc : List Blk} {m : Ld} (h : LdOk wv wc m) (f : Fr) : LdOk wv wc (m2M m f) := by
  refine h.of ?_ ?_
  · unfold m2M m1M; split <;> rfl
  · simp [m2M]
theorem fitsM_heard {m : Ld} {f : Fr} (h : fitsM m f) : 0 ≤ f.fr ∧ f.fr < m.w.length ∧ f.kd = m.wait := ⟨h.2.2.2.2.1, h.2.2.2.2.2.1, h.1⟩
theorem or_int (a k : Nat) : (((a : Int).toNat ||| ((1 : Int) * 2 ^ (k : Int).toNat).toNat : Nat) : Int) = ((a ||| 2 ^ k : Nat) : Int) := by
  have : ((1 : Int) * 2 ^ (k : Int).toNat) = ((2 ^ k : Nat) : Int) := by simp
  rw [this]; rfl
theorem or_ok {a k : Nat} (ha : a < 128) (hk : k < 7) : 0 ≤ (a : Int) ∧ (a : Int) ≤ hiE .i64 ∧ 0 ≤ (1 : Int) * 2 ^ (k : Int).toNat ∧ (1 : Int) * 2 ^ (k : Int).toNat ≤ hiE .i64 := by
  have e : ((1 : Int) * 2 ^ (k : Int).toNat) = ((2 ^ k : Nat) : Int) := by simp
  have : 2 ^ k < 2 ^ 7 := Nat.pow_lt_pow_right (by decide) hk
  rw [e]
  simp only [hiE]
  generalize 2 ^ k = q at *
  omega
theorem full_int (n : Nat) : ((1 : Int) * 2 ^ (n : Int).toNat - 1) = ((2 ^ n - 1 : Nat) : Int) := by
  have e : ((1 : Int) * 2 ^ (n : Int).toNat) = ((2 ^ n : Nat) : Int) := by simp
  have := Nat.two_pow_pos n
  rw [e]; generalize 2 ^ n = q at *; omega
theorem shl_le {n : Nat} (h : n ≤ 7) : 1 ≤ (1 : Int) * 2 ^ (n : Int).toNat ∧ (1 : Int) * 2 ^ (n : Int).toNat ≤ 128 := by
  have e : ((1 : Int) * 2 ^ (n : Int).toNat) = ((2 ^ n : Nat) : Int) := by simp
  have := Nat.two_pow_pos n
  have : 2 ^ n ≤ 2 ^ 7 := Nat.pow_le_pow_right (by decide) h
  rw [e]; generalize 2 ^ n = q at *; omega
end Go.HL
