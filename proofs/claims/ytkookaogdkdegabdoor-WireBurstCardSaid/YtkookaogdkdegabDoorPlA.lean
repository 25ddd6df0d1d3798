/- Chapter 2: a plate: what its functions do. Conditions: none. -/
import Derived.Test.YtkookaogdkdegabDoorSeat
namespace Go.HL
open Go Go.Proofs
set_option linter.unusedVariables false
set_option linter.unusedSimpArgs false

structure Pl where
  b : List UInt8
  off : Bool
  cut : Int
def plC (bp ba : Nat) (m : Pl) : List Blk := [(bp, .cells ⟨[sl ba 0 m.b.length m.b.length, .bool m.off, iv m.cut]⟩ 155), (ba, .cells ⟨m.b.map u8⟩ 5)]
def zeros (n : Nat) : List UInt8 := List.replicate n 0
def newP (n : Int) : Option Pl := if 0 ≤ n ∧ n ≤ 512 then some ⟨zeros n.toNat, false, -1⟩ else none
theorem u8_zeros (n : Nat) : (zeros n).map u8 = List.replicate n (.int .u8 0) := by simp [zeros, u8]
theorem rd_plate (bp ba : Nat) (m : Pl) (L : Heap) : Rd uc 1 (plC bp ba m :: L) (some ⟨ba, 0, none⟩) m.b := by
  refine .inr ⟨ba, 0, m.b.map u8, 5, (0, 0), rfl, has_in has_here, fun k x hx => ?_⟩
  have := gets_row (enc := uc) (sz := 1) (fun _ => rfl) m.b [] [] k x hx
  simpa [u8_flat] using this
def lookM (m : Pl) (at_ n : Int) : Option Nat := if at_ < 0 ∨ n < 0 ∨ at_ > m.b.length ∨ n > m.b.length - at_ then some 2 else if m.off then some 6 else none
attribute [local irreducible] HW HO HQ HD HC QOp Has Upd Puts Gets seqQ blkQ loopQ fnQ actQ nextP unQ MapF
theorem new_calls (T : Nat) (E : Nat → Addr) (n : Int) (L : Heap) (hG : Er T E [2] L) : HC Tryd.prog 48 [iv n] L (fun v L' => match newP n with
    | some m => ∃ bp ba, v = .tuple ⟨[pt bp 0, .nilIface]⟩ ∧ L' = plC bp ba m :: L
    | none => v = .tuple ⟨[.pointer none, eV T E (some 2)]⟩ ∧ L' = L) := by
  refine hc_enter (fun _ _ => Tryd.call48 _ _) Tryd.func48 rfl Tryd.ntmps48 (Nat.le_of_ble_eq_true rfl) ?_; simp only [args0, Nat.reduceAdd]
  repeat' (first | (show HW _ _ _ _ _ _; first | apply hw_seq | apply hw_region | refine g_t ?_ | refine g_f ?_ | (refine g_b (fun h => ?_) (fun h => ?_) <;> ((try simp only [Bool.not_eq_eq_eq_not, Bool.not_true, Bool.not_false, decide_eq_true_eq, decide_eq_false_iff_not, Decidable.not_not, ne_eq, Bool.and_eq_true, beq_iff_eq, and_true, true_and, eq_self, decide_true, Bool.and_true, Bool.true_and, reduceCtorEq, not_true_eq_false, not_false_eq_true] at h); (try (exfalso; first | omega | with_reducible exact h (by assumption) | with_reducible exact absurd h (by assumption))))) | apply hw_skip | apply hw_ret | refine g_k S ?_) | (show HO _ _ _ _ _ _ _; first | apply ho_nil | refine g_q (qe S) ?_ | refine g_q (qg S) ?_ | refine g_q (qb S) ?_ | refine g_q (qbA S) ?_ | refine g_n ?_ | refine g_on ?_ | (refine g_s (fun h => ?_) (fun h => ?_) <;> ((try simp only [Bool.not_eq_eq_eq_not, Bool.not_true, Bool.not_false, decide_eq_true_eq, decide_eq_false_iff_not, Decidable.not_not, ne_eq, Bool.and_eq_true, beq_iff_eq, and_true, true_and, eq_self, decide_true, Bool.and_true, Bool.true_and, reduceCtorEq, not_true_eq_false, not_false_eq_true] at h); (try (exfalso; first | omega | with_reducible exact h (by assumption) | with_reducible exact absurd h (by assumption))))) | refine wb (fun b => ?_) | refine wm S (fun b => ?_) | refine wM S (fun b => ?_)) | (show HQ _ _ _ _ _ _ _; first | apply hq_nil | refine k_q (qe S) ?_ | refine k_q (qg S) ?_ | refine k_q (qb S) ?_ | refine k_q (qbA S) ?_ | refine k_n ?_ | (refine k_s (fun h => ?_) (fun h => ?_) <;> ((try simp only [Bool.not_eq_eq_eq_not, Bool.not_true, Bool.not_false, decide_eq_true_eq, decide_eq_false_iff_not, Decidable.not_not, ne_eq, Bool.and_eq_true, beq_iff_eq, and_true, true_and, eq_self, decide_true, Bool.and_true, Bool.true_and, reduceCtorEq, not_true_eq_false, not_false_eq_true] at h); (try (exfalso; first | omega | with_reducible exact h (by assumption) | with_reducible exact absurd h (by assumption)))))) | apply seqQ_normal | apply seqQ_ret)
  · refine fn_ret2 rfl rfl rfl (List.Sublist.refl _) ?_
    rw [show newP n = none from if_neg (by omega)]
    exact ⟨rfl, rfl⟩
  · refine fn_ret2 rfl rfl rfl (List.Sublist.refl _) ?_
    rw [show newP n = none from if_neg (by omega)]
    exact ⟨rfl, rfl⟩
  · rename_i b1
    refine er2 (L' := plC b b1 ⟨zeros n.toNat, false, -1⟩ :: L) ?_ ?_
    · simp [plC, u8_zeros]
      simp [zeros]
    · rw [show newP n = some ⟨zeros n.toNat, false, -1⟩ from if_pos (by omega)]
      exact ⟨_, _, rfl, rfl⟩
theorem look_calls (T : Nat) (E : Nat → Addr) (bp ba : Nat) (m : Pl) (at_ n : Int) (L : Heap) (hG : Er T E [2, 6] L) (hl : m.b.length ≤ 1000000) : HC Tryd.prog 134 [pt bp 0, iv at_, iv n] (plC bp ba m :: L) (fun v L' => v = eV T E (lookM m at_ n) ∧ L' = plC bp ba m :: L) := by
  have hG' := hG.cons (plC bp ba m)
  refine hc_enter (fun _ _ => Tryd.call134 _ _) Tryd.func134 rfl Tryd.ntmps134 (Nat.le_of_ble_eq_true rfl) ?_; simp only [args0, Nat.reduceAdd]
  unfold lookM
  repeat' (first | (show HW _ _ _ _ _ _; first | apply hw_seq | apply hw_region | refine g_t ?_ | refine g_f ?_ | (refine g_b (fun h => ?_) (fun h => ?_) <;> ((try simp only [Bool.not_eq_eq_eq_not, Bool.not_true, Bool.not_false, decide_eq_true_eq, decide_eq_false_iff_not, Decidable.not_not, ne_eq, Bool.and_eq_true, beq_iff_eq, and_true, true_and, eq_self, decide_true, Bool.and_true, Bool.true_and, reduceCtorEq, not_true_eq_false, not_false_eq_true] at h); (try (exfalso; first | omega | with_reducible exact h (by assumption) | with_reducible exact absurd h (by assumption))))) | apply hw_skip | apply hw_ret) | (show HO _ _ _ _ _ _ _; first | apply ho_nil | refine g_q (qe S) ?_ | refine g_q (qg S) ?_ | refine g_q (ql S) ?_ | refine g_n ?_ | refine g_on ?_ | (refine g_s (fun h => ?_) (fun h => ?_) <;> ((try simp only [Bool.not_eq_eq_eq_not, Bool.not_true, Bool.not_false, decide_eq_true_eq, decide_eq_false_iff_not, Decidable.not_not, ne_eq, Bool.and_eq_true, beq_iff_eq, and_true, true_and, eq_self, decide_true, Bool.and_true, Bool.true_and, reduceCtorEq, not_true_eq_false, not_false_eq_true] at h); (try (exfalso; first | omega | with_reducible exact h (by assumption) | with_reducible exact absurd h (by assumption)))))) | apply seqQ_normal | apply seqQ_ret)
  all_goals (refine fn_ret1 rfl rfl ?_ ⟨?_, rfl⟩; (next => (repeat (first | exact List.Sublist.refl _ | apply List.Sublist.cons))))
  all_goals first | (rw [if_pos (by omega)]; rfl) | (rw [if_neg (by omega), if_pos (by assumption)]; rfl) | (rw [if_neg (by omega), if_neg (by simp_all)]; rfl)
theorem bytes_calls (bp ba : Nat) (m : Pl) (L : Heap) : HC Tryd.prog 56 [pt bp 0] (plC bp ba m :: L) (fun v L' => v = bs m.b ∧ L' = plC bp ba m :: L) := by
  have hR := rd_plate bp ba m L
  refine hc_enter (fun _ _ => Tryd.call56 _ _) Tryd.func56 rfl Tryd.ntmps56 (Nat.le_of_ble_eq_true rfl) ?_; simp only [args0, Nat.reduceAdd]
  repeat' (first | (show HW _ _ _ _ _ _; first | apply hw_seq | apply hw_region | apply hw_ret) | (show HO _ _ _ _ _ _ _; first | apply ho_nil | refine g_q (qe S) ?_ | refine g_q (ql S) ?_ | refine g_q (qt S) ?_ | refine g_q (qc8 S) ?_ | refine g_q (qc32 S) ?_) | apply seqQ_normal | apply seqQ_ret)
  (refine fn_ret1 rfl rfl ?_ ⟨?_, rfl⟩; (next => (repeat (first | exact List.Sublist.refl _ | apply List.Sublist.cons))))
  rfl
theorem power_calls (bp ba : Nat) (m : Pl) (L : Heap) : HC Tryd.prog 102 [pt bp 0] (plC bp ba m :: L) (fun v L' => v = .bool (!m.off) ∧ L' = plC bp ba m :: L) := by
  refine hc_enter (fun _ _ => Tryd.call102 _ _) Tryd.func102 rfl Tryd.ntmps102 (Nat.le_of_ble_eq_true rfl) ?_; simp only [args0, Nat.reduceAdd]
  repeat' (first | (show HW _ _ _ _ _ _; first | apply hw_seq | apply hw_region | apply hw_ret) | (show HO _ _ _ _ _ _ _; first | apply ho_nil | refine g_q (qe S) ?_ | refine g_q (ql S) ?_ | refine g_q (qn S) ?_) | apply seqQ_normal | apply seqQ_ret)
  all_goals (refine fn_ret1 rfl rfl ?_ ⟨?_, rfl⟩; (next => (repeat (first | exact List.Sublist.refl _ | apply List.Sublist.cons))))
  all_goals rfl
/-- the bytes from at on are s -/
def splice (b : List UInt8) (at_ : Nat) (s : List UInt8) : List UInt8 := b.take at_ ++ s ++ b.drop (at_ + s.length)
theorem splice_len {b : List UInt8} {at_ : Nat} {s : List UInt8} (h : at_ + s.length ≤ b.length) : (splice b at_ s).length = b.length := by
  simp [splice]; omega
theorem splice_nil (b : List UInt8) (at_ : Nat) : splice b at_ [] = b := by simp [splice]
theorem splice_snoc {b : List UInt8} {at_ : Nat} {s : List UInt8} {x : UInt8} (h : at_ + s.length < b.length) : splice b at_ (s ++ [x]) = (splice b at_ s).set (at_ + s.length) x := by
  have h1 : (b.take at_ ++ s).length = at_ + s.length := by simp; omega
  have h2 : b.drop (at_ + s.length) = b[at_ + s.length] :: b.drop (at_ + s.length + 1) := List.drop_eq_getElem_cons h
  simp only [splice, List.length_append, List.length_cons, List.length_nil, Nat.zero_add]
  rw [h2, List.set_append_right _ _ (by omega), h1, Nat.sub_self, List.set_cons_zero]
  simp [Nat.add_assoc]
def readM (m : Pl) (at_ n : Int) : List UInt8 × Option Nat := match lookM m at_ n with
  | some e => ([], some e)
  | none => ((m.b.drop at_.toNat).take n.toNat, none)
def kM (m : Pl) (n : Nat) : Nat := if m.cut = -1 then n else min n m.cut.toNat
def wrOk (m : Pl) (at_ : Nat) (s : List UInt8) : Pl × Option Nat :=
  (⟨splice m.b at_ (s.take (kM m s.length)), m.off || decide (kM m s.length < s.length), if m.cut = -1 then -1 else m.cut - kM m s.length⟩, if kM m s.length < s.length then some 6 else none)
def writeM (m : Pl) (at_ : Int) (s : List UInt8) : Pl × Option Nat := match lookM m at_ s.length with
  | some e => (m, some e)
  | none => wrOk m at_.toNat s
theorem read_calls (T : Nat) (E : Nat → Addr) (bp ba : Nat) (m : Pl) (at_ n : Int) (L : Heap) (hG : Er T E [2, 6] L) (hl : m.b.length ≤ 1000000) : HC Tryd.prog 103 [pt bp 0, iv at_, iv n] (plC bp ba m :: L) (fun v L' => v = .tuple ⟨[bs (readM m at_ n).1, eV T E (readM m at_ n).2]⟩ ∧ L' = plC bp ba m :: L) := by
  have hR := rd_plate bp ba m L
  have hk := look_calls T E bp ba m at_ n L hG hl
  refine hc_enter (fun _ _ => Tryd.call103 _ _) Tryd.func103 rfl Tryd.ntmps103 (Nat.le_of_ble_eq_true rfl) ?_; simp only [args0, Nat.reduceAdd]
  unfold readM
  cases hm : lookM m at_ n with
  | some e =>
    rw [hm] at hk
    repeat' (first | (show HW _ _ _ _ _ _; first | apply hw_seq | apply hw_region | refine g_t ?_ | refine g_f ?_ | (refine g_b (fun h => ?_) (fun h => ?_) <;> ((try simp only [Bool.not_eq_eq_eq_not, Bool.not_true, Bool.not_false, decide_eq_true_eq, decide_eq_false_iff_not, Decidable.not_not, ne_eq, Bool.and_eq_true, beq_iff_eq, and_true, true_and, eq_self, decide_true, Bool.and_true, Bool.true_and, reduceCtorEq, not_true_eq_false, not_false_eq_true] at h); (try (exfalso; first | omega | with_reducible exact h (by assumption) | with_reducible exact absurd h (by assumption))))) | apply hw_skip | apply hw_ret) | (show HO _ _ _ _ _ _ _; first | apply ho_nil | refine g_q (qe S) ?_ | refine g_q (ql S) ?_ | refine g_q (qt S) ?_ | refine g_q (qc8 S) ?_ | refine g_q (qc32 S) ?_ | refine g_q (qSl S) ?_ | refine g_q (qSh S) ?_ | refine g_q (qSb S) ?_ | refine g_q (qC (hk)) ?_) | apply seqQ_normal | apply seqQ_ret)
    (refine fn_ret2 rfl rfl rfl ?_ ⟨?_, rfl⟩; (next => (repeat (first | exact List.Sublist.refl _ | apply List.Sublist.cons))))
    rfl
  | none =>
    rw [hm] at hk
    have h0 : 0 ≤ at_ ∧ 0 ≤ n ∧ at_ + n ≤ m.b.length := by
      unfold lookM at hm
      split at hm
      · cases hm
      · omega
    repeat' (first | (show HW _ _ _ _ _ _; first | apply hw_seq | apply hw_region | refine g_t ?_ | refine g_f ?_ | (refine g_b (fun h => ?_) (fun h => ?_) <;> ((try simp only [Bool.not_eq_eq_eq_not, Bool.not_true, Bool.not_false, decide_eq_true_eq, decide_eq_false_iff_not, Decidable.not_not, ne_eq, Bool.and_eq_true, beq_iff_eq, and_true, true_and, eq_self, decide_true, Bool.and_true, Bool.true_and, reduceCtorEq, not_true_eq_false, not_false_eq_true] at h); (try (exfalso; first | omega | with_reducible exact h (by assumption) | with_reducible exact absurd h (by assumption))))) | apply hw_skip | apply hw_ret) | (show HO _ _ _ _ _ _ _; first | apply ho_nil | refine g_q (qe S) ?_ | refine g_q (ql S) ?_ | refine g_q (qt S) ?_ | refine g_q (qc8 S) ?_ | refine g_q (qc32 S) ?_ | refine g_q (qSl S) ?_ | refine g_q (qSh S) ?_ | refine g_q (qSb S) ?_ | refine g_q (qC (hk)) ?_) | apply seqQ_normal | apply seqQ_ret)
    refine g_q (qtx S (l := (m.b.drop at_.toNat).take n.toNat) (Rd.take (hR.drop (Nat.le_refl _))) ?_) ?_
    · simp; omega
    repeat' (first | (show HW _ _ _ _ _ _; first | apply hw_seq | apply hw_region | refine g_t ?_ | refine g_f ?_ | (refine g_b (fun h => ?_) (fun h => ?_) <;> ((try simp only [Bool.not_eq_eq_eq_not, Bool.not_true, Bool.not_false, decide_eq_true_eq, decide_eq_false_iff_not, Decidable.not_not, ne_eq, Bool.and_eq_true, beq_iff_eq, and_true, true_and, eq_self, decide_true, Bool.and_true, Bool.true_and, reduceCtorEq, not_true_eq_false, not_false_eq_true] at h); (try (exfalso; first | omega | with_reducible exact h (by assumption) | with_reducible exact absurd h (by assumption))))) | apply hw_skip | apply hw_ret) | (show HO _ _ _ _ _ _ _; first | apply ho_nil | refine g_q (qe S) ?_ | refine g_q (ql S) ?_ | refine g_q (qt S) ?_ | refine g_q (qc8 S) ?_ | refine g_q (qc32 S) ?_ | refine g_q (qSl S) ?_ | refine g_q (qSh S) ?_ | refine g_q (qSb S) ?_) | apply seqQ_normal | apply seqQ_ret)
    (refine fn_ret2 rfl rfl rfl ?_ ⟨?_, rfl⟩; (next => (repeat (first | exact List.Sublist.refl _ | apply List.Sublist.cons))))
    rfl
theorem cut_calls (T : Nat) (E : Nat → Addr) (bp ba : Nat) (m : Pl) (n : Int) (L : Heap) (hG : Er T E [2, 6] L) : HC Tryd.prog 50 [pt bp 0, iv n] (plC bp ba m :: L)
    (fun v L' => if n < 0 then v = eV T E (some 2) ∧ L' = plC bp ba m :: L else if m.off then v = eV T E (some 6) ∧ L' = plC bp ba m :: L else v = .nilIface ∧ L' = plC bp ba { m with cut := n } :: L) := by
  have hG' := hG.cons (plC bp ba m)
  refine hc_enter (fun _ _ => Tryd.call50 _ _) Tryd.func50 rfl Tryd.ntmps50 (Nat.le_of_ble_eq_true rfl) ?_; simp only [args0, Nat.reduceAdd]
  repeat' (first | (show HW _ _ _ _ _ _; first | apply hw_seq | apply hw_region | refine g_t ?_ | refine g_f ?_ | (refine g_b (fun h => ?_) (fun h => ?_) <;> ((try simp only [Bool.not_eq_eq_eq_not, Bool.not_true, Bool.not_false, decide_eq_true_eq, decide_eq_false_iff_not, Decidable.not_not, ne_eq, Bool.and_eq_true, beq_iff_eq, and_true, true_and, eq_self, decide_true, Bool.and_true, Bool.true_and, reduceCtorEq, not_true_eq_false, not_false_eq_true] at h); (try (exfalso; first | omega | with_reducible exact h (by assumption) | with_reducible exact absurd h (by assumption))))) | apply hw_skip | apply hw_ret) | (show HO _ _ _ _ _ _ _; first | apply ho_nil | refine g_q (qe S) ?_ | refine g_q (qg S) ?_ | refine g_q (ql S) ?_ | refine ws S ?_) | apply seqQ_normal | apply seqQ_ret)
  · refine er1 (L' := plC bp ba m :: L) rfl ?_
    simp [h, eV]
  · rename_i h1
    refine er1 (L' := plC bp ba m :: L) rfl ?_
    simp [h, h1, eV]
  · rename_i h1
    refine er1 (L' := plC bp ba { m with cut := n } :: L) rfl ?_
    simp [h, h1]
theorem on_calls (bp ba : Nat) (m : Pl) (L : Heap) : HC Tryd.prog 52 [pt bp 0] (plC bp ba m :: L) (fun v L' => v = .tuple #[] ∧ L' = plC bp ba { m with off := false, cut := -1 } :: L) := by
  refine hc_enter (fun _ _ => Tryd.call52 _ _) Tryd.func52 rfl Tryd.ntmps52 (Nat.le_of_ble_eq_true rfl) ?_; simp only [args0, Nat.reduceAdd]
  repeat' (first | (show HW _ _ _ _ _ _; first | apply hw_seq | apply hw_region | apply hw_ret) | (show HO _ _ _ _ _ _ _; first | apply ho_nil | refine g_q (qe S) ?_ | refine ws S ?_) | apply seqQ_normal | apply seqQ_ret)
  exact ee0 rfl ⟨rfl, rfl⟩
theorem from_calls (T : Nat) (E : Nat → Addr) (s : List UInt8) (L : Heap) (hG : Er T E [2] L) (hl : s.length ≤ 1000000) : HC Tryd.prog 54 [bs s] L (fun v L' => if s.length ≤ 512
    then ∃ bp ba, v = .tuple ⟨[pt bp 0, .nilIface]⟩ ∧ L' = plC bp ba ⟨s, false, -1⟩ :: L else v = .tuple ⟨[.pointer none, eV T E (some 2)]⟩ ∧ L' = L) := by
  have hk := new_calls T E s.length L hG
  by_cases h : s.length ≤ 512
  · rw [show newP s.length = some ⟨zeros s.length, false, -1⟩ from by unfold newP; rw [if_pos (by omega)]; simp] at hk
    simp only [if_pos h]
    refine hc_enter (fun _ _ => Tryd.call54 _ _) Tryd.func54 rfl Tryd.ntmps54 (Nat.le_of_ble_eq_true rfl) ?_; simp only [args0, Nat.reduceAdd]
    repeat' (first | (show HW _ _ _ _ _ _; first | apply hw_seq | apply hw_region | refine g_t ?_ | refine g_f ?_ | (refine g_b (fun h => ?_) (fun h => ?_) <;> ((try simp only [Bool.not_eq_eq_eq_not, Bool.not_true, Bool.not_false, decide_eq_true_eq, decide_eq_false_iff_not, Decidable.not_not, ne_eq, Bool.and_eq_true, beq_iff_eq, and_true, true_and, eq_self, decide_true, Bool.and_true, Bool.true_and, reduceCtorEq, not_true_eq_false, not_false_eq_true] at h); (try (exfalso; first | omega | with_reducible exact h (by assumption) | with_reducible exact absurd h (by assumption))))) | apply hw_skip | apply hw_ret) | (show HO _ _ _ _ _ _ _; first | apply ho_nil | refine g_q (qe S) ?_ | refine g_q (ql S) ?_) | apply seqQ_normal | apply seqQ_ret)
    refine gc hk ?_
    rintro v L' ⟨bp, ba, rfl, rfl⟩
    repeat' (first | (show HW _ _ _ _ _ _; first | apply hw_seq | apply hw_region | refine g_t ?_ | refine g_f ?_ | (refine g_b (fun h => ?_) (fun h => ?_) <;> ((try simp only [Bool.not_eq_eq_eq_not, Bool.not_true, Bool.not_false, decide_eq_true_eq, decide_eq_false_iff_not, Decidable.not_not, ne_eq, Bool.and_eq_true, beq_iff_eq, and_true, true_and, eq_self, decide_true, Bool.and_true, Bool.true_and, reduceCtorEq, not_true_eq_false, not_false_eq_true] at h); (try (exfalso; first | omega | with_reducible exact h (by assumption) | with_reducible exact absurd h (by assumption))))) | apply hw_skip | apply hw_ret) | (show HO _ _ _ _ _ _ _; first | apply ho_nil | refine g_q (qe S) ?_ | refine g_q (ql S) ?_) | apply seqQ_normal | apply seqQ_ret)
    refine wcs S (l' := s.map u8) (i := 0) ?_ ?_
    · repeat' (first | (show HW _ _ _ _ _ _; first | apply hw_seq | apply hw_region | refine g_t ?_ | refine g_f ?_ | (refine g_b (fun h => ?_) (fun h => ?_) <;> ((try simp only [Bool.not_eq_eq_eq_not, Bool.not_true, Bool.not_false, decide_eq_true_eq, decide_eq_false_iff_not, Decidable.not_not, ne_eq, Bool.and_eq_true, beq_iff_eq, and_true, true_and, eq_self, decide_true, Bool.and_true, Bool.true_and, reduceCtorEq, not_true_eq_false, not_false_eq_true] at h); (try (exfalso; first | omega | with_reducible exact h (by assumption) | with_reducible exact absurd h (by assumption))))) | apply hw_skip | apply hw_ret) | (show HO _ _ _ _ _ _ _; first | apply ho_nil | refine g_q (qe S) ?_ | refine g_q (ql S) ?_) | apply seqQ_normal | apply seqQ_ret)
      refine er2 (L' := plC bp ba ⟨s, false, -1⟩ :: L) ?_ ⟨bp, ba, rfl, rfl⟩
      simp [plC, zeros]
    · have e : s.take (Nat.min s.length (zeros s.length).length) = s := by simp [zeros]
      rw [e]
      exact puts_all (by simp [zeros])
  · rw [show newP s.length = none from if_neg (by omega)] at hk
    simp only [if_neg h]
    refine hc_enter (fun _ _ => Tryd.call54 _ _) Tryd.func54 rfl Tryd.ntmps54 (Nat.le_of_ble_eq_true rfl) ?_; simp only [args0, Nat.reduceAdd]
    repeat' (first | (show HW _ _ _ _ _ _; first | apply hw_seq | apply hw_region | refine g_t ?_ | refine g_f ?_ | (refine g_b (fun h => ?_) (fun h => ?_) <;> ((try simp only [Bool.not_eq_eq_eq_not, Bool.not_true, Bool.not_false, decide_eq_true_eq, decide_eq_false_iff_not, Decidable.not_not, ne_eq, Bool.and_eq_true, beq_iff_eq, and_true, true_and, eq_self, decide_true, Bool.and_true, Bool.true_and, reduceCtorEq, not_true_eq_false, not_false_eq_true] at h); (try (exfalso; first | omega | with_reducible exact h (by assumption) | with_reducible exact absurd h (by assumption))))) | apply hw_skip | apply hw_ret) | (show HO _ _ _ _ _ _ _; first | apply ho_nil | refine g_q (qe S) ?_ | refine g_q (ql S) ?_) | apply seqQ_normal | apply seqQ_ret)
    refine gc hk ?_
    rintro v L' ⟨rfl, rfl⟩
    repeat' (first | (show HW _ _ _ _ _ _; first | apply hw_seq | apply hw_region | refine g_t ?_ | refine g_f ?_ | (refine g_b (fun h => ?_) (fun h => ?_) <;> ((try simp only [Bool.not_eq_eq_eq_not, Bool.not_true, Bool.not_false, decide_eq_true_eq, decide_eq_false_iff_not, Decidable.not_not, ne_eq, Bool.and_eq_true, beq_iff_eq, and_true, true_and, eq_self, decide_true, Bool.and_true, Bool.true_and, reduceCtorEq, not_true_eq_false, not_false_eq_true] at h); (try (exfalso; first | omega | with_reducible exact h (by assumption) | with_reducible exact absurd h (by assumption))))) | apply hw_skip | apply hw_ret) | (show HO _ _ _ _ _ _ _; first | apply ho_nil | refine g_q (qe S) ?_ | refine g_q (ql S) ?_) | apply seqQ_normal | apply seqQ_ret)
    exact er2 rfl ⟨rfl, rfl⟩
end Go.HL
