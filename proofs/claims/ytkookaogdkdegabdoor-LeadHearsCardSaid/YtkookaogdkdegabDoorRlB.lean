/- Chapter 7: the document's lead: starts, prepares, decides; what it has heard, held against a set. Conditions: none. -/
import Derived.Test.YtkookaogdkdegabDoorRlA
import Derived.Test.YtkookaogdkdegabDoorRfW
namespace Go.HL
open Go Go.Proofs
set_option linter.unusedVariables false
set_option linter.unusedSimpArgs false
def cntB (h : Nat) : Nat → Nat
  | 0 => 0
  | n + 1 => cntB h n + h / 2 ^ n % 2
theorem cnt_full : ∀ n < 8, ∀ h < 2 ^ n, cntB h n = n ↔ h = 2 ^ n - 1 := by decide +kernel
theorem cnt_or : ∀ n < 8, ∀ h < 2 ^ n, ∀ k < n, h / 2 ^ k % 2 = 0 → cntB (h ||| 2 ^ k) n = cntB h n + 1 := by decide +kernel
theorem bit_or : ∀ h < 128, ∀ k < 7, ∀ i < 7, (h ||| 2 ^ k) / 2 ^ i % 2 = if i = k then 1 else h / 2 ^ i % 2 := by decide +kernel
theorem cnt_zero : ∀ n, cntB 0 n = 0
  | 0 => rfl
  | n + 1 => by simp [cntB, cnt_zero n]
/-- what was heard: as a set with states, and as frames -/
structure RelH (m : Ld) (hs : List Fr) : Prop where
  w7 : m.w.length ≤ 7
  tl : m.told.length = 7
  lt : m.heard < 2 ^ m.w.length
  bit : ∀ i < m.w.length, m.heard / 2 ^ i % 2 = 1 ↔ (fromM hs i).isSome = true
  told : ∀ i < m.w.length, ∀ f, fromM hs i = some f → m.told.getD i zeroS = f.s
  cnt : hs.length = cntB m.heard m.w.length
theorem RelH.of {m m' : Ld} {hs : List Fr} (h : RelH m hs) (e1 : m'.w = m.w) (e2 : m'.told = m.told) (e3 : m'.heard = m.heard) : RelH m' hs := by
  obtain ⟨a, b, c, d, e, f⟩ := h
  exact ⟨by rw [e1]; exact a, by rw [e2]; exact b, by rw [e1, e3]; exact c, by rw [e1, e3]; exact d, by rw [e1, e2]; exact e, by rw [e1, e3]; exact f⟩
theorem RelH.new {m : Ld} (h7 : m.w.length ≤ 7) (ht : m.told.length = 7) (h0 : m.heard = 0) : RelH m [] := by
  refine ⟨h7, ht, by rw [h0]; exact Nat.two_pow_pos _, fun i _ => ?_, fun i _ f h => by simp [fromM] at h, by rw [h0, cnt_zero]; rfl⟩
  rw [h0]; simp [fromM]
theorem RelH.prep {m : Ld} {hs : List Fr} (h : RelH m hs) (p : Int) : RelH (prepM m p) [] := RelH.new h.w7 h.tl rfl
theorem RelH.le7 {m : Ld} {hs : List Fr} (h : RelH m hs) : hs.length ≤ m.w.length := by
  have key : ∀ n h, cntB h n ≤ n := by
    intro n h
    induction n with
    | zero => simp [cntB]
    | succ n ih => simp only [cntB]; omega
  rw [h.cnt]; exact key _ _
theorem from_append (hs : List Fr) (f : Fr) (i : Int) : fromM (hs ++ [f]) i = (fromM hs i).or (if f.fr = i then some f else none) := by
  unfold fromM
  rw [List.find?_append]
  by_cases h : f.fr = i <;> simp [h]
theorem RelH.m2 {m : Ld} {hs : List Fr} {f : Fr} (h : RelH m hs) (hf : fitsM m f) : RelH (m2M m f) (hs ++ [f]) := by
  obtain ⟨h1, h2, h3, h4, h5, h6, h7⟩ := hf
  obtain ⟨k, hk⟩ := Int.eq_ofNat_of_zero_le h5
  rw [hk] at h6 h7
  have hkl : k < m.w.length := by omega
  simp only [Int.toNat_natCast] at h7
  have hw : (m2M m f).w = m.w := by unfold m2M m1M; split <;> rfl
  have hh : (m2M m f).heard = m.heard ||| 2 ^ k := by show m.heard ||| 2 ^ f.fr.toNat = _; rw [hk]; rfl
  have ht : (m2M m f).told = m.told.set k f.s := by show m.told.set f.fr.toNat f.s = _; rw [hk]; rfl
  have h128 : m.heard < 128 := Nat.lt_of_lt_of_le h.lt (by have := Nat.pow_le_pow_right (n := 2) (by decide) h.w7; simpa using this)
  have hno : fromM hs k = none := by
    have := (h.bit k hkl)
    cases hq : fromM hs k with
    | none => rfl
    | some g => rw [hq] at this; have := this.2 rfl; omega
  refine ⟨by rw [hw]; exact h.w7, by rw [ht]; simp [h.tl], by rw [hw, hh]; exact heard_lt h.lt hkl, fun i hi => ?_, fun i hi g hg => ?_, ?_⟩
  · rw [hw] at hi
    rw [hh, bit_or m.heard h128 k (by have := h.w7; omega) i (by have := h.w7; omega), from_append, hk]
    by_cases hik : i = k
    · subst hik; simp
    · rw [if_neg hik, if_neg (by omega), h.bit i hi]
      simp
  · rw [hw] at hi
    rw [from_append, hk] at hg
    rw [ht]
    by_cases hik : i = k
    · subst hik
      rw [hno] at hg
      simp at hg
      subst hg
      have := h.tl
      have := h.w7
      simp [List.getD, h.tl, show i < 7 by omega]
    · rw [if_neg (by omega)] at hg
      have := h.told i hi g (by simpa using hg)
      simp only [List.getD] at this ⊢
      rw [List.getElem?_set_ne (by omega)]
      exact this
  · rw [hw, hh, cnt_or m.w.length (by have := h.w7; omega) m.heard h.lt k hkl h7, List.length_append, h.cnt]
    rfl
def countH (m : Ld) (hs : List Fr) : List Fr :=
  if m.wait = 2 ∧ m.heard = 2 ^ m.w.length - 1 then [] else
  if m.wait = 2 ∨ (enoughW m.w m.heard).1 = false then hs else
  if m.wait = 6 then hs else
  if (chooseS (statesM m)).2 then hs else []
def hearH (m : Ld) (hs : List Fr) (f : Fr) : List Fr :=
  if m.wait = 0 ∨ ¬ fitsM m f then hs else
  if f.yes = false then hs else countH (m2M m f) (hs ++ [f])
theorem RelH.done {m : Ld} {hs : List Fr} (h : RelH m hs) : RelH (doneM m) hs := h.of rfl rfl rfl
theorem RelH.count {m : Ld} {hs : List Fr} (h : RelH m hs) : RelH (countM m).1 (countH m hs) := by
  unfold countM countH
  split
  · exact h.prep _
  split
  · exact h
  split
  · exact h.done
  split
  · exact h.done
  · exact h.prep _
theorem RelH.hear {m : Ld} {hs : List Fr} (h : RelH m hs) (f : Fr) : RelH (hearM m f).1 (hearH m hs f) := by
  unfold hearM hearH
  split
  · exact h
  · rename_i hw
    have hfit : fitsM m f := Decidable.not_not.1 fun h0 => hw (.inr h0)
    split
    · unfold noM
      have h1 : RelH (m1M m f) hs := by unfold m1M; split; exact h; exact h.of rfl rfl rfl
      split
      · exact h1.done
      · exact h1.of rfl rfl rfl
    · exact (h.m2 hfit).count
attribute [local irreducible] HW HO HQ HD HC QOp Has Upd Puts Gets seqQ blkQ loopQ fnQ actQ nextP unQ MapF
theorem rstart_calls (lp : Nat) (aw : Option Addr) (capw : Nat) (hv : Value) (hc : List Blk) (m : Ld) (L : Heap) (hw : m.w.length ≤ 7) : HC Tryd.prog 70 [pt lp 0] (rlC lp aw capw hv hc m :: L)
    (fun v L' => ∃ c, FrVec v (startM m) c ∧ L' = c :: rlC lp aw capw hv hc m :: L) := by
  unfold startM
  refine hc_enter (fun _ _ => Tryd.call70 _ _) Tryd.func70 rfl Tryd.ntmps70 (Nat.le_of_ble_eq_true rfl) ?_; simp only [args0, Nat.reduceAdd]
  repeat' (first | (show HW _ _ _ _ _ _; first | apply hw_seq | apply hw_region | refine g_t ?_ | refine g_f ?_ | (refine g_b (fun h => ?_) (fun h => ?_) <;> ((try simp only [Bool.not_eq_eq_eq_not, Bool.not_true, Bool.not_false, decide_eq_true_eq, decide_eq_false_iff_not, Decidable.not_not, ne_eq, Bool.and_eq_true, beq_iff_eq, and_true, true_and, eq_self, decide_true, Bool.and_true, Bool.true_and, reduceCtorEq, not_true_eq_false, not_false_eq_true] at h); (try (exfalso; first | omega | with_reducible exact h (by assumption) | with_reducible exact absurd h (by assumption))))) | apply hw_skip | apply hw_ret) | (show HO _ _ _ _ _ _ _; first | apply ho_nil | refine g_q (qe S) ?_ | refine g_q (ql S) ?_) | apply seqQ_normal | apply seqQ_ret)
  · refine gc (rsend_calls lp aw capw hv hc m 1 0 true L hw rfl) ?_
    rintro v L' ⟨c, hv2, rfl⟩
    repeat' (first | (show HW _ _ _ _ _ _; first | apply hw_seq | apply hw_region | refine g_t ?_ | refine g_f ?_ | (refine g_b (fun h => ?_) (fun h => ?_) <;> ((try simp only [Bool.not_eq_eq_eq_not, Bool.not_true, Bool.not_false, decide_eq_true_eq, decide_eq_false_iff_not, Decidable.not_not, ne_eq, Bool.and_eq_true, beq_iff_eq, and_true, true_and, eq_self, decide_true, Bool.and_true, Bool.true_and, reduceCtorEq, not_true_eq_false, not_false_eq_true] at h); (try (exfalso; first | omega | with_reducible exact h (by assumption) | with_reducible exact absurd h (by assumption))))) | apply hw_skip | apply hw_ret) | (show HO _ _ _ _ _ _ _; first | apply ho_nil | refine g_q (qe S) ?_ | refine g_q (ql S) ?_) | apply seqQ_normal | apply seqQ_ret)
    exact sp1 (LS.refl _) ⟨c, by rw [if_pos h]; exact hv2, rfl⟩
  · refine gc (rsend_calls lp aw capw hv hc m 3 0 false L hw rfl) ?_
    rintro v L' ⟨c, hv2, rfl⟩
    repeat' (first | (show HW _ _ _ _ _ _; first | apply hw_seq | apply hw_region | refine g_t ?_ | refine g_f ?_ | (refine g_b (fun h => ?_) (fun h => ?_) <;> ((try simp only [Bool.not_eq_eq_eq_not, Bool.not_true, Bool.not_false, decide_eq_true_eq, decide_eq_false_iff_not, Decidable.not_not, ne_eq, Bool.and_eq_true, beq_iff_eq, and_true, true_and, eq_self, decide_true, Bool.and_true, Bool.true_and, reduceCtorEq, not_true_eq_false, not_false_eq_true] at h); (try (exfalso; first | omega | with_reducible exact h (by assumption) | with_reducible exact absurd h (by assumption))))) | apply hw_skip | apply hw_ret) | (show HO _ _ _ _ _ _ _; first | apply ho_nil | refine g_q (qe S) ?_ | refine g_q (ql S) ?_) | apply seqQ_normal | apply seqQ_ret)
    exact sp1 (LS.refl _) ⟨c, by rw [if_neg h]; exact hv2, rfl⟩
theorem rdecide_calls (lp : Nat) (aw : Option Addr) (capw : Nat) (hv : Value) (hc : List Blk) (m : Ld) (phase : Int) (L : Heap) (hw : m.w.length ≤ 7) : HC Tryd.prog 121 [pt lp 0, iv phase] (rlC lp aw capw hv hc m :: L)
    (fun v L' => ∃ c, FrVec v (allM (doneM m) 7 phase) c ∧ L' = c :: rlC lp aw capw hv hc (doneM m) :: L) := by
  refine hc_enter (fun _ _ => Tryd.call121 _ _) Tryd.func121 rfl Tryd.ntmps121 (Nat.le_of_ble_eq_true rfl) ?_; simp only [args0, Nat.reduceAdd]
  repeat' (first | (show HW _ _ _ _ _ _; first | apply hw_seq | apply hw_region | apply hw_ret) | (show HO _ _ _ _ _ _ _; first | apply ho_nil | refine g_q (qe S) ?_ | refine ws S ?_) | apply seqQ_normal | apply seqQ_ret)
  refine gc (rsend_calls lp aw capw hv hc (doneM m) 7 phase true L hw rfl) ?_
  rintro v L' ⟨c, hv2, rfl⟩
  repeat' (first | (show HW _ _ _ _ _ _; first | apply hw_seq | apply hw_region | apply hw_ret) | (show HO _ _ _ _ _ _ _; first | apply ho_nil | refine g_q (qe S) ?_ | refine ws S ?_) | apply seqQ_normal | apply seqQ_ret)
  exact sp1 (LS.refl _) ⟨c, hv2, rfl⟩
theorem rprepare_calls (lp : Nat) (aw : Option Addr) (capw : Nat) (hv : Value) (hc : List Blk) (m : Ld) (hs : List Fr) (phase : Int) (L : Heap) (hw : m.w.length ≤ 7) (hH : FrVec hv hs hc) : HC Tryd.prog 122 [pt lp 0, iv phase] (rlC lp aw capw hv hc m :: L)
    (fun v L' => ∃ c, FrVec v (allM (prepM m phase) 5 phase) c ∧ L' = c :: rlC lp aw capw nilS [] (prepM m phase) :: L) := by
  obtain ⟨ah, caph, rfl, hcap, hR⟩ := Vec.rd hH fc_len
  refine hc_enter (fun _ _ => Tryd.call122 _ _) Tryd.func122 rfl Tryd.ntmps122 (Nat.le_of_ble_eq_true rfl) ?_; simp only [args0, Nat.reduceAdd]
  repeat' (first | (show HW _ _ _ _ _ _; first | apply hw_seq | apply hw_region | apply hw_ret) | (show HO _ _ _ _ _ _ _; first | apply ho_nil | refine g_q (qe S) ?_ | refine ws S ?_) | apply seqQ_normal | apply seqQ_ret)
  refine ho_sp (L' := rlC lp aw capw nilS [] (prepM m phase) :: L) ?_ (LS.both _ (LS.skips hc (LS.refl _)))
  refine gc (rsend_calls lp aw capw nilS [] (prepM m phase) 5 phase true L hw rfl) ?_
  rintro v L' ⟨c, hv2, rfl⟩
  repeat' (first | (show HW _ _ _ _ _ _; first | apply hw_seq | apply hw_region | apply hw_ret) | (show HO _ _ _ _ _ _ _; first | apply ho_nil | refine g_q (qe S) ?_ | refine ws S ?_) | apply seqQ_normal | apply seqQ_ret)
  exact sp1 (LS.refl _) ⟨c, hv2, rfl⟩
end Go.HL
