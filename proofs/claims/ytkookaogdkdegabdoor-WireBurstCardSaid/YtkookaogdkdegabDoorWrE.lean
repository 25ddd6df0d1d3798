/- Chapter 4, plain: what is written is read, what is read is written. Conditions: none. -/
import Derived.Test.YtkookaogdkdegabDoorWrB
import Derived.Test.YtkookaogdkdegabDoorJnN
namespace Go.HL
open Go Go.Proofs
set_option linter.unusedVariables false
set_option linter.unusedSimpArgs false
theorem fld_mid {s p x r : List UInt8} {a b : Nat} (hs : s = p ++ (x ++ r)) (ha : p.length = a) (hb : a + x.length = b) : fld s a b = (rdN x : Nat) := by
  unfold fld
  subst ha hb
  rw [hs, ← List.append_assoc, List.take_left' (by simp), List.drop_left' rfl]
theorem seg_cat (s : List UInt8) {a b c : Nat} (h1 : a ≤ b) (h2 : b ≤ c) : (s.take b).drop a ++ (s.take c).drop b = (s.take c).drop a := by
  have e : s.take b = (s.take c).take b := by rw [List.take_take, Nat.min_eq_left h2]
  rw [e]
  have := List.take_append_drop (b - a) ((s.take c).drop a)
  rw [List.drop_drop, show a + (b - a) = b by omega, List.take_drop, show a + (b - a) = b by omega] at this
  exact this
theorem num_fld {s : List UInt8} {a b : Nat} (h1 : a ≤ b) (h2 : b ≤ s.length) : numB (fld s a b) (b - a) = (s.take b).drop a := by
  unfold fld
  have := numB_rdN ((s.take b).drop a)
  rwa [show ((s.take b).drop a).length = b - a by simp; omega] at this
theorem dec_enc {f : Fr} (hb : ¬badF f) : decM (encS f) = (f, none) := by
  have hl := encS_len f
  have ht : (encS f).take 18 = encT f := by unfold encS; exact List.take_left' (encT_len f)
  have hd : (encS f).drop 18 = lowB (crc (encT f)) := by unfold encS; exact List.drop_left' (encT_len f)
  obtain ⟨fr, to, dl, kd, att, yes, ph, pr, pa⟩ := f
  have hq := hb
  unfold badF at hq
  simp only at hq
  have hy : 0 ≤ yesN yes ∧ yesN yes < 2 := by unfold yesN; split <;> omega
  have hyd : decide (yesN yes = 1) = yes := by cases yes <;> rfl
  generalize hE : encS ⟨fr, to, dl, kd, att, yes, ph, pr, pa⟩ = s at *
  have l1 := fun z => numB_len z 1
  have l4 := fun z => numB_len z 4
  have es : s = numB fr 1 ++ (numB to 1 ++ (numB dl 1 ++ (numB kd 1 ++ (numB att 4 ++ (numB (yesN yes) 1 ++ (numB ph 1 ++ (numB pr 4 ++ (numB pa 4 ++ lowB (crc (encT ⟨fr, to, dl, kd, att, yes, ph, pr, pa⟩)))))))))) := by
    rw [← hE]; unfold encS encT encA encB; simp only [List.append_assoc]
  have f0 : fld s 0 1 = fr := by rw [fld_mid (a := 0) (b := 1) (p := []) (x := numB fr 1) es rfl (by rw [l1]), rd_num (by omega) (by omega)]
  have f1 : fld s 1 2 = to := by rw [fld_mid (p := numB fr 1) es (by simp [l1]) (by rw [l1]), rd_num (by omega) (by omega)]
  have f2 : fld s 2 3 = dl := by rw [fld_mid (p := numB fr 1 ++ numB to 1) (x := numB dl 1) (by rw [es]; simp only [List.append_assoc]; rfl) (by simp [l1]) (by rw [l1]), rd_num (by omega) (by omega)]
  have f3 : fld s 3 4 = kd := by rw [fld_mid (p := numB fr 1 ++ numB to 1 ++ numB dl 1) (x := numB kd 1) (by rw [es]; simp only [List.append_assoc]; rfl) (by simp [l1]) (by rw [l1]), rd_num (by omega) (by omega)]
  have f4 : fld s 4 8 = att := by rw [fld_mid (p := numB fr 1 ++ numB to 1 ++ numB dl 1 ++ numB kd 1) (x := numB att 4) (by rw [es]; simp only [List.append_assoc]; rfl) (by simp [l1]) (by rw [l4]), rd_num (by omega) (by omega)]
  have f5 : fld s 8 9 = yesN yes := by rw [fld_mid (p := numB fr 1 ++ numB to 1 ++ numB dl 1 ++ numB kd 1 ++ numB att 4) (x := numB (yesN yes) 1) (by rw [es]; simp only [List.append_assoc]; rfl) (by simp [l1, l4]) (by rw [l1]), rd_num (by omega) (by omega)]
  have f6 : fld s 9 10 = ph := by rw [fld_mid (p := numB fr 1 ++ numB to 1 ++ numB dl 1 ++ numB kd 1 ++ numB att 4 ++ numB (yesN yes) 1) (x := numB ph 1) (by rw [es]; simp only [List.append_assoc]; rfl) (by simp [l1, l4]) (by rw [l1]), rd_num (by omega) (by omega)]
  have f7 : fld s 10 14 = pr := by rw [fld_mid (p := numB fr 1 ++ numB to 1 ++ numB dl 1 ++ numB kd 1 ++ numB att 4 ++ numB (yesN yes) 1 ++ numB ph 1) (x := numB pr 4) (by rw [es]; simp only [List.append_assoc]; rfl) (by simp [l1, l4]) (by rw [l4]), rd_num (by omega) (by omega)]
  have f8 : fld s 14 18 = pa := by rw [fld_mid (p := numB fr 1 ++ numB to 1 ++ numB dl 1 ++ numB kd 1 ++ numB att 4 ++ numB (yesN yes) 1 ++ numB ph 1 ++ numB pr 4) (x := numB pa 4) (by rw [es]; simp only [List.append_assoc]; rfl) (by simp [l1, l4]) (by rw [l4]), rd_num (by omega) (by omega)]
  have hfr : frOf s = ⟨fr, to, dl, kd, att, yes, ph, pr, pa⟩ := by unfold frOf; rw [f0, f1, f2, f3, f4, f5, f6, f7, f8, hyd]
  unfold decM
  rw [if_neg (by omega), if_neg (by rw [ht, hd]; simp), if_neg (by omega), hfr, if_neg hb]
theorem enc_dec {s : List UInt8} {f : Fr} (h : decM s = (f, none)) : encS f = s ∧ ¬badF f := by
  unfold decM at h
  split at h
  · cases h
  split at h
  · cases h
  split at h
  · cases h
  split at h
  · cases h
  rename_i h1 h2 h3 h4
  cases h
  refine ⟨?_, h4⟩
  rw [Decidable.not_not] at h1 h2
  have n1 := fun a (h : a + 1 ≤ s.length) => num_fld (s := s) (a := a) (b := a + 1) (by omega) h
  have n4 := fun a (h : a + 4 ≤ s.length) => num_fld (s := s) (a := a) (b := a + 4) (by omega) h
  have hy : yesN (decide (fld s 8 9 = 1)) = fld s 8 9 := by
    have h0 : 0 ≤ fld s 8 9 := by unfold fld; omega
    unfold yesN
    by_cases h : fld s 8 9 = 1
    · rw [h]; rfl
    · rw [decide_eq_false h]; simp; omega
  have ht : encT (frOf s) = s.take 18 := by
    unfold encT encA encB frOf
    simp only [hy]
    have a0 := n1 0 (by omega)
    have a1 := n1 1 (by omega)
    have a2 := n1 2 (by omega)
    have a3 := n1 3 (by omega)
    have a4 := n4 4 (by omega)
    have a5 := n1 8 (by omega)
    have a6 := n1 9 (by omega)
    have a7 := n4 10 (by omega)
    have a8 := n4 14 (by omega)
    simp only [Nat.reduceAdd, Nat.reduceSub, Nat.zero_add] at a0 a1 a2 a3 a4 a5 a6 a7 a8
    rw [a0, a1, a2, a3, a4, a5, a6, a7, a8]
    rw [seg_cat s (by decide) (by decide), seg_cat s (by decide) (by decide), seg_cat s (by decide) (by decide), seg_cat s (by decide) (by decide), seg_cat s (by decide) (by decide), seg_cat s (by decide) (by decide), seg_cat s (by decide) (by decide), seg_cat s (by decide) (by decide), List.drop_zero]
  unfold encS
  rw [ht, h2, List.take_append_drop]
end Go.HL
