/- Chapter 6: what a site keeps: the plain laws. No program in sight. Conditions: none. -/
import Derived.Test.YtkookaogdkdegaaDoorStC
import Derived.Test.YtkookaogdkdegaaDoorJnK
namespace Go.HL
open Go Go.Proofs
set_option linter.unusedVariables false
set_option linter.unusedSimpArgs false
def stOk (s : St) : Prop := 0 ≤ s.ph ∧ s.ph ≤ 5 ∧ 0 ≤ s.att ∧ s.att ≤ s.pr ∧ s.pr ≤ 1048576
/-- a state behind another one -/
def stLe (a b : St) : Prop := a.pr ≤ b.pr ∧ a.att ≤ b.att ∧ mayS a.ph b.ph = true
theorem stLe_refl {a : St} (h : stOk a) : stLe a a := by
  obtain ⟨h1, h2, -⟩ := h
  exact ⟨Int.le_refl _, Int.le_refl _, decide_eq_true (by omega)⟩
def stAt (j : Jn) (d : Nat) : St := (j.l.getD d zeroE).s
theorem afterS_pos {p : Int} : afterS p ≠ 0 ↔ p = 4 ∨ p = 5 := by unfold afterS; split <;> (try split) <;> omega
theorem turn_ok {ref : Int → Bool} {f : Fr} {st : St} (h : stOk st) (hf : ¬ badF f) : stOk (turnM ref f st).1 ∧ stLe st (turnM ref f st).1 := by
  obtain ⟨h1, h2, h3, h4, h5⟩ := h
  unfold badF at hf
  unfold turnM
  split
  · unfold askM
    split
    · split
      · exact ⟨⟨by simp, by simp, h3, h4, h5⟩, by simp, by simp, decide_eq_true (by simp only; omega)⟩
      · exact ⟨⟨by simp, by simp, h3, h4, h5⟩, by simp, by simp, decide_eq_true (by simp only; omega)⟩
    · exact ⟨⟨h1, h2, h3, h4, h5⟩, stLe_refl ⟨h1, h2, h3, h4, h5⟩⟩
  split
  · have e1 : st.pr ≤ max st.pr f.att := Int.le_max_left _ _
    have e2 : max st.pr f.att ≤ 1048576 := by omega
    exact ⟨⟨h1, h2, h3, Int.le_trans h4 e1, e2⟩, e1, Int.le_refl _, decide_eq_true (by show _ ∧ (st.ph = st.ph ∨ _); exact ⟨⟨h1, h2, h1, h2⟩, .inl rfl⟩)⟩
  split
  · split
    · exact ⟨⟨h1, h2, h3, h4, h5⟩, stLe_refl ⟨h1, h2, h3, h4, h5⟩⟩
    · rename_i ha
      have ha' := afterS_pos.1 ha
      split
      · rename_i ho
        have ho' : st.ph ≠ 2 ∧ st.ph ≠ 3 := by simpa [openS] using ho.1
        exact ⟨⟨by simp only; omega, by simp only; omega, by simp only; omega, by simp, by simp only; omega⟩, by simp only; omega, by simp only; omega, decide_eq_true (by simp only; omega)⟩
      · exact ⟨⟨h1, h2, h3, h4, h5⟩, stLe_refl ⟨h1, h2, h3, h4, h5⟩⟩
  split
  · split
    · rename_i ho
      have ho' : st.ph ≠ 2 ∧ st.ph ≠ 3 := by simpa [openS] using ho.1
      exact ⟨⟨by simp only; omega, by simp only; omega, h3, h4, h5⟩, by simp, by simp, decide_eq_true (by simp only; omega)⟩
    · exact ⟨⟨h1, h2, h3, h4, h5⟩, stLe_refl ⟨h1, h2, h3, h4, h5⟩⟩
  · exact ⟨⟨h1, h2, h3, h4, h5⟩, stLe_refl ⟨h1, h2, h3, h4, h5⟩⟩
theorem st_notbad {d : Nat} {s : St} (h : stOk s) (hd : d < 6) : ¬ badPut d s := by
  obtain ⟨h1, h2, h3, h4, h5⟩ := h
  unfold badPut
  omega
/-- a site's plate and journal -/
structure SI (m : Pl) (j : Jn) : Prop where
  ji : JI m j
  st : ∀ d, d < 6 → stOk (stAt j d)
theorem SI.boot {m : Pl} {j : Jn} (h : SI m j) : SI { m with off := false, cut := -1 } ⟨openM m.b, false⟩ := ⟨h.ji.boot, fun d hd => by have := h.st d hd; unfold stAt at *; rw [h.ji.l] at this; exact this⟩
theorem SI.cut {m : Pl} {j : Jn} (h : SI m j) {n : Int} (h0 : 0 ≤ n) (h1 : n ≤ 9223372036854775807) : SI { m with cut := n } j := ⟨h.ji.cut h0 h1, h.st⟩
theorem boot_st {m : Pl} {j : Jn} (h : JI m j) : (⟨openM m.b, false⟩ : Jn).l = j.l := h.l.symm
/-- whatever it hears -/
theorem site_any {id : Int} {ref : Int → Bool} {m : Pl} {j : Jn} (h : SI m j) (f : Fr) : SI (siteM id ref m j f).1 (siteM id ref m j f).2.1 ∧ (siteM id ref m j f).1.b.length = m.b.length ∧ (∀ d, d < 6 → stLe (stAt j d) (stAt (siteM id ref m j f).2.1 d)) ∧
    (((siteM id ref m j f).2.2.1 = []) ∨ (¬ badF f ∧ f.to = id ∧ (siteM id ref m j f).2.2.2 = none ∧ (turnM ref f (stAt j f.dl.toNat)).2.1 ≠ 0 ∧ stAt (siteM id ref m j f).2.1 f.dl.toNat = (turnM ref f (stAt j f.dl.toNat)).1 ∧
      (∀ d, d < 6 → d ≠ f.dl.toNat → stAt (siteM id ref m j f).2.1 d = stAt j d) ∧
      (siteM id ref m j f).2.2.1 = [⟨id, f.fr, f.dl, (turnM ref f (stAt j f.dl.toNat)).2.1, f.att, (turnM ref f (stAt j f.dl.toNat)).2.2, (turnM ref f (stAt j f.dl.toNat)).1⟩])) := by
  unfold siteM
  have same : ∀ d, d < 6 → stLe (stAt j d) (stAt j d) := fun d hd => stLe_refl (h.st d hd)
  by_cases hb : badF f
  · simp only [if_pos hb]
    exact ⟨h, by trivial, same, .inl (by trivial)⟩
  simp only [if_neg hb]
  by_cases hto : f.to = id
  · simp only [ne_eq, hto, not_true_eq_false, if_false]
    have hb2 := hb
    unfold badF at hb2
    obtain ⟨d, hd⟩ := Int.eq_ofNat_of_zero_le (show 0 ≤ f.dl by omega)
    have hd6 : d < 6 := by omega
    rw [hd]
    simp only [Int.toNat_natCast]
    show _ ∧ _ ∧ _ ∧ _
    have ht := turn_ok (ref := ref) (h.st d hd6) hb
    change stOk (turnM ref f (j.l.getD d zeroE).s).1 ∧ stLe (stAt j d) (turnM ref f (j.l.getD d zeroE).s).1 at ht
    have est : stAt j d = (j.l.getD d zeroE).s := rfl
    rw [est]
    generalize htr : turnM ref f (j.l.getD d zeroE).s = tr at *
    have hp := put_any h.ji d tr.1
    generalize putM m j d tr.1 = r at *
    obtain ⟨m', j', er⟩ := r
    simp only at hp ⊢
    obtain ⟨hJ, hL, hp⟩ := hp
    rcases hp with ⟨hl, he⟩ | ⟨hnb, he, ho, ho', hp⟩
    · have hsame : ∀ q, stAt j' q = stAt j q := fun q => by unfold stAt; rw [hl]
      have hS : SI m' j' := ⟨hJ, fun q hq => by rw [hsame]; exact h.st q hq⟩
      have he2 : ∃ x, er = some x := by
        rcases he with ⟨he, -⟩ | ⟨he, -⟩ | ⟨he, -⟩ <;> exact ⟨_, he⟩
      obtain ⟨x, rfl⟩ := he2
      exact ⟨hS, hL, fun q hq => by rw [hsame]; exact same q hq, .inl rfl⟩
    · subst he
      simp only [Int.toNat_natCast] at hp
      have hlen : j.l.length = 6 := h.ji.jn.len
      have hst' : stAt j' d = tr.1 ∧ ∀ q, q ≠ d → stAt j' q = stAt j q := by
        rcases hp with ⟨h1, h2, -⟩ | ⟨h1, h2⟩
        · refine ⟨by unfold stAt; rw [h2, h1], fun q _ => by unfold stAt; rw [h2]⟩
        · refine ⟨by unfold stAt; rw [h2]; simp [List.getD, hlen, hd6], fun q hq => by unfold stAt; rw [h2]; simp [List.getD, List.getElem?_set, Ne.symm hq]⟩
      have hS : SI m' j' := ⟨hJ, fun q hq => by
        by_cases e : q = d
        · rw [e, hst'.1]; exact ht.1
        · rw [hst'.2 q e]; exact h.st q hq⟩
      refine ⟨hS, hL, fun q hq => ?_, ?_⟩
      · by_cases e : q = d
        · rw [e, hst'.1]; exact ht.2
        · rw [hst'.2 q e]; exact same q hq
      · by_cases hk : tr.2.1 = 0
        · exact .inl (if_pos hk)
        · exact .inr ⟨hb, by trivial, rfl, hk, hst'.1, fun q _ hq => hst'.2 q hq, if_neg hk⟩
  · simp only [ne_eq, hto, not_false_eq_true, if_true]
    exact ⟨h, by trivial, same, .inl (by trivial)⟩
/-- who promises, and who answers yes to what is prepared -/
theorem turn_keeps {ref : Int → Bool} {f : Fr} {st : St} : ((turnM ref f st).2.1 = 4 → (turnM ref f st).2.2 = true → st.pr < f.att ∧ (turnM ref f st).1.pr = f.att) ∧ ((turnM ref f st).2.1 = 6 → (turnM ref f st).2.2 = true → st.pr ≤ f.att ∧ (turnM ref f st).1.pr = f.att) ∧
    ((turnM ref f st).2.1 = 2 → (turnM ref f st).2.2 = false → (turnM ref f st).1.ph = 3) := by
  unfold turnM
  split
  · refine ⟨fun h => by simp at h, fun h => by simp at h, fun _ h => ?_⟩
    simpa using h
  split
  · refine ⟨fun _ h => ?_, fun h => by simp at h, fun h => by simp at h⟩
    simp only [decide_eq_true_eq] at h
    exact ⟨h, by simp only; omega⟩
  split
  · split
    · exact ⟨fun h => by simp at h, fun h => by simp at h, fun h => by simp at h⟩
    · split
      · rename_i ho
        exact ⟨fun h => by simp at h, fun _ _ => ⟨ho.2, rfl⟩, fun h => by simp at h⟩
      · exact ⟨fun h => by simp at h, fun _ h => by simp at h, fun h => by simp at h⟩
  split
  · exact ⟨fun h => by simp at h, fun h => by simp at h, fun h => by simp at h⟩
  · exact ⟨fun h => by simp at h, fun h => by simp at h, fun h => by simp at h⟩
end Go.HL
