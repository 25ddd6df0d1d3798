/- Chapter 3: a journal, plain: a Put where the power stays. Conditions: none. -/
import Derived.Test.YtkookaogdkdegabDoorJnG
namespace Go.HL
open Go Go.Proofs
set_option linter.unusedVariables false
set_option linter.unusedSimpArgs false

theorem write_on {b : List UInt8} {a : Int} {s : List UInt8} (h0 : 0 ≤ a) (h1 : a + s.length ≤ b.length) : writeM ⟨b, false, -1⟩ a s = (⟨splice b a.toNat s, false, -1⟩, none) := by
  unfold writeM lookM
  simp only [Bool.false_eq_true, if_false]
  rw [if_neg (by omega)]
  simp [wrOk, kM]
theorem read_on {b : List UInt8} {a : Int} {n : Int} (h0 : 0 ≤ a) (h2 : 0 ≤ n) (h1 : a + n ≤ b.length) : readM ⟨b, false, -1⟩ a n = ((b.drop a.toNat).take n.toNat, none) := by
  unfold readM lookM
  simp only [Bool.false_eq_true, if_false]
  rw [if_neg (by omega)]
/-- bytes cut at a slot -/
theorem cut_slot (b : List UInt8) (i : Nat) (h : i * 18 + 18 ≤ b.length) : ∃ Pr S c R, b = Pr ++ (S ++ [c]) ++ R ∧ Pr.length = i * 18 ∧ S.length = 17 := by
  have hd : i * 18 + 17 < b.length := by omega
  refine ⟨b.take (i * 18), (b.drop (i * 18)).take 17, b[i * 18 + 17], b.drop (i * 18 + 18), ?_, by simp; omega, by simp; omega⟩
  have e1 : b.drop (i * 18) = (b.drop (i * 18)).take 17 ++ b.drop (i * 18 + 17) := by
    have := (List.take_append_drop 17 (b.drop (i * 18))).symm
    rwa [List.drop_drop] at this
  have e2 : b.drop (i * 18 + 17) = b[i * 18 + 17] :: b.drop (i * 18 + 18) := List.drop_eq_getElem_cons hd
  have e3 := (List.take_append_drop (i * 18) b).symm
  rw [e1, e2] at e3
  simpa using e3
theorem splice_at {Pr S X R : List UInt8} {n : Nat} (hn : n = Pr.length) (h : X.length = S.length) : splice (Pr ++ S ++ R) n X = Pr ++ X ++ R := by
  subst hn; exact splice_mid Pr S X R h
theorem jw_on {b : List UInt8} {d : Nat} {e : Ent} (hl : 216 ≤ b.length) (hd : d < 6) (he : 0 ≤ e.n) : ∃ Pr S c R, b = Pr ++ (S ++ [c]) ++ R ∧ Pr.length = (2 * d + (e.n % 2).toNat) * 18 ∧ S.length = 17 ∧
    jwM ⟨b, false, -1⟩ d e = (⟨Pr ++ (bodyM e ++ commitB) ++ R, false, -1⟩, none) := by
  have hk : 0 ≤ e.n % 2 ∧ e.n % 2 < 2 := by omega
  obtain ⟨Pr, S, c, R, hb, hP, hS⟩ := cut_slot b (2 * d + (e.n % 2).toNat) (by omega)
  refine ⟨Pr, S, c, R, hb, hP, hS, ?_⟩
  have hlen : b.length = (2 * d + (e.n % 2).toNat) * 18 + 18 + R.length := by rw [hb]; simp [hP, hS]; omega
  have ha : jAt d e = ((Pr.length : Nat) : Int) := by unfold jAt; omega
  have lb := bodyM_len e
  have r1 : readM ⟨b, false, -1⟩ (jAt d e + 18 - 1) 1 = ([c], none) := by
    rw [read_on (by omega) (by omega) (by omega)]
    have e1 : (jAt (d : Int) e + 18 - 1).toNat = (Pr ++ S).length := by simp [hS]; omega
    rw [e1, hb, ← List.append_assoc, List.append_assoc (Pr ++ S), List.drop_left' rfl]
    rfl
  have w1 : ∃ c', jw1 ⟨b, false, -1⟩ d e = (⟨Pr ++ (S ++ [c']) ++ R, false, -1⟩, none) := by
    unfold jw1
    rw [r1]
    simp only
    split
    · exact ⟨c, by rw [hb]⟩
    · refine ⟨0, ?_⟩
      rw [write_on (by omega) (by simp; omega), hb]
      rw [show Pr ++ (S ++ [c]) ++ R = (Pr ++ S) ++ [c] ++ R by simp, splice_at (S := [c]) (X := [0]) (by simp [hS]; omega) rfl]
      simp
  obtain ⟨c', w1⟩ := w1
  have w2 : jw2 ⟨b, false, -1⟩ d e = (⟨Pr ++ (bodyM e ++ [c']) ++ R, false, -1⟩, none) := by
    unfold jw2
    rw [w1]
    simp only
    rw [write_on (by omega) (by simp [lb, hS]; omega)]
    rw [show Pr ++ (S ++ [c']) ++ R = Pr ++ S ++ ([c'] ++ R) by simp, splice_at (by omega) (by omega)]
    simp
  unfold jwM
  rw [w2]
  simp only
  rw [write_on (by omega) (by simp [lb, commitB]; omega)]
  rw [show Pr ++ (bodyM e ++ [c']) ++ R = (Pr ++ bodyM e) ++ [c'] ++ R by simp, splice_at (S := [c']) (X := commitB) (by simp [lb]; omega) rfl]
  simp
theorem part1_n {b : List UInt8} {d : Nat} (hd : d < 6) (hl : 216 ≤ b.length) (k : Nat) (hk : k ≤ 2) : 0 ≤ (partE b d k).n ∧ (partE b d k).n < 4294967296 := by
  induction k with
  | zero => simp [partE, zeroE]
  | succ k ih =>
    have h1 := ih (by omega)
    have h2 := heldM_n k (slot b (2 * d + k)) (by rw [slot_len _ _ (by omega) hl]; omega)
    rw [partE, updE_n]
    omega
/-- what is opened behind an entry -/
theorem deal_new {b b' : List UInt8} {d : Nat} {e : Ent} (hl : 216 ≤ b.length) (hd : d < 6) (he : EntOk e) (hn : e.n = (dealM b d).n + 1) {Pr S R : List UInt8} (hb : b = Pr ++ S ++ R) (hb' : b' = Pr ++ (bodyM e ++ commitB) ++ R) (hP : Pr.length = (2 * d + (e.n % 2).toNat) * 18) (hS : S.length = 18) :
    openM b' = (openM b).set d e := by
  have hX : (bodyM e ++ commitB).length = 18 := by simp [bodyM_len, commitB]
  have hk : e.n % 2 = 0 ∨ e.n % 2 = 1 := by omega
  have here : slot b' (2 * d + (e.n % 2).toNat) = bodyM e ++ commitB := by rw [hb']; exact slot_here _ _ _ _ hP hX
  have els : ∀ i, i ≠ 2 * d + (e.n % 2).toNat → slot b' i = slot b i := fun i hi => by rw [hb, hb']; exact slot_else _ _ _ _ _ _ hP hX hS hi
  have hh := held_body he
  have h0 := he.n0
  have hd2 : dealM b' d = e := by
    have q1 : dealM b d = updE (updE zeroE (heldM 0 (slot b (2 * d + 0)))) (heldM 1 (slot b (2 * d + 1))) := rfl
    have q2 : dealM b' d = updE (updE zeroE (heldM 0 (slot b' (2 * d + 0)))) (heldM 1 (slot b' (2 * d + 1))) := rfl
    have m1 : (dealM b d).n = max (max 0 (heldM 0 (slot b (2 * d + 0))).n) (heldM 1 (slot b (2 * d + 1))).n := by rw [q1, updE_n, updE_n]; rfl
    rcases hk with hk | hk
    · rw [hk] at here hh els
      rw [q2, show slot b' (2 * d + 0) = bodyM e ++ commitB from here, hh, els (2 * d + 1) (by simp)]
      have u1 : updE zeroE e = e := by unfold updE; rw [if_pos (by show (0 : Int) < e.n; omega)]
      rw [u1]
      unfold updE
      rw [if_neg (by omega)]
    · rw [hk] at here hh els
      rw [q2, show slot b' (2 * d + 1) = bodyM e ++ commitB from here, hh, els (2 * d + 0) (by simp)]
      have u1 : (updE zeroE (heldM 0 (slot b (2 * d + 0)))).n = max 0 (heldM 0 (slot b (2 * d + 0))).n := by rw [updE_n]; rfl
      generalize updE zeroE (heldM 0 (slot b (2 * d + 0))) = u at *
      unfold updE
      rw [if_pos (by omega)]
  have hdo : ∀ i, i ≠ d → dealM b' i = dealM b i := fun i hi => by
    unfold dealM partE partE partE
    rw [els (2 * i + 0) (by omega), els (2 * i + 1) (by omega)]
  apply List.ext_getElem?
  intro i
  rw [List.getElem?_set]
  by_cases hi : d = i
  · subst hi
    simp [openM, hd, hd2]
  · simp only [hi, if_false, openM, List.getElem?_map]
    by_cases h6 : i < 6
    · simp [h6, hdo i (fun h => hi h.symm)]
    · simp [h6]
structure Good (m : Pl) (j : Jn) : Prop where
  off : m.off = false
  cut : m.cut = -1
  lo : 216 ≤ m.b.length
  hi : m.b.length ≤ 1000000
  dead : j.dead = false
  l : j.l = openM m.b
theorem openM_get {b : List UInt8} {d : Nat} (hd : d < 6) : (openM b).getD d zeroE = dealM b d := by simp [openM, hd]
theorem open_ok {b : List UInt8} (hl : 216 ≤ b.length) : JnOk ⟨openM b, false⟩ := by
  have key : ∀ d, 0 ≤ ((openM b).getD d zeroE).n ∧ ((openM b).getD d zeroE).n < 4294967296 := fun d => by
    by_cases hd : d < 6
    · rw [openM_get hd]; exact part1_n hd hl 2 (by omega)
    · simp [openM, hd, zeroE]
  exact ⟨by simp [openM], fun d => (key d).1, fun d => by have := (key d).2; show ((openM b).getD d zeroE).n ≤ _; omega⟩
theorem Good.ok {m : Pl} {j : Jn} (h : Good m j) : PlOk m ∧ JnOk j := by
  obtain ⟨jl, jd⟩ := j
  have h1 := h.dead
  have h2 := h.l
  simp only at h1 h2
  subst h1; subst h2
  exact ⟨⟨h.hi, by rw [h.cut]; decide, by rw [h.cut]; decide⟩, open_ok h.lo⟩
/-- a Put, the power being there -/
theorem put_on {m : Pl} {j : Jn} (h : Good m j) (deal : Int) (s : St) : ((putM m j deal s).2.2 ≠ none ∧ (putM m j deal s).1 = m ∧ (putM m j deal s).2.1 = j) ∨
    ((putM m j deal s).2.2 = none ∧ 0 ≤ deal ∧ deal < 6 ∧ Good (putM m j deal s).1 (putM m j deal s).2.1 ∧ (putM m j deal s).1.b.length = m.b.length ∧ (putM m j deal s).2.1.l.map Ent.s = (j.l.map Ent.s).set deal.toNat s ∧ ((putM m j deal s).2.1.l.getD deal.toNat zeroE).s = s ∧ ¬ badPut deal s) := by
  obtain ⟨b, off, cut⟩ := m
  obtain ⟨jl, dead⟩ := j
  obtain ⟨h1, h2, h3, h4, h5, h6⟩ := h
  simp only at h1 h2 h3 h4 h5 h6
  subst h1; subst h2; subst h5; subst h6
  unfold putM
  simp only [Bool.false_eq_true, if_false]
  by_cases hb : badPut deal s
  · rw [if_pos hb]; exact .inl ⟨by simp, rfl, rfl⟩
  · rw [if_neg hb]
    have hb2 := hb
    unfold badPut at hb2
    obtain ⟨d, rfl⟩ := Int.eq_ofNat_of_zero_le (show 0 ≤ deal by omega)
    have hd : d < 6 := by omega
    simp only [Int.toNat_natCast, openM_get hd]
    have hlen : (openM b).length = 6 := by simp [openM]
    by_cases he : (dealM b d).s = s
    · rw [if_pos he]
      refine .inr ⟨rfl, by omega, by omega, ⟨rfl, rfl, h3, h4, rfl, rfl⟩, rfl, ?_, by rw [openM_get hd]; exact he, hb⟩
      apply List.ext_getElem?
      intro i
      rw [List.getElem?_set]
      split
      · rename_i hi
        subst hi
        simp [openM, hd, he]
      · rfl
    · rw [if_neg he]
      by_cases hf : 4294967296 ≤ (dealM b d).n + 1
      · rw [if_pos hf]; exact .inl ⟨by simp, rfl, rfl⟩
      · rw [if_neg hf]
        have hn := part1_n hd h3 2 (by omega)
        have hn' : 0 ≤ (dealM b d).n ∧ (dealM b d).n < 4294967296 := hn
        obtain ⟨Pr, S, c, R, e1, e2, e3, e4⟩ := jw_on (b := b) (d := d) (e := ⟨(dealM b d).n + 1, s⟩) h3 hd (by simp only; omega)
        rw [e4]
        have hok : EntOk ⟨(dealM b d).n + 1, s⟩ := ⟨by simp only; omega, by simp only; omega, by simp only; omega, by simp only; omega, by simp only; omega, by simp only; omega, by simp only; omega, by simp only; omega⟩
        have hnew := deal_new (b' := Pr ++ (bodyM ⟨(dealM b d).n + 1, s⟩ ++ commitB) ++ R) h3 hd hok rfl e1 rfl e2 (by simp [e3])
        have hL : (Pr ++ (bodyM ⟨(dealM b d).n + 1, s⟩ ++ commitB) ++ R).length = b.length := by rw [e1]; simp [bodyM_len, commitB, e3]
        refine .inr ⟨rfl, by omega, by omega, ⟨rfl, rfl, by rw [hL]; exact h3, by rw [hL]; exact h4, rfl, hnew.symm⟩, hL, by simp [List.map_set], by simp [List.getD, hlen, hd], hb⟩
theorem put_same {m : Pl} {j : Jn} (h : Good m j) {deal : Int} {s : St} (hb : ¬ badPut deal s) (hs : (j.l.getD deal.toNat zeroE).s = s) : putM m j deal s = (m, j, none) := by
  unfold putM
  rw [if_neg (by simp [h.dead]), if_neg hb, if_pos hs]
theorem open_zeros {n : Nat} (h : 216 ≤ n) : openM (zeros n) = List.replicate 6 zeroE := by
  have hs : ∀ i, i < 12 → slot (zeros n) i = zeros 18 := fun i hi => by
    unfold slot zeros
    rw [List.drop_replicate, List.take_replicate, Nat.min_eq_left (by omega)]
  have hh : ∀ k, heldM k (zeros 18) = zeroE := fun k => by
    rw [heldM_eq, if_pos (.inl (by decide))]; rfl
  have hd : ∀ d, d < 6 → dealM (zeros n) d = zeroE := fun d hd => by
    unfold dealM partE partE partE
    rw [hs _ (by omega), hs _ (by omega), hh, hh]
    rfl
  apply List.ext_getElem?
  intro i
  by_cases h : i < 6
  · rw [List.getElem?_replicate, if_pos h]; simp [openM, h, hd i h]
  · simp [openM, h]
theorem good_new {n : Nat} (h : 216 ≤ n) (h2 : n ≤ 1000000) : Good ⟨zeros n, false, -1⟩ ⟨openM (zeros n), false⟩ := ⟨rfl, rfl, by simpa [zeros] using h, by simpa [zeros] using h2, rfl, rfl⟩
theorem zeros_len (n : Nat) : (zeros n).length = n := by simp [zeros]
end Go.HL
