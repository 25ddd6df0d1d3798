/- Chapter 3: power fails in the middle of a Put: what is opened again is as it was. No program in sight. Conditions: none. -/
import Derived.Test.YtkookaogdkdegabDoorJnH
namespace Go.HL
open Go Go.Proofs
set_option linter.unusedVariables false
set_option linter.unusedSimpArgs false
/-- so many bytes less until power fails -/
def cutBy (c : Int) (n : Nat) : Int := if c = -1 then -1 else c - n
theorem writeC {b : List UInt8} {c a : Int} {s : List UInt8} (h0 : 0 ≤ a) (h1 : a + s.length ≤ b.length) :
    writeM ⟨b, false, c⟩ a s = wrOk ⟨b, false, c⟩ a.toNat s := by
  unfold writeM lookM
  simp only [Bool.false_eq_true, if_false]
  rw [if_neg (by omega)]
theorem wrOk_all {b : List UInt8} {c : Int} {a : Nat} {s : List UInt8} (h : c = -1 ∨ s.length ≤ c.toNat) : wrOk ⟨b, false, c⟩ a s = (⟨splice b a s, false, cutBy c s.length⟩, none) := by
  have hk : kM ⟨b, false, c⟩ s.length = s.length := by
    unfold kM; split
    · rfl
    · rcases h with h | h
      · contradiction
      · simp only; omega
  simp [wrOk, hk, cutBy]
theorem wrOk_part {b : List UInt8} {c : Int} {a : Nat} {s : List UInt8} (h0 : 0 ≤ c) (h : c.toNat < s.length) : wrOk ⟨b, false, c⟩ a s = (⟨splice b a (s.take c.toNat), true, 0⟩, some 6) := by
  have hk : kM ⟨b, false, c⟩ s.length = c.toNat := by
    unfold kM; rw [if_neg (by simp only; omega)]; simp only; omega
  simp only [wrOk, hk]
  rw [if_neg (by omega), if_pos h]
  simp [h]
  omega
theorem read_C {b : List UInt8} {c a : Int} {n : Int} (h0 : 0 ≤ a) (h2 : 0 ≤ n) (h1 : a + n ≤ b.length) : readM ⟨b, false, c⟩ a n = ((b.drop a.toNat).take n.toNat, none) := by
  unfold readM lookM
  simp only [Bool.false_eq_true, if_false]
  rw [if_neg (by omega)]
/-- the outcome of an entry's write at a slot -/
def JW (b : List UInt8) (Pr R : List UInt8) (e : Ent) (r : Pl × Option Nat) : Prop :=
  (r.2 = none ∧ r.1.off = false ∧ r.1.b = Pr ++ (bodyM e ++ commitB) ++ R ∧ -1 ≤ r.1.cut) ∨
  (r.2 = some 6 ∧ r.1.off = true ∧ r.1.cut = 0 ∧ (r.1.b = b ∨ ∃ X, X.length = 17 ∧ r.1.b = Pr ++ (X ++ [0]) ++ R))
theorem jw_cut {b : List UInt8} {ct : Int} {d : Nat} {e : Ent} (hct : -1 ≤ ct) (hl : 216 ≤ b.length) (hd : d < 6) (he : 0 ≤ e.n) : ∃ Pr S c R, b = Pr ++ (S ++ [c]) ++ R ∧ Pr.length = (2 * d + (e.n % 2).toNat) * 18 ∧ S.length = 17 ∧
    JW b Pr R e (jwM ⟨b, false, ct⟩ d e) := by
  have hk : 0 ≤ e.n % 2 ∧ e.n % 2 < 2 := by omega
  obtain ⟨Pr, S, c, R, hb, hP, hS⟩ := cut_slot b (2 * d + (e.n % 2).toNat) (by omega)
  refine ⟨Pr, S, c, R, hb, hP, hS, ?_⟩
  have hlen : b.length = (2 * d + (e.n % 2).toNat) * 18 + 18 + R.length := by rw [hb]; simp [hP, hS]; omega
  have ha : jAt d e = ((Pr.length : Nat) : Int) := by unfold jAt; omega
  have lb := bodyM_len e
  have r1 : readM ⟨b, false, ct⟩ (jAt d e + 18 - 1) 1 = ([c], none) := by
    rw [read_C (by omega) (by omega) (by omega)]
    have e1 : (jAt (d : Int) e + 18 - 1).toNat = (Pr ++ S).length := by simp [hS]; omega
    rw [e1, hb, ← List.append_assoc, List.append_assoc (Pr ++ S), List.drop_left' rfl]
    rfl
  have w1 : (∃ c1, -1 ≤ c1 ∧ jw1 ⟨b, false, ct⟩ d e = (⟨Pr ++ (S ++ [0]) ++ R, false, c1⟩, none)) ∨ jw1 ⟨b, false, ct⟩ d e = (⟨b, true, 0⟩, some 6) := by
    unfold jw1
    rw [r1]
    simp only
    split
    · rename_i h
      refine .inl ⟨ct, hct, ?_⟩
      rw [hb, show c = 0 by simpa using h]
    · have hz : Pr ++ (S ++ [c]) ++ R = (Pr ++ S) ++ [c] ++ R := by simp
      rw [writeC (by omega) (by simp; omega)]
      by_cases hc : ct = -1 ∨ 1 ≤ ct.toNat
      · refine .inl ⟨cutBy ct 1, by unfold cutBy; split <;> omega, ?_⟩
        rw [wrOk_all (by simpa using hc), hb, hz, splice_at (S := [c]) (X := [0]) (by simp [hS]; omega) rfl]
        simp
      · refine .inr ?_
        rw [wrOk_part (by omega) (by simp; omega), show ct.toNat = 0 by omega]
        simp [splice_nil]
  unfold JW jwM jw2
  rcases w1 with ⟨c1, hc1, w1⟩ | w1
  · rw [w1]
    simp only
    have hl1 : (Pr ++ (S ++ [0]) ++ R).length = b.length := by rw [hb]; simp
    have hz : Pr ++ (S ++ [0]) ++ R = Pr ++ S ++ ([0] ++ R) := by simp
    rw [writeC (by omega) (by rw [hl1]; omega)]
    by_cases hc : c1 = -1 ∨ 17 ≤ c1.toNat
    · rw [wrOk_all (by rw [lb]; exact hc), hz, splice_at (by omega) (by omega)]
      simp only
      have hl2 : (Pr ++ bodyM e ++ ([0] ++ R)).length = b.length := by rw [hb]; simp [lb, hS]
      have hz2 : Pr ++ bodyM e ++ ([0] ++ R) = (Pr ++ bodyM e) ++ [0] ++ R := by simp
      have hc2 : -1 ≤ cutBy c1 17 := by unfold cutBy; split <;> omega
      rw [lb, writeC (by omega) (by rw [hl2]; simp [commitB]; omega)]
      by_cases hc3 : cutBy c1 17 = -1 ∨ 1 ≤ (cutBy c1 17).toNat
      · left
        rw [wrOk_all (by simpa [commitB] using hc3), hz2, splice_at (S := [0]) (X := commitB) (by simp [lb]; omega) rfl]
        refine ⟨rfl, rfl, by simp, ?_⟩
        show -1 ≤ cutBy (cutBy c1 17) 1
        generalize cutBy c1 17 = q at *
        unfold cutBy; split <;> omega
      · right
        rw [wrOk_part (by omega) (by simp [commitB]; omega), show (cutBy c1 17).toNat = 0 by omega]
        refine ⟨rfl, rfl, rfl, .inr ⟨bodyM e, lb, ?_⟩⟩
        simp [splice_nil]
    · right
      rw [wrOk_part (by omega) (by omega), hz]
      refine ⟨rfl, rfl, rfl, .inr ⟨(bodyM e).take c1.toNat ++ S.drop c1.toNat, by simp [lb, hS]; omega, ?_⟩⟩
      have hS2 : S = S.take c1.toNat ++ S.drop c1.toNat := (List.take_append_drop _ _).symm
      have : Pr ++ S ++ ([0] ++ R) = Pr ++ S.take c1.toNat ++ (S.drop c1.toNat ++ ([0] ++ R)) := by
        rw [← List.append_assoc (Pr ++ S.take c1.toNat), List.append_assoc Pr (S.take c1.toNat), ← hS2]
      show splice (Pr ++ S ++ ([0] ++ R)) _ _ = _
      rw [this, splice_at (by omega) (by simp [lb, hS])]
      simp
  · right
    rw [w1]
    exact ⟨rfl, rfl, rfl, .inl rfl⟩
theorem held_zero {k : Int} {X : List UInt8} : heldM k (X ++ [0]) = zeroE := by
  rw [heldM_eq]
  split
  · rfl
  · rename_i h
    exfalso
    apply h
    right; right
    intro e
    have := congrArg List.getLast? e
    simp [commitB] at this
theorem held_par {k : Int} {s : List UInt8} (h : (heldM k s).n ≠ 0) : (heldM k s).n % 2 = k := by
  rw [heldM_eq] at *
  split at h
  · exact absurd rfl h
  · rename_i hc
    rw [if_neg hc]
    by_cases e : (parse s).n % 2 = k
    · exact e
    · exact absurd (.inr (.inl e)) hc
/-- a slot that held no newest entry is lost: nothing is -/
theorem deal_zap {b b' : List UInt8} {d : Nat} (hl : 216 ≤ b.length) (hd : d < 6) {Pr S R X : List UInt8} {st : Int} (hst : st = ((dealM b d).n + 1) % 2) (hb : b = Pr ++ S ++ R) (hb' : b' = Pr ++ (X ++ [0]) ++ R) (hP : Pr.length = (2 * d + st.toNat) * 18) (hS : S.length = 18) (hX : X.length = 17) :
    openM b' = openM b := by
  have hX' : (X ++ [0]).length = 18 := by simp [hX]
  have hk : st = 0 ∨ st = 1 := by omega
  have here : slot b' (2 * d + st.toNat) = X ++ [0] := by rw [hb']; exact slot_here _ _ _ _ hP hX'
  have els : ∀ i, i ≠ 2 * d + st.toNat → slot b' i = slot b i := fun i hi => by rw [hb, hb']; exact slot_else _ _ _ _ _ _ hP hX' hS hi
  have q1 : dealM b d = updE (updE zeroE (heldM 0 (slot b (2 * d + 0)))) (heldM 1 (slot b (2 * d + 1))) := rfl
  have q2 : dealM b' d = updE (updE zeroE (heldM 0 (slot b' (2 * d + 0)))) (heldM 1 (slot b' (2 * d + 1))) := rfl
  have m1 : (dealM b d).n = max (max 0 (heldM 0 (slot b (2 * d + 0))).n) (heldM 1 (slot b (2 * d + 1))).n := by rw [q1, updE_n, updE_n]; rfl
  have l0 := slot_len b (2 * d + 0) (by omega) hl
  have l1 := slot_len b (2 * d + 1) (by omega) hl
  have n0 := heldM_n 0 (slot b (2 * d + 0)) (by omega)
  have n1 := heldM_n 1 (slot b (2 * d + 1)) (by omega)
  have p0 := held_par (k := 0) (s := slot b (2 * d + 0))
  have p1 := held_par (k := 1) (s := slot b (2 * d + 1))
  have hz : ∀ e : Ent, e.n = 0 → updE zeroE e = zeroE := fun e h => by unfold updE; rw [if_neg (by show ¬ (0 : Int) < e.n; omega)]
  have hd2 : dealM b' d = dealM b d := by
    rcases hk with rfl | rfl
    · rw [q2, show slot b' (2 * d + 0) = X ++ [0] from here, held_zero, els (2 * d + 1) (by simp), q1]
      generalize heldM 0 (slot b (2 * d + 0)) = u at *
      generalize heldM 1 (slot b (2 * d + 1)) = v at *
      have hzz : updE zeroE zeroE = zeroE := by unfold updE; rw [if_neg (by show ¬ (0 : Int) < 0; omega)]
      rw [hzz]
      have hun : (updE zeroE u).n = max 0 u.n := by rw [updE_n]; rfl
      generalize hw : updE zeroE u = w at *
      have hlt : w.n < v.n := by
        by_cases hu0 : u.n = 0
        · omega
        · have := p0 hu0
          omega
      unfold updE
      rw [if_pos (by show (0 : Int) < v.n; omega), if_pos hlt]
    · rw [q2, show slot b' (2 * d + 1) = X ++ [0] from here, held_zero, els (2 * d + 0) (by simp), q1]
      generalize heldM 0 (slot b (2 * d + 0)) = u at *
      generalize heldM 1 (slot b (2 * d + 1)) = v at *
      have hun : (updE zeroE u).n = max 0 u.n := by rw [updE_n]; rfl
      generalize updE zeroE u = w at *
      have hle : v.n ≤ w.n := by
        by_cases hv0 : v.n = 0
        · omega
        · have := p1 hv0
          omega
      unfold updE
      rw [if_neg (by show ¬ w.n < (0 : Int); omega), if_neg (by omega)]
  have hdo : ∀ i, i ≠ d → dealM b' i = dealM b i := fun i hi => by
    unfold dealM partE partE partE
    rw [els (2 * i + 0) (by omega), els (2 * i + 1) (by omega)]
  unfold openM
  apply List.map_congr_left
  intro i hi
  by_cases e : i = d
  · subst e; exact hd2
  · exact hdo i e
/-- a plate and its journal: both alive, or neither -/
structure JI (m : Pl) (j : Jn) : Prop where
  lo : 216 ≤ m.b.length
  hi : m.b.length ≤ 1000000
  c0 : -1 ≤ m.cut
  c1 : m.cut ≤ 9223372036854775807
  off : j.dead = m.off
  l : j.l = openM m.b
theorem JI.pl {m : Pl} {j : Jn} (h : JI m j) : PlOk m := ⟨h.hi, h.c0, h.c1⟩
theorem JI.jn {m : Pl} {j : Jn} (h : JI m j) : JnOk j := by
  have := open_ok h.lo
  exact ⟨by rw [h.l]; exact this.len, by rw [h.l]; exact this.n0, by rw [h.l]; exact this.n1⟩
/-- any Put at all -/
theorem put_any {m : Pl} {j : Jn} (h : JI m j) (deal : Int) (s : St) : JI (putM m j deal s).1 (putM m j deal s).2.1 ∧ (putM m j deal s).1.b.length = m.b.length ∧
    (((putM m j deal s).2.1.l = j.l ∧ (((putM m j deal s).2.2 = some 6 ∧ (putM m j deal s).1.off = true) ∨ (putM m j deal s).2.2 = some 2 ∧ badPut deal s ∨ (putM m j deal s).2.2 = some 5 ∧ 4294967296 ≤ (j.l.getD deal.toNat zeroE).n + 1)) ∨
     (¬ badPut deal s ∧ (putM m j deal s).2.2 = none ∧ m.off = false ∧ (putM m j deal s).1.off = false ∧ (((j.l.getD deal.toNat zeroE).s = s ∧ (putM m j deal s).2.1.l = j.l ∧ (putM m j deal s).1 = m) ∨
        (j.l.getD deal.toNat zeroE).s ≠ s ∧ (putM m j deal s).2.1.l = j.l.set deal.toNat ⟨(j.l.getD deal.toNat zeroE).n + 1, s⟩))) := by
  obtain ⟨b, off, cut⟩ := m
  obtain ⟨jl, dead⟩ := j
  have hJ := h
  obtain ⟨h1, h2, h3, h4, h5, h6⟩ := h
  simp only at h1 h2 h3 h4 h5 h6
  subst h5; subst h6
  unfold putM
  by_cases hdd : dead = true
  · subst hdd
    simp only [if_true]
    exact ⟨hJ, by trivial, .inl ⟨by trivial, .inl ⟨by trivial, by trivial⟩⟩⟩
  have hdd' : dead = false := by simpa using hdd
  subst hdd'
  simp only [Bool.false_eq_true, if_false]
  by_cases hb : badPut deal s
  · rw [if_pos hb]
    exact ⟨hJ, by trivial, .inl ⟨by trivial, .inr (.inl ⟨by trivial, hb⟩)⟩⟩
  rw [if_neg hb]
  have hb2 := hb
  unfold badPut at hb2
  obtain ⟨d, rfl⟩ := Int.eq_ofNat_of_zero_le (show 0 ≤ deal by omega)
  have hd : d < 6 := by omega
  simp only [Int.toNat_natCast, openM_get hd]
  by_cases he : (dealM b d).s = s
  · rw [if_pos he]
    exact ⟨hJ, rfl, .inr ⟨hb, by trivial, by trivial, by trivial, .inl ⟨he, by trivial, by trivial⟩⟩⟩
  rw [if_neg he]
  by_cases hf : 4294967296 ≤ (dealM b d).n + 1
  · rw [if_pos hf]
    exact ⟨hJ, rfl, .inl ⟨rfl, .inr (.inr ⟨by trivial, hf⟩)⟩⟩
  rw [if_neg hf]
  have hn := part1_n hd h1 2 (by omega)
  have hn' : 0 ≤ (dealM b d).n ∧ (dealM b d).n < 4294967296 := hn
  obtain ⟨Pr, S, c, R, e1, e2, e3, hjw⟩ := jw_cut (b := b) (d := d) (ct := cut) (e := ⟨(dealM b d).n + 1, s⟩) h3 h1 hd (by simp only; omega)
  have hpl := jwM_ok hJ.pl d ⟨(dealM b d).n + 1, s⟩
  generalize jwM ⟨b, false, cut⟩ d ⟨(dealM b d).n + 1, s⟩ = r at *
  obtain ⟨⟨b', off', cut'⟩, er⟩ := r
  simp only [JW] at hjw
  rcases hjw with ⟨rfl, rfl, rfl, hc⟩ | ⟨rfl, rfl, rfl, hc⟩
  · have hok : EntOk ⟨(dealM b d).n + 1, s⟩ := ⟨by simp only; omega, by simp only; omega, by simp only; omega, by simp only; omega, by simp only; omega, by simp only; omega, by simp only; omega, by simp only; omega⟩
    have hnew := deal_new (b' := Pr ++ (bodyM ⟨(dealM b d).n + 1, s⟩ ++ commitB) ++ R) h1 hd hok rfl e1 rfl e2 (by simp [e3])
    have hL : (Pr ++ (bodyM ⟨(dealM b d).n + 1, s⟩ ++ commitB) ++ R).length = b.length := by rw [e1]; simp [bodyM_len, commitB, e3]
    refine ⟨⟨by rw [hL]; exact h1, by rw [hL]; exact h2, hc, hpl.hi, rfl, hnew.symm⟩, hL, .inr ⟨hb, by trivial, by trivial, by trivial, .inr ⟨he, by trivial⟩⟩⟩
  · have hopen : openM b' = openM b := by
      rcases hc with hc | ⟨X, hX, hc⟩
      · rw [hc]
      · exact deal_zap h1 hd rfl e1 hc e2 (by simp [e3]) hX
    have hL : b'.length = b.length := by
      rcases hc with hc | ⟨X, hX, hc⟩
      · rw [hc]
      · rw [hc, e1]; simp [hX, e3]
    refine ⟨⟨by rw [hL]; exact h1, by rw [hL]; exact h2, by simp, by simp, rfl, hopen.symm⟩, hL, .inl ⟨by trivial, .inl ⟨by trivial, by trivial⟩⟩⟩
/-- power is cut later; power comes again, and the journal is opened anew -/
theorem JI.cut {m : Pl} {j : Jn} (h : JI m j) {n : Int} (h0 : 0 ≤ n) (h1 : n ≤ 9223372036854775807) : JI { m with cut := n } j := ⟨h.lo, h.hi, by simp only; omega, h1, h.off, h.l⟩
theorem JI.boot {m : Pl} {j : Jn} (h : JI m j) : JI { m with off := false, cut := -1 } ⟨openM m.b, false⟩ := ⟨h.lo, h.hi, by simp, by simp, rfl, rfl⟩
end Go.HL
