/- Chapter 7: LeadDecides, the plain law. No program in sight. Conditions: none. -/
import Derived.Test.YtkookaogdkdegaaDoorLdE
namespace Go.HL
open Go Go.Proofs
set_option linter.unusedVariables false
set_option linter.unusedSimpArgs false
def acksN (m : Ld) (acks : Nat) (f : Fr) : Nat := if f.kd = 6 ∧ f.yes = true ∧ m.state = sPrep ∧ acks / 2 ^ f.fr.toNat % 2 ≠ 1 then acks + 2 ^ f.fr.toNat else acks
def noN (no : Bool) (f : Fr) : Bool := if f.kd = 2 ∧ f.yes = false then true else no
def finN (fin : Int) (f : Fr) : Int := if f.kd = 4 ∧ f.yes = true ∧ (f.s.ph = 2 ∨ f.s.ph = 3) then f.s.ph else fin
/-- what the law knows of a lead -/
structure DI (w : List Int) (att : Int) (m : Ld) (acks : Nat) (no : Bool) (fin ph : Int) : Prop where
  is : LdIs w 0 0 att m
  ak : acks < 2 ^ w.length
  cs : (m.wait = 0) ∨ (m.wait = 2 ∧ att = 0 ∧ ph = 0 ∧ m.state = sAsking ∧ acks = 0) ∨
    (m.wait = 4 ∧ att ≠ 0 ∧ ph = 0 ∧ m.state = sAsking ∧ acks = 0 ∧ 0 ≤ fin ∧ ∀ s ∈ statesM m, s.ph = 2 ∨ s.ph = 3 → 0 < fin) ∨
    (m.wait = 6 ∧ ph = m.phase ∧ (ph = 4 ∨ ph = 5) ∧ m.state = sPrep ∧ acks = m.heard)
theorem allM_cons {m : Ld} (k p : Int) (hk : k ≠ 3) (h1 : 1 ≤ m.w.length) : ∃ r, allM m k p = ⟨m.id, 0, m.deal, k, m.att, false, ⟨p, 0, 0⟩⟩ :: r := by
  unfold allM
  obtain ⟨n, hn⟩ : ∃ n, m.w.length = n + 1 := ⟨m.w.length - 1, by omega⟩
  rw [hn, List.range_succ_eq_map, List.flatMap_cons, show allF m k p 0 = [⟨m.id, 0, m.deal, k, m.att, false, ⟨p, 0, 0⟩⟩] from if_pos (.inl hk)]
  exact ⟨_, rfl⟩
theorem or_add {a k : Nat} (h : a / 2 ^ k % 2 ≠ 1) : a ||| 2 ^ k = a + 2 ^ k := by
  have hp := Nat.two_pow_pos k
  have e0 : 2 ^ k * (a / 2 ^ k) + a % 2 ^ k = a := Nat.div_add_mod a (2 ^ k)
  have hr : a % 2 ^ k < 2 ^ k := Nat.mod_lt _ hp
  generalize a / 2 ^ k = q at *
  generalize a % 2 ^ k = r at *
  have e1 := Nat.two_pow_add_eq_or_of_lt hr q
  have e2 := Nat.two_pow_add_eq_or_of_lt hr (q + 1)
  have e3 : q ||| 1 = q + 1 := by
    have := Nat.two_pow_add_eq_or_of_lt (b := 1) (i := 1) (by decide) (q / 2)
    rw [show 2 ^ 1 * (q / 2) = q by omega] at this
    exact this.symm
  have e4 : 2 ^ k * q ||| 2 ^ k = 2 ^ k * (q + 1) := by
    have := Nat.shiftLeft_or_distrib (a := q) (b := 1) (i := k)
    simp only [Nat.shiftLeft_eq, Nat.one_mul, e3] at this
    rw [Nat.mul_comm (2 ^ k) q, Nat.mul_comm (2 ^ k) (q + 1)]
    exact this.symm
  rw [← e0, e1, Nat.or_assoc, Nat.or_comm r, ← Nat.or_assoc, e4, ← e2, ← e1, Nat.mul_add, Nat.mul_one]
  omega
/-- how a frame leaves it -/
def DStep (w : List Int) (att : Int) (r : Ld × List Fr) (acks : Nat) (no : Bool) (fin ph : Int) : Prop :=
  (r.2 = [] ∧ DI w att r.1 acks no fin ph) ∨
  ∃ x l, r.2 = x :: l ∧ ((x.kd = 5 ∧ DI w att r.1 acks no fin x.s.ph) ∨
    (x.kd = 7 ∧ r.1.state = sDone ∧ (0 < ph → x.s.ph = afterS ph ∧ quor w acks = true) ∧ (ph = 0 → att = 0 → no = true ∧ x.s.ph = 3) ∧ (ph = 0 → att ≠ 0 → 0 < fin ∧ (x.s.ph = 2 ∨ x.s.ph = 3))) )
theorem acks_lt {w : List Int} {m : Ld} {acks : Nat} {f : Fr} (h : acks < 2 ^ w.length) (h0 : 0 ≤ f.fr) (h1 : f.fr < w.length) : acksN m acks f < 2 ^ w.length := by
  unfold acksN
  split
  · rename_i hc
    rw [← or_add hc.2.2.2]
    exact heard_lt h (by omega)
  · exact h
theorem stOf_mem {m : Ld} {s : St} : s ∈ statesM m ↔ ∃ i, i < m.w.length ∧ m.heard / 2 ^ i % 2 = 1 ∧ s = m.told.getD i zeroS := by
  unfold statesM stOf
  simp only [List.mem_flatMap, List.mem_range]
  constructor
  · rintro ⟨i, hi, h⟩
    split at h
    · simp at h; exact ⟨i, hi, by assumption, h⟩
    · cases h
  · rintro ⟨i, hi, hb, rfl⟩
    exact ⟨i, hi, by rw [if_pos hb]; simp⟩
theorem or_bit {a k i : Nat} (h : (a ||| 2 ^ k) / 2 ^ i % 2 = 1) : i = k ∨ a / 2 ^ i % 2 = 1 := by
  have h1 : (a ||| 2 ^ k).testBit i = true := by rw [Nat.testBit_eq_decide_div_mod_eq]; exact decide_eq_true h
  rw [Nat.testBit_or, Bool.or_eq_true, Nat.testBit_two_pow] at h1
  rcases h1 with h1 | h1
  · right
    rw [Nat.testBit_eq_decide_div_mod_eq] at h1
    exact of_decide_eq_true h1
  · left
    exact (of_decide_eq_true h1).symm
theorem choose_fin {xs : List St} (h : (chooseS xs).2 = true) : ((chooseS xs).1 = 2 ∨ (chooseS xs).1 = 3) ∧ ∃ s ∈ xs, s.ph = 2 ∨ s.ph = 3 := by
  unfold chooseS at *
  have key : ∀ p, toldS xs p = true → ∃ s ∈ xs, s.ph = p := fun p hp => by
    simp only [toldS, List.any_eq_true, decide_eq_true_eq] at hp
    exact hp
  split at h
  · rename_i h2
    rw [if_pos h2]
    obtain ⟨s, hs, e⟩ := key 2 h2
    exact ⟨.inl rfl, s, hs, .inl e⟩
  · rename_i h2
    rw [if_neg h2]
    split at h
    · rename_i h3
      rw [if_pos h3]
      obtain ⟨s, hs, e⟩ := key 3 h3
      exact ⟨.inr rfl, s, hs, .inr e⟩
    · split at h <;> cases h
theorem choose_pre {xs : List St} (h : (chooseS xs).2 = false) : (chooseS xs).1 = 4 ∨ (chooseS xs).1 = 5 := by
  unfold chooseS at *
  repeat' split at h
  all_goals first | cases h | skip
  · rename_i h2 h3 h4
    rw [if_neg h2, if_neg h3, if_pos h4]; exact .inl rfl
  · rename_i h2 h3 h4
    rw [if_neg h2, if_neg h3, if_neg h4]; exact .inr rfl
section d
variable {w : List Int} {att : Int} {m : Ld} {acks : Nat} {no : Bool} {fin ph : Int} {f : Fr}
/-- one frame -/
theorem d_step (hc : checkW w = none) (hI : DI w att m acks no fin ph) (h0 : 0 ≤ f.fr) (h1 : f.fr < w.length) (hat : f.att = att) (hto : f.to = 0) (hdl : f.dl = 0) :
    DStep w att (hearM m f) (acksN m acks f) (noN no f) (finN fin f) ph := by
  obtain ⟨c1, c2, c3, c4⟩ := check_none hc
  have hak := acks_lt (m := m) hI.ak h0 h1
  have his := hI.is
  have hwl : m.w.length = w.length := by rw [his.hw]
  have hnil : m.wait = 0 → hearM m f = (m, []) := fun h => hear_wait (.inl h)
  have hne : f.kd ≠ m.wait → hearM m f = (m, []) := fun h => hear_wait (.inr (fun h2 => h h2.1))
  have hbit : m.heard / 2 ^ f.fr.toNat % 2 = 1 → hearM m f = (m, []) := fun h => hear_wait (.inr (fun h2 => by have := h2.2.2.2.2.2.2; omega))
  have hfit : m.heard / 2 ^ f.fr.toNat % 2 ≠ 1 → f.kd = m.wait → fitsM m f := fun h h2 => ⟨h2, by rw [hdl, his.hdl], by rw [hat, his.hat], by rw [hto, his.hid], h0, by rw [his.hw]; exact h1, by omega⟩
  rcases hI.cs with hw | ⟨hw, ha, hp, hs, hk⟩ | ⟨hw, ha, hp, hs, hk, hfin, hst⟩ | ⟨hw, hp, hp2, hs, hk⟩
  · -- nothing more
    rw [hnil hw]
    exact .inl ⟨rfl, his, hak, .inl hw⟩
  · -- asking for votes
    have eak : acksN m acks f = 0 := by
      unfold acksN; rw [if_neg (by rw [hs]; intro h; exact absurd h.2.2.1 (by decide))]; exact hk
    by_cases hk2 : f.kd = 2 ∧ m.heard / 2 ^ f.fr.toNat % 2 ≠ 1
    · have hft := hfit hk2.2 (by rw [hw]; exact hk2.1)
      have e1 : m1M m f = m := if_pos hk2.1
      by_cases hy : f.yes = true
      · have e : hearM m f = countM (m2M m f) := by unfold hearM; rw [if_neg (by simp [hw, hft]), if_neg (by simp [hy])]
        have hm2 := his.m2 f hft
        have hw2 : (m2M m f).wait = 2 := by show (m1M m f).wait = 2; rw [e1]; exact hw
        rw [e]
        unfold countM
        by_cases hfull : (m2M m f).heard = 2 ^ (m2M m f).w.length - 1
        · rw [if_pos ⟨hw2, hfull⟩]
          right
          obtain ⟨l, hl⟩ := allM_cons (m := prepM (m2M m f) 4) 5 4 (by decide) (by rw [(hm2.prep 4).hw]; omega)
          refine ⟨_, l, hl, .inl ⟨rfl, hm2.prep 4, hak, .inr (.inr (.inr ⟨rfl, rfl, .inl rfl, rfl, ?_⟩))⟩⟩
          rw [eak]; rfl
        · rw [if_neg (fun h => hfull h.2), if_pos (.inl hw2)]
          refine .inl ⟨rfl, hm2, hak, .inr (.inl ⟨hw2, ha, hp, ?_, eak⟩)⟩
          show (m1M m f).state = _
          rw [e1]; exact hs
      · have hy' : f.yes = false := by simpa using hy
        have e : hearM m f = noM m := by unfold hearM; rw [if_neg (by simp [hw, hft]), if_pos hy', e1]
        rw [e]
        unfold noM
        rw [if_pos hw]
        right
        obtain ⟨l, hl⟩ := allM_cons (m := doneM m) 7 3 (by decide) (by rw [his.done.hw]; omega)
        refine ⟨_, l, hl, .inr ⟨rfl, rfl, fun h => by omega, fun _ _ => ⟨?_, rfl⟩, fun _ h => absurd ha h⟩⟩
        unfold noN; rw [if_pos ⟨hk2.1, hy'⟩]
    · have e : hearM m f = (m, []) := by
        by_cases h2 : f.kd = 2
        · exact hbit (by
            by_cases h3 : m.heard / 2 ^ f.fr.toNat % 2 = 1
            · exact h3
            · exact absurd ⟨h2, h3⟩ hk2)
        · exact hne (by rw [hw]; exact h2)
      rw [e]
      exact .inl ⟨rfl, his, hak, .inr (.inl ⟨hw, ha, hp, hs, eak⟩)⟩
  · -- asking for states
    have eak : acksN m acks f = 0 := by
      unfold acksN; rw [if_neg (by rw [hs]; intro h; exact absurd h.2.2.1 (by decide))]; exact hk
    have hfin' : 0 ≤ finN fin f := by
      unfold finN; split
      · rename_i h; rcases h.2.2 with h | h <;> omega
      · exact hfin
    have hfmono : 0 < fin → 0 < finN fin f := fun h => by
      unfold finN; split
      · rename_i h; rcases h.2.2 with h | h <;> omega
      · exact h
    by_cases hk2 : f.kd = 4 ∧ m.heard / 2 ^ f.fr.toNat % 2 ≠ 1
    · have hft := hfit hk2.2 (by rw [hw]; exact hk2.1)
      have hk4 : ¬ f.kd = 2 := by rw [hk2.1]; decide
      have e1 : m1M m f = { m with seen := max m.seen f.s.pr } := if_neg hk4
      by_cases hy : f.yes = true
      · have e : hearM m f = countM (m2M m f) := by unfold hearM; rw [if_neg (by simp [hw, hft]), if_neg (by simp [hy])]
        have hm2 := his.m2 f hft
        have hw2 : (m2M m f).wait = 4 := by show (m1M m f).wait = 4; rw [e1]; exact hw
        have hst2 : (m2M m f).state = sAsking := by show (m1M m f).state = _; rw [e1]; exact hs
        have hstates : ∀ s ∈ statesM (m2M m f), s.ph = 2 ∨ s.ph = 3 → 0 < finN fin f := fun s hs' hp' => by
          obtain ⟨i, hi, hb, rfl⟩ := stOf_mem.1 hs'
          have hw9 : (m2M m f).w = m.w := by rw [hm2.hw, his.hw]
          rw [hw9] at hi
          have hb' : (m.heard ||| 2 ^ f.fr.toNat) / 2 ^ i % 2 = 1 := hb
          have etold : (m2M m f).told = m.told.set f.fr.toNat f.s := rfl
          rw [etold] at hp'
          by_cases hik : i = f.fr.toNat
          · subst hik
            have : (m.told.set f.fr.toNat f.s).getD f.fr.toNat zeroS = f.s := by
              have hlt : f.fr.toNat < m.told.length := by rw [his.htl]; omega
              simp [List.getD, hlt]
            rw [this] at hp'
            unfold finN
            rw [if_pos ⟨hk2.1, hy, hp'⟩]
            rcases hp' with h | h <;> omega
          · rcases or_bit hb' with h | h
            · exact absurd h hik
            · have : (m.told.set f.fr.toNat f.s).getD i zeroS = m.told.getD i zeroS := by
                simp [List.getD, List.getElem?_set, Ne.symm hik]
              rw [this] at hp'
              exact hfmono (hst _ (stOf_mem.2 ⟨i, hi, h, rfl⟩) hp')
        rw [e]
        unfold countM
        rw [if_neg (by rw [hw2]; intro h; exact absurd h.1 (by decide))]
        by_cases hen : (enoughW (m2M m f).w ((m2M m f).heard : Int)).1 = false
        · rw [if_pos (.inr hen)]
          exact .inl ⟨rfl, hm2, hak, .inr (.inr (.inl ⟨hw2, ha, hp, hst2, eak, hfin', hstates⟩))⟩
        · rw [if_neg (by rw [hw2]; intro h; rcases h with h | h; exact absurd h (by decide); exact hen h), if_neg (by rw [hw2]; decide)]
          by_cases hch : (chooseS (statesM (m2M m f))).2 = true
          · rw [if_pos hch]
            right
            obtain ⟨h23, s, hsm, hsp⟩ := choose_fin hch
            obtain ⟨l, hl⟩ := allM_cons (m := doneM (m2M m f)) 7 (chooseS (statesM (m2M m f))).1 (by decide) (by rw [hm2.done.hw]; omega)
            exact ⟨_, l, hl, .inr ⟨rfl, rfl, fun h => by omega, fun _ h => absurd h ha, fun _ _ => ⟨hstates s hsm hsp, h23⟩⟩⟩
          · rw [if_neg hch]
            right
            have h45 := choose_pre (by simpa using hch)
            obtain ⟨l, hl⟩ := allM_cons (m := prepM (m2M m f) (chooseS (statesM (m2M m f))).1) 5 (chooseS (statesM (m2M m f))).1 (by decide) (by rw [(hm2.prep _).hw]; omega)
            refine ⟨_, l, hl, .inl ⟨rfl, hm2.prep _, hak, .inr (.inr (.inr ⟨rfl, rfl, h45, rfl, ?_⟩))⟩⟩
            rw [eak]; rfl
      · have hy' : f.yes = false := by simpa using hy
        have e : hearM m f = noM (m1M m f) := by unfold hearM; rw [if_neg (by simp [hw, hft]), if_pos hy']
        rw [e]
        unfold noM
        have hw1 : (m1M m f).wait = 4 := by rw [e1]; exact hw
        rw [if_neg (by rw [hw1]; decide)]
        have h1' := his.m1 f
        exact .inl ⟨rfl, ⟨h1'.hid, h1'.hdl, h1'.hat, h1'.hw, h1'.htl, h1'.hhd⟩, hak, .inl rfl⟩
    · have e : hearM m f = (m, []) := by
        by_cases h2 : f.kd = 4
        · exact hbit (by
            by_cases h3 : m.heard / 2 ^ f.fr.toNat % 2 = 1
            · exact h3
            · exact absurd ⟨h2, h3⟩ hk2)
        · exact hne (by rw [hw]; exact h2)
      rw [e]
      exact .inl ⟨rfl, his, hak, .inr (.inr (.inl ⟨hw, ha, hp, hs, eak, hfin', fun s h h2 => hfmono (hst s h h2)⟩))⟩
  · -- preparing
    have hph0 : 0 < ph := by rcases hp2 with h | h <;> omega
    by_cases hk2 : f.kd = 6 ∧ m.heard / 2 ^ f.fr.toNat % 2 ≠ 1
    · have hft := hfit hk2.2 (by rw [hw]; exact hk2.1)
      have hk4 : ¬ f.kd = 2 := by rw [hk2.1]; decide
      have e1 : m1M m f = { m with seen := max m.seen f.s.pr } := if_neg hk4
      by_cases hy : f.yes = true
      · have e : hearM m f = countM (m2M m f) := by unfold hearM; rw [if_neg (by simp [hw, hft]), if_neg (by simp [hy])]
        have hm2 := his.m2 f hft
        have hw2 : (m2M m f).wait = 6 := by show (m1M m f).wait = 6; rw [e1]; exact hw
        have hst2 : (m2M m f).state = sPrep := by show (m1M m f).state = _; rw [e1]; exact hs
        have hph2 : (m2M m f).phase = m.phase := by show (m1M m f).phase = _; rw [e1]
        have eak : acksN m acks f = (m2M m f).heard := by
          unfold acksN
          rw [if_pos ⟨hk2.1, hy, hs, by rw [hk]; exact hk2.2⟩, hk]
          exact (or_add hk2.2).symm
        rw [e]
        unfold countM
        rw [if_neg (by rw [hw2]; intro h; exact absurd h.1 (by decide))]
        by_cases hen : (enoughW (m2M m f).w ((m2M m f).heard : Int)).1 = false
        · rw [if_pos (.inr hen)]
          exact .inl ⟨rfl, hm2, hak, .inr (.inr (.inr ⟨hw2, by rw [hph2]; exact hp, hp2, hst2, eak⟩))⟩
        · rw [if_neg (by rw [hw2]; intro h; rcases h with h | h; exact absurd h (by decide); exact hen h), if_pos hw2]
          right
          obtain ⟨l, hl⟩ := allM_cons (m := doneM (m2M m f)) 7 (afterS (m2M m f).phase) (by decide) (by rw [hm2.done.hw]; omega)
          refine ⟨_, l, hl, .inr ⟨rfl, rfl, fun _ => ⟨by rw [hph2, hp], ?_⟩, fun h => by omega, fun h => by omega⟩⟩
          rw [hm2.hw, en_ok hc hm2.hhd] at hen
          rw [eak]
          simpa using hen
      · have hy' : f.yes = false := by simpa using hy
        have e : hearM m f = noM (m1M m f) := by unfold hearM; rw [if_neg (by simp [hw, hft]), if_pos hy']
        rw [e]
        unfold noM
        have hw1 : (m1M m f).wait = 6 := by rw [e1]; exact hw
        rw [if_neg (by rw [hw1]; decide)]
        have h1' := his.m1 f
        exact .inl ⟨rfl, ⟨h1'.hid, h1'.hdl, h1'.hat, h1'.hw, h1'.htl, h1'.hhd⟩, hak, .inl rfl⟩
    · have eak : acksN m acks f = m.heard := by
        unfold acksN
        rw [if_neg (by intro h; exact hk2 ⟨h.1, by rw [← hk]; exact h.2.2.2⟩)]
        exact hk
      have e : hearM m f = (m, []) := by
        by_cases h2 : f.kd = 6
        · exact hbit (by
            by_cases h3 : m.heard / 2 ^ f.fr.toNat % 2 = 1
            · exact h3
            · exact absurd ⟨h2, h3⟩ hk2)
        · exact hne (by rw [hw]; exact h2)
      rw [e]
      exact .inl ⟨rfl, his, hak, .inr (.inr (.inr ⟨hw, hp, hp2, hs, eak⟩))⟩
end d
end Go.HL
