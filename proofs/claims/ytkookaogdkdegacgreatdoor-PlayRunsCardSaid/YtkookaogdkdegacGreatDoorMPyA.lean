/- Texts laid into one, without what the claim does not use. Conditions: none. -/
import Derived.Test.YtkookaogdkdegacGreatDoorMStF
/-! MwO -/
section
namespace Go.HL
open Go Go.Proofs
set_option linter.unusedVariables false
set_option linter.unusedSimpArgs false
set_option maxHeartbeats 2000000 attribute [local irreducible] HW HO HQ HD HC QOp Has Upd Zt Gets Yb Z6 Zr Xr Z4 Zm Xx Zy
attribute [local irreducible] Zo Zar Wt Xk Zw Zl5
theorem Zrq (D : RwG) (M : Wm) (v : Int) (L : Zb) (hRw : Rd ic 1 L D.aw M.w) (hD : RwOk D M) (hM : WI M) (hl : M.l.length ≤ 99998000) (hv : 0 ≤ v) (hv2 : v ≤ 9223372036854775807)
  (hnum : ∀ s, Zbm M s = none → ∀ k j ref, k < 6 → (Zd (X9 s M k).1 s).site = some (j, ref) → (j.l.getD k Zl).n + 1 < 4294967296) :
  HC Tryz.prog 107 [pt D.wp 0, iv v] (Xs D M ++ L) (fun u L' => u = iv (cdN (Qq M v).2) ∧ Zh9 D (Qq M v).1 L L') := by
 have hself := Vl hD L
 have hI := Zcz hD L
 obtain ⟨al, capl, hlv, hlr⟩ := hI.ls
 have hw := hI.wp
 unfold Vt at hw
 rw [hlv] at hw
 have k7 := fun k => Zhr D M k L hD (by omega)
 have k8 := fun k => Ze2 D M k L hD (by omega)
 have k9 := fun s d => Ze4 D M s d L hD hM (by omega)
 have k10 := fun s => Zc8 D M s L hRw hD hM (by omega) (hnum s)
 have k11 := fun s d => Zd9 D M s d L hD hM
 have k12 := fun a b w => Zg8 D M a b w L hD hM
 have k13 := fun s n => Zg0 D M s n L hD hM
 have k14 := fun s => Zhb D M s L hD hM
 have k15 := fun s => Zkl D M s L hD hM
 have k0 := fun k => Q7 D M k L hRw hD hM (by omega)
 generalize Xs D M ++ L = H at *
 unfold Qq
 have hq0 : 0 ≤ v / 16 := by omega
 have hr0 : 0 ≤ v % 16 ∧ v % 16 < 16 := by omega
 refine Za (fun _ _ => Tryz.call107 _ _) Tryz.func107 rfl Tryz.ntmps107 (Nat.le_of_ble_eq_true rfl) ?_; simp only [Zc, Nat.reduceAdd]
 repeat' (first | refine uN ?_ | (refine uP ?_ ?_ <;> (intro h; ((try simp only [zs, ne_eq, and_true, true_and, eq_self, reduceCtorEq] at h); try exact zx))) | fail)
 all_goals first | (rw [if_pos (show v % 16 < 9 ∧ M.l.length = 0 by omega)]; exact Vx rfl ⟨rfl, hself⟩) | (refine gc (k7 _) ?_; rintro u L' ⟨rfl, hP⟩; (repeat' (first | refine uN ?_ | (refine uP ?_ ?_ <;> (intro h; ((try simp only [zs, ne_eq, and_true, true_and, eq_self, reduceCtorEq] at h); try exact zx))) | fail)); rw [if_neg (show ¬ (v % 16 < 9 ∧ M.l.length = 0) by omega), if_pos (show v % 16 = 7 by omega)]; exact Vx rfl ⟨rfl, hP⟩) | (refine gc (k8 _) ?_; rintro u L' ⟨rfl, hP⟩; (repeat' (first | refine uN ?_ | (refine uP ?_ ?_ <;> (intro h; ((try simp only [zs, ne_eq, and_true, true_and, eq_self, reduceCtorEq] at h); try exact zx))) | fail)); rw [if_neg (show ¬ (v % 16 < 9 ∧ M.l.length = 0) by omega), if_neg (show ¬ v % 16 = 7 by omega), if_pos (show v % 16 = 8 by omega)]; exact Vx rfl ⟨rfl, hP⟩) | (refine gc (k9 _ _) ?_; rintro u L' ⟨rfl, hP⟩; (repeat' (first | refine uN ?_ | (refine uP ?_ ?_ <;> (intro h; ((try simp only [zs, ne_eq, and_true, true_and, eq_self, reduceCtorEq] at h); try exact zx))) | fail)); rw [if_neg (show ¬ (v % 16 < 9 ∧ M.l.length = 0) by omega), if_neg (show ¬ v % 16 = 7 by omega), if_neg (show ¬ v % 16 = 8 by omega), if_pos (show v % 16 = 9 by omega)]; exact Vx rfl ⟨rfl, hP⟩) | (refine gc (k10 _) ?_; rintro u L' ⟨rfl, hP⟩; (repeat' (first | refine uN ?_ | (refine uP ?_ ?_ <;> (intro h; ((try simp only [zs, ne_eq, and_true, true_and, eq_self, reduceCtorEq] at h); try exact zx))) | fail)); rw [if_neg (show ¬ (v % 16 < 9 ∧ M.l.length = 0) by omega), if_neg (show ¬ v % 16 = 7 by omega), if_neg (show ¬ v % 16 = 8 by omega), if_neg (show ¬ v % 16 = 9 by omega), if_pos (show v % 16 = 10 by omega)]; exact Vx rfl ⟨rfl, hP⟩) | (refine gc (k11 _ _) ?_; rintro u L' ⟨rfl, hP⟩; (repeat' (first | refine uN ?_ | (refine uP ?_ ?_ <;> (intro h; ((try simp only [zs, ne_eq, and_true, true_and, eq_self, reduceCtorEq] at h); try exact zx))) | fail)); rw [if_neg (show ¬ (v % 16 < 9 ∧ M.l.length = 0) by omega), if_neg (show ¬ v % 16 = 7 by omega), if_neg (show ¬ v % 16 = 8 by omega), if_neg (show ¬ v % 16 = 9 by omega), if_neg (show ¬ v % 16 = 10 by omega), if_pos (show v % 16 = 11 by omega)]; exact Vx rfl ⟨rfl, hP⟩) | (refine gc (k12 _ _ _) ?_; rintro u L' ⟨rfl, hP⟩; (repeat' (first | refine uN ?_ | (refine uP ?_ ?_ <;> (intro h; ((try simp only [zs, ne_eq, and_true, true_and, eq_self, reduceCtorEq] at h); try exact zx))) | fail)); rw [if_neg (show ¬ (v % 16 < 9 ∧ M.l.length = 0) by omega), if_neg (show ¬ v % 16 = 7 by omega), if_neg (show ¬ v % 16 = 8 by omega), if_neg (show ¬ v % 16 = 9 by omega), if_neg (show ¬ v % 16 = 10 by omega), if_neg (show ¬ v % 16 = 11 by omega), if_pos (show v % 16 = 12 by omega)]; exact Vx rfl ⟨rfl, hP⟩) | (refine gc (k13 _ _) ?_; rintro u L' ⟨rfl, hP⟩; (repeat' (first | refine uN ?_ | (refine uP ?_ ?_ <;> (intro h; ((try simp only [zs, ne_eq, and_true, true_and, eq_self, reduceCtorEq] at h); try exact zx))) | fail)); rw [if_neg (show ¬ (v % 16 < 9 ∧ M.l.length = 0) by omega), if_neg (show ¬ v % 16 = 7 by omega), if_neg (show ¬ v % 16 = 8 by omega), if_neg (show ¬ v % 16 = 9 by omega), if_neg (show ¬ v % 16 = 10 by omega), if_neg (show ¬ v % 16 = 11 by omega), if_neg (show ¬ v % 16 = 12 by omega), if_pos (show v % 16 = 13 by omega)]; exact Vx rfl ⟨rfl, hP⟩) | (refine gc (k14 _) ?_; rintro u L' ⟨rfl, hP⟩; (repeat' (first | refine uN ?_ | (refine uP ?_ ?_ <;> (intro h; ((try simp only [zs, ne_eq, and_true, true_and, eq_self, reduceCtorEq] at h); try exact zx))) | fail)); rw [if_neg (show ¬ (v % 16 < 9 ∧ M.l.length = 0) by omega), if_neg (show ¬ v % 16 = 7 by omega), if_neg (show ¬ v % 16 = 8 by omega), if_neg (show ¬ v % 16 = 9 by omega), if_neg (show ¬ v % 16 = 10 by omega), if_neg (show ¬ v % 16 = 11 by omega), if_neg (show ¬ v % 16 = 12 by omega), if_neg (show ¬ v % 16 = 13 by omega), if_pos (show v % 16 = 14 by omega)]; exact Vx rfl ⟨rfl, hP⟩) | (refine gc (k15 _) ?_; rintro u L' ⟨rfl, hP⟩; (repeat' (first | refine uN ?_ | (refine uP ?_ ?_ <;> (intro h; ((try simp only [zs, ne_eq, and_true, true_and, eq_self, reduceCtorEq] at h); try exact zx))) | fail)); rw [if_neg (show ¬ (v % 16 < 9 ∧ M.l.length = 0) by omega), if_neg (show ¬ v % 16 = 7 by omega), if_neg (show ¬ v % 16 = 8 by omega), if_neg (show ¬ v % 16 = 9 by omega), if_neg (show ¬ v % 16 = 10 by omega), if_neg (show ¬ v % 16 = 11 by omega), if_neg (show ¬ v % 16 = 12 by omega), if_neg (show ¬ v % 16 = 13 by omega), if_neg (show ¬ v % 16 = 14 by omega), if_pos (show v % 16 = 15 by omega)]; exact Vx rfl ⟨rfl, hP⟩) | (refine gc (k0 _) ?_; rintro u L' ⟨rfl, hP⟩; (repeat' (first | refine uN ?_ | (refine uP ?_ ?_ <;> (intro h; ((try simp only [zs, ne_eq, and_true, true_and, eq_self, reduceCtorEq] at h); try exact zx))) | fail)); rw [if_neg (show ¬ (v % 16 < 9 ∧ M.l.length = 0) by omega), if_neg (show ¬ v % 16 = 7 by omega), if_neg (show ¬ v % 16 = 8 by omega), if_neg (show ¬ v % 16 = 9 by omega), if_neg (show ¬ v % 16 = 10 by omega), if_neg (show ¬ v % 16 = 11 by omega), if_neg (show ¬ v % 16 = 12 by omega), if_neg (show ¬ v % 16 = 13 by omega), if_neg (show ¬ v % 16 = 14 by omega), if_neg (show ¬ v % 16 = 15 by omega)]; exact Vx rfl ⟨rfl, hP⟩)
theorem Zp1 (D : RwG) (M : Wm) (v : Int) (H : Zb) (hv : v < 0) : HC Tryz.prog 107 [pt D.wp 0, iv v] H (fun u L' => u = iv (-1) ∧ L' = H) := by
 refine Za (fun _ _ => Tryz.call107 _ _) Tryz.func107 rfl Tryz.ntmps107 (Nat.le_of_ble_eq_true rfl) ?_; simp only [Zc, Nat.reduceAdd]
 repeat' (first | refine uN ?_ | (refine uP ?_ ?_ <;> (intro h; ((try simp only [zs, ne_eq, and_true, true_and, eq_self, reduceCtorEq] at h); try exact zx))) | fail)
 exact Vx rfl ⟨rfl, rfl⟩
end Go.HL
end

/-! MwP -/
section
namespace Go.HL
open Go Go.Proofs
set_option linter.unusedVariables false
set_option linter.unusedSimpArgs false
theorem one_act (M : Wm) (v : Int) : (Qq M v).1 = M ∨ ∃ x, (Qq M v).1 = (Zdu M x).1 := by
 unfold Qq
 by_cases h0 : v % 16 < 9 ∧ M.l.length = 0
 ·rw [if_pos h0]; exact .inl rfl
 rw [if_neg h0]
 right
 by_cases h1 : v % 16 = 7
 ·rw [if_pos h1]; exact ⟨⟨[100, 114, 111, 112], 0, 0, v / 16 % M.l.length⟩, rfl⟩
 rw [if_neg h1]
 by_cases h2 : v % 16 = 8
 ·rw [if_pos h2]; exact ⟨⟨[116, 119, 105, 99, 101], 0, 0, v / 16 % M.l.length⟩, rfl⟩
 rw [if_neg h2]
 by_cases h3 : v % 16 = 9
 ·rw [if_pos h3]; exact ⟨⟨[98, 101, 103, 105, 110], v / 16 % 7, v / 16 / 7 % 6, 0⟩, rfl⟩
 rw [if_neg h3]
 by_cases h4 : v % 16 = 10
 ·rw [if_pos h4]; exact ⟨⟨[116, 105, 99, 107], v / 16 % 7, 0, 0⟩, rfl⟩
 rw [if_neg h4]
 by_cases h5 : v % 16 = 11
 ·rw [if_pos h5]; exact ⟨⟨[114, 101, 102, 117, 115, 101], v / 16 % 7, v / 16 / 7 % 6, 0⟩, rfl⟩
 rw [if_neg h5]
 by_cases h6 : v % 16 = 12
 ·rw [if_pos h6]
  cases hb : decide (v / 16 % 2 = 0) with
  | true => exact ⟨⟨[108, 105, 110, 107], v / 16 % 7, v / 16 / 7 % 6, 0⟩, rfl⟩
  | false => exact ⟨⟨[98, 114, 101, 97, 107], v / 16 % 7, v / 16 / 7 % 6, 0⟩, rfl⟩
 rw [if_neg h6]
 by_cases h7 : v % 16 = 13
 ·rw [if_pos h7]; exact ⟨⟨[99, 117, 116], v / 16 % 7, 0, v / 16 % 40⟩, rfl⟩
 rw [if_neg h7]
 by_cases h8 : v % 16 = 14
 ·rw [if_pos h8]; exact ⟨⟨[100, 111, 119, 110], v / 16 % 7, 0, 0⟩, rfl⟩
 rw [if_neg h8]
 by_cases h9 : v % 16 = 15
 ·rw [if_pos h9]; exact ⟨⟨[117, 112], v / 16 % 7, 0, 0⟩, rfl⟩
 rw [if_neg h9]
 exact ⟨⟨[], 0, 0, v / 16 % M.l.length⟩, rfl⟩
theorem Bnd.one {M : Wm} {P N : Int} (h : Bnd M P N) (hI : WI M) (v : Int) : Bnd (Qq M v).1 (P + 42) (N + 6) := by
 rcases one_act M v with e | ⟨x, e⟩
 ·rw [e]; exact h.mono (by omega) (by omega)
 ·rw [e]; exact h.act hI x
theorem Zkk {M : Wm} {P N : Int} (h : Bnd M P N) (hI : WI M) (l : List Int) : ∀ i : Nat, i ≤ l.length → Bnd ((l.take i).foldl U9 (M, [])).1 (P + 42 * i) (N + 6 * i)
 | 0, _ => h.mono (by omega) (by omega)
 | i + 1, hi => by
  have hs := Zav M l i (by omega)
  have ih := Zkk h hI l i (by omega)
  have hw := (Zff (l.take i) (M := M) (q := (M, [])) (k := 0) (.refl hI 0)).1.wi
  rw [hs]
  unfold U9
  split
  ·exact (ih.one hw _).mono (by push_cast; omega) (by push_cast; omega)
  ·exact ih.mono (by push_cast; omega) (by push_cast; omega)
set_option maxHeartbeats 2000000 attribute [local irreducible] HW HO HQ HD HC QOp Has Upd Zt Gets Yb Z6 Zr Xr Z4 Zm Xx Zy
attribute [local irreducible] Qq
theorem Zr9 (D : RwG) (M : Wm) (a : Option Addr) (cap : Nat) (l : List Int) (L : Zb) (hRw : Rd ic 1 L D.aw M.w) (hD : RwOk D M) (hM : WI M) {P N : Int} (hB : Bnd M P N) (hN : N + 6 * l.length + 8 < 4294967296) (hl : M.l.length + 84 * l.length ≤ 99998000) (hl3 : l.length ≤ 3000) (hR : Rd ic 1 L a l) (hd : ∀ v ∈ l, v ≤ 9223372036854775807) :
  HC Tryz.prog 50 [pt D.wp 0, .slice a l.length cap] (Xs D M ++ L) (fun v L' => ∃ c, Vec 3 1 ic v (Va M l).2 c ∧ Zh9 D (Va M l).1 (c :: L) L') := by
 have hfin : (l.take l.length).foldl U9 (M, []) = Va M l := by unfold Va; rw [List.take_length, List.take_of_length_le hl3]
 have hok := fun i => Zff (l.take i) (M := M) (q := (M, [])) (k := 0) (.refl hM 0)
 have hbn := Zkk hB hM l
 have hsucc := Zav M l
 refine Za (fun _ _ => Tryz.call50 _ _) Tryz.func50 rfl Tryz.ntmps50 (Nat.le_of_ble_eq_true rfl) ?_; simp only [Zc, Nat.reduceAdd]
 repeat' (first | refine uN ?_ | (refine uB ?_; intro b) | (refine uP ?_ ?_ <;> (intro h; ((try simp only [zs, ne_eq, and_true, true_and, eq_self, reduceCtorEq] at h); try exact zx))) | fail)
 refine Wi (L' := [] :: (Xs D M ++ L)) ?_ (LS.refl _)
 refine Zn (σ := Nat × Value × List Zq × RwG) (fun r => [(0, pt D.wp 0), (1, .slice a l.length cap), (5, r.2.1), (6, iv r.1)])
  (fun r => r.2.2.1 :: (Xs r.2.2.2 ((l.take r.1).foldl U9 (M, [])).1 ++ L))
  (fun r => r.1 ≤ l.length ∧ Vec 3 1 ic r.2.1 ((l.take r.1).foldl U9 (M, [])).2 r.2.2.1 ∧ RwOk r.2.2.2 ((l.take r.1).foldl U9 (M, [])).1 ∧ RwS D r.2.2.2) (fun r => l.length - r.1) (0, Y4, [], D) uS (List.Sublist.refl _) ⟨by simp, Zu, hD, .refl D⟩ ?_
 rintro ⟨i, v1, c, G1⟩ ⟨hi, hv, hW1, eS⟩
 simp only at hi hv hW1 eS ⊢
 obtain ⟨a5, cap5, he5, -, -⟩ := hv.rd Xu
 subst he5
 obtain ⟨⟨hM1, hsame, hlen⟩, hl2⟩ := hok i
 have hti : (l.take i).length = i := by rw [List.length_take]; omega
 rw [hti] at hlen hl2
 by_cases hit : i < l.length
 ·have hs := hsucc i (by omega)
  have hbi := hbn i hi
  obtain ⟨b9, bi, q, F, fr, rfl, hb, hg⟩ := hR.at1 (j := (i : Int)) (by omega) (by omega)
  have eg : l[(i : Int).toNat]'(by omega) = l[i] := rfl
  rw [eg] at hg
  have hdi := hd l[i] (List.getElem_mem _)
  clear hok hfin hsucc eg hbn
  obtain ⟨M1, cs, hQ⟩ : ∃ M1 cs, (l.take i).foldl U9 (M, []) = (M1, cs) := ⟨_, _, rfl⟩
  simp only [hQ, List.length_nil, Nat.zero_add] at hs hv hW1 hM1 hsame hlen hl2 hbi ⊢
  generalize l[i] = x at *
  have hb' : Has (Xs G1 M1 ++ L) b9 (.cells ⟨q⟩ F fr) := Zih hb
  by_cases hx : 0 ≤ x
  ·have k1 := Zrq G1 M1 x (c :: L) (by rw [eS.aw, hsame.w]; exact hRw.cons _) hW1 hM1 (by omega) hx hdi (fun s hu k j ref hk hsi => Zr2 hbi hM1 (by omega) s hu k j ref hk hsi)
   have hrv : U9 (M1, cs) x = ((Qq M1 x).1, cs ++ [cdN (Qq M1 x).2]) := if_pos hx
   rw [hrv] at hs
   clear hrv
   rw [eS.wp] at k1
   generalize Qq M1 x = R at *
   obtain ⟨M2, e⟩ := R
   simp only at k1 hs
   generalize hH : Xs G1 M1 ++ L = H at *
   repeat' (first | refine uN ?_ | (refine uB ?_; intro b) | (refine uP ?_ ?_ <;> (intro h; ((try simp only [zs, ne_eq, and_true, true_and, eq_self, reduceCtorEq] at h); try exact zx))) | fail)
   subst hH
   refine Uk (L' := Xs G1 M1 ++ (c :: L)) ?_ ls_in
   refine gc k1 ?_
   rintro v L' ⟨rfl, G2, f1, f3, rfl⟩
   generalize hH2 : Xs G2 M2 ++ (c :: L) = H2 at *
   repeat' (first | refine uN ?_ | (refine uB ?_; intro b) | (refine uP ?_ ?_ <;> (intro h; ((try simp only [zs, ne_eq, and_true, true_and, eq_self, reduceCtorEq] at h); try exact zx))) | fail)
   subst hH2
   refine Uk (L' := c :: [(b, .cells ⟨[iv (cdN e)]⟩ 3)] :: (Xs G2 M2 ++ L)) ?_ (LS.trans (LS.p1 (LS.refl _)) (LS.k ls_in'))
   refine Zea S (cdN e) hv Xu Zgq ?_
   intro v' c' hv'
   repeat' (first | refine uN ?_ | (refine uB ?_; intro b) | (refine uP ?_ ?_ <;> (intro h; ((try simp only [zs, ne_eq, and_true, true_and, eq_self, reduceCtorEq] at h); try exact zx))) | fail)
   refine Zg (i + 1, v', c', G2) uS ?_ ⟨by simp only; omega, by simp only [hs]; exact hv', by simp only [hs]; exact f3, eS.trans f1⟩ (by simp only; omega)
   simp only [hs]
   exact uL
  ·have hrv : U9 (M1, cs) x = (M1, cs ++ [-1]) := if_neg hx
   rw [hrv] at hs
   have k1 := fun H => Zp1 G1 M1 x H (by omega)
   rw [eS.wp] at k1
   generalize hH : Xs G1 M1 ++ L = H at *
   repeat' (first | refine uN ?_ | refine uC (k1 _) ?_ | (refine uB ?_; intro b) | (refine uP ?_ ?_ <;> (intro h; ((try simp only [zs, ne_eq, and_true, true_and, eq_self, reduceCtorEq] at h); try exact zx))) | fail)
   subst hH
   refine fo 1 ?_
   refine Zea S (-1) hv Xu Zgq ?_
   intro v' c' hv'
   repeat' (first | refine uN ?_ | (refine uB ?_; intro b) | (refine uP ?_ ?_ <;> (intro h; ((try simp only [zs, ne_eq, and_true, true_and, eq_self, reduceCtorEq] at h); try exact zx))) | fail)
   refine Zg (i + 1, v', c', G1) uS ?_ ⟨by simp only; omega, by simp only [hs]; exact hv', by simp only [hs]; exact hW1, eS⟩ (by simp only; omega)
   simp only [hs]
   exact uL
 ·obtain rfl : i = l.length := by omega
  rw [hfin] at hv hW1 ⊢
  repeat' (first | refine uN ?_ | (refine uB ?_; intro b) | (refine uP ?_ ?_ <;> (intro h; ((try simp only [zs, ne_eq, and_true, true_and, eq_self, reduceCtorEq] at h); try exact zx))) | fail)
  exact Yi (L' := Xs G1 (Va M l).1 ++ (c :: L)) ls_in ⟨c, hv, G1, eS, hW1, rfl⟩
end Go.HL
end

/-! EdC -/
section
namespace Go.HL
open Go Go.Proofs
set_option linter.unusedVariables false
set_option linter.unusedSimpArgs false
def Zf3 (f : Fr) : Nat := if f.kd = 1 ∨ f.kd = 3 then 65 else if f.kd = 2 ∨ f.kd = 4 then 64 else if f.kd = 5 then 9 else if f.kd = 6 then 8 else 1
def Zci (l : List Fr) : Nat := (l.map Zf3).sum
theorem wt_app (a b : List Fr) : Zci (a ++ b) = Zci a + Zci b := by simp [Zci]
theorem Zh1 (f : Fr) (b : List Fr) : Zci (f :: b) = Zf3 f + Zci b := by simp [Zci]
theorem Zrk (f : Fr) : 1 ≤ Zf3 f := by unfold Zf3; split <;> (try split) <;> (try split) <;> (try split) <;> omega
theorem wt_max (f : Fr) : Zf3 f ≤ 65 := by unfold Zf3; split <;> (try split) <;> (try split) <;> (try split) <;> omega
theorem wt_le {l : List Fr} {k : Nat} (h : ∀ f ∈ l, Zf3 f ≤ k) : Zci l ≤ k * l.length := by
 induction l with
 | nil => simp [Zci]
 | cons f r ih =>
  have h1 := h f (by simp)
  have h2 := ih fun g hg => h g (by simp [hg])
  rw [Zh1, List.length_cons, Nat.mul_add, Nat.mul_one]
  omega
theorem Ziu (l : List Fr) : l.length ≤ Zci l := by
 induction l with
 | nil => simp [Zci]
 | cons f r ih =>
  have := Zrk f
  rw [Zh1, List.length_cons]
  omega
theorem Zs0 (l : List Fr) : Zci l ≤ 65 * l.length := wt_le fun f _ => wt_max f
theorem hear_six {x : Ld} {f : Fr} (h6 : f.kd = 6) : ∀ y ∈ (Zs x f).2, y.kd = 7 := by
 have hall : ∀ (m : Ld) (p : Int), ∀ y ∈ Zbr m 7 p, y.kd = 7 := fun m p y hy => by
  obtain ⟨i, -, rfl, -⟩ := Zc2 hy
  rfl
 unfold Zs
 split
 ·intro y hy; cases hy
 rename_i hw
 have hfit : Xn x f := by
  by_cases hfit : Xn x f
  ·exact hfit
  ·exact absurd (.inr hfit) hw
 have h1 : x.wait = 6 := by have := hfit.1; omega
 split
 ·unfold Zwh
  split
  ·exact hall _ _
  ·intro y hy; cases hy
 ·have e : (U2 x f).wait = 6 := by
   unfold U2 Qn
   simp only
   split <;> exact h1
  unfold Z9
  split
  ·rename_i h2; omega
  split
  ·intro y hy; cases hy
  exact hall _ _
theorem wt_hear {w : List Int} {s d : Nat} {x : Ld} (hx : LdI w s d x) (hw : w.length ≤ 7) {f : Fr} (hk : f.kd = 2 ∨ f.kd = 4 ∨ f.kd = 6) : Zci (Zs x f).2 < Zf3 f := by
 have hl := Zaf x f
 rw [hx.ww] at hl
 by_cases h6 : f.kd = 6
 ·have h1 := wt_le (l := (Zs x f).2) (k := 1) fun y hy => by
   have := hear_six h6 y hy
   unfold Zf3
   rw [if_neg (by omega), if_neg (by omega), if_neg (by omega), if_neg (by omega)]
   omega
  have : Zf3 f = 8 := by unfold Zf3; rw [if_neg (by omega), if_neg (by omega), if_neg (by omega), if_pos h6]
  omega
 ·have h1 := wt_le (l := (Zs x f).2) (k := 9) fun y hy => by
   obtain ⟨-, -, -, -, h5⟩ := Zcu y hy
   unfold Zf3
   rw [if_neg (by omega), if_neg (by omega)]
   split
   ·omega
   ·rw [if_neg (by omega)]; omega
  have : Zf3 f = 64 := by unfold Zf3; rw [if_neg (by omega), if_pos (by omega)]
  omega
theorem turn_kd {ref : Int → Bool} {f : Fr} {st : St} (h : (Z8 ref f st).2.1 ≠ 0) : (f.kd = 1 ∧ (Z8 ref f st).2.1 = 2) ∨ (f.kd = 3 ∧ (Z8 ref f st).2.1 = 4) ∨ (f.kd = 5 ∧ (Z8 ref f st).2.1 = 6) := by
 unfold Z8 at h ⊢
 split
 ·exact .inl ⟨by assumption, rfl⟩
 split
 ·exact .inr (.inl ⟨by assumption, rfl⟩)
 split
 ·rename_i h1 h3 h5
  rw [if_neg h1, if_neg h3, if_pos h5] at h
  refine .inr (.inr ⟨h5, ?_⟩)
  split
  ·rename_i h6
   rw [if_pos h6] at h
   exact absurd rfl h
  ·split <;> rfl
 ·rename_i h1 h3 h5
  rw [if_neg h1, if_neg h3, if_neg h5] at h
  split at h <;> exact absurd rfl h
theorem wt_ans {M : Wm} (hI : WI M) {s : Int} (h0 : 0 ≤ s) (h1 : s < M.n.length) (f : Fr) : Zci (Yo M s f).2.1 < Zf3 f := by
 have hni := hI.at h0 h1
 obtain ⟨sn, rfl⟩ := Int.eq_ofNat_of_zero_le h0
 simp only [Int.toNat_natCast] at hni
 have hone := Zgx M sn f
 have h2 := (nd_st hni M.ev f).2
 change ∀ x ∈ (Yo M sn f).2.1, _ at h2
 generalize (Yo M sn f).2.1 = l at *
 have hp := Zrk f
 match l, hone with
 | [], _ => simp [Zci]; omega
 | [x], _ =>
  obtain ⟨ref, hx, hk, -⟩ := h2 x (by simp)
  have e : x.kd = (Z8 ref f (Xe (Zd M sn).pl f.dl)).2.1 := by rw [hx]
  rw [Zh1, show Zci ([] : List Fr) = 0 from rfl]
  rcases turn_kd hk with ⟨k1, k2⟩ | ⟨k1, k2⟩ | ⟨k1, k2⟩
  ·have a : Zf3 x = 64 := by unfold Zf3; rw [if_neg (by omega), if_pos (by omega)]
   have b : Zf3 f = 65 := by unfold Zf3; rw [if_pos (by omega)]
   omega
  ·have a : Zf3 x = 64 := by unfold Zf3; rw [if_neg (by omega), if_pos (by omega)]
   have b : Zf3 f = 65 := by unfold Zf3; rw [if_pos (by omega)]
   omega
  ·have a : Zf3 x = 8 := by unfold Zf3; rw [if_neg (by omega), if_neg (by omega), if_neg (by omega), if_pos (by omega)]
   have b : Zf3 f = 9 := by unfold Zf3; rw [if_neg (by omega), if_neg (by omega), if_pos (by omega)]
   omega
 | _ :: _ :: _, h => simp at h
theorem U5 {M : Wm} (hI : WI M) (h : M.l ≠ []) : Zci (Zw M 0).1.l < Zci M.l ∧ (Zw M 0).2 = none := by
 obtain ⟨f, r, e⟩ := List.exists_cons_of_ne_nil h
 have hk : Zk1 M 0 = none := by unfold Zk1; rw [e, if_neg (by simp)]
 obtain ⟨⟨hbad, hto, hfr⟩, -, -⟩ := Zcj hI hk
 have hf : M.l.getD (0 : Int).toNat Ys = f := by rw [e]; rfl
 have hr : M.l.eraseIdx (0 : Int).toNat = r := by rw [e]; rfl
 have hE := hI.erase (0 : Int).toNat
 have hn := hI.wn
 rw [hf] at hbad hto hfr
 rw [hr] at hE
 have hw : Zci M.l = Zf3 f + Zci r := by rw [e, Zh1]
 have hp := Zrk f
 unfold Xv at hbad
 unfold Zw
 rw [hk]
 simp only [hf, hr]
 split
 ·exact ⟨by simp only; omega, by trivial⟩
 split
 ·rename_i hkd
  split
  ·exact ⟨by simp only; omega, by trivial⟩
  ·rename_i x hx
   have hLI := (hI.at (s := f.to) (by omega) (by omega)).ldi f.dl.toNat x (by
    have h6 := (hI.at (s := f.to) (by omega) (by omega)).leads
    have hx' : (Zd M f.to).leads.getD f.dl.toNat none = some x := hx
    rw [getD_some (x := none) (by omega), hx'])
   have := wt_hear hLI hI.wl hkd
   refine ⟨?_, by trivial⟩
   simp only [wt_app]
   omega
 ·have := wt_ans hE (s := f.to) (by omega) (by simp only; omega) f
  refine ⟨?_, by trivial⟩
  simp only [wt_app]
  omega
def Zb5 : Nat → Wm → Wm × Nat
 | 0, M => (M, 0)
 | k + 1, M => if M.l = [] then (M, 0) else ((Zb5 k (Zw M 0).1).1, (Zb5 k (Zw M 0).1).2 + 1)
def Wk (M : Wm) : Wm × Nat := Zb5 (Zci M.l) M
theorem Zgz : ∀ (k : Nat) {M : Wm}, WI M → ∀ (q : Nat), Zci M.l ≤ k → Zci M.l ≤ q → Zb5 k M = Zb5 q M
 | 0, M, hI, q, h1, h2 => by
  have e : M.l = [] := List.eq_nil_of_length_eq_zero (by have := Ziu M.l; omega)
  cases q with
  | zero => rfl
  | succ q => unfold Zb5; rw [if_pos e]
 | k + 1, M, hI, q, h1, h2 => by
  by_cases e : M.l = []
  ·cases q with
   | zero => unfold Zb5; rw [if_pos e]
   | succ q => unfold Zb5; rw [if_pos e, if_pos e]
  ·have hd := (U5 hI e).1
   cases q with
   | zero => omega
   | succ q =>
    unfold Zb5
    rw [if_neg e, if_neg e, Zgz k (Ve hI 0).wi q (by omega) (by omega)]
theorem Qx {M : Wm} (h : M.l = []) : Wk M = (M, 0) := by
 unfold Wk
 rw [h]
 rfl
theorem Zb4 {M : Wm} (hI : WI M) (h : M.l ≠ []) : Wk M = ((Wk (Zw M 0).1).1, (Wk (Zw M 0).1).2 + 1) := by
 have hd := (U5 hI h).1
 unfold Wk
 obtain ⟨k, hk⟩ : ∃ k, Zci M.l = k + 1 := ⟨Zci M.l - 1, by omega⟩
 rw [hk]
 show (if M.l = [] then (M, 0) else _) = _
 rw [if_neg h, Zgz k (Ve hI 0).wi (Zci (Zw M 0).1.l) (by omega) (Nat.le_refl _)]
theorem Zl6 {P : Wm → Prop} (hstep : ∀ M, WI M → M.l ≠ [] → P M → P (Zw M 0).1) : ∀ (k : Nat) {M : Wm}, Zci M.l ≤ k → WI M → P M → WI (Wk M).1 ∧ P (Wk M).1 ∧ (Wk M).1.l = [] ∧ Same M (Wk M).1 ∧ (Wk M).2 ≤ Zci M.l
 | 0, M, hk, hI, hP => by
  have e : M.l = [] := List.eq_nil_of_length_eq_zero (by have := Ziu M.l; omega)
  rw [Qx e]
  exact ⟨hI, hP, e, .refl _, by simp⟩
 | k + 1, M, hk, hI, hP => by
  by_cases e : M.l = []
  ·rw [Qx e]
   exact ⟨hI, hP, e, .refl _, by simp⟩
  ·have hd := (U5 hI e).1
   have hok := Ve hI 0
   obtain ⟨a1, a2, a3, a4, a5⟩ := Zl6 hstep k (M := (Zw M 0).1) (by omega) hok.wi (hstep M hI e hP)
   rw [Zb4 hI e]
   exact ⟨a1, a2, a3, hok.same.trans a4, by simp only; omega⟩
def Zqv (set : Int) (s : Nat) : Bool := decide (set / 2 ^ s % 2 = 1)
def Zjk (set : Int) (M : Wm) (s : Nat) : Wm := if Zqv set s then (Wt M (s : Int)).1 else M
def Wc (set : Int) (k : Nat) (M : Wm) : Wm := (List.range k).foldl (Zjk set) M
theorem Zao (set : Int) (k : Nat) (M : Wm) : Wc set (k + 1) M = Zjk set (Wc set k M) k := by
 unfold Wc
 rw [List.range_succ, List.foldl_append]
 rfl
def V1 (set : Int) (M : Wm) : Wm × Nat := Wk (Wc set M.n.length M)
def Zz (set : Int) : Nat → Wm → Wm × Nat
 | 0, M => (M, 0)
 | k + 1, M => ((V1 set (Zz set k M).1).1, (Zz set k M).2 + (V1 set (Zz set k M).1).2)
theorem tickS_ok {M : Wm} (h : WI M) (set : Int) (s : Nat) : StepOk M (Zjk set M s) 84 := by
 unfold Zjk
 split
 ·exact Zm4 h _
 ·exact .refl h _
theorem Qw {M : Wm} (h : WI M) (set : Int) : ∀ k, StepOk M (Wc set k M) (84 * k)
 | 0 => .refl h 0
 | k + 1 => by
  rw [Zao]
  have h1 := Qw h set k
  have h2 := tickS_ok h1.wi set k
  exact ⟨h2.wi, h1.same.trans h2.same, by have := h1.len; have := h2.len; omega⟩
structure RndOk (M M' : Wm) : Prop where
 wi : WI M'
 same : Same M M'
 nil : M'.l = []
theorem Zc5 {M : Wm} (h : WI M) (set : Int) : RndOk M (V1 set M).1 ∧ (V1 set M).2 ≤ 65 * (M.l.length + 84 * M.n.length) := by
 have h1 := Qw h set M.n.length
 obtain ⟨a1, -, a3, a4, a5⟩ := Zl6 (P := fun _ => True) (fun _ _ _ _ => trivial) _ (Nat.le_refl _) h1.wi trivial
 have h2 := h1.len
 have h3 := Zs0 (Wc set M.n.length M).l
 exact ⟨⟨a1, h1.same.trans a4, a3⟩, by unfold V1; omega⟩
theorem Zbj {M : Wm} (h : WI M) (set : Int) : ∀ k, WI (Zz set k M).1 ∧ Same M (Zz set k M).1 ∧ (Zz set k M).1.l.length ≤ M.l.length ∧ (1 ≤ k → (Zz set k M).1.l = [])
 | 0 => ⟨h, .refl _, Nat.le_refl _, fun h => by omega⟩
 | k + 1 => by
  obtain ⟨a1, a2, a3, -⟩ := Zbj h set k
  obtain ⟨b1, b2, b3⟩ := (Zc5 a1 set).1
  have e : (Zz set (k + 1) M).1.l = [] := b3
  exact ⟨b1, a2.trans b2, by rw [e]; simp, fun _ => e⟩
theorem Zgi {M : Wm} {P N : Int} (hI : WI M) (h : Bnd M P N) (set : Int) : ∀ k : Nat, Bnd (Wc set k M) (P + 42 * k) (N + 6 * k)
 | 0 => h.mono (by simp) (by simp)
 | k + 1 => by
  rw [Zao]
  have h1 := Zgi hI h set k
  have h2 := (Qw hI set k).wi
  unfold Zjk
  split
  ·exact (h1.tick h2 _).mono (by push_cast; omega) (by push_cast; omega)
  ·exact h1.mono (by push_cast; omega) (by push_cast; omega)
theorem Zl2 {P : Int} : ∀ (k : Nat) {M : Wm} {N : Int}, Zci M.l ≤ k → WI M → Bnd M P N → Bnd (Wk M).1 P (N + k)
 | 0, M, N, hk, hI, h => by
  have e : M.l = [] := List.eq_nil_of_length_eq_zero (by have := Ziu M.l; omega)
  rw [Qx e]
  exact h.mono (Int.le_refl _) (by omega)
 | k + 1, M, N, hk, hI, h => by
  by_cases e : M.l = []
  ·rw [Qx e]
   exact h.mono (Int.le_refl _) (by omega)
  ·have hd := (U5 hI e).1
   rw [Zb4 hI e]
   exact (Zl2 k (N := N + 1) (by omega) (Ve hI 0).wi (h.deliver hI 0)).mono (Int.le_refl _) (by push_cast; omega)
end Go.HL
end

/-! PwK -/
section
namespace Go.HL
open Go Go.Proofs
set_option linter.unusedVariables false
set_option linter.unusedSimpArgs false
def Znr (set n : Int) : Prop := set < 0 ∨ n < 0 ∨ 10 < n
instance (set n : Int) : Decidable (Znr set n) := by unfold Znr; infer_instance
theorem inS_iff (n s : Nat) : (((((n : Int) / 2 ^ s).toNat &&& Int.toNat 1 : Nat) : Int) = 1) ↔ Zqv (n : Int) s = true := by
 rw [Zn9]
 unfold Zqv
 rw [decide_eq_true_iff]
 constructor
 ·intro h
  have : ((n / 2 ^ s % 2 : Nat) : Int) = 1 := by rw [h]; rfl
  push_cast at this
  exact this
 ·intro h
  have : ((n / 2 ^ s % 2 : Nat) : Int) = ((1 : Nat) : Int) := by push_cast; exact h
  exact Int.ofNat.inj this
theorem WdQ.refl {G : WdG} {M : Wm} {L : Zb} (hW : WdOk G M) : WdQ G M L (Uu G M :: L) := ⟨G, rfl, hW, rfl⟩
set_option maxHeartbeats 2000000 attribute [local irreducible] HW HO HQ HD HC QOp Has Upd Zt Gets Yb Z6 Zr Xr Z4 Zm Xx Zy
attribute [local irreducible] Uu Wt Zw
theorem Xj (G : WdG) (M : Wm) (L : Zb) (hW : WdOk G M) : HC Tryz.prog 102 [pt G.wp 0] (Uu G M :: L) (fun v L' => v = iv M.n.length ∧ L' = Uu G M :: L) := HC.shutQ (Znc G M _ (Zac hW L))
theorem Zn0 (T : Nat) (E : Nat → Addr) (G : WdG) (M : Wm) (set n : Int) (L : Zb) (hE : Ez T E L) (hW : WdOk G M) (hM : WI M) (hl : M.l.length ≤ 1000000) (hs : set ≤ 9223372036854775807) (hn : n ≤ 9223372036854775807) :
  HC Tryz.prog 40 [pt G.wp 0, iv set, iv n] (Uu G M :: L) (fun v L' => if Znr set n then v = .tuple ⟨[iv 0, eV T E (some 2)]⟩ ∧ L' = Uu G M :: L else v = .tuple ⟨[iv (Zz set n.toNat M).2, .nilIface]⟩ ∧ WdQ G (Zz set n.toNat M).1 L L') := by
 by_cases hr : Znr set n
 ·have hG2 := (hE.er [2]).cons (Uu G M)
  simp only [if_pos hr]
  unfold Znr at hr
  refine Za (fun _ _ => Tryz.call40 _ _) Tryz.func40 rfl Tryz.ntmps40 (Nat.le_of_ble_eq_true rfl) ?_; simp only [Zc, Nat.reduceAdd]
  repeat' (first | refine uN ?_ | refine Z7 S ?_ | refine uC (Xj G M L hW) ?_ | (refine uP ?_ ?_ <;> (intro h; ((try simp only [zs, ne_eq, and_true, true_and, eq_self, reduceCtorEq] at h); try exact zx))) | fail)
  all_goals first | (exfalso; omega) | exact Qh (LS.refl _) ⟨rfl, rfl⟩
 ·simp only [if_neg hr]
  unfold Znr at hr
  obtain ⟨sn, rfl⟩ := Int.eq_ofNat_of_zero_le (show 0 ≤ set by omega)
  obtain ⟨k, rfl⟩ := Int.eq_ofNat_of_zero_le (show 0 ≤ n by omega)
  rw [Int.toNat_natCast]
  have hok := Zbj hM (sn : Int)
  have hmany : ∀ i, (Zz (sn : Int) i M).2 ≤ 100000000 * i := fun i => by
   induction i with
   | zero => exact Nat.le_refl _
   | succ i ih =>
    obtain ⟨a1, a2, a3, -⟩ := hok i
    have h2 := (Zc5 a1 (sn : Int)).2
    have h3 := a2.n
    have h4 := hM.wn
    have h5 := hM.wl
    have : (Zz (sn : Int) (i + 1) M).2 = (Zz (sn : Int) i M).2 + (V1 (sn : Int) (Zz (sn : Int) i M).1).2 := rfl
    omega
  refine Za (fun _ _ => Tryz.call40 _ _) Tryz.func40 rfl Tryz.ntmps40 (Nat.le_of_ble_eq_true rfl) ?_; simp only [Zc, Nat.reduceAdd]
  repeat' (first | refine uN ?_ | refine Z7 S ?_ | refine uC (Xj G M L hW) ?_ | (refine uP ?_ ?_ <;> (intro h; ((try simp only [zs, ne_eq, and_true, true_and, eq_self, reduceCtorEq] at h); try exact zx))) | fail)
  all_goals first | (exfalso; omega) | skip
  refine Wi (L' := Uu G (Zz (sn : Int) 0 M).1 :: L) ?_ (LS.refl _)
  refine Zn (σ := Nat × WdG) (fun r => [(0, pt G.wp 0), (1, iv sn), (8, iv (Zz (sn : Int) r.1 M).2), (21, iv k), (22, iv r.1)]) (fun r => Uu r.2 (Zz (sn : Int) r.1 M).1 :: L)
   (fun r => r.1 ≤ k ∧ r.2.wp = G.wp ∧ WdOk r.2 (Zz (sn : Int) r.1 M).1) (fun r => k - r.1) (0, G) uS (List.Sublist.refl _) ⟨by simp, rfl, hW⟩ ?_
  rintro ⟨i, G1⟩ ⟨hi, e1, hW1⟩
  simp only at hi e1 hW1 ⊢
  by_cases hlt : i < k
  ·obtain ⟨hI1, hS1, hl1, -⟩ := hok i
   have hm1 := hmany i
   have hrs : Zz (sn : Int) (i + 1) M = ((V1 (sn : Int) (Zz (sn : Int) i M).1).1, (Zz (sn : Int) i M).2 + (V1 (sn : Int) (Zz (sn : Int) i M).1).2) := rfl
   have hi10 : (i : Int) < 10 := by omega
   clear hok hmany
   generalize Zz (sn : Int) i M = R at *
   obtain ⟨M1, many⟩ := R
   simp only at hW1 hI1 hS1 hl1 hm1 hrs ⊢
   have hn1 := hI1.wn
   have hw1 := hI1.wl
   have htk := Qw hI1 (sn : Int)
   rw [← e1]
   repeat' (first | refine uN ?_ | refine Z7 S ?_ | refine uC (Xj G1 M1 L hW1) ?_ | (refine uP ?_ ?_ <;> (intro h; ((try simp only [zs, ne_eq, and_true, true_and, eq_self, reduceCtorEq] at h); try exact zx))) | fail)
   refine Zn (σ := Nat × WdG) (fun r => [(0, pt G1.wp 0), (1, iv sn), (8, iv many), (21, iv k), (22, iv i), (25, iv M1.n.length), (26, iv r.1)]) (fun r => Uu r.2 (Wc (sn : Int) r.1 M1) :: L)
    (fun r => r.1 ≤ M1.n.length ∧ r.2.wp = G1.wp ∧ WdOk r.2 (Wc (sn : Int) r.1 M1)) (fun r => M1.n.length - r.1) (0, G1) uS (List.Sublist.refl _) ⟨by simp, rfl, hW1⟩ ?_
   rintro ⟨s, G2⟩ ⟨hs2, e2, hW2⟩
   simp only at hs2 e2 hW2 ⊢
   by_cases hsl : s < M1.n.length
   ·have hss := Zao (sn : Int) s M1
    have hk2 := htk s
    have hl2 := hk2.len
    have kt := fun L hG => HC.shut (V := fun u => u = eV T E (Wt (Wc (sn : Int) s M1) s).2) (Zcr T E G2 (Wc (sn : Int) s M1) s L hG hW2 hk2.wi (by omega))
    have hbi := inS_iff sn (s : Int).toNat
    have hbo := Zip sn (s : Int).toNat (by omega)
    rw [show Zqv (sn : Int) (s : Int).toNat = Zqv (sn : Int) s from rfl] at hbi
    unfold Zjk at hss
    cases hin : Zqv (sn : Int) s with
    | true =>
     rw [hin] at hbi hss
     simp only [if_true, iff_true] at hbi hss
     rw [← e2]
     repeat' (first | refine uN ?_ | refine Z7 S ?_ | refine uC (Xj G1 M1 L hW1) ?_ | (refine uP ?_ ?_ <;> (intro h; ((try simp only [zs, ne_eq, and_true, true_and, eq_self, reduceCtorEq] at h); try exact zx))) | fail)
     all_goals first | (exfalso; omega) | skip
     refine gc (kt _ (hE.er [2, 3, 4, 5, 6])) ?_
     rintro v L' ⟨rfl, G3, e3, hW3, rfl⟩
     rw [← e3]
     repeat' (first | refine uN ?_ | refine Z7 S ?_ | refine uC (Xj G1 M1 L hW1) ?_ | (refine uP ?_ ?_ <;> (intro h; ((try simp only [zs, ne_eq, and_true, true_and, eq_self, reduceCtorEq] at h); try exact zx))) | fail)
     exact Zg (s + 1, G3) (by simp only [e3, e2]; exact uS) (by simp only [hss]; exact LS.refl _) ⟨by simp only; omega, by simp only [e3, e2], by simp only [hss]; exact hW3⟩ (by simp only; omega)
    | false =>
     rw [hin] at hbi hss
     simp only [Bool.false_eq_true, if_false, iff_false] at hbi hss
     repeat' (first | refine uN ?_ | refine Z7 S ?_ | refine uC (Xj G1 M1 L hW1) ?_ | (refine uP ?_ ?_ <;> (intro h; ((try simp only [zs, ne_eq, and_true, true_and, eq_self, reduceCtorEq] at h); try exact zx))) | fail)
     all_goals first | (exfalso; omega) | skip
     exact Zg (s + 1, G2) uS (by simp only [hss]; exact LS.refl _) ⟨by simp only; omega, e2, by simp only [hss]; exact hW2⟩ (by simp only; omega)
   ·obtain rfl : s = M1.n.length := by omega
    have hkt := htk M1.n.length
    have hlt2 := hkt.len
    have hw65 := Zs0 (Wc (sn : Int) M1.n.length M1).l
    have hrd := (Zc5 hI1 (sn : Int)).2
    unfold V1 at hrs hrd
    have hIt := hkt.wi
    have hseq : ∀ M2, WI M2 → M2.l.length ≤ 99999999 → ∀ G L hG hW, _ := fun M2 hI2 hl2 G L hG hW => HC.shut (V := fun u => u = eV T E (Zw M2 0).2) (Q2 T E G M2 0 L hG hW hI2 hl2)
    clear htk hkt
    generalize Wc (sn : Int) M1.n.length M1 = MT at *
    rw [← e2]
    repeat' (first | refine uN ?_ | refine Z7 S ?_ | refine uC (Xj G1 M1 L hW1) ?_ | (refine uP ?_ ?_ <;> (intro h; ((try simp only [zs, ne_eq, and_true, true_and, eq_self, reduceCtorEq] at h); try exact zx))) | fail)
    refine Zn (σ := Wm × WdG × Nat) (fun r => [(0, pt G2.wp 0), (1, iv sn), (8, iv r.2.2), (21, iv k), (22, iv i)]) (fun r => Uu r.2.1 r.1 :: L)
     (fun r => WI r.1 ∧ r.2.1.wp = G2.wp ∧ WdOk r.2.1 r.1 ∧ Zci r.1.l ≤ Zci MT.l ∧ (Wk r.1).1 = (Wk MT).1 ∧ r.2.2 + (Wk r.1).2 = many + (Wk MT).2) (fun r => Zci r.1.l) (MT, G2, many) uS (List.Sublist.refl _) ⟨hIt, rfl, hW2, Nat.le_refl _, rfl, rfl⟩ ?_
    rintro ⟨M2, G3, j⟩ ⟨hI2, e3, hW3, hwt, hd1, hd2⟩
    simp only at hI2 e3 hW3 hwt hd1 hd2 ⊢
    have hl2 := Ziu M2.l
    have kd := hseq M2 hI2 (by omega)
    rw [← e3]
    by_cases hnl : M2.l = []
    ·have hde : (Zw M2 0).2 = some 4 ∧ (Zw M2 0).1 = M2 := by
      unfold Zw Zk1
      rw [if_pos (by rw [hnl]; simp)]
      exact ⟨rfl, rfl⟩
     rw [Qx hnl] at hd1 hd2
     simp only at hd1 hd2
     obtain ⟨hde1, hde2⟩ := hde
     simp only [hde1, hde2] at kd
     repeat' (first | refine uN ?_ | refine Z7 S ?_ | refine uC (Xj G1 M1 L hW1) ?_ | (refine uP ?_ ?_ <;> (intro h; ((try simp only [zs, ne_eq, and_true, true_and, eq_self, reduceCtorEq] at h); try exact zx))) | fail)
     refine gc (kd G3 _ (hE.er [2, 3, 4, 5, 6]) hW3) ?_
     rintro v L' ⟨rfl, G4, e4, hW4, rfl⟩
     rw [← e4]
     repeat' (first | refine uN ?_ | refine Z7 S ?_ | refine uC (Xj G1 M1 L hW1) ?_ | (refine uP ?_ ?_ <;> (intro h; ((try simp only [zs, ne_eq, and_true, true_and, eq_self, reduceCtorEq] at h); try exact zx))) | fail)
     refine Zg (i + 1, G4) (by simp only [hrs, ← hd2, Nat.add_zero, e4, e3, e2]; exact uS) (by simp only [hrs, ← hd1]; exact LS.refl _) ⟨by simp only; omega, by simp only [e4, e3, e2, e1], by simp only [hrs, ← hd1]; exact hW4⟩ (by simp only; omega)
    ·obtain ⟨hd3, hd4⟩ := U5 hI2 hnl
     have hds := Zb4 hI2 hnl
     rw [hds] at hd1 hd2
     simp only at hd1 hd2
     have hI3 := (Ve hI2 0).wi
     rw [hd4] at kd
     repeat' (first | refine uN ?_ | refine Z7 S ?_ | refine uC (Xj G1 M1 L hW1) ?_ | (refine uP ?_ ?_ <;> (intro h; ((try simp only [zs, ne_eq, and_true, true_and, eq_self, reduceCtorEq] at h); try exact zx))) | fail)
     refine gc (kd G3 _ (hE.er [2, 3, 4, 5, 6]) hW3) ?_
     rintro v L' ⟨rfl, G4, e4, hW4, rfl⟩
     rw [← e4]
     repeat' (first | refine uN ?_ | refine Z7 S ?_ | refine uC (Xj G1 M1 L hW1) ?_ | (refine uP ?_ ?_ <;> (intro h; ((try simp only [zs, ne_eq, and_true, true_and, eq_self, reduceCtorEq] at h); try exact zx))) | fail)
     exact Zg ((Zw M2 0).1, G4, j + 1) (by simp only [e4, e3]; exact uS) (LS.refl _) ⟨hI3, by simp only [e4, e3], hW4, by simp only; omega, hd1, by simp only; omega⟩ hd3
  ·obtain rfl : i = k := by omega
   repeat' (first | refine uN ?_ | refine Z7 S ?_ | refine uC (Xj G M L hW) ?_ | (refine uP ?_ ?_ <;> (intro h; ((try simp only [zs, ne_eq, and_true, true_and, eq_self, reduceCtorEq] at h); try exact zx))) | fail)
   exact Qh (LS.refl _) ⟨rfl, G1, e1, hW1, rfl⟩
end Go.HL
end

/-! MwQ -/
section
namespace Go.HL
open Go Go.Proofs
set_option linter.unusedVariables false
set_option linter.unusedSimpArgs false
theorem Zuv {M : Wm} {P N : Int} (hI : WI M) (h : Bnd M P N) (hl : M.l.length ≤ 100000) (set : Int) : Bnd (V1 set M).1 (P + 294) (N + 42 + 6600000) := by
 have hn := hI.wn
 have hw := hI.wl
 have h1 := Zgi hI h set M.n.length
 have h2 := Qw hI set M.n.length
 have h3 := h2.len
 have h4 := Zs0 (Wc set M.n.length M).l
 have := Zl2 (Zci (Wc set M.n.length M).l) (Nat.le_refl _) h2.wi h1
 unfold V1
 exact this.mono (by omega) (by omega)
end Go.HL
end

/-! EdD -/
section
namespace Go.HL
open Go Go.Proofs
set_option linter.unusedVariables false
set_option linter.unusedSimpArgs false
end Go.HL
end

/-! EdE -/
section
namespace Go.HL
open Go Go.Proofs
set_option linter.unusedVariables false
set_option linter.unusedSimpArgs false
theorem inS_bit (n s : Nat) : Zqv (n : Int) s = true ↔ bit n s := by
 unfold Zqv bit
 rw [decide_eq_true_iff]
 constructor
 ·intro h
  have : ((n / 2 ^ s % 2 : Nat) : Int) = ((1 : Nat) : Int) := by push_cast; exact h
  exact Int.ofNat.inj this
 ·intro h
  have : ((n / 2 ^ s % 2 : Nat) : Int) = 1 := by rw [h]; rfl
  push_cast at this
  exact this
end Go.HL
end

/-! EdF -/
section
namespace Go.HL
open Go Go.Proofs
set_option linter.unusedVariables false
set_option linter.unusedSimpArgs false
structure PrepI (M0 M : Wm) : Prop where
 wi : WI M
 same : Same M0 M
 safe : SafeW M0 → SafeW M
 ev : EvW M0 → EvW M
 l : M.l = M0.l
 st : ∀ t d, Zqw M t d = Zqw M0 t d
 bn : ∀ P N, Bnd M0 P N → Bnd M P N
theorem PrepI.refl {M : Wm} (h : WI M) : PrepI M M := ⟨h, .refl _, id, id, rfl, fun _ _ => rfl, fun _ _ h => h⟩
theorem PrepI.trans {A B C : Wm} (h : PrepI A B) (h' : PrepI B C) : PrepI A C := ⟨h'.wi, h.same.trans h'.same, fun s => h'.safe (h.safe s), fun s => h'.ev (h.ev s), h'.l.trans h.l, fun t d => (h'.st t d).trans (h.st t d), fun P N b => h'.bn P N (h.bn P N b)⟩
def RbW (M : Wm) (a : Nat) : Prop := LiveW M a ∧ (∀ d, ldW M a d = none) ∧ ∃ j, (Zd M (a : Int)).site = some (j, fun _ => false)
end Go.HL
end

/-! EdG -/
section
namespace Go.HL
open Go Go.Proofs
set_option linter.unusedVariables false
set_option linter.unusedSimpArgs false
def DnN (m : Nd) : Prop := m.site = none → ∀ d, m.leads.getD d none = none
def DnA (M : Wm) : Prop := ∀ s : Nat, DnN (Zd M (s : Int))
theorem DnA.set {M : Wm} (h : DnA M) {s : Int} (h0 : 0 ≤ s) (h1 : s < M.n.length) {m : Nd} (hm : DnN m) : DnA (Yp M s m) := fun t => by
 rw [Ud h0 h1]
 split
 ·exact hm
 ·exact h t
theorem DnA.at {M : Wm} (h : DnA M) {s : Int} (h0 : 0 ≤ s) : DnN (Zd M s) := by
 have := h s.toNat
 rw [show ((s.toNat : Nat) : Int) = s by omega] at this
 exact this
theorem hear_dn (s : Int) {m : Nd} (h : DnN m) (ev : List Evt) (f : Fr) : DnN (Y7 s m ev f).1 := by
 unfold Y7
 split
 ·exact h
 split
 ·exact fun _ d => Ul d
 ·exact fun e => by cases e
theorem DnA.hear {M : Wm} (h : DnA M) {s : Int} (h0 : 0 ≤ s) (h1 : s < M.n.length) (f : Fr) : DnA (Yo M s f).1 := h.set h0 h1 (hear_dn s (h.at h0) M.ev f)
theorem DnA.up {M : Wm} (h : DnA M) {s : Int} (h0 : 0 ≤ s) (h1 : s < M.n.length) {m : Nd} (hm : m.site ≠ none) : DnA (Yp M s m) := h.set h0 h1 fun e => absurd e hm
theorem DnA.try {M : Wm} (h : DnA M) {s d p : Int} (h0 : 0 ≤ s) (h1 : s < M.n.length) : DnA (Zar M s d p).1 := by
 unfold Zar
 simp only
 generalize Zas M.w.length s (Yv (Zd M s) d p + 1) = a
 split
 ·exact h
 have hR := h.hear h0 h1 (W5 s d a)
 have hS := Zdn M s (W5 s d a)
 have hu := Zkv (M := M) (f := W5 s d a) h0 h1
 split
 ·exact hR
 ·rename_i hr
  exact DnA.up (M := (Yo M s (W5 s d a)).1) hR h0 (by rw [hS.n]; exact h1) (hu (by simpa using hr))
theorem DnA.tickD {M : Wm} {q : Wm × Bool} {s : Int} {k d : Nat} (h : DnA q.1) (hT : TickOk M q s k) (h0 : 0 ≤ s) (h1 : s < M.n.length) : DnA (HL.tickD s q d).1 := by
 have hn := hT.same.n
 unfold HL.tickD
 split
 ·exact h
 split
 ·exact h
 split
 ·exact h
 split
 ·exact h
 ·exact h.try h0 (by rw [hn]; exact h1)
theorem DnA.tick {M : Wm} (h : DnA M) (hI : WI M) (s : Int) : DnA (Wt M s).1 := by
 unfold Wt
 split
 ·exact h
 ·rename_i hu
  obtain ⟨h0, h1, hs⟩ := W7 hu
  have key : ∀ k, k ≤ 6 → DnA ((List.range k).foldl (HL.tickD s) (M, true)).1 := fun k => by
   induction k with
   | zero => exact fun _ => h
   | succ k ih =>
    intro hk
    rw [List.range_succ, List.foldl_append]
    exact DnA.tickD (ih (by omega)) (Zaa hI h0 h1 hs k (by omega)) h0 h1
  exact key 6 (by omega)
theorem DnA.deliver {M : Wm} (h : DnA M) (hI : WI M) (k : Int) : DnA (Zw M k).1 := by
 have hn := hI.wn
 unfold Zw
 split
 ·exact h
 rename_i hk
 obtain ⟨⟨hbad, hto, hfr⟩, hk0, hk1⟩ := Zcj hI hk
 generalize M.l.getD k.toNat Ys = f at *
 unfold Xv at hbad
 have hE : DnA { M with l := M.l.eraseIdx k.toNat } := h
 simp only
 split
 ·exact hE
 rename_i hup
 split
 ·split
  ·exact hE
  ·refine DnA.up (M := { M with l := M.l.eraseIdx k.toNat }) hE (s := f.to) (by omega) (by simp only; omega) (m := { Zd { M with l := M.l.eraseIdx k.toNat } f.to with leads := _ }) ?_
   intro e
   refine hup (.inl ?_)
   have e' : (Zd { M with l := M.l.eraseIdx k.toNat } f.to).site = none := e
   rw [e']
   rfl
 ·exact DnA.hear hE (by omega) (by simp only; omega) f
theorem DnA.act {M : Wm} (h : DnA M) (hI : WI M) (x : StpS) : DnA (Zdu M x).1 := by
 have hlk : ∀ a b c, DnA (Ue M a b c).1 := fun a b c => by unfold Ue; split <;> exact h
 unfold Zdu
 split
 ·unfold Xk
  split
  ·exact h
  rename_i hb
  split
  ·exact h
  split
  ·exact h
  rename_i hu _
  obtain ⟨h0, h1, hs⟩ := W7 hu
  exact h.up (m := { Zd M x.s with leads := _ }) h0 h1 hs
 split
 ·unfold Wp
  split
  ·exact h
  split
  ·exact h
  rename_i hu
  obtain ⟨h0, h1, hs⟩ := W7 hu
  refine h.up h0 h1 ?_
  unfold Ui
  split
  ·exact hs
  ·simp
 split
 ·exact h.tick hI _
 split
 ·unfold Qb
  split
  ·exact h
  rename_i hu
  obtain ⟨h0, h1, -⟩ := W7 hu
  exact h.set h0 h1 fun _ d => Ul d
 split
 ·unfold Zl5
  split
  ·exact h
  split
  ·exact h
  rename_i hu _
  obtain ⟨h0, h1⟩ := Xc hu
  exact h.up (m := { Vy (Zd M x.s) with done := _ }) h0 h1 (by simp [Vy])
 split
 ·unfold Uy; split <;> exact h
 split
 ·unfold Vv; split <;> exact h
 split
 ·exact hlk _ _ _
 split
 ·exact hlk _ _ _
 split
 ·unfold Zdw
  split
  ·exact h
  split
  ·exact h
  rename_i hu
  obtain ⟨h0, h1, hs⟩ := W7 hu
  exact h.up (m := { Zd M x.s with pl := _ }) h0 h1 hs
 ·exact h.deliver hI _
theorem RbW.same {M M' : Wm} {a : Nat} (h : RbW M a) (e : Zd M' (a : Int) = Zd M (a : Int)) : RbW M' a := by
 unfold RbW LiveW ldW at *
 rw [e]
 exact h
def decS (set : Int) (M : Wm) (d i : Nat) : Bool := (List.range i).any fun s => Zqv set s && Zdz (Zqw M s d).ph
end Go.HL
end

/-! WnA -/
section
namespace Go.HL
open Go Go.Proofs
set_option linter.unusedVariables false
set_option linter.unusedSimpArgs false
set_option maxHeartbeats 2000000 attribute [local irreducible] HW HO HQ HD HC QOp Has Upd Zt Gets Yb Z6 Zr Xr Z4 Zm Xx Zy
end Go.HL
end

/-! PwL -/
section
namespace Go.HL
open Go Go.Proofs
set_option linter.unusedVariables false
set_option linter.unusedSimpArgs false
theorem Zl3 (set : Int) (M : Wm) (d i : Nat) : decS set M d (i + 1) = (decS set M d i || (Zqv set i && Zdz (Zqw M i d).ph)) := by
 unfold decS
 rw [List.range_succ, List.any_append]
 simp
def DecI (set : Int) (M : Wm) (n d i : Nat) (vals : List Bool) : Prop := vals.length = 6 ∧ ∀ e, e < 6 → vals[e]? = some (if e < d then decS set M e n else if e = d then decS set M d i else false)
theorem DecI.zero (set : Int) (M : Wm) (n : Nat) : DecI set M n 0 0 (List.replicate 6 false) := by
 refine ⟨rfl, fun e he => ?_⟩
 rw [List.getElem?_replicate, if_pos he, if_neg (by omega)]
 congr 1
 split <;> rfl
theorem DecI.next {set : Int} {M : Wm} {n d : Nat} {vals : List Bool} (h : DecI set M n d n vals) : DecI set M n (d + 1) 0 vals := by
 refine ⟨h.1, fun e he => ?_⟩
 rw [h.2 e he]
 congr 1
 by_cases h1 : e < d
 ·rw [if_pos h1, if_pos (by omega)]
 ·rw [if_neg h1]
  by_cases h2 : e = d
  ·subst h2; rw [if_pos rfl, if_pos (by omega)]
  ·rw [if_neg h2, if_neg (by omega)]
   split
   ·rfl
   ·rfl
theorem DecI.step {set : Int} {M : Wm} {n d i : Nat} {vals : List Bool} (h : DecI set M n d i vals) (hs : (Zqv set i && Zdz (Zqw M i d).ph) = false) : DecI set M n d (i + 1) vals := by
 refine ⟨h.1, fun e he => ?_⟩
 rw [h.2 e he, Zl3, hs, Bool.or_false]
theorem DecI.hit {set : Int} {M : Wm} {n d i : Nat} {vals : List Bool} (h : DecI set M n d i vals) (hd : d < 6) (hs : (Zqv set i && Zdz (Zqw M i d).ph) = true) : DecI set M n d (i + 1) (vals.set d true) := by
 refine ⟨by rw [List.length_set]; exact h.1, fun e he => ?_⟩
 rw [Zl3, hs, Bool.or_true, List.getElem?_set]
 by_cases h1 : d = e
 ·subst h1
  rw [if_pos rfl, if_pos (by rw [h.1]; exact hd), if_neg (by omega), if_pos rfl]
 ·rw [if_neg h1, h.2 e he, if_neg (Ne.symm h1)]
  congr 1
  split
  ·rfl
  ·rw [if_neg (Ne.symm h1)]
theorem drop_drop (M : Wm) (k : Nat) (h : k < M.l.length) : Uy { M with l := M.l.drop k } 0 = ({ M with l := M.l.drop (k + 1) }, none) := by
 have hd : M.l.drop k = M.l[k] :: M.l.drop (k + 1) := List.drop_eq_getElem_cons h
 have e : Zk1 { M with l := M.l.drop k } 0 = none := by
  unfold Zk1
  simp only [hd]
  rw [if_neg (by simp only [List.length_cons]; omega)]
 unfold Uy
 rw [e]
 simp only [hd]
 rfl
theorem Zqa (n k : Nat) (hk : k ≤ 30) (hn : (n : Int) ≤ 9223372036854775807) (L : Zb) : HC Tryz.prog 19 [iv n, iv k] L (fun v L' => v = .bool (Zqv n k) ∧ L' = L) := by
 have := Zko n k hk hn L
 rwa [show decide (n / 2 ^ k % 2 = 1) = Zqv n k from decide_eq_decide.2 ((inS_bit n k).symm.trans (by unfold Zqv; rw [decide_eq_true_iff]))] at this
set_option maxHeartbeats 2000000 attribute [local irreducible] HW HO HQ HD HC QOp Has Upd Zt Gets Yb Z6 Zr Xr Z4 Zm Xx Zy
attribute [local irreducible] Z5 Uv Zdu stsW Uu Zz Ue Zl5 Qb
end Go.HL
end

/-! MwR -/
section
namespace Go.HL
open Go Go.Proofs
set_option linter.unusedVariables false
set_option linter.unusedSimpArgs false
theorem Zjx {M : Wm} {P N : Int} (hI : WI M) (h : Bnd M P N) (hl : M.l.length ≤ 100000) (set : Int) : ∀ k : Nat, Bnd (Zz set k M).1 (P + 294 * k) (N + 6600042 * k)
 | 0 => h.mono (by omega) (by omega)
 | k + 1 => by
  obtain ⟨a1, a2, a3, -⟩ := Zbj hI set k
  have := Zuv a1 (Zjx hI h hl set k) (by omega) set
  exact this.mono (by push_cast; omega) (by push_cast; omega)
theorem Ztd {D : RwG} {M : Wm} (hD : RwOk D M) (L : Zb) : ∃ a cap al capl, Has (Qs D M :: L) D.wp (.cells ⟨[.slice D.aw D.wl D.cw, .slice a M.n.length cap, D.bv, .slice al M.l.length capl, D.ev]⟩ 94) := by
 have hI := Zcz hD L
 obtain ⟨a, cap, hnv, -⟩ := hI.ns
 obtain ⟨al, capl, hlv, -⟩ := hI.ls
 have hw := hI.wp
 unfold Vt at hw
 rw [hnv, hlv] at hw
 exact ⟨a, cap, al, capl, lsD.has hw⟩
set_option maxHeartbeats 2000000 attribute [local irreducible] HW HO HQ HD HC QOp Has Upd Zt Gets Yb Z6 Zr Xr Z4 Zm Xx Zy
attribute [local irreducible] Qs Wt Zw
theorem Zlh (D : RwG) (M : Wm) (sn k : Nat) (L : Zb) (hRw : Rd ic 1 L D.aw M.w) (hD : RwOk D M) (hM : WI M) {P N : Int} (hB : Bnd M P N) (hN : N + 6600042 * (k + 1) + 100 < 4294967296) (hl : M.l.length ≤ 100000) (hs : (sn : Int) ≤ 9223372036854775807) (hk : k ≤ 10) :
  HC Tryz.prog 51 [pt D.wp 0, iv sn, iv k] (Qs D M :: L) (fun v L' => v = iv (Zz (sn : Int) k M).2 ∧ RwQ D (Zz (sn : Int) k M).1 L L') := by
 have hok := Zbj hM (sn : Int)
 have hbn := Zjx hM hB hl (sn : Int)
 have hmany : ∀ i, (Zz (sn : Int) i M).2 ≤ 100000000 * i := fun i => by
  induction i with
  | zero => exact Nat.le_refl _
  | succ i ih =>
   obtain ⟨a1, a2, a3, -⟩ := hok i
   have h2 := (Zc5 a1 (sn : Int)).2
   have h3 := a2.n
   have h4 := hM.wn
   have h5 := hM.wl
   have : (Zz (sn : Int) (i + 1) M).2 = (Zz (sn : Int) i M).2 + (V1 (sn : Int) (Zz (sn : Int) i M).1).2 := rfl
   omega
 refine Za (fun _ _ => Tryz.call51 _ _) Tryz.func51 rfl Tryz.ntmps51 (Nat.le_of_ble_eq_true rfl) ?_; simp only [Zc, Nat.reduceAdd]
 repeat' (first | refine uN ?_ | (refine uP ?_ ?_ <;> (intro h; ((try simp only [zs, ne_eq, and_true, true_and, eq_self, reduceCtorEq] at h); try exact zx))) | fail)
 refine Wi (L' := Qs D (Zz (sn : Int) 0 M).1 :: L) ?_ (LS.refl _)
 refine Zn (σ := Nat × RwG) (fun r => [(0, pt D.wp 0), (1, iv sn), (2, iv k), (7, iv (Zz (sn : Int) r.1 M).2), (8, iv r.1)]) (fun r => Qs r.2 (Zz (sn : Int) r.1 M).1 :: L)
  (fun r => r.1 ≤ k ∧ RwS D r.2 ∧ RwOk r.2 (Zz (sn : Int) r.1 M).1) (fun r => k - r.1) (0, D) uS (List.Sublist.refl _) ⟨by simp, .refl D, hD⟩ ?_
 rintro ⟨i, G1⟩ ⟨hi, eS, hW1⟩
 simp only at hi eS hW1 ⊢
 by_cases hlt : i < k
 ·obtain ⟨hI1, hS1, hl1, -⟩ := hok i
  have hm1 := hmany i
  have hb1 := hbn i
  have hrs : Zz (sn : Int) (i + 1) M = ((V1 (sn : Int) (Zz (sn : Int) i M).1).1, (Zz (sn : Int) i M).2 + (V1 (sn : Int) (Zz (sn : Int) i M).1).2) := rfl
  clear hok hmany hbn
  generalize Zz (sn : Int) i M = R at *
  obtain ⟨M1, many⟩ := R
  simp only at hW1 hI1 hS1 hl1 hm1 hrs hb1 ⊢
  have hn1 := hI1.wn
  have hw1 := hI1.wl
  have htk := Qw hI1 (sn : Int)
  have htb := Zgi hI1 hb1 (sn : Int)
  repeat' (first | refine uN ?_ | (refine uP ?_ ?_ <;> (intro h; ((try simp only [zs, ne_eq, and_true, true_and, eq_self, reduceCtorEq] at h); try exact zx))) | fail)
  refine Zn (σ := Nat × RwG) (fun r => [(0, pt D.wp 0), (1, iv sn), (2, iv k), (7, iv many), (8, iv i), (9, iv r.1)]) (fun r => Qs r.2 (Wc (sn : Int) r.1 M1) :: L)
   (fun r => r.1 ≤ M1.n.length ∧ RwS D r.2 ∧ RwOk r.2 (Wc (sn : Int) r.1 M1)) (fun r => M1.n.length - r.1) (0, G1) uS (List.Sublist.refl _) ⟨by simp, eS, hW1⟩ ?_
  rintro ⟨s, G2⟩ ⟨hs2, eS2, hW2⟩
  simp only at hs2 eS2 hW2 ⊢
  obtain ⟨an, capn, al, capl, hcell⟩ := Ztd hW2 L
  have hk2 := htk s
  have hsm := hk2.same.n
  rw [eS2.wp, hsm] at hcell
  by_cases hsl : s < M1.n.length
  ·have hss := Zao (sn : Int) s M1
   have hl2 := hk2.len
   have hbs := htb s
   have kh := fun L => Zqa sn s (by omega) hs L
   have kt := HC.shutD (V := fun u => u = iv (cdN (Wt (Wc (sn : Int) s M1) s).2)) (Zc8 G2 (Wc (sn : Int) s M1) s L (by rw [eS2.aw, hk2.same.w, hS1.w]; exact hRw) hW2 hk2.wi (by omega) (fun hu k j ref hk hsi => Zr2 hbs hk2.wi (by omega) s hu k j ref hk hsi))
   rw [eS2.wp] at kt
   unfold Zjk at hss
   cases hin : Zqv (sn : Int) s with
   | true =>
    rw [hin] at hss
    simp only [if_true] at hss
    simp only [hin] at kh
    repeat' (first | refine uN ?_ | refine uC (kh _) ?_ | (refine uP ?_ ?_ <;> (intro h; ((try simp only [zs, ne_eq, and_true, true_and, eq_self, reduceCtorEq] at h); try exact zx))) | fail)
    refine gc kt ?_
    rintro v L' ⟨rfl, G3, e3, hW3, rfl⟩
    repeat' (first | refine uN ?_ | refine uC (kh _) ?_ | (refine uP ?_ ?_ <;> (intro h; ((try simp only [zs, ne_eq, and_true, true_and, eq_self, reduceCtorEq] at h); try exact zx))) | fail)
    exact Zg (s + 1, G3) uS (by simp only [hss]; exact LS.refl _) ⟨by simp only; omega, eS2.trans e3, by simp only [hss]; exact hW3⟩ (by simp only; omega)
   | false =>
    rw [hin] at hss
    simp only [Bool.false_eq_true, if_false] at hss
    simp only [hin] at kh
    repeat' (first | refine uN ?_ | refine uC (kh _) ?_ | (refine uP ?_ ?_ <;> (intro h; ((try simp only [zs, ne_eq, and_true, true_and, eq_self, reduceCtorEq] at h); try exact zx))) | fail)
    exact Zg (s + 1, G2) uS (by simp only [hss]; exact LS.refl _) ⟨by simp only; omega, eS2, by simp only [hss]; exact hW2⟩ (by simp only; omega)
  ·obtain rfl : s = M1.n.length := by omega
   have hkt := htk M1.n.length
   have hlt2 := hkt.len
   have hw65 := Zs0 (Wc (sn : Int) M1.n.length M1).l
   have hrd := (Zc5 hI1 (sn : Int)).2
   unfold V1 at hrs hrd
   have hIt := hkt.wi
   have hTw : (Wc (sn : Int) M1.n.length M1).w = M.w := by rw [hkt.same.w, hS1.w]
   clear htk hkt htb
   generalize Wc (sn : Int) M1.n.length M1 = MT at *
   repeat' (first | refine uN ?_ | (refine uP ?_ ?_ <;> (intro h; ((try simp only [zs, ne_eq, and_true, true_and, eq_self, reduceCtorEq] at h); try exact zx))) | fail)
   refine Zn (σ := Wm × RwG × Nat) (fun r => [(0, pt D.wp 0), (1, iv sn), (2, iv k), (7, iv r.2.2), (8, iv i)]) (fun r => Qs r.2.1 r.1 :: L)
    (fun r => WI r.1 ∧ r.1.w = M.w ∧ RwS D r.2.1 ∧ RwOk r.2.1 r.1 ∧ Zci r.1.l ≤ Zci MT.l ∧ (Wk r.1).1 = (Wk MT).1 ∧ r.2.2 + (Wk r.1).2 = many + (Wk MT).2) (fun r => Zci r.1.l) (MT, G2, many) uS (List.Sublist.refl _) ⟨hIt, hTw, eS2, hW2, Nat.le_refl _, rfl, rfl⟩ ?_
   rintro ⟨M2, G3, j⟩ ⟨hI2, hw2, eS3, hW3, hwt, hd1, hd2⟩
   simp only at hI2 hw2 eS3 hW3 hwt hd1 hd2 ⊢
   have hl2 := Ziu M2.l
   obtain ⟨an2, capn2, al2, capl2, hcell2⟩ := Ztd hW3 L
   rw [eS3.wp] at hcell2
   have kd := HC.shutD (V := fun u => u = iv (cdN (Zw M2 0).2)) (Q7 G3 M2 0 L (by rw [eS3.aw, hw2]; exact hRw) hW3 hI2 (by omega))
   rw [eS3.wp] at kd
   by_cases hnl : M2.l = []
   ·have hl0 : M2.l.length = 0 := by rw [hnl]; rfl
    rw [Qx hnl] at hd1 hd2
    simp only at hd1 hd2
    repeat' (first | refine uN ?_ | (refine uP ?_ ?_ <;> (intro h; ((try simp only [zs, ne_eq, and_true, true_and, eq_self, reduceCtorEq] at h); try exact zx))) | fail)
    refine Zg (i + 1, G3) (by simp only [hrs, ← hd2, Nat.add_zero]; exact uS) (by simp only [hrs, ← hd1]; exact LS.refl _) ⟨by simp only; omega, eS3, by simp only [hrs, ← hd1]; exact hW3⟩ (by simp only; omega)
   ·have hl0 : 0 < M2.l.length := List.length_pos_iff.2 hnl
    obtain ⟨hd3, hd4⟩ := U5 hI2 hnl
    have hds := Zb4 hI2 hnl
    rw [hds] at hd1 hd2
    simp only at hd1 hd2
    have hok3 := Ve hI2 0
    repeat' (first | refine uN ?_ | (refine uP ?_ ?_ <;> (intro h; ((try simp only [zs, ne_eq, and_true, true_and, eq_self, reduceCtorEq] at h); try exact zx))) | fail)
    refine gc kd ?_
    rintro v L' ⟨rfl, G4, e4, hW4, rfl⟩
    repeat' (first | refine uN ?_ | (refine uP ?_ ?_ <;> (intro h; ((try simp only [zs, ne_eq, and_true, true_and, eq_self, reduceCtorEq] at h); try exact zx))) | fail)
    exact Zg ((Zw M2 0).1, G4, j + 1) uS (LS.refl _) ⟨hok3.wi, hok3.same.w.trans hw2, eS3.trans e4, hW4, by simp only; omega, hd1, by simp only; omega⟩ hd3
 ·obtain rfl : i = k := by omega
  repeat' (first | refine uN ?_ | (refine uP ?_ ?_ <;> (intro h; ((try simp only [zs, ne_eq, and_true, true_and, eq_self, reduceCtorEq] at h); try exact zx))) | fail)
  exact Yi (LS.refl _) ⟨rfl, G1, eS, hW1, rfl⟩
end Go.HL
end

/-! MwS -/
section
namespace Go.HL
open Go Go.Proofs
set_option linter.unusedVariables false
set_option linter.unusedSimpArgs false
theorem HC.shutDC {F : Nat} {args : List Value} {G : RwG} {M M' : Wm} {L : Zb} {V : Value → List Zq → Prop} (h : HC Tryz.prog F args (Xs G M ++ L) (fun v L' => ∃ c, V v c ∧ Zh9 G M' (c :: L) L')) : HC Tryz.prog F args (Qs G M :: L) (fun v L' => ∃ c, V v c ∧ RwQ G M' (c :: L) L') := by
 refine HC.post (HC.fl h (Zgu G M L).symm) ?_
 rintro v L' ⟨c, hv, G', e1, e3, rfl⟩
 exact ⟨Qs G' M' :: c :: L, LS.of_eq (Zgu G' M' _), c, hv, G', e1, e3, rfl⟩
set_option maxHeartbeats 2000000 attribute [local irreducible] HW HO HQ HD HC QOp Has Upd Zt Gets Yb Z6 Zr Xr Z4 Zm Xx Zy
attribute [local irreducible] Va Z5 Uu Qs
theorem Zj4 (T : Nat) (E : Nat → Addr) (a a2 : Option Addr) (cap cap2 : Nat) (w l : List Int) (set n : Int) (L : Zb) (hE : Ez T E L) (hR : Rd ic 1 L a w) (hR2 : Rd ic 1 L a2 l) (hd : ∀ v ∈ l, v ≤ 9223372036854775807) (hs9 : set ≤ 9223372036854775807) (hn9 : n ≤ 9223372036854775807) :
    HC Tryz.prog 9 [.slice a w.length cap, .slice a2 l.length cap2, iv set, iv n] L (fun v L' => v = .bool true ∧ L' = L) := by
  have kb := Zke T E L hE
  have kwe := Zah a cap w L hR
  cases hc : Yw w with
  | some e =>
    have hpos := Zto (hc ▸ Ziv w)
    simp only [hc, cdN'] at kwe
    refine Za (fun _ _ => Tryz.call9 _ _) Tryz.func9 rfl Tryz.ntmps9 (Nat.le_of_ble_eq_true rfl) ?_; simp only [Zc, Nat.reduceAdd]
    repeat' (first | refine uN ?_ | refine uC (kb) ?_ | refine uC (kwe) ?_ | (refine uP ?_ ?_ <;> (intro h; ((try simp only [zs, ne_eq, and_true, true_and, eq_self, reduceCtorEq] at h); try exact zx))) | fail)
    all_goals exact Yi (LS.refl _) ⟨rfl, rfl⟩
  | none =>
    simp only [hc, cdN'] at kwe
    by_cases hlc : l.length ≤ 200 ∧ ¬ (3 < n ∧ n ≤ 10)
    · obtain ⟨hl1, hn3⟩ := hlc
      obtain ⟨c1, c2, -⟩ := Wx hc
      have hM := Zj2 hc
      have hnl : (Z5 w).l.length = 0 := by unfold Z5; rfl
      have hnw : (Z5 w).w = w := by unfold Z5; rfl
      have ko := fun L hR => Zat a cap w L hR (by omega)
      have ko2 := fun L hR => Zat a2 cap2 l L hR (by omega)
      have kn0 := fun v c L hG hv => Zep T E v w c L hG hv (by omega)
      simp only [hc] at kn0
      have kn := fun v c L hG hv => HC.shutN (V := fun u G => u = .tuple ⟨[pt G.wp 0, .nilIface]⟩) (kn0 v c L hG hv)
      have krn := fun L => Zca w a cap L (by omega)
      have kr1 := fun G a cap L hE hW hR hcap => HC.shutC (V := fun v c => Vec 3 1 ic v (Va (Z5 w) l).2 c) (Zvc T E G (Z5 w) a cap l L hE hW hM (by omega) hR hcap hd)
      have kr2 := fun D a cap L hRw hD hR => HC.shutDC (V := fun v c => Vec 3 1 ic v (Va (Z5 w) l).2 c) (Zr9 D (Z5 w) a cap l L hRw hD hM (Zm1 hc) (by omega) (by omega) (by omega) hR hd)
      obtain ⟨hok1, hlen1⟩ := run_ok hM l
      refine Za (fun _ _ => Tryz.call9 _ _) Tryz.func9 rfl Tryz.ntmps9 (Nat.le_of_ble_eq_true rfl) ?_; simp only [Zc, Nat.reduceAdd]
      repeat' (first | refine uN ?_ | refine uC (kb) ?_ | refine uC (kwe) ?_ | (refine uP ?_ ?_ <;> (intro h; ((try simp only [zs, ne_eq, and_true, true_and, eq_self, reduceCtorEq] at h); try exact zx))) | fail)
      all_goals first | (exfalso; omega) | skip
      all_goals refine gc (ko _ hR) ?_
      all_goals rintro v L' ⟨o1, ho1, rfl⟩
      all_goals repeat' (first | refine uN ?_ | refine uC (kb) ?_ | (refine uP ?_ ?_ <;> (intro h; ((try simp only [zs, ne_eq, and_true, true_and, eq_self, reduceCtorEq] at h); try exact zx))) | fail)
      all_goals refine gc (kn _ _ _ (hE.er [2, 3, 4, 6]) ho1) ?_
      all_goals rintro v L' ⟨Ga, rfl, hWa, rfl⟩
      all_goals repeat' (first | refine uN ?_ | refine uC (kb) ?_ | (refine uP ?_ ?_ <;> (intro h; ((try simp only [zs, ne_eq, and_true, true_and, eq_self, reduceCtorEq] at h); try exact zx))) | fail)
      all_goals refine gc (krn _) ?_
      all_goals rintro v L' ⟨Da, rfl, ha1, ha2, hDa, rfl⟩
      all_goals repeat' (first | refine uN ?_ | refine uC (kb) ?_ | (refine uP ?_ ?_ <;> (intro h; ((try simp only [zs, ne_eq, and_true, true_and, eq_self, reduceCtorEq] at h); try exact zx))) | fail)
      all_goals refine Uk (L' := Qs Da (Z5 w) :: Uu Ga (Z5 w) :: o1 :: L) ?_ lsD'
      all_goals refine gc (ko2 _ (((hR2.cons _).cons _).cons _)) ?_
      all_goals rintro v L' ⟨o3, ho3, rfl⟩
      all_goals obtain ⟨a3, cap3, rfl, hcap3, hR3⟩ := Vec.rd ho3 Xu
      all_goals refine fo 2 ?_
      all_goals refine gc (kr1 Ga a3 cap3 _ (((hE.cons _).cons _).cons _) hWa (hR3 _) hcap3) ?_
      all_goals rintro v L' ⟨f1, hf1, Ga1, e1, hWa1, rfl⟩
      all_goals repeat' (first | refine uN ?_ | refine uC (kb) ?_ | (refine uP ?_ ?_ <;> (intro h; ((try simp only [zs, ne_eq, and_true, true_and, eq_self, reduceCtorEq] at h); try exact zx))) | fail)
      all_goals refine fo 3 ?_
      all_goals refine gc (kr2 Da a2 cap2 _ (by rw [ha1, hnw]; exact (((hR.cons _).cons _).cons _).cons _) hDa ((((hR2.cons _).cons _).cons _).cons _)) ?_
      all_goals rintro v L' ⟨f2, hf2, Da1, e2, hDa1, rfl⟩
      all_goals obtain ⟨a4, cap4, rfl, -, hR4⟩ := hf1.rd Xu
      all_goals obtain ⟨a5, cap5, rfl, -, hR5⟩ := hf2.rd Xu
      all_goals refine Uk (L' := Uu Ga1 (Va (Z5 w) l).1 :: Qs Da1 (Va (Z5 w) l).1 :: f1 :: f2 :: L) ?_ uL
      all_goals have ksi := Zi0 a4 a5 cap4 cap5 _ _ (Uu Ga1 (Va (Z5 w) l).1 :: Qs Da1 (Va (Z5 w) l).1 :: f1 :: f2 :: L) (((hR4 _).cons _).cons _) ((((hR5 _).cons _).cons _).cons _) (by omega)
      all_goals simp only [decide_true] at ksi
      all_goals have kas := U8 T E Ga1 Da1 (Va (Z5 w) l).1 (f1 :: f2 :: L) ((hE.cons _).cons _) hWa1 hDa1 hok1.wi (by have := hok1.len; omega)
      all_goals rw [e1, e2.wp] at kas
      all_goals repeat' (first | refine uN ?_ | refine uC (ksi) ?_ | refine uC (kas) ?_ | (refine uP ?_ ?_ <;> (intro h; ((try simp only [zs, ne_eq, and_true, true_and, eq_self, reduceCtorEq] at h); try exact zx))) | fail)
      all_goals have hlR : (Va (Z5 w) l).1.l.length ≤ 16800 := by have := hok1.len; omega
      all_goals have kro := Zn0 T E Ga1 (Va (Z5 w) l).1 set n (Qs Da1 (Va (Z5 w) l).1 :: f1 :: f2 :: L) (((hE.cons _).cons _).cons _) hWa1 hok1.wi (by omega) hs9 hn9
      all_goals rw [e1] at kro
      all_goals by_cases hr : Znr set n
      all_goals first
        | (simp only [if_pos hr] at kro
           have kc2 := Um T E (some 2) 2 (Uu Ga1 (Va (Z5 w) l).1 :: Qs Da1 (Va (Z5 w) l).1 :: f1 :: f2 :: L) ((((hE.cons _).cons _).cons _).cons _) (by simp [okE, all9])
           simp only [show decide (cdN (some 2) = 2) = true from rfl] at kc2
           unfold Znr at hr
           repeat' (first | refine uN ?_ | refine uC (kro) ?_ | refine uC (kc2) ?_ | refine uC (kas) ?_ | (refine uP ?_ ?_ <;> (intro h; ((try simp only [zs, ne_eq, and_true, true_and, eq_self, reduceCtorEq] at h); try exact zx))) | fail)
           all_goals first | (exfalso; omega) | exact Yi (LS.c (LS.c (LS.c (LS.c (LS.refl _))))) ⟨rfl, rfl⟩)
        | skip
      all_goals simp only [if_neg hr] at kro
      all_goals unfold Znr at hr
      all_goals obtain ⟨sn, rfl⟩ := Int.eq_ofNat_of_zero_le (show 0 ≤ set by omega)
      all_goals obtain ⟨k, rfl⟩ := Int.eq_ofNat_of_zero_le (show 0 ≤ n by omega)
      all_goals rw [Int.toNat_natCast] at kro
      all_goals have hbR := Zkk (Zm1 hc) hM l l.length (Nat.le_refl _)
      all_goals rw [show (l.take l.length).foldl U9 (Z5 w, []) = Va (Z5 w) l by unfold Va; rw [List.take_length, List.take_of_length_le (by omega)]] at hbR
      all_goals have hro := Zbj hok1.wi (sn : Int) k
      all_goals repeat' (first | refine uN ?_ | refine uC (kb) ?_ | (refine uP ?_ ?_ <;> (intro h; ((try simp only [zs, ne_eq, and_true, true_and, eq_self, reduceCtorEq] at h); try exact zx))) | fail)
      all_goals refine gc kro ?_
      all_goals rintro v L' ⟨rfl, Ga2, e3, hWa2, rfl⟩
      all_goals repeat' (first | refine uN ?_ | refine uC (kb) ?_ | (refine uP ?_ ?_ <;> (intro h; ((try simp only [zs, ne_eq, and_true, true_and, eq_self, reduceCtorEq] at h); try exact zx))) | fail)
      all_goals first | (exfalso; omega) | skip
      all_goals have krr := Zlh Da1 (Va (Z5 w) l).1 sn k (Uu Ga2 (Zz (sn : Int) k (Va (Z5 w) l).1).1 :: f1 :: f2 :: L) (by rw [e2.aw, ha1, hok1.same.w, hnw]; exact ((hR.cons _).cons _).cons _) hDa1 hok1.wi hbR (by omega) (by omega) (by omega) (by omega)
      all_goals rw [e2.wp] at krr
      all_goals refine fo 1 ?_
      all_goals refine gc krr ?_
      all_goals rintro v L' ⟨rfl, Da2, e4, hDa2, rfl⟩
      all_goals refine Uk (L' := Uu Ga2 (Zz (sn : Int) k (Va (Z5 w) l).1).1 :: Qs Da2 (Zz (sn : Int) k (Va (Z5 w) l).1).1 :: f1 :: f2 :: L) ?_ uL
      all_goals have kas2 := U8 T E Ga2 Da2 (Zz (sn : Int) k (Va (Z5 w) l).1).1 (f1 :: f2 :: L) ((hE.cons _).cons _) hWa2 hDa2 hro.1 (by have := hro.2.2.1; omega)
      all_goals rw [e3, e1, e4.wp, e2.wp] at kas2
      all_goals repeat' (first | refine uN ?_ | refine uC (kas2) ?_ | (refine uP ?_ ?_ <;> (intro h; ((try simp only [zs, ne_eq, and_true, true_and, eq_self, reduceCtorEq] at h); try exact zx))) | fail)
      all_goals exact Yi (LS.c (LS.c (LS.c (LS.c (LS.refl _))))) ⟨rfl, rfl⟩
    · refine Za (fun _ _ => Tryz.call9 _ _) Tryz.func9 rfl Tryz.ntmps9 (Nat.le_of_ble_eq_true rfl) ?_; simp only [Zc, Nat.reduceAdd]
      repeat' (first | refine uN ?_ | refine uC (kb) ?_ | refine uC (kwe) ?_ | (refine uP ?_ ?_ <;> (intro h; ((try simp only [zs, ne_eq, and_true, true_and, eq_self, reduceCtorEq] at h); try exact zx))) | fail)
      all_goals first | exact Yi (LS.refl _) ⟨rfl, rfl⟩ | (exfalso; omega)
end Go.HL
end
