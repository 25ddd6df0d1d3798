/- Texts laid into one, without what the claim does not use. Conditions: none. -/
import Derived.Test.YtkookaogdkdegacGreatDoorMStD
/-! RlE -/
section
namespace Go.HL
open Go Go.Proofs
set_option linter.unusedVariables false
set_option linter.unusedSimpArgs false
set_option maxHeartbeats 2000000 attribute [local irreducible] HW HO HQ HD HC QOp Has Upd Zt Gets Yb Z6 Zr Xr Z4 Zm Xx Zy
set_option maxHeartbeats 2000000 in
theorem Zsd (lp : Nat) (aw : Option Addr) (capw : Nat) (hv : Value) (hc : List Zq) (m : Ld) (hs : List Fr) (f : Fr) (L : Zb) (hR : Rd ic 1 L aw m.w) (hck : Yw m.w = none) (hH : Zx hv hs hc) (rel : RelH m hs) (hw : m.wait ≠ 0) (hfit : Xn m f) (hy : f.yes = true) (hkd : ¬ f.kd = 2) (hsn : m.seen < f.s.pr) :
  HC Tryz.prog 147 [pt lp 0, .agg ⟨fc f⟩] (Up lp aw capw hv hc m :: L) (fun v L' => ∃ c hv' hc', Zx v (Zs m f).2 c ∧ Zx hv' (U1 m hs f) hc' ∧ L' = c :: Up lp aw capw hv' hc' (Zs m f).1 :: L) := by
 have rel2 := rel.m2 hfit
 have hl2 := rel2.le7
 have hw72 := rel2.w7
 have e0 : Qn m f = { m with seen := f.s.pr } := by unfold Qn; rw [if_neg hkd, show max m.seen f.s.pr = f.s.pr by omega]
 have hm2 : U2 m f = { m with seen := f.s.pr, heard := m.heard ||| 2 ^ f.fr.toNat, told := m.told.set f.fr.toNat f.s } := by unfold U2; rw [e0]
 have eh : Zs m f = Z9 (U2 m f) := by unfold Zs; rw [if_neg (fun h => h.elim hw (fun h => h hfit)), if_neg (by rw [hy]; decide)]
 have eh2 : U1 m hs f = Xq (U2 m f) (hs ++ [f]) := by unfold U1; rw [if_neg (fun h => h.elim hw (fun h => h hfit)), if_neg (by rw [hy]; decide)]
 rw [eh, eh2]
 have kf := fun L => Vn lp aw capw hv hc m hs f.fr L hH (by have := rel.le7; have := rel.w7; omega)
 rw [Zfg rel hfit.2.2.2.2.1 hfit.2.2.2.2.2.1, decide_eq_false (by have := hfit.2.2.2.2.2.2; omega)] at kf
 have hf0 := hfit
 unfold Xn at hf0
 have hw7 := rel.w7
 have hl7 := rel.le7
 generalize hM : U2 m f = m2 at *
 have em : ∀ v' c', Up lp aw capw v' c' m2 = (lp, .cells ⟨Zwl aw capw v' { m with seen := f.s.pr }⟩ 217) :: c' := fun v' c' => by rw [hm2]; rfl
 have ew : m2.w = m.w := by rw [hm2]
 have ek : m2.wait = f.kd := by rw [hm2]; show m.wait = f.kd; omega
 have ep : m2.phase = m.phase := by rw [hm2]
 refine Za (fun _ _ => Tryz.call147 _ _) Tryz.func147 rfl Tryz.ntmps147 (Nat.le_of_ble_eq_true rfl) ?_; simp only [Zc, Nat.reduceAdd]
 repeat apply Ziq
 apply Zba
 refine wb (fun b3 => ?_)
 repeat' (first | refine uN ?_ | refine Z7 S ?_ | refine Yt S ?_ | refine We (qC (Yx kf 1)) ?_ | refine Qi (qC (Yx kf 1)) ?_ | refine Yd (fun _ => Yx kf 1) ?_ | refine Yf (fun _ => Yx kf 1) ?_ | refine Ye (fun _ => Yx kf 1) ?_ | refine Yh (fun _ => Yx kf 1) ?_ | (refine uB ?_; intro b) | (refine uP ?_ ?_ <;> (intro h; ((try simp only [zs, ne_eq, and_true, true_and, eq_self, reduceCtorEq] at h); try exact zx))) | refine da 101 ?_ | fail)
 all_goals (try exact absurd ((by assumption : f.yes = false).symm.trans hy) (by decide))
 refine fo 3 ?_
 refine ho_rl ?_
 refine Zea S f hH Zi Wb ?_
 intro v1 c1 hv1
 obtain ⟨a1, p1, rfl, -, -⟩ := Vec.rd hv1 Zi
 repeat' (first | refine uN ?_ | refine Z7 S ?_ | refine Yt S ?_ | (refine uB ?_; intro b) | (refine uP ?_ ?_ <;> (intro h; ((try simp only [zs, ne_eq, and_true, true_and, eq_self, reduceCtorEq] at h); try exact zx))) | refine da 101 ?_ | fail)
 refine Wi (L' := c1 :: [(lp, .cells ⟨Zwl aw capw (.slice a1 (hs ++ [f]).length p1) { m with seen := f.s.pr }⟩ 217)] :: [] :: [(b3, .cells ⟨fc f⟩ 131)] :: L) ?_ uL
 refine hw_lr ?_
 rw [← em]
 generalize hvv : Value.slice a1 (hs ++ [f]).length p1 = v1 at *
 have kf2 := fun i L => Vn lp aw capw v1 c1 m2 (hs ++ [f]) i L hv1 (by omega)
 refine Wi (L' := [] :: Up lp aw capw v1 c1 m2 :: [(b3, .cells ⟨fc f⟩ 131)] :: L) ?_ uL
 refine Zn (σ := Nat × Value × List Zq) (fun q => [(0, pt lp 0), (3, pt b3 0), (8, iv ((m2.heard % 2 ^ q.1 : Nat) : Int)), (9, q.2.1), (10, iv q.1)]) (fun q => q.2.2 :: Up lp aw capw v1 c1 m2 :: [(b3, .cells ⟨fc f⟩ 131)] :: L) (fun q => q.1 ≤ m2.w.length ∧ Vec 43 3 sc q.2.1 ((List.range q.1).flatMap (Wj m2)) q.2.2) (fun q => m2.w.length - q.1) (0, Y4, []) ?_ (List.Sublist.refl _) ⟨by simp, Zu⟩ ?_
 ·simp only [Nat.pow_zero, Nat.mod_one]
  exact uS
 rintro ⟨i, vS, cS⟩ ⟨hi, hS⟩
 simp only at hi hS ⊢
 have hle := Wh (Wj m2) (Zbz m2) i
 have hms := Zku m2.heard i
 have hmlt : m2.heard % 2 ^ i < 2 ^ i := Nat.mod_lt _ (Nat.two_pow_pos i)
 by_cases hlt : i < m2.w.length
 ·have kt := fun L => Za7 i (by omega) L
  have et : (2 : Int) ^ i = ((2 ^ i : Nat) : Int) := by simp
  rw [et] at kt
  have hp7 : 2 ^ i ≤ 128 := by
   have := Nat.pow_le_pow_right (n := 2) (by decide) (show i ≤ 7 by omega)
   simpa using this
  have hbi := rel2.bit i hlt
  by_cases hb : m2.heard / 2 ^ i % 2 = 1
  ·obtain ⟨g, hg⟩ := Option.isSome_iff_exists.1 (hbi.1 hb)
   have hgs := rel2.told i hlt g hg
   have kfi := fun L => kf2 i L
   rw [hg] at kfi
   have e1 : Wj m2 i = [g.s] := by unfold Wj; rw [if_pos hb, hgs]
   have e2 : (List.range (i + 1)).flatMap (Wj m2) = (List.range i).flatMap (Wj m2) ++ [g.s] := by rw [Wf, e1]
   rw [hb, Nat.mul_one] at hms
   generalize 2 ^ i = z at *
   simp only [Option.getD_some, Option.isSome_some] at kfi
   repeat' (first | refine uN ?_ | refine Z7 S ?_ | refine Yt S ?_ | refine We (qC (Yx kfi 1)) ?_ | refine Qi (qC (Yx kfi 1)) ?_ | refine uC (kt _) ?_ | refine Yd (fun _ => Yx kfi 1) ?_ | refine Yf (fun _ => Yx kfi 1) ?_ | refine Ye (fun _ => Yx kfi 1) ?_ | refine Yh (fun _ => Yx kfi 1) ?_ | refine Yd (fun _ => kt _) ?_ | refine Yf (fun _ => kt _) ?_ | refine Ye (fun _ => kt _) ?_ | refine Yh (fun _ => kt _) ?_ | (refine uB ?_; intro b) | (refine uP ?_ ?_ <;> (intro h; ((try simp only [zs, ne_eq, and_true, true_and, eq_self, reduceCtorEq] at h); try exact zx))) | refine da 101 ?_ | fail)
   refine fo 2 ?_
   refine Zea S g.s hS Q3 Zn3 ?_
   intro v' c' hv'
   rw [← e2] at hv'
   repeat' (first | refine uN ?_ | refine Z7 S ?_ | refine Yt S ?_ | (refine uB ?_; intro b) | (refine uP ?_ ?_ <;> (intro h; ((try simp only [zs, ne_eq, and_true, true_and, eq_self, reduceCtorEq] at h); try exact zx))) | refine da 101 ?_ | fail)
   refine Zg (i + 1, v', c') ?_ uL ⟨by simp only; omega, hv'⟩ (by simp only; omega)
   simp only
   rw [hms, Int.natCast_add]
   exact uS
  ·have hno : Wv (hs ++ [f]) i = none := by
    cases hq : Wv (hs ++ [f]) i with
    | none => rfl
    | some g => exact absurd (hbi.2 (by rw [hq]; rfl)) hb
   have kfi := fun L => kf2 i L
   rw [hno] at kfi
   have e1 : Wj m2 i = [] := by unfold Wj; rw [if_neg hb]
   have e2 : (List.range (i + 1)).flatMap (Wj m2) = (List.range i).flatMap (Wj m2) := by rw [Wf, e1, List.append_nil]
   rw [show m2.heard / 2 ^ i % 2 = 0 by omega, Nat.mul_zero, Nat.add_zero] at hms
   simp only [Option.getD_none, Option.isSome_none] at kfi
   repeat' (first | refine uN ?_ | refine Z7 S ?_ | refine Yt S ?_ | refine We (qC (Yx kfi 1)) ?_ | refine Qi (qC (Yx kfi 1)) ?_ | refine uC (kt _) ?_ | refine Yd (fun _ => Yx kfi 1) ?_ | refine Yf (fun _ => Yx kfi 1) ?_ | refine Ye (fun _ => Yx kfi 1) ?_ | refine Yh (fun _ => Yx kfi 1) ?_ | refine Yd (fun _ => kt _) ?_ | refine Yf (fun _ => kt _) ?_ | refine Ye (fun _ => kt _) ?_ | refine Yh (fun _ => kt _) ?_ | (refine uB ?_; intro b) | (refine uP ?_ ?_ <;> (intro h; ((try simp only [zs, ne_eq, and_true, true_and, eq_self, reduceCtorEq] at h); try exact zx))) | refine da 101 ?_ | fail)
   refine Zg (i + 1, vS, cS) ?_ uL ⟨by simp only; omega, by simp only; rw [e2]; exact hS⟩ (by simp only; omega)
   simp only
   rw [hms]
   exact uS
 ·obtain rfl : i = m2.w.length := by omega
  subst hvv
  have hmod : m2.heard % 2 ^ m2.w.length = m2.heard := Nat.mod_eq_of_lt rel2.lt
  obtain ⟨c1w, c2w, c3w, c4w⟩ := Wx hck
  rw [← ew] at hck c3w
  rw [← ew] at hR
  have kq := fun L hR => Zee aw capw m2.w m2.heard L hR hw72 c3w (by have := Nat.lt_of_lt_of_le rel2.lt (Nat.pow_le_pow_right (n := 2) (by decide) hw72); omega)
  have hen := en_ok hck rel2.lt
  rw [hmod]
  obtain ⟨aS, pS, rfl, hpS, hRS⟩ := Vec.rd hS Q3
  have hsl := Wh (Wj m2) (Zbz m2) m2.w.length
  have est : (List.range m2.w.length).flatMap (Wj m2) = Xg m2 := rfl
  rw [est] at hRS hsl hS ⊢
  cases hq : Zrr m2.w m2.heard with
  | false =>
   have ec : Z9 m2 = (m2, []) := by unfold Z9; rw [if_neg (fun h => hkd (ek ▸ h.1)), if_pos (.inr (by rw [hen, hq]))]
   have ec2 : Xq m2 (hs ++ [f]) = hs ++ [f] := by unfold Xq; rw [if_neg (fun h => hkd (ek ▸ h.1)), if_pos (.inr (by rw [hen, hq]))]
   rw [ec, ec2]
   rw [hq] at kq
   repeat' (first | refine uN ?_ | refine Z7 S ?_ | refine Yt S ?_ | refine We (qC (kq _ (((hR.cons _).cons _).cons _))) ?_ | refine Qi (qC (kq _ (((hR.cons _).cons _).cons _))) ?_ | refine Yd (fun _ => kq _ (((hR.cons _).cons _).cons _)) ?_ | refine Yf (fun _ => kq _ (((hR.cons _).cons _).cons _)) ?_ | refine Ye (fun _ => kq _ (((hR.cons _).cons _).cons _)) ?_ | refine Yh (fun _ => kq _ (((hR.cons _).cons _).cons _)) ?_ | (refine uB ?_; intro b) | (refine uP ?_ ?_ <;> (intro h; ((try simp only [zs, ne_eq, and_true, true_and, eq_self, reduceCtorEq] at h); try exact zx))) | refine da 101 ?_ | fail)
   exact Yi (L' := [] :: Up lp aw capw _ c1 m2 :: L) uL ⟨[], _, c1, Zu, hv1, rfl⟩
  | true =>
   rw [hq] at kq
   have n1 : ¬ (m2.wait = 2 ∧ m2.heard = 2 ^ m2.w.length - 1) := fun h => hkd (ek ▸ h.1)
   have n2 : ¬ (m2.wait = 2 ∨ (Xt m2.w m2.heard).1 = false) := fun h => h.elim (fun h => hkd (ek ▸ h)) (fun h => by rw [hen, hq] at h; cases h)
   have kd := fun p L => Zaw lp aw capw (.slice a1 (hs ++ [f]).length p1) c1 m2 p L (by omega)
   have kp := fun p L => Q8 lp aw capw (.slice a1 (hs ++ [f]).length p1) c1 m2 (hs ++ [f]) p L (by omega) hv1
   by_cases h6 : f.kd = 6
   ·have ec : Z9 m2 = Zcn m2 (Vi m2.phase) := by unfold Z9; rw [if_neg n1, if_neg n2, if_pos (by omega)]
    have ec2 : Xq m2 (hs ++ [f]) = hs ++ [f] := by unfold Xq; rw [if_neg n1, if_neg n2, if_pos (by omega)]
    rw [ec, ec2]
    repeat' (first | refine uN ?_ | refine Z7 S ?_ | refine Yt S ?_ | refine We (qC (kq _ (((hR.cons _).cons _).cons _))) ?_ | refine Qi (qC (kq _ (((hR.cons _).cons _).cons _))) ?_ | refine uC (Xh _ _) ?_ | refine Yd (fun _ => kq _ (((hR.cons _).cons _).cons _)) ?_ | refine Yf (fun _ => kq _ (((hR.cons _).cons _).cons _)) ?_ | refine Ye (fun _ => kq _ (((hR.cons _).cons _).cons _)) ?_ | refine Yh (fun _ => kq _ (((hR.cons _).cons _).cons _)) ?_ | refine Yd (fun _ => Xh _ _) ?_ | refine Yf (fun _ => Xh _ _) ?_ | refine Ye (fun _ => Xh _ _) ?_ | refine Yh (fun _ => Xh _ _) ?_ | (refine uB ?_; intro b) | (refine uP ?_ ?_ <;> (intro h; ((try simp only [zs, ne_eq, and_true, true_and, eq_self, reduceCtorEq] at h); try exact zx))) | refine da 101 ?_ | fail)
    refine fo 1 ?_
    refine gc (kd _ _) ?_
    rintro v L' ⟨c, hv2, rfl⟩
    repeat' (first | refine uN ?_ | refine Z7 S ?_ | refine Yt S ?_ | (refine uB ?_; intro b) | (refine uP ?_ ?_ <;> (intro h; ((try simp only [zs, ne_eq, and_true, true_and, eq_self, reduceCtorEq] at h); try exact zx))) | refine da 101 ?_ | fail)
    exact Yi (L' := c :: Up lp aw capw _ c1 (Vh m2) :: L) uL ⟨c, _, c1, hv2, hv1, rfl⟩
   ·have kch := fun L hR => Zdb aS pS (Xg m2) L hR (by omega)
    cases hch : (Yk (Xg m2)).2 with
    | true =>
     have ec : Z9 m2 = Zcn m2 (Yk (Xg m2)).1 := by unfold Z9; rw [if_neg n1, if_neg n2, if_neg (by omega), if_pos hch]
     have ec2 : Xq m2 (hs ++ [f]) = hs ++ [f] := by unfold Xq; rw [if_neg n1, if_neg n2, if_neg (by omega), if_pos hch]
     rw [ec, ec2]
     rw [hch] at kch
     repeat' (first | refine uN ?_ | refine Z7 S ?_ | refine Yt S ?_ | refine We (qC (kq _ (((hR.cons _).cons _).cons _))) ?_ | refine Qi (qC (kq _ (((hR.cons _).cons _).cons _))) ?_ | refine We (qC (kch _ (hRS _))) ?_ | refine Qi (qC (kch _ (hRS _))) ?_ | refine Yd (fun _ => kq _ (((hR.cons _).cons _).cons _)) ?_ | refine Yf (fun _ => kq _ (((hR.cons _).cons _).cons _)) ?_ | refine Ye (fun _ => kq _ (((hR.cons _).cons _).cons _)) ?_ | refine Yh (fun _ => kq _ (((hR.cons _).cons _).cons _)) ?_ | refine Yd (fun _ => kch _ (hRS _)) ?_ | refine Yf (fun _ => kch _ (hRS _)) ?_ | refine Ye (fun _ => kch _ (hRS _)) ?_ | refine Yh (fun _ => kch _ (hRS _)) ?_ | (refine uB ?_; intro b) | (refine uP ?_ ?_ <;> (intro h; ((try simp only [zs, ne_eq, and_true, true_and, eq_self, reduceCtorEq] at h); try exact zx))) | refine da 101 ?_ | fail)
     refine fo 1 ?_
     refine gc (kd _ _) ?_
     rintro v L' ⟨c, hv2, rfl⟩
     repeat' (first | refine uN ?_ | refine Z7 S ?_ | refine Yt S ?_ | (refine uB ?_; intro b) | (refine uP ?_ ?_ <;> (intro h; ((try simp only [zs, ne_eq, and_true, true_and, eq_self, reduceCtorEq] at h); try exact zx))) | refine da 101 ?_ | fail)
     exact Yi (L' := c :: Up lp aw capw _ c1 (Vh m2) :: L) uL ⟨c, _, c1, hv2, hv1, rfl⟩
    | false =>
     have ec : Z9 m2 = Zlf m2 (Yk (Xg m2)).1 := by unfold Z9; rw [if_neg n1, if_neg n2, if_neg (by omega), if_neg (by rw [hch]; decide)]
     have ec2 : Xq m2 (hs ++ [f]) = [] := by unfold Xq; rw [if_neg n1, if_neg n2, if_neg (by omega), if_neg (by rw [hch]; decide)]
     rw [ec, ec2]
     rw [hch] at kch
     repeat' (first | refine uN ?_ | refine Z7 S ?_ | refine Yt S ?_ | refine We (qC (kq _ (((hR.cons _).cons _).cons _))) ?_ | refine Qi (qC (kq _ (((hR.cons _).cons _).cons _))) ?_ | refine We (qC (kch _ (hRS _))) ?_ | refine Qi (qC (kch _ (hRS _))) ?_ | refine Yd (fun _ => kq _ (((hR.cons _).cons _).cons _)) ?_ | refine Yf (fun _ => kq _ (((hR.cons _).cons _).cons _)) ?_ | refine Ye (fun _ => kq _ (((hR.cons _).cons _).cons _)) ?_ | refine Yh (fun _ => kq _ (((hR.cons _).cons _).cons _)) ?_ | refine Yd (fun _ => kch _ (hRS _)) ?_ | refine Yf (fun _ => kch _ (hRS _)) ?_ | refine Ye (fun _ => kch _ (hRS _)) ?_ | refine Yh (fun _ => kch _ (hRS _)) ?_ | (refine uB ?_; intro b) | (refine uP ?_ ?_ <;> (intro h; ((try simp only [zs, ne_eq, and_true, true_and, eq_self, reduceCtorEq] at h); try exact zx))) | refine da 101 ?_ | fail)
     refine fo 1 ?_
     refine gc (kp _ _) ?_
     rintro v L' ⟨c, hv2, rfl⟩
     repeat' (first | refine uN ?_ | refine Z7 S ?_ | refine Yt S ?_ | (refine uB ?_; intro b) | (refine uP ?_ ?_ <;> (intro h; ((try simp only [zs, ne_eq, and_true, true_and, eq_self, reduceCtorEq] at h); try exact zx))) | refine da 101 ?_ | fail)
     exact Yi (L' := c :: Up lp aw capw Y4 [] (U3 m2 (Yk (Xg m2)).1) :: L) uL ⟨c, Y4, [], hv2, Zu, rfl⟩
set_option maxHeartbeats 2000000 in
theorem Zr0 (lp : Nat) (aw : Option Addr) (capw : Nat) (hv : Value) (hc : List Zq) (m : Ld) (hs : List Fr) (f : Fr) (L : Zb) (hR : Rd ic 1 L aw m.w) (hck : Yw m.w = none) (hH : Zx hv hs hc) (rel : RelH m hs) (hw : m.wait ≠ 0) (hfit : Xn m f) (hy : f.yes = true) (hkd : ¬ f.kd = 2) (hsn : ¬ m.seen < f.s.pr) :
  HC Tryz.prog 147 [pt lp 0, .agg ⟨fc f⟩] (Up lp aw capw hv hc m :: L) (fun v L' => ∃ c hv' hc', Zx v (Zs m f).2 c ∧ Zx hv' (U1 m hs f) hc' ∧ L' = c :: Up lp aw capw hv' hc' (Zs m f).1 :: L) := by
 have rel2 := rel.m2 hfit
 have hl2 := rel2.le7
 have hw72 := rel2.w7
 have e0 : Qn m f = { m with seen := m.seen } := by unfold Qn; rw [if_neg hkd, show max m.seen f.s.pr = m.seen by omega]
 have hm2 : U2 m f = { m with seen := m.seen, heard := m.heard ||| 2 ^ f.fr.toNat, told := m.told.set f.fr.toNat f.s } := by unfold U2; rw [e0]
 have eh : Zs m f = Z9 (U2 m f) := by unfold Zs; rw [if_neg (fun h => h.elim hw (fun h => h hfit)), if_neg (by rw [hy]; decide)]
 have eh2 : U1 m hs f = Xq (U2 m f) (hs ++ [f]) := by unfold U1; rw [if_neg (fun h => h.elim hw (fun h => h hfit)), if_neg (by rw [hy]; decide)]
 rw [eh, eh2]
 have kf := fun L => Vn lp aw capw hv hc m hs f.fr L hH (by have := rel.le7; have := rel.w7; omega)
 rw [Zfg rel hfit.2.2.2.2.1 hfit.2.2.2.2.2.1, decide_eq_false (by have := hfit.2.2.2.2.2.2; omega)] at kf
 have hf0 := hfit
 unfold Xn at hf0
 have hw7 := rel.w7
 have hl7 := rel.le7
 generalize hM : U2 m f = m2 at *
 have em : ∀ v' c', Up lp aw capw v' c' m2 = (lp, .cells ⟨Zwl aw capw v' { m with seen := m.seen }⟩ 217) :: c' := fun v' c' => by rw [hm2]; rfl
 have ew : m2.w = m.w := by rw [hm2]
 have ek : m2.wait = f.kd := by rw [hm2]; show m.wait = f.kd; omega
 have ep : m2.phase = m.phase := by rw [hm2]
 refine Za (fun _ _ => Tryz.call147 _ _) Tryz.func147 rfl Tryz.ntmps147 (Nat.le_of_ble_eq_true rfl) ?_; simp only [Zc, Nat.reduceAdd]
 repeat apply Ziq
 apply Zba
 refine wb (fun b3 => ?_)
 repeat' (first | refine uN ?_ | refine Z7 S ?_ | refine Yt S ?_ | refine We (qC (Yx kf 1)) ?_ | refine Qi (qC (Yx kf 1)) ?_ | refine Yd (fun _ => Yx kf 1) ?_ | refine Yf (fun _ => Yx kf 1) ?_ | refine Ye (fun _ => Yx kf 1) ?_ | refine Yh (fun _ => Yx kf 1) ?_ | (refine uB ?_; intro b) | (refine uP ?_ ?_ <;> (intro h; ((try simp only [zs, ne_eq, and_true, true_and, eq_self, reduceCtorEq] at h); try exact zx))) | refine da 101 ?_ | fail)
 all_goals (try exact absurd ((by assumption : f.yes = false).symm.trans hy) (by decide))
 refine fo 3 ?_
 refine ho_rl ?_
 refine Zea S f hH Zi Wb ?_
 intro v1 c1 hv1
 obtain ⟨a1, p1, rfl, -, -⟩ := Vec.rd hv1 Zi
 repeat' (first | refine uN ?_ | refine Z7 S ?_ | refine Yt S ?_ | (refine uB ?_; intro b) | (refine uP ?_ ?_ <;> (intro h; ((try simp only [zs, ne_eq, and_true, true_and, eq_self, reduceCtorEq] at h); try exact zx))) | refine da 101 ?_ | fail)
 refine Wi (L' := c1 :: [(lp, .cells ⟨Zwl aw capw (.slice a1 (hs ++ [f]).length p1) { m with seen := m.seen }⟩ 217)] :: [] :: [(b3, .cells ⟨fc f⟩ 131)] :: L) ?_ uL
 refine hw_lr ?_
 rw [← em]
 generalize hvv : Value.slice a1 (hs ++ [f]).length p1 = v1 at *
 have kf2 := fun i L => Vn lp aw capw v1 c1 m2 (hs ++ [f]) i L hv1 (by omega)
 refine Wi (L' := [] :: Up lp aw capw v1 c1 m2 :: [(b3, .cells ⟨fc f⟩ 131)] :: L) ?_ uL
 refine Zn (σ := Nat × Value × List Zq) (fun q => [(0, pt lp 0), (3, pt b3 0), (8, iv ((m2.heard % 2 ^ q.1 : Nat) : Int)), (9, q.2.1), (10, iv q.1)]) (fun q => q.2.2 :: Up lp aw capw v1 c1 m2 :: [(b3, .cells ⟨fc f⟩ 131)] :: L) (fun q => q.1 ≤ m2.w.length ∧ Vec 43 3 sc q.2.1 ((List.range q.1).flatMap (Wj m2)) q.2.2) (fun q => m2.w.length - q.1) (0, Y4, []) ?_ (List.Sublist.refl _) ⟨by simp, Zu⟩ ?_
 ·simp only [Nat.pow_zero, Nat.mod_one]
  exact uS
 rintro ⟨i, vS, cS⟩ ⟨hi, hS⟩
 simp only at hi hS ⊢
 have hle := Wh (Wj m2) (Zbz m2) i
 have hms := Zku m2.heard i
 have hmlt : m2.heard % 2 ^ i < 2 ^ i := Nat.mod_lt _ (Nat.two_pow_pos i)
 by_cases hlt : i < m2.w.length
 ·have kt := fun L => Za7 i (by omega) L
  have et : (2 : Int) ^ i = ((2 ^ i : Nat) : Int) := by simp
  rw [et] at kt
  have hp7 : 2 ^ i ≤ 128 := by
   have := Nat.pow_le_pow_right (n := 2) (by decide) (show i ≤ 7 by omega)
   simpa using this
  have hbi := rel2.bit i hlt
  by_cases hb : m2.heard / 2 ^ i % 2 = 1
  ·obtain ⟨g, hg⟩ := Option.isSome_iff_exists.1 (hbi.1 hb)
   have hgs := rel2.told i hlt g hg
   have kfi := fun L => kf2 i L
   rw [hg] at kfi
   have e1 : Wj m2 i = [g.s] := by unfold Wj; rw [if_pos hb, hgs]
   have e2 : (List.range (i + 1)).flatMap (Wj m2) = (List.range i).flatMap (Wj m2) ++ [g.s] := by rw [Wf, e1]
   rw [hb, Nat.mul_one] at hms
   generalize 2 ^ i = z at *
   simp only [Option.getD_some, Option.isSome_some] at kfi
   repeat' (first | refine uN ?_ | refine Z7 S ?_ | refine Yt S ?_ | refine We (qC (Yx kfi 1)) ?_ | refine Qi (qC (Yx kfi 1)) ?_ | refine uC (kt _) ?_ | refine Yd (fun _ => Yx kfi 1) ?_ | refine Yf (fun _ => Yx kfi 1) ?_ | refine Ye (fun _ => Yx kfi 1) ?_ | refine Yh (fun _ => Yx kfi 1) ?_ | refine Yd (fun _ => kt _) ?_ | refine Yf (fun _ => kt _) ?_ | refine Ye (fun _ => kt _) ?_ | refine Yh (fun _ => kt _) ?_ | (refine uB ?_; intro b) | (refine uP ?_ ?_ <;> (intro h; ((try simp only [zs, ne_eq, and_true, true_and, eq_self, reduceCtorEq] at h); try exact zx))) | refine da 101 ?_ | fail)
   refine fo 2 ?_
   refine Zea S g.s hS Q3 Zn3 ?_
   intro v' c' hv'
   rw [← e2] at hv'
   repeat' (first | refine uN ?_ | refine Z7 S ?_ | refine Yt S ?_ | (refine uB ?_; intro b) | (refine uP ?_ ?_ <;> (intro h; ((try simp only [zs, ne_eq, and_true, true_and, eq_self, reduceCtorEq] at h); try exact zx))) | refine da 101 ?_ | fail)
   refine Zg (i + 1, v', c') ?_ uL ⟨by simp only; omega, hv'⟩ (by simp only; omega)
   simp only
   rw [hms, Int.natCast_add]
   exact uS
  ·have hno : Wv (hs ++ [f]) i = none := by
    cases hq : Wv (hs ++ [f]) i with
    | none => rfl
    | some g => exact absurd (hbi.2 (by rw [hq]; rfl)) hb
   have kfi := fun L => kf2 i L
   rw [hno] at kfi
   have e1 : Wj m2 i = [] := by unfold Wj; rw [if_neg hb]
   have e2 : (List.range (i + 1)).flatMap (Wj m2) = (List.range i).flatMap (Wj m2) := by rw [Wf, e1, List.append_nil]
   rw [show m2.heard / 2 ^ i % 2 = 0 by omega, Nat.mul_zero, Nat.add_zero] at hms
   simp only [Option.getD_none, Option.isSome_none] at kfi
   repeat' (first | refine uN ?_ | refine Z7 S ?_ | refine Yt S ?_ | refine We (qC (Yx kfi 1)) ?_ | refine Qi (qC (Yx kfi 1)) ?_ | refine uC (kt _) ?_ | refine Yd (fun _ => Yx kfi 1) ?_ | refine Yf (fun _ => Yx kfi 1) ?_ | refine Ye (fun _ => Yx kfi 1) ?_ | refine Yh (fun _ => Yx kfi 1) ?_ | refine Yd (fun _ => kt _) ?_ | refine Yf (fun _ => kt _) ?_ | refine Ye (fun _ => kt _) ?_ | refine Yh (fun _ => kt _) ?_ | (refine uB ?_; intro b) | (refine uP ?_ ?_ <;> (intro h; ((try simp only [zs, ne_eq, and_true, true_and, eq_self, reduceCtorEq] at h); try exact zx))) | refine da 101 ?_ | fail)
   refine Zg (i + 1, vS, cS) ?_ uL ⟨by simp only; omega, by simp only; rw [e2]; exact hS⟩ (by simp only; omega)
   simp only
   rw [hms]
   exact uS
 ·obtain rfl : i = m2.w.length := by omega
  subst hvv
  have hmod : m2.heard % 2 ^ m2.w.length = m2.heard := Nat.mod_eq_of_lt rel2.lt
  obtain ⟨c1w, c2w, c3w, c4w⟩ := Wx hck
  rw [← ew] at hck c3w
  rw [← ew] at hR
  have kq := fun L hR => Zee aw capw m2.w m2.heard L hR hw72 c3w (by have := Nat.lt_of_lt_of_le rel2.lt (Nat.pow_le_pow_right (n := 2) (by decide) hw72); omega)
  have hen := en_ok hck rel2.lt
  rw [hmod]
  obtain ⟨aS, pS, rfl, hpS, hRS⟩ := Vec.rd hS Q3
  have hsl := Wh (Wj m2) (Zbz m2) m2.w.length
  have est : (List.range m2.w.length).flatMap (Wj m2) = Xg m2 := rfl
  rw [est] at hRS hsl hS ⊢
  cases hq : Zrr m2.w m2.heard with
  | false =>
   have ec : Z9 m2 = (m2, []) := by unfold Z9; rw [if_neg (fun h => hkd (ek ▸ h.1)), if_pos (.inr (by rw [hen, hq]))]
   have ec2 : Xq m2 (hs ++ [f]) = hs ++ [f] := by unfold Xq; rw [if_neg (fun h => hkd (ek ▸ h.1)), if_pos (.inr (by rw [hen, hq]))]
   rw [ec, ec2]
   rw [hq] at kq
   repeat' (first | refine uN ?_ | refine Z7 S ?_ | refine Yt S ?_ | refine We (qC (kq _ (((hR.cons _).cons _).cons _))) ?_ | refine Qi (qC (kq _ (((hR.cons _).cons _).cons _))) ?_ | refine Yd (fun _ => kq _ (((hR.cons _).cons _).cons _)) ?_ | refine Yf (fun _ => kq _ (((hR.cons _).cons _).cons _)) ?_ | refine Ye (fun _ => kq _ (((hR.cons _).cons _).cons _)) ?_ | refine Yh (fun _ => kq _ (((hR.cons _).cons _).cons _)) ?_ | (refine uB ?_; intro b) | (refine uP ?_ ?_ <;> (intro h; ((try simp only [zs, ne_eq, and_true, true_and, eq_self, reduceCtorEq] at h); try exact zx))) | refine da 101 ?_ | fail)
   exact Yi (L' := [] :: Up lp aw capw _ c1 m2 :: L) uL ⟨[], _, c1, Zu, hv1, rfl⟩
  | true =>
   rw [hq] at kq
   have n1 : ¬ (m2.wait = 2 ∧ m2.heard = 2 ^ m2.w.length - 1) := fun h => hkd (ek ▸ h.1)
   have n2 : ¬ (m2.wait = 2 ∨ (Xt m2.w m2.heard).1 = false) := fun h => h.elim (fun h => hkd (ek ▸ h)) (fun h => by rw [hen, hq] at h; cases h)
   have kd := fun p L => Zaw lp aw capw (.slice a1 (hs ++ [f]).length p1) c1 m2 p L (by omega)
   have kp := fun p L => Q8 lp aw capw (.slice a1 (hs ++ [f]).length p1) c1 m2 (hs ++ [f]) p L (by omega) hv1
   by_cases h6 : f.kd = 6
   ·have ec : Z9 m2 = Zcn m2 (Vi m2.phase) := by unfold Z9; rw [if_neg n1, if_neg n2, if_pos (by omega)]
    have ec2 : Xq m2 (hs ++ [f]) = hs ++ [f] := by unfold Xq; rw [if_neg n1, if_neg n2, if_pos (by omega)]
    rw [ec, ec2]
    repeat' (first | refine uN ?_ | refine Z7 S ?_ | refine Yt S ?_ | refine We (qC (kq _ (((hR.cons _).cons _).cons _))) ?_ | refine Qi (qC (kq _ (((hR.cons _).cons _).cons _))) ?_ | refine uC (Xh _ _) ?_ | refine Yd (fun _ => kq _ (((hR.cons _).cons _).cons _)) ?_ | refine Yf (fun _ => kq _ (((hR.cons _).cons _).cons _)) ?_ | refine Ye (fun _ => kq _ (((hR.cons _).cons _).cons _)) ?_ | refine Yh (fun _ => kq _ (((hR.cons _).cons _).cons _)) ?_ | refine Yd (fun _ => Xh _ _) ?_ | refine Yf (fun _ => Xh _ _) ?_ | refine Ye (fun _ => Xh _ _) ?_ | refine Yh (fun _ => Xh _ _) ?_ | (refine uB ?_; intro b) | (refine uP ?_ ?_ <;> (intro h; ((try simp only [zs, ne_eq, and_true, true_and, eq_self, reduceCtorEq] at h); try exact zx))) | refine da 101 ?_ | fail)
    refine fo 1 ?_
    refine gc (kd _ _) ?_
    rintro v L' ⟨c, hv2, rfl⟩
    repeat' (first | refine uN ?_ | refine Z7 S ?_ | refine Yt S ?_ | (refine uB ?_; intro b) | (refine uP ?_ ?_ <;> (intro h; ((try simp only [zs, ne_eq, and_true, true_and, eq_self, reduceCtorEq] at h); try exact zx))) | refine da 101 ?_ | fail)
    exact Yi (L' := c :: Up lp aw capw _ c1 (Vh m2) :: L) uL ⟨c, _, c1, hv2, hv1, rfl⟩
   ·have kch := fun L hR => Zdb aS pS (Xg m2) L hR (by omega)
    cases hch : (Yk (Xg m2)).2 with
    | true =>
     have ec : Z9 m2 = Zcn m2 (Yk (Xg m2)).1 := by unfold Z9; rw [if_neg n1, if_neg n2, if_neg (by omega), if_pos hch]
     have ec2 : Xq m2 (hs ++ [f]) = hs ++ [f] := by unfold Xq; rw [if_neg n1, if_neg n2, if_neg (by omega), if_pos hch]
     rw [ec, ec2]
     rw [hch] at kch
     repeat' (first | refine uN ?_ | refine Z7 S ?_ | refine Yt S ?_ | refine We (qC (kq _ (((hR.cons _).cons _).cons _))) ?_ | refine Qi (qC (kq _ (((hR.cons _).cons _).cons _))) ?_ | refine We (qC (kch _ (hRS _))) ?_ | refine Qi (qC (kch _ (hRS _))) ?_ | refine Yd (fun _ => kq _ (((hR.cons _).cons _).cons _)) ?_ | refine Yf (fun _ => kq _ (((hR.cons _).cons _).cons _)) ?_ | refine Ye (fun _ => kq _ (((hR.cons _).cons _).cons _)) ?_ | refine Yh (fun _ => kq _ (((hR.cons _).cons _).cons _)) ?_ | refine Yd (fun _ => kch _ (hRS _)) ?_ | refine Yf (fun _ => kch _ (hRS _)) ?_ | refine Ye (fun _ => kch _ (hRS _)) ?_ | refine Yh (fun _ => kch _ (hRS _)) ?_ | (refine uB ?_; intro b) | (refine uP ?_ ?_ <;> (intro h; ((try simp only [zs, ne_eq, and_true, true_and, eq_self, reduceCtorEq] at h); try exact zx))) | refine da 101 ?_ | fail)
     refine fo 1 ?_
     refine gc (kd _ _) ?_
     rintro v L' ⟨c, hv2, rfl⟩
     repeat' (first | refine uN ?_ | refine Z7 S ?_ | refine Yt S ?_ | (refine uB ?_; intro b) | (refine uP ?_ ?_ <;> (intro h; ((try simp only [zs, ne_eq, and_true, true_and, eq_self, reduceCtorEq] at h); try exact zx))) | refine da 101 ?_ | fail)
     exact Yi (L' := c :: Up lp aw capw _ c1 (Vh m2) :: L) uL ⟨c, _, c1, hv2, hv1, rfl⟩
    | false =>
     have ec : Z9 m2 = Zlf m2 (Yk (Xg m2)).1 := by unfold Z9; rw [if_neg n1, if_neg n2, if_neg (by omega), if_neg (by rw [hch]; decide)]
     have ec2 : Xq m2 (hs ++ [f]) = [] := by unfold Xq; rw [if_neg n1, if_neg n2, if_neg (by omega), if_neg (by rw [hch]; decide)]
     rw [ec, ec2]
     rw [hch] at kch
     repeat' (first | refine uN ?_ | refine Z7 S ?_ | refine Yt S ?_ | refine We (qC (kq _ (((hR.cons _).cons _).cons _))) ?_ | refine Qi (qC (kq _ (((hR.cons _).cons _).cons _))) ?_ | refine We (qC (kch _ (hRS _))) ?_ | refine Qi (qC (kch _ (hRS _))) ?_ | refine Yd (fun _ => kq _ (((hR.cons _).cons _).cons _)) ?_ | refine Yf (fun _ => kq _ (((hR.cons _).cons _).cons _)) ?_ | refine Ye (fun _ => kq _ (((hR.cons _).cons _).cons _)) ?_ | refine Yh (fun _ => kq _ (((hR.cons _).cons _).cons _)) ?_ | refine Yd (fun _ => kch _ (hRS _)) ?_ | refine Yf (fun _ => kch _ (hRS _)) ?_ | refine Ye (fun _ => kch _ (hRS _)) ?_ | refine Yh (fun _ => kch _ (hRS _)) ?_ | (refine uB ?_; intro b) | (refine uP ?_ ?_ <;> (intro h; ((try simp only [zs, ne_eq, and_true, true_and, eq_self, reduceCtorEq] at h); try exact zx))) | refine da 101 ?_ | fail)
     refine fo 1 ?_
     refine gc (kp _ _) ?_
     rintro v L' ⟨c, hv2, rfl⟩
     repeat' (first | refine uN ?_ | refine Z7 S ?_ | refine Yt S ?_ | (refine uB ?_; intro b) | (refine uP ?_ ?_ <;> (intro h; ((try simp only [zs, ne_eq, and_true, true_and, eq_self, reduceCtorEq] at h); try exact zx))) | refine da 101 ?_ | fail)
     exact Yi (L' := c :: Up lp aw capw Y4 [] (U3 m2 (Yk (Xg m2)).1) :: L) uL ⟨c, Y4, [], hv2, Zu, rfl⟩
end Go.HL
end

/-! ErD2 -/
section
namespace Go.HL
open Go Go.Proofs
set_option linter.unusedVariables false
set_option linter.unusedSimpArgs false
set_option maxHeartbeats 2000000 attribute [local irreducible] HW HO HQ HD HC QOp Has Upd Zt Gets Yb Z6 Zr Xr Z4 Zm Xx Zy
end Go.HL
end

/-! RlF -/
section
namespace Go.HL
open Go Go.Proofs
set_option linter.unusedVariables false
set_option linter.unusedSimpArgs false
theorem Zg9 (lp : Nat) (aw : Option Addr) (capw : Nat) (hv : Value) (hc : List Zq) (m : Ld) (hs : List Fr) (f : Fr) (L : Zb) (hR : Rd ic 1 L aw m.w) (hck : Yw m.w = none) (hH : Zx hv hs hc) (rel : RelH m hs) :
  HC Tryz.prog 147 [pt lp 0, .agg ⟨fc f⟩] (Up lp aw capw hv hc m :: L) (fun v L' => ∃ c hv' hc', Zx v (Zs m f).2 c ∧ Zx hv' (U1 m hs f) hc' ∧ L' = c :: Up lp aw capw hv' hc' (Zs m f).1 :: L) := by
 by_cases hq : m.wait = 0 ∨ ¬ Xn m f ∨ f.yes = false
 ·exact Zot lp aw capw hv hc m hs f L hR hck hH rel hq
 ·have hw : m.wait ≠ 0 := fun h => hq (.inl h)
  have hfit : Xn m f := Decidable.not_not.1 fun h => hq (.inr (.inl h))
  have hy : f.yes = true := by
   cases h : f.yes with
   | true => rfl
   | false => exact absurd (.inr (.inr h)) hq
  by_cases hk : f.kd = 2
  ·exact Zss lp aw capw hv hc m hs f L hR hck hH rel hw hfit hy hk
  ·by_cases hs' : m.seen < f.s.pr
   ·exact Zsd lp aw capw hv hc m hs f L hR hck hH rel hw hfit hy hk hs'
   ·exact Zr0 lp aw capw hv hc m hs f L hR hck hH rel hw hfit hy hk hs'
theorem Ziv (ws : List Int) : okE (Yw ws) := by
 unfold Yw
 split
 ·exact rfl
 ·split
  ·exact rfl
  ·split
   ·exact rfl
   ·trivial
theorem Zto {e : Nat} (h : okE (some e)) : 1 ≤ e := by
 cases e with
 | zero => exact absurd (show List.elem 0 all9 = true from h) (by decide)
 | succ n => omega
set_option maxHeartbeats 2000000 attribute [local irreducible] HW HO HQ HD HC QOp Has Upd Zt Gets Yb Z6 Zr Xr Z4 Zm Xx Zy
def Zi6 (att : Int) : Int := if att = 0 then 2 else 4
theorem Zag (id deal : Int) (a : Option Addr) (cap : Nat) (w : List Int) (att : Int) (L : Zb) : HC Tryz.prog 140 [iv id, iv deal, .slice a w.length cap, iv att] L (fun v L' => ∃ lp, v = pt lp 0 ∧ L' = Up lp a cap Y4 [] (Zh id deal w att (Zi6 att)) :: L) := by
 unfold Zi6
 refine Za (fun _ _ => Tryz.call140 _ _) Tryz.func140 rfl Tryz.ntmps140 (Nat.le_of_ble_eq_true rfl) ?_; simp only [Zc, Nat.reduceAdd]
 repeat' (first | refine uN ?_ | (refine uB ?_; intro b) | (refine uP ?_ ?_ <;> (intro h; ((try simp only [zs, ne_eq, and_true, true_and, eq_self, reduceCtorEq] at h); try exact zx))) | fail)
 ·rw [if_pos h]
  exact Yi (LS.refl _) ⟨b, rfl, rfl⟩
 ·rw [if_neg h]
  exact Yi (LS.refl _) ⟨b, rfl, rfl⟩
end Go.HL
end

/-! WrA -/
section
namespace Go.HL
open Go Go.Proofs
set_option linter.unusedVariables false
set_option linter.unusedSimpArgs false
def lowB (n : Int) : List UInt8 := [bt n 0, bt n 1, bt n 2, bt n 3]
theorem u8_bt (n : Int) (k : Nat) : u8 (bt n k) = .int .u8 (n / 2 ^ (8 * k) % 256) := by
 unfold u8
 rw [Zso]
theorem u8_bt0 (n : Int) : u8 (bt n 0) = .int .u8 (n % 256) := by
 rw [u8_bt]; simp
theorem bt_div (n : Int) (k : Nat) : bt (n / 256 ^ k) 0 = bt n k := by
 unfold bt
 congr 2
 simp only [Nat.mul_zero, Int.pow_zero, Int.ediv_one]
 rw [show (256 : Int) = 2 ^ 8 from rfl, ← Int.pow_mul]
theorem bt_mod (n : Int) : bt (n % 256) 0 = bt n 0 := by
 unfold bt
 simp
def rc (c b k : Nat) : Nat := Zeq k (c ^^^ b) ^^^ (b / 2 ^ k)
theorem rc_0 (c b : Nat) : rc c b 0 = c := by simp [rc, Zeq, Nat.xor_assoc]
theorem rc_8 {c b : Nat} (h : b < 256) : rc c b 8 = Zeq 8 (c ^^^ b) := by
 unfold rc
 rw [show b / 2 ^ 8 = 0 from Nat.div_eq_of_lt h, Nat.xor_zero]
theorem rc_bit (c b k : Nat) : (rc c b k ^^^ (b / 2 ^ k)) % 2 = Zeq k (c ^^^ b) % 2 := by
 unfold rc
 rw [Nat.xor_assoc, Nat.xor_self, Nat.xor_zero]
theorem xor_half (a b : Nat) : (a ^^^ b) / 2 = a / 2 ^^^ b / 2 := by
 have := Nat.shiftRight_xor_distrib (a := a) (b := b) (i := 1)
 simpa [Nat.shiftRight_eq_div_pow] using this
theorem rc_succ (c b k : Nat) : rc c b (k + 1) = if Zeq k (c ^^^ b) % 2 = 1 then rc c b k / 2 ^^^ 3988292384 else rc c b k / 2 := by
 unfold rc
 rw [Zln, xor_half]
 have e : b / 2 ^ (k + 1) = b / 2 ^ k / 2 := by rw [Nat.pow_succ, ← Nat.div_div_eq_div_mul]
 rw [e]
 unfold Zq3
 split
 ·rename_i h
  rw [h, Nat.mul_one, Nat.xor_assoc, Nat.xor_assoc, Nat.xor_comm 3988292384]
 ·rename_i h
  have h0 : Zeq k (c ^^^ b) % 2 = 0 := by omega
  rw [h0, Nat.mul_zero, Nat.xor_zero]
theorem rc_lt {c b k : Nat} (hc : c < 4294967296) (hb : b < 256) : rc c b k < 4294967296 := by
 unfold rc
 refine Nat.xor_lt_two_pow (n := 32) (Zng (Nat.xor_lt_two_pow (n := 32) hc (by omega))) ?_
 exact Nat.lt_of_le_of_lt (Nat.div_le_self _ _) (by omega)
theorem xor_ones {x : Nat} (h : x < 4294967296) : x ^^^ 4294967295 = 4294967295 - x := by
 have h1 : ((BitVec.allOnes 32) ^^^ BitVec.ofNat 32 x).toNat = (~~~ BitVec.ofNat 32 x).toNat := by rw [BitVec.allOnes_xor]
 rw [BitVec.toNat_xor, BitVec.toNat_not, BitVec.toNat_allOnes, BitVec.toNat_ofNat, Nat.mod_eq_of_lt h] at h1
 rw [Nat.xor_comm]
 simpa using h1
set_option maxHeartbeats 2000000 attribute [local irreducible] HW HO HQ HD HC QOp Has Upd Zt Gets Yb Z6 Zr Xr Z4 Zm Xx Zy
theorem Zaq (n : Int) (L : Zb) : HC Tryz.prog 158 [iv n] L (fun v L' => v = bs [bt n 0] ∧ L' = L) := by
 have e : ([Value.int .u8 (n % 256)] : List Value) = [bt n 0].map u8 := by simp [u8_bt0]
 refine Za (fun _ _ => Tryz.call158 _ _) Tryz.func158 rfl Tryz.ntmps158 (Nat.le_of_ble_eq_true rfl) ?_; simp only [Zc, Nat.reduceAdd]
 repeat' (first | refine uN ?_ | (refine uB ?_; intro b) | fail)
 rw [e]
 refine We (qtx S (Zkz _ _ _ _) rfl) ?_
 repeat' (first | refine uN ?_ | (refine uB ?_; intro b) | fail)
 exact Yi uZ ⟨rfl, rfl⟩
theorem Qa (n : Int) (many : Nat) (L : Zb) (h0 : 0 ≤ n) (h1 : n ≤ 9223372036854775807) (hm : many ≤ 8) : HC Tryz.prog 159 [iv n, iv many] L (fun v L' => v = bs (Xm n many) ∧ L' = L) := by
 refine Za (fun _ _ => Tryz.call159 _ _) Tryz.func159 rfl Tryz.ntmps159 (Nat.le_of_ble_eq_true rfl) ?_; simp only [Zc, Nat.reduceAdd]
 repeat' (first | refine uN ?_ | (refine uP ?_ ?_ <;> (intro h; ((try simp only [zs, ne_eq, and_true, true_and, eq_self, reduceCtorEq] at h); try exact zx))) | fail)
 refine Zn (σ := Nat) (fun i => [(0, iv (n / 256 ^ i)), (1, iv many), (5, bs (Xm n i)), (6, iv i)]) (fun _ => L) (fun i => i ≤ many) (fun i => many - i) 0 ?_ (List.Sublist.refl _) (by omega) ?_
 ·simp only [Int.pow_zero, Int.ediv_one]
  exact uS
 intro i hi
 by_cases hlt : i < many
 ·have hq : 0 ≤ n / 256 ^ i ∧ n / 256 ^ i ≤ 9223372036854775807 := ⟨Int.ediv_nonneg h0 (Int.pow_nonneg (by decide)), Int.le_trans (Int.ediv_le_self _ h0) h1⟩
  have kb := fun L => Zaq (n / 256 ^ i % 256) L
  rw [bt_mod, bt_div] at kb
  have hl : ([bt n i].length + (Xm n i).length) ≤ 9223372036854775807 := by simp [Y3]; omega
  have e : n / 256 ^ i / 256 = n / 256 ^ (i + 1) := by rw [Int.pow_succ, Int.ediv_ediv_of_nonneg (Int.pow_nonneg (by decide))]
  repeat' (first | refine uN ?_ | refine uC (kb _) ?_ | (refine uP ?_ ?_ <;> (intro h; ((try simp only [zs, ne_eq, and_true, true_and, eq_self, reduceCtorEq] at h); try exact zx))) | fail)
  rw [e]
  exact Zg (i + 1) uS uL (by omega) (by omega)
 ·have hi2 : i = many := by omega
  subst hi2
  repeat' (first | refine uN ?_ | (refine uP ?_ ?_ <;> (intro h; ((try simp only [zs, ne_eq, and_true, true_and, eq_self, reduceCtorEq] at h); try exact zx))) | fail)
  exact Yi uZ ⟨rfl, rfl⟩
theorem Zsn (s : List UInt8) (L : Zb) (hs : s.length ≤ 1000000) : HC Tryz.prog 161 [bs s] L (fun v L' => v = iv (Zom s) ∧ L' = L) := by
 refine Za (fun _ _ => Tryz.call161 _ _) Tryz.func161 rfl Tryz.ntmps161 (Nat.le_of_ble_eq_true rfl) ?_; simp only [Zc, Nat.reduceAdd]
 repeat' (first | refine uN ?_ | (refine uP ?_ ?_ <;> (intro h; ((try simp only [zs, ne_eq, and_true, true_and, eq_self, reduceCtorEq] at h); try exact zx))) | fail)
 refine Zn (σ := Nat) (fun i => [(0, bs s), (3, iv (V5 (s.take i))), (4, iv i)]) (fun _ => L) (fun i => i ≤ s.length) (fun i => s.length - i) 0 uS (List.Sublist.refl _) (by omega) ?_
 intro i hi
 have hc := Zt6 (s.take i)
 by_cases hlt : i < s.length
 ·repeat' (first | refine uN ?_ | (refine uP ?_ ?_ <;> (intro h; ((try simp only [zs, ne_eq, and_true, true_and, eq_self, reduceCtorEq] at h); try exact zx))) | fail)
  have hb : (s.getD i 0).toNat < 256 := (s.getD i 0).toNat_lt
  have e0 : (V5 (s.take i) : Int) = ((rc (V5 (s.take i)) (s.getD i 0).toNat 0 : Nat) : Int) := by rw [rc_0]
  rw [e0]
  refine Zn (σ := Nat) (fun k => [(0, bs s), (3, iv (rc (V5 (s.take i)) (s.getD i 0).toNat k)), (4, iv i), (5, iv k)]) (fun _ => L) (fun k => k ≤ 8) (fun k => 8 - k) 0 uS (List.Sublist.refl _) (by omega) ?_
  intro k hk
  by_cases hk8 : k < 8
  ·have hr := rc_lt (k := k) hc hb
   have hsu := rc_succ (V5 (s.take i)) (s.getD i 0).toNat k
   have hbit := rc_bit (V5 (s.take i)) (s.getD i 0).toNat k
   have hb2 := (s.getD (i : Int).toNat 0).toNat_lt
   have hbk : (s.getD i 0).toNat / 2 ^ k < 256 := Nat.lt_of_le_of_lt (Nat.div_le_self _ _) hb
   have eB : (((s.getD (i : Int).toNat 0).toNat : Nat) : Int) / 2 ^ (k : Int).toNat = (((s.getD i 0).toNat / 2 ^ k : Nat) : Int) := by simp
   have hxl : rc (V5 (s.take i)) (s.getD i 0).toNat k ^^^ ((s.getD i 0).toNat / 2 ^ k) < 4294967296 := Nat.xor_lt_two_pow (n := 32) hr (by omega)
   have hx1 : rc (V5 (s.take i)) (s.getD i 0).toNat k / 2 ^^^ 3988292384 < 4294967296 := Nat.xor_lt_two_pow (n := 32) (by omega) (by decide)
   repeat' (first | refine uN ?_ | (refine uP ?_ ?_ <;> (intro h; ((try simp only [zs, ne_eq, and_true, true_and, eq_self, reduceCtorEq] at h); try exact zx))) | fail)
   rw [eB]
   generalize hr1 : rc (V5 (s.take i)) (s.getD i 0).toNat (k + 1) = r1 at hsu
   generalize rc (V5 (s.take i)) (s.getD i 0).toNat k = r0 at *
   generalize (s.getD i 0).toNat / 2 ^ k = bk at *
   generalize Zeq k (V5 (s.take i) ^^^ (s.getD i 0).toNat) = cN at *
   have hxt : (((r0 : Nat) : Int).toNat ^^^ ((bk : Nat) : Int).toNat) = r0 ^^^ bk := by simp
   have hxt2 : (((r0 : Nat) : Int) / 2).toNat ^^^ Int.toNat 3988292384 = r0 / 2 ^^^ 3988292384 := by
    rw [show (((r0 : Nat) : Int) / 2).toNat = r0 / 2 by omega]
    rfl
   rw [← hxt] at hxl hbit
   rw [← hxt2] at hx1
   repeat' (first | refine uN ?_ | (refine uP ?_ ?_ <;> (intro h; ((try simp only [zs, ne_eq, and_true, true_and, eq_self, reduceCtorEq] at h); try exact zx))) | fail)
   ·rw [if_pos (by omega)] at hsu
    rw [hxt2, ← hsu, ← hr1]
    exact Zg (k + 1) uS uL (by omega) (by omega)
   ·rw [if_neg (by omega)] at hsu
    have e9 : ((r0 : Nat) : Int) / 2 = ((r1 : Nat) : Int) := by omega
    rw [e9, ← hr1]
    exact Zg (k + 1) uS uL (by omega) (by omega)
  ·have hk2 : k = 8 := by omega
   subst hk2
   repeat' (first | refine uN ?_ | (refine uP ?_ ?_ <;> (intro h; ((try simp only [zs, ne_eq, and_true, true_and, eq_self, reduceCtorEq] at h); try exact zx))) | fail)
   rw [rc_8 hb]
   have e : V5 (s.take (i + 1)) = Zeq 8 (V5 (s.take i) ^^^ (s.getD i 0).toNat) := by
    rw [List.take_succ_eq_append_getElem hlt]
    rw [show ∀ l b, V5 (l ++ [b]) = Zsb (V5 l) b from fun l b => by simp [V5]]
    simp [Zsb, List.getD, hlt]
   rw [← e]
   exact Zg (i + 1) uS uL (by omega) (by omega)
 ·have hi2 : i = s.length := by omega
  subst hi2
  repeat' (first | refine uN ?_ | (refine uP ?_ ?_ <;> (intro h; ((try simp only [zs, ne_eq, and_true, true_and, eq_self, reduceCtorEq] at h); try exact zx))) | fail)
  refine Yi uZ ⟨congrArg iv ?_, rfl⟩
  rw [List.take_length] at hc ⊢
  have := xor_ones hc
  unfold Zom
  simp only [Int.toNat_natCast]
  rw [show Int.toNat 4294967295 = 4294967295 from rfl, this]
end Go.HL
end

/-! WrB -/
section
namespace Go.HL
open Go Go.Proofs
set_option linter.unusedVariables false
set_option linter.unusedSimpArgs false
def yesN (b : Bool) : Int := if b then 1 else 0
def encA (f : Fr) : List UInt8 := Xm f.fr 1 ++ Xm f.to 1 ++ Xm f.dl 1 ++ Xm f.kd 1 ++ Xm f.att 4
def encB (f : Fr) : List UInt8 := Xm (yesN f.yes) 1 ++ Xm f.s.ph 1 ++ Xm f.s.pr 4 ++ Xm f.s.att 4
def cdF : Option Nat → Int
 | none => 0
 | some c => c
def Zc9 (s : List UInt8) (a b : Nat) : Int := (Zai ((s.take b).drop a) : Nat)
set_option maxHeartbeats 2000000 attribute [local irreducible] HW HO HQ HD HC QOp Has Upd Zt Gets Yb Z6 Zr Xr Z4 Zm Xx Zy
attribute [local irreducible] Xm Zom encA encB
theorem Zqk (f : Fr) (L : Zb) : HC Tryz.prog 258 [.agg ⟨fc f⟩] L (fun v L' => v = iv (cdF (Zgp f)) ∧ L' = L) := by
 unfold Zgp
 refine Za (fun _ _ => Tryz.call258 _ _) Tryz.func258 rfl Tryz.ntmps258 (Nat.le_of_ble_eq_true rfl) ?_; simp only [Zc, Nat.reduceAdd]
 by_cases hb : Xv f
 ·rw [if_pos hb]
  repeat' (first | refine uN ?_ | (refine uB ?_; intro b) | (refine uP ?_ ?_ <;> (intro h; ((try simp only [zs, ne_eq, and_true, true_and, eq_self, reduceCtorEq] at h); try exact zx))) | fail)
  all_goals first | exact Yi uZ ⟨rfl, rfl⟩ | (exfalso; unfold Xv at hb; omega)
 ·rw [if_neg hb]
  repeat' (first | refine uN ?_ | (refine uB ?_; intro b) | (refine uP ?_ ?_ <;> (intro h; ((try simp only [zs, ne_eq, and_true, true_and, eq_self, reduceCtorEq] at h); try exact zx))) | fail)
  all_goals first | exact Yi uZ ⟨rfl, rfl⟩ | (exfalso; unfold Xv at hb; omega)
end Go.HL
end

/-! WrC -/
section
namespace Go.HL
open Go Go.Proofs
set_option linter.unusedVariables false
set_option linter.unusedSimpArgs false
theorem put_st (x0 x1 x2 x3 x4 x5 a b c u v w : Value) : Zt [x0, x1, x2, x3, x4, x5, a, b, c] (0 + 6) [u, v, w] [x0, x1, x2, x3, x4, x5, u, v, w] := ⟨rfl, by simp⟩
set_option maxHeartbeats 2000000 attribute [local irreducible] HW HO HQ HD HC QOp Has Upd Zt Gets Yb Z6 Zr Xr Z4 Zm Xx Zy
attribute [local irreducible] Xm Zom encA encB lowB Zai
end Go.HL
end

/-! WrD -/
section
namespace Go.HL
open Go Go.Proofs
set_option linter.unusedVariables false
set_option linter.unusedSimpArgs false
theorem map_getW {α : Type} {enc : α → Value} {xs : List α} {k : Nat} {x : α} (h : xs[k]? = some x) : (xs.map enc)[0 + (k : Int).toNat]? = some (enc x) := by simp [h]
theorem fld_same (s : List UInt8) (a : Nat) : Zc9 s a a = 0 := by
 unfold Zc9
 rw [List.drop_eq_nil_of_le (by simp; omega)]; rfl
theorem fld_snoc {s : List UInt8} {a k : Nat} (h : a ≤ k) (hk : k < s.length) : Zc9 s a (k + 1) = 256 * Zc9 s a k + ((s.getD k 0).toNat : Nat) := by
 unfold Zc9
 rw [List.take_succ_eq_append_getElem hk, List.drop_append_of_le_length (by simp; omega), Zjc]
 simp [List.getD, hk]
 omega
theorem Zjq {s : List UInt8} {a k : Nat} (h : k ≤ a + 4) : 0 ≤ Zc9 s a k ∧ Zc9 s a k < 4294967296 := by
 unfold Zc9
 have h1 := Znw ((s.take k).drop a)
 have h2 : ((s.take k).drop a).length ≤ 4 := by simp; omega
 have h3 : 256 ^ ((s.take k).drop a).length ≤ 256 ^ 4 := Nat.pow_le_pow_right (by decide) h2
 omega
set_option maxHeartbeats 2000000 attribute [local irreducible] HW HO HQ HD HC QOp Has Upd Zt Gets Yb Z6 Zr Xr Z4 Zm Xx Zy
attribute [local irreducible] Xm Zom encA encB lowB Zai Zc9
end Go.HL
end

/-! JaA -/
section
namespace Go.HL
open Go Go.Proofs
set_option linter.unusedVariables false
set_option linter.unusedSimpArgs false
def ends4 : List Int := [4, 5, 9, 13]
def Zqu : Nat → Nat
 | 0 => 4 | 1 => 5 | 2 => 9 | _ => 13
def Ztk : Nat → Nat
 | 0 => 0
 | i + 1 => Zqu i
theorem en4_get {i : Nat} (h : i < 4) : ends4[i]? = some (Zqu i : Int) := by
 have : ∀ i, i < 4 → ends4[i]? = some (Zqu i : Int) := by decide
 exact this i h
theorem en4_fact {i : Nat} (h : i < 4) : Ztk i ≤ Zqu i ∧ Zqu i ≤ 13 ∧ Zqu i ≤ Ztk i + 4 := by
 have : ∀ i, i < 4 → Ztk i ≤ Zqu i ∧ Zqu i ≤ 13 ∧ Zqu i ≤ Ztk i + 4 := by decide
 exact this i h
def Zr7 (s : List UInt8) (i : Nat) : List Int := (List.range i).map fun q => Zc9 s (Ztk q) (Zqu q)
theorem Zuf (s : List UInt8) (i : Nat) : Zr7 s (i + 1) = Zr7 s i ++ [Zc9 s (Ztk i) (Zqu i)] := by
 unfold Zr7
 rw [List.range_succ, List.map_append]; rfl
theorem Zjr (s : List UInt8) (i : Nat) : (Zr7 s i).length = i := by simp [Zr7]
theorem Zuo (s : List UInt8) : Zco s = ⟨Zc9 s 0 4, Zc9 s 4 5, Zc9 s 5 9, Zc9 s 9 13⟩ := rfl
theorem slot_cut (b : List UInt8) (i : Nat) : (b.take (((i : Int) + 1) * 18).toNat).drop ((i : Int) * 18).toNat = Xf b i := by
 unfold Xf
 rw [List.drop_take, show ((i : Int) * 18).toNat = i * 18 by omega, show (((i : Int) + 1) * 18).toNat - i * 18 = 18 by omega]
theorem upd_zero (k : Int) (s : List UInt8) (hs : 4 ≤ s.length) : V7 Zl (Y2 k s) = Y2 k s := by
 unfold V7
 split
 ·rfl
 ·rename_i h
  have hn := Zib k s hs
  have h0 : (Y2 k s).n = 0 := by simp only [Zl] at h; omega
  rw [Qd] at h0 ⊢
  split
  ·rfl
  ·rename_i hc
   rw [if_neg hc] at h0
   omega
theorem deal_two {b : List UInt8} {d : Nat} (hd : d < 6) (hl : 216 ≤ b.length) : Xa b d = if (Y2 0 (Xf b (2 * d))).n < (Y2 1 (Xf b (2 * d + 1))).n then Y2 1 (Xf b (2 * d + 1)) else Y2 0 (Xf b (2 * d)) := by
 unfold Xa
 simp only [W8]
 rw [show ((0 : Nat) : Int) = 0 from rfl, show ((1 : Nat) : Int) = 1 from rfl, Nat.add_zero, upd_zero _ _ (by rw [Za6 _ _ (by omega) hl]; decide)]
 rfl
set_option maxHeartbeats 2000000 attribute [local irreducible] HW HO HQ HD HC QOp Has Upd Zt Gets Yb Z6 Zr Xr Z4 Zm Xx Zy
attribute [local irreducible] Xm Zom encA encB lowB Zai Zc9
theorem Zhm (e : Ent) (L : Zb) (h0 : 0 ≤ e.n ∧ e.n ≤ 9223372036854775807) (h1 : 0 ≤ e.s.ph ∧ e.s.ph ≤ 9223372036854775807) (h2 : 0 ≤ e.s.pr ∧ e.s.pr ≤ 9223372036854775807) (h3 : 0 ≤ e.s.att ∧ e.s.att ≤ 9223372036854775807) : HC Tryz.prog 262 [iv e.n, .agg ⟨sc e.s⟩] L (fun v L' => v = bs (Y1 e) ∧ L' = L) := by
 have k1 := fun L => Qa e.n 4 L h0.1 h0.2 (by decide)
 have k2 := fun L => Qa e.s.ph 1 L h1.1 h1.2 (by decide)
 have k3 := fun L => Qa e.s.pr 4 L h2.1 h2.2 (by decide)
 have k4 := fun L => Qa e.s.att 4 L h3.1 h3.2 (by decide)
 have hcl : Zom (head e) < 4294967296 := by unfold Zom; omega
 have k5 := fun L => Qa (Zom (head e)) 4 L (by omega) (by omega) (by decide)
 have hh : (head e).length = 13 := by simp [head, Y3]
 have k6 := fun L => Zsn (head e) L (by omega)
 have n1 := Y3 e.n 4
 have n2 := Y3 e.s.ph 1
 have n3 := Y3 e.s.pr 4
 have n4 := Y3 e.s.att 4
 have n5 := Y3 (Zom (head e)) 4
 have e1 : Xm e.n 4 ++ Xm e.s.ph 1 ++ Xm e.s.pr 4 ++ Xm e.s.att 4 = head e := rfl
 refine Za (fun _ _ => Tryz.call262 _ _) Tryz.func262 rfl Tryz.ntmps262 (Nat.le_of_ble_eq_true rfl) ?_; simp only [Zc, Nat.reduceAdd]
 repeat' (first | refine uN ?_ | refine Z7 S ?_ | refine uC (k1 _) ?_ | refine uC (k2 _) ?_ | refine uC (k3 _) ?_ | refine uC (k4 _) ?_ | (refine uB ?_; intro b) | fail)
 rw [e1]
 repeat' (first | refine uN ?_ | refine Z7 S ?_ | refine uC (k5 _) ?_ | refine uC (k6 _) ?_ | (refine uB ?_; intro b) | fail)
 exact Yi (L' := L) uL ⟨rfl, rfl⟩
theorem Zhh (bb : List UInt8) (i : Nat) (L : Zb) (hi : i < 12) (hl : 216 ≤ bb.length) (hh : bb.length ≤ 1000000) : HC Tryz.prog 201 [bs bb, iv i] L (fun v L' => v = .tuple ⟨[iv (Y2 ((i : Int) % 2) (Xf bb i)).n, .agg ⟨sc (Y2 ((i : Int) % 2) (Xf bb i)).s⟩]⟩ ∧ L' = L) := by
 have hs := Za6 bb i hi hl
 have hc := slot_cut bb i
 rw [Qd, Zuo]
 refine Za (fun _ _ => Tryz.call201 _ _) Tryz.func201 rfl Tryz.ntmps201 (Nat.le_of_ble_eq_true rfl) ?_; simp only [Zc, Nat.reduceAdd]
 repeat' (first | refine uN ?_ | refine Z7 S ?_ | refine Yt S ?_ | (refine uB ?_; intro b) | (refine uP ?_ ?_ <;> (intro h; ((try simp only [zs, ne_eq, and_true, true_and, eq_self, reduceCtorEq] at h); try exact zx))) | refine da 101 ?_ | fail)
 rw [hc]
 generalize Xf bb i = s at *
 rename_i bR
 generalize b = bE
 refine Wi (L' := [] :: [(bE, .cells ⟨ends4.map iv⟩ 3)] :: [(bR, .cells ⟨sc ⟨0, 0, 0⟩⟩ 43)] :: L) ?_ uL
 refine Zn (σ := Nat × Value × List Zq) (fun q => [(1, iv i), (5, pt bR 0), (6, bs s), (7, q.2.1), (8, sl bE 0 4 4), (9, iv (Ztk q.1)), (10, iv q.1)]) (fun q => q.2.2 :: [(bE, .cells ⟨ends4.map iv⟩ 3)] :: [(bR, .cells ⟨sc ⟨0, 0, 0⟩⟩ 43)] :: L) (fun q => q.1 ≤ 4 ∧ Vec 3 1 ic q.2.1 (Zr7 s q.1) q.2.2) (fun q => 4 - q.1) (0, Y4, []) uS (List.Sublist.refl _) ⟨by simp, Zu⟩ ?_
 rintro ⟨i4, v, c⟩ ⟨hi4, hv⟩
 simp only at hi4 hv ⊢
 by_cases hlt : i4 < 4
 ·obtain ⟨f1, f2, f3⟩ := en4_fact hlt
  have ge := map_getW (enc := iv) (en4_get hlt)
  repeat' (first | refine uN ?_ | refine Yc S ?_ | (refine uB ?_; intro b) | (refine uP ?_ ?_ <;> (intro h; ((try simp only [zs, ne_eq, and_true, true_and, eq_self, reduceCtorEq] at h); try exact zx))) | refine da 101 ?_ | fail)
  have e0 : (Value.int .i64 0) = iv (Zc9 s (Ztk i4) (Ztk i4)) := by rw [fld_same]
  rw [e0]
  refine Zn (σ := Nat) (fun k => [(1, iv i), (5, pt bR 0), (6, bs s), (7, v), (8, sl bE 0 4 4), (9, iv k), (10, iv i4), (11, iv (Zc9 s (Ztk i4) k))]) (fun _ => c :: [(bE, .cells ⟨ends4.map iv⟩ 3)] :: [(bR, .cells ⟨sc ⟨0, 0, 0⟩⟩ 43)] :: L) (fun k => Ztk i4 ≤ k ∧ k ≤ Zqu i4) (fun k => Zqu i4 - k) (Ztk i4) uS (List.Sublist.refl _) ⟨Nat.le_refl _, f1⟩ ?_
  rintro k ⟨k3, k4⟩
  have hfl := Zjq (s := s) (a := Ztk i4) (k := k) (by omega)
  by_cases hk : k < Zqu i4
  ·have hb2 := (s.getD (k : Int).toNat 0).toNat_lt
   have hsn := fld_snoc (s := s) k3 (show k < s.length by omega)
   have ek : s.getD (k : Int).toNat 0 = s.getD k 0 := rfl
   repeat' (first | refine uN ?_ | refine Yc S ?_ | (refine uB ?_; intro b) | (refine uP ?_ ?_ <;> (intro h; ((try simp only [zs, ne_eq, and_true, true_and, eq_self, reduceCtorEq] at h); try exact zx))) | refine da 101 ?_ | fail)
   rw [ek, ← hsn]
   exact Zg (k + 1) uS uL ⟨by omega, by omega⟩ (by omega)
  ·have hke : k = Zqu i4 := by omega
   subst hke
   have hvl := Zjr s i4
   repeat' (first | refine uN ?_ | refine Yc S ?_ | (refine uB ?_; intro b) | (refine uP ?_ ?_ <;> (intro h; ((try simp only [zs, ne_eq, and_true, true_and, eq_self, reduceCtorEq] at h); try exact zx))) | refine da 101 ?_ | fail)
   refine fo 1 ?_
   refine Zea S (Zc9 s (Ztk i4) (Zqu i4)) hv (fun _ => rfl) (fun _ => rfl) ?_
   intro v' c' hv'
   rw [← Zuf] at hv'
   repeat' (first | refine uN ?_ | refine Yc S ?_ | (refine uB ?_; intro b) | (refine uP ?_ ?_ <;> (intro h; ((try simp only [zs, ne_eq, and_true, true_and, eq_self, reduceCtorEq] at h); try exact zx))) | refine da 101 ?_ | fail)
   exact Zg (i4 + 1, v', c') uS uL ⟨by simp only; omega, hv'⟩ (by simp only; omega)
 ·have hi9 : i4 = 4 := by omega
  subst hi9
  rcases hv with ⟨rfl, h0, -, rfl⟩ | ⟨bv, capv, spv, rfl, rfl, hcs, hle, hall⟩
  ·simp [Zjr] at h0
  have ev : (List.map ic (Zr7 s 4)).flatten ++ spv = [iv (Zc9 s 0 4), iv (Zc9 s 4 5), iv (Zc9 s 5 9), iv (Zc9 s 9 13)] ++ spv := rfl
  rw [ev, Zjr]
  have u0 := Zjq (s := s) (a := 0) (k := 4) (by omega)
  have u1 := Zjq (s := s) (a := 4) (k := 5) (by omega)
  have u2 := Zjq (s := s) (a := 5) (k := 9) (by omega)
  have u3 := Zjq (s := s) (a := 9) (k := 13) (by omega)
  have kb := fun L => Zhm ⟨Zc9 s 0 4, ⟨Zc9 s 4 5, Zc9 s 5 9, Zc9 s 9 13⟩⟩ L ⟨u0.1, by simp only; omega⟩ ⟨u1.1, by simp only; omega⟩ ⟨u2.1, by simp only; omega⟩ ⟨u3.1, by simp only; omega⟩
  have hbl := Qt ⟨Zc9 s 0 4, ⟨Zc9 s 4 5, Zc9 s 5 9, Zc9 s 9 13⟩⟩
  generalize Zc9 s 0 4 = x0 at *
  generalize Zc9 s 4 5 = x1 at *
  generalize Zc9 s 5 9 = x2 at *
  generalize Zc9 s 9 13 = x3 at *
  have kt := fun L => Zaq 165 L
  rw [show bt 165 0 = 165 by decide +kernel] at kt
  repeat' (first | refine uN ?_ | refine Z7 S ?_ | refine Yt S ?_ | refine uC (kb _) ?_ | refine uC (kt _) ?_ | refine Yd (fun _ => kb _) ?_ | refine Yf (fun _ => kb _) ?_ | refine Ye (fun _ => kb _) ?_ | refine Yh (fun _ => kb _) ?_ | refine Yd (fun _ => kt _) ?_ | refine Yf (fun _ => kt _) ?_ | refine Ye (fun _ => kt _) ?_ | refine Yh (fun _ => kt _) ?_ | (refine uB ?_; intro b) | (refine uP ?_ ?_ <;> (intro h; ((try simp only [zs, ne_eq, and_true, true_and, eq_self, reduceCtorEq] at h); try exact zx))) | refine da 101 ?_ | fail)
  ·rw [if_pos (.inl h)]
   exact Qh (L' := L) uL ⟨rfl, rfl⟩ (hy := Wu S (hg := X1 _))
  ·rw [if_pos (.inr (.inl h))]
   exact Qh (L' := L) uL ⟨rfl, rfl⟩ (hy := Wu S (hg := X1 _))
  ·rw [if_pos (.inr (.inr h))]
   exact Qh (L' := L) uL ⟨rfl, rfl⟩ (hy := Wu S (hg := X1 _))
  ·rename_i h1 h2
   rw [if_neg (fun h0 => h0.elim h1 (fun h0 => h0.elim (fun h0 => h0 h2) (fun h0 => h0 h)))]
   exact Qh (L' := L) uL ⟨rfl, rfl⟩ (hy := Wu S (hg := X1 _))
theorem Zef (bb : List UInt8) (d : Nat) (L : Zb) (hd : d < 6) (hl : 216 ≤ bb.length) (hh : bb.length ≤ 1000000) : HC Tryz.prog 156 [bs bb, iv d] L (fun v L' => v = .tuple ⟨[iv (Xa bb d).n, .agg ⟨sc (Xa bb d).s⟩]⟩ ∧ L' = L) := by
 have k1 := fun L => Zhh bb (2 * d) L (by omega) hl hh
 have k2 := fun L => Zhh bb (2 * d + 1) L (by omega) hl hh
 rw [show (((2 * d : Nat) : Int) % 2) = 0 by omega, show (((2 * d : Nat) : Int)) = 2 * (d : Int) by omega] at k1
 rw [show (((2 * d + 1 : Nat) : Int) % 2) = 1 by omega, show (((2 * d + 1 : Nat) : Int)) = 2 * (d : Int) + 1 by omega] at k2
 rw [deal_two hd hl]
 generalize Y2 0 (Xf bb (2 * d)) = e0 at *
 generalize Y2 1 (Xf bb (2 * d + 1)) = e1 at *
 refine Za (fun _ _ => Tryz.call156 _ _) Tryz.func156 rfl Tryz.ntmps156 (Nat.le_of_ble_eq_true rfl) ?_; simp only [Zc, Nat.reduceAdd]
 by_cases h0 : e0.n < e1.n
 ·rw [if_pos h0]
  repeat' (first | refine uN ?_ | refine Z7 S ?_ | refine Yt S ?_ | refine uC (k1 _) ?_ | refine uC (k2 _) ?_ | refine Yd (fun _ => k1 _) ?_ | refine Yf (fun _ => k1 _) ?_ | refine Ye (fun _ => k1 _) ?_ | refine Yh (fun _ => k1 _) ?_ | refine Yd (fun _ => k2 _) ?_ | refine Yf (fun _ => k2 _) ?_ | refine Ye (fun _ => k2 _) ?_ | refine Yh (fun _ => k2 _) ?_ | (refine uB ?_; intro b) | (refine uP ?_ ?_ <;> (intro h; ((try simp only [zs, ne_eq, and_true, true_and, eq_self, reduceCtorEq] at h); try exact zx))) | refine da 101 ?_ | fail)
  exact Qh (L' := L) uL ⟨rfl, rfl⟩ (hy := Wu S (hg := X1 _))
 ·rw [if_neg h0]
  repeat' (first | refine uN ?_ | refine Z7 S ?_ | refine Yt S ?_ | refine uC (k1 _) ?_ | refine uC (k2 _) ?_ | refine Yd (fun _ => k1 _) ?_ | refine Yf (fun _ => k1 _) ?_ | refine Ye (fun _ => k1 _) ?_ | refine Yh (fun _ => k1 _) ?_ | refine Yd (fun _ => k2 _) ?_ | refine Yf (fun _ => k2 _) ?_ | refine Ye (fun _ => k2 _) ?_ | refine Yh (fun _ => k2 _) ?_ | (refine uB ?_; intro b) | (refine uP ?_ ?_ <;> (intro h; ((try simp only [zs, ne_eq, and_true, true_and, eq_self, reduceCtorEq] at h); try exact zx))) | refine da 101 ?_ | fail)
  exact Qh (L' := L) uL ⟨rfl, rfl⟩ (hy := Wu S (hg := X1 _))
end Go.HL
end

/-! JaB -/
section
namespace Go.HL
open Go Go.Proofs
set_option linter.unusedVariables false
set_option linter.unusedSimpArgs false
structure RJ where
 rj : Nat
 rp : Nat
 bN : Nat
 capN : Nat
 spN : List Value
 bS : Nat
 capS : Nat
 spS : List Value
def Zfl (r : RJ) (dead : Bool) : List Value := [pt r.rp 0, sl r.bN 0 6 r.capN, sl r.bS 0 6 r.capS, .bool dead]
def Qj (r : RJ) (j : Jn) : List Zq := [(r.rj, .cells ⟨Zfl r j.dead⟩ 214), (r.bN, .cells ⟨((j.l.map Ent.n).map ic).flatten ++ r.spN⟩ 3), (r.bS, .cells ⟨((j.l.map Ent.s).map sc).flatten ++ r.spS⟩ 43)]
theorem Zsr {b : List UInt8} {d : Nat} (hd : d < 6) : (Zo b).take (d + 1) = (Zo b).take d ++ [Xa b d] := by
 have h : (Zo b).length = 6 := by simp [Zo]
 rw [List.take_succ_eq_append_getElem (by omega)]
 simp [Zo]
theorem Zly (b : List UInt8) : (Zo b).length = 6 := by simp [Zo]
set_option maxHeartbeats 2000000 attribute [local irreducible] HW HO HQ HD HC QOp Has Upd Zt Gets Yb Z6 Zr Xr Z4 Zm Xx Zy
attribute [local irreducible] Zo Xa
theorem Zpn (rp : Nat) (m : Pl) (left : Int) (L : Zb) (hl : 216 ≤ m.b.length) (hh : m.b.length ≤ 1000000) : HC Tryz.prog 138 [pt rp 0] (Wd rp m left :: L) (fun v L' => ∃ r : RJ, r.rp = rp ∧ v = pt r.rj 0 ∧ L' = Qj r ⟨Zo m.b, false⟩ :: Wd rp m left :: L) := by
 refine Za (fun _ _ => Tryz.call138 _ _) Tryz.func138 rfl Tryz.ntmps138 (Nat.le_of_ble_eq_true rfl) ?_; simp only [Zc, Nat.reduceAdd]
 repeat' (first | refine uN ?_ | refine Yc S ?_ | (refine uB ?_; intro b) | (refine uP ?_ ?_ <;> (intro h; ((try simp only [zs, ne_eq, and_true, true_and, eq_self, reduceCtorEq] at h); try exact zx))) | refine da 101 ?_ | fail)
 generalize b = b3
 refine Wi (L' := [] :: [] :: [(b3, .cells ⟨[pt rp 0, Y4, Y4, .bool false]⟩ 214)] :: Wd rp m left :: L) ?_ uL
 refine Zn (σ := Nat × (Value × List Zq) × (Value × List Zq)) (fun q => [(0, pt rp 0), (3, pt b3 0), (4, iv q.1)]) (fun q => q.2.1.2 :: q.2.2.2 :: [(b3, .cells ⟨[pt rp 0, q.2.1.1, q.2.2.1, .bool false]⟩ 214)] :: Wd rp m left :: L) (fun q => q.1 ≤ 6 ∧ Vec 3 1 ic q.2.1.1 (((Zo m.b).take q.1).map Ent.n) q.2.1.2 ∧ Vec 43 3 sc q.2.2.1 (((Zo m.b).take q.1).map Ent.s) q.2.2.2) (fun q => 6 - q.1) (0, (Y4, []), (Y4, [])) uS (List.Sublist.refl _) ⟨by simp, Zu, Zu⟩ ?_
 rintro ⟨d, ⟨vN, cN⟩, ⟨vS, cS⟩⟩ ⟨hd, hN, hS⟩
 simp only at hd hN hS ⊢
 by_cases hlt : d < 6
 ·have k1 := fun L => Zef m.b d L hlt hl hh
  have et := Zsr (b := m.b) hlt
  have hol := Zly m.b
  generalize Xa m.b d = e at *
  have hNl : (List.map Ent.n (List.take d (Zo m.b))).length ≤ 6 := by simp; omega
  have hSl : (List.map Ent.s (List.take d (Zo m.b))).length ≤ 6 := by simp; omega
  repeat' (first | refine uN ?_ | refine Yc S ?_ | refine uC (k1 _) ?_ | refine Yd (fun _ => k1 _) ?_ | refine Yf (fun _ => k1 _) ?_ | refine Ye (fun _ => k1 _) ?_ | refine Yh (fun _ => k1 _) ?_ | (refine uB ?_; intro b) | (refine uP ?_ ?_ <;> (intro h; ((try simp only [zs, ne_eq, and_true, true_and, eq_self, reduceCtorEq] at h); try exact zx))) | refine da 101 ?_ | fail)
  refine fo 2 ?_
  refine Zea S e.n hN (fun _ => rfl) (fun _ => rfl) ?_
  intro v1 c1 hv1
  have e1 : List.map Ent.n (List.take d (Zo m.b)) ++ [e.n] = List.map Ent.n (List.take (d + 1) (Zo m.b)) := by rw [et, List.map_append]; rfl
  rw [e1] at hv1
  obtain ⟨a1, p1, rfl, -, -⟩ := Vec.rd hv1 (fun _ => rfl)
  repeat' (first | refine uN ?_ | refine Yc S ?_ | (refine uB ?_; intro b) | (refine uP ?_ ?_ <;> (intro h; ((try simp only [zs, ne_eq, and_true, true_and, eq_self, reduceCtorEq] at h); try exact zx))) | refine da 101 ?_ | fail)
  refine fo 4 ?_
  have scl : ∀ s, (sc s).length = 3 := fun _ => rfl
  have sco : ∀ s, (sc s).all Value.oneCell' = true := fun _ => rfl
  refine Zea (enc := sc) (xs := List.map Ent.s (List.take d (Zo m.b))) S e.s hS scl sco ?_
  intro v2 c2 hv2
  have e2 : List.map Ent.s (List.take d (Zo m.b)) ++ [e.s] = List.map Ent.s (List.take (d + 1) (Zo m.b)) := by rw [et, List.map_append]; rfl
  rw [e2] at hv2
  obtain ⟨a2, p2, rfl, -, -⟩ := Vec.rd hv2 (fun _ => rfl)
  repeat' (first | refine uN ?_ | refine Yc S ?_ | (refine uB ?_; intro b) | (refine uP ?_ ?_ <;> (intro h; ((try simp only [zs, ne_eq, and_true, true_and, eq_self, reduceCtorEq] at h); try exact zx))) | refine da 101 ?_ | fail)
  exact Zg (d + 1, (_, c1), (_, c2)) uS uL ⟨by simp only; omega, hv1, hv2⟩ (by simp only; omega)
 ·obtain rfl : d = 6 := by omega
  have hol := Zly m.b
  rw [List.take_of_length_le (by omega)] at hN hS
  rcases hN with ⟨rfl, h0, -, rfl⟩ | ⟨bN, capN, spN, rfl, rfl, hcsN, hleN, hallN⟩
  ·simp [hol] at h0
  rcases hS with ⟨rfl, h0, -, rfl⟩ | ⟨bS, capS, spS, rfl, rfl, hcsS, hleS, hallS⟩
  ·simp [hol] at h0
  simp only [List.length_map, hol]
  refine fw 2 ?_
  repeat' (first | refine uN ?_ | refine Yc S ?_ | (refine uB ?_; intro b) | (refine uP ?_ ?_ <;> (intro h; ((try simp only [zs, ne_eq, and_true, true_and, eq_self, reduceCtorEq] at h); try exact zx))) | refine da 101 ?_ | fail)
  exact Yi (L' := Qj ⟨b3, rp, bN, capN, spN, bS, capS, spS⟩ ⟨Zo m.b, false⟩ :: Wd rp m left :: L) (LS.of_eq rfl) ⟨⟨b3, rp, bN, capN, spN, bS, capS, spS⟩, rfl, rfl, rfl⟩
end Go.HL
end

/-! JaC -/
section
namespace Go.HL
open Go Go.Proofs
set_option linter.unusedVariables false
set_option linter.unusedSimpArgs false
theorem Zki {m : Pl} {a n : Int} {x : Nat} (h : X8 m a n = some x) : x = 2 ∨ x = 6 := by
 unfold X8 at h
 split at h
 ·cases h; exact .inl rfl
 ·split at h
  ·cases h; exact .inr rfl
  ·cases h
theorem Ug {m : Pl} {a : Int} {s : List UInt8} {x : Nat} (h : (Ya m a s).2 = some x) : x = 2 ∨ x = 6 := by
 unfold Ya at h
 split at h
 ·rename_i e he
  cases h
  exact Zki he
 ·unfold Zbe at h
  simp only at h
  split at h
  ·cases h; exact .inr rfl
  ·cases h
theorem Zdp (m : Pl) (a n : Int) : (Uz m a n).2 = X8 m a n := by
 unfold Uz
 split <;> simp_all
theorem Zkt {m : Pl} {a : Int} (h : X8 m a 1 = none) : (Uz m a 1).1 = [0] ↔ m.b.getD a.toNat 0 = 0 := by
 obtain ⟨h0, -, h1, -⟩ := Zej h
 unfold Uz
 rw [h]
 simp only
 have hlt : a.toNat < m.b.length := by omega
 rw [List.drop_eq_getElem_cons hlt]
 show ([m.b[a.toNat]] : List UInt8) = [0] ↔ _
 simp [List.getD, hlt]
theorem jw1_zero {m : Pl} {d : Int} {e : Ent} (h : X8 m (Uw d e + 18 - 1) 1 = none) (hz : m.b.getD (Uw d e + 18 - 1).toNat 0 = 0) : Zbg m d e = (m, none) := by
 unfold Zbg
 rw [Zdp, h]
 simp only
 rw [if_pos ((Zkt h).2 hz)]
theorem jw1_some {m : Pl} {d : Int} {e : Ent} (h : X8 m (Uw d e + 18 - 1) 1 = none) (hz : ¬ m.b.getD (Uw d e + 18 - 1).toNat 0 = 0) : Zbg m d e = Ya m (Uw d e + 18 - 1) [0] := by
 unfold Zbg
 rw [Zdp, h]
 simp only
 rw [if_neg (fun h0 => hz ((Zkt h).1 h0))]
theorem rN_get {r : RJ} {j : Jn} {d : Nat} {e : Ent} (h : j.l[d]? = some e) : (((j.l.map Ent.n).map ic).flatten ++ r.spN)[0 + (d : Int).toNat]? = some (iv e.n) := by
 have := Ut (enc := ic) (sz := 1) (fun _ => rfl) (j.l.map Ent.n) r.spN [] d e.n (by simp [h])
 have := this 0 (iv e.n) rfl
 simpa using this
theorem Zna {r : RJ} {j : Jn} {d : Nat} {e : Ent} (h : j.l[d]? = some e) : Gets (((j.l.map Ent.s).map sc).flatten ++ r.spS) (0 + (d : Int).toNat * 3) (sc e.s) := by
 have := Ut (enc := sc) (sz := 3) (fun _ => rfl) (j.l.map Ent.s) r.spS [] d e.s (by simp [h])
 simpa using this
theorem rN_put {r : RJ} {j : Jn} {d : Nat} (e : Ent) (h : d < j.l.length) : Zt (((j.l.map Ent.n).map ic).flatten ++ r.spN) (0 + (d : Int).toNat) [iv e.n] ((((j.l.set d e).map Ent.n).map ic).flatten ++ r.spN) := by
 have := Zcw (enc := ic) (sz := 1) (fun _ => rfl) (j.l.map Ent.n) r.spN [] d (0 + (d : Int).toNat) e.n (by simpa using h) (by simp)
 rw [List.map_set]
 exact this
theorem rS_put {r : RJ} {j : Jn} {d : Nat} (e : Ent) (h : d < j.l.length) : Zt (((j.l.map Ent.s).map sc).flatten ++ r.spS) (0 + (d : Int).toNat * 3) (sc e.s) ((((j.l.set d e).map Ent.s).map sc).flatten ++ r.spS) := by
 have := Zcw (enc := sc) (sz := 3) (fun _ => rfl) (j.l.map Ent.s) r.spS [] d (0 + (d : Int).toNat * 3) e.s (by simpa using h) (by simp)
 rw [List.map_set]
 simpa using this
set_option maxHeartbeats 2000000 attribute [local irreducible] HW HO HQ HD HC QOp Has Upd Zt Gets Yb Z6 Zr Xr Z4 Zm Xx Zy
set_option maxHeartbeats 2000000 in
theorem Zrx (r : RJ) (m : Pl) (j : Jn) (left : Int) (deal : Int) (s : St) (L : Zb) (hm : PlOk m) (hj : JnOk j) (hleft : m.cut ≠ -1 → left = m.cut) :
  HC Tryz.prog 259 [pt r.rj 0, iv deal, .agg ⟨sc s⟩] (Qj r j :: Wd r.rp m left :: L) (fun v L' => v = iv (cdN (Xo m j deal s).2.2) ∧ ∃ left', ((Xo m j deal s).1.cut ≠ -1 → left' = (Xo m j deal s).1.cut) ∧ L' = Qj r (Xo m j deal s).2.1 :: Wd r.rp (Xo m j deal s).1 left' :: L) := by
 by_cases h1 : j.dead = true
 ·rw [show Xo m j deal s = (m, j, some 6) from if_pos h1]
  obtain ⟨jl, dead⟩ := j
  simp only at h1
  subst h1
  refine Za (fun _ _ => Tryz.call259 _ _) Tryz.func259 rfl Tryz.ntmps259 (Nat.le_of_ble_eq_true rfl) ?_; simp only [Zc, Nat.reduceAdd]
  repeat' (first | refine uN ?_ | refine Z7 S ?_ | refine Yt S ?_ | (refine uB ?_; intro b) | (refine uP ?_ ?_ <;> (intro h; ((try simp only [zs, ne_eq, and_true, true_and, eq_self, reduceCtorEq] at h); try exact zx))) | refine da 101 ?_ | fail)
  exact Yi (L' := Qj r ⟨jl, true⟩ :: Wd r.rp m left :: L) uL ⟨rfl, left, hleft, rfl⟩
 obtain ⟨jl, dead⟩ := j
 obtain rfl : dead = false := by simpa using h1
 by_cases h2 : V2 deal s
 ·rw [show Xo m ⟨jl, false⟩ deal s = (m, ⟨jl, false⟩, some 2) by unfold Xo; rw [if_neg h1, if_pos h2]]
  unfold V2 at h2
  refine Za (fun _ _ => Tryz.call259 _ _) Tryz.func259 rfl Tryz.ntmps259 (Nat.le_of_ble_eq_true rfl) ?_; simp only [Zc, Nat.reduceAdd]
  repeat' (first | refine uN ?_ | refine Z7 S ?_ | refine Yt S ?_ | (refine uB ?_; intro b) | (refine uP ?_ ?_ <;> (intro h; ((try simp only [zs, ne_eq, and_true, true_and, eq_self, reduceCtorEq] at h); try exact zx))) | refine da 101 ?_ | fail)
  all_goals exact Yi (L' := Qj r ⟨jl, false⟩ :: Wd r.rp m left :: L) uL ⟨rfl, left, hleft, rfl⟩
 have hb := h2
 unfold V2 at hb
 obtain ⟨d, rfl⟩ := Int.eq_ofNat_of_zero_le (show 0 ≤ deal by omega)
 have hd : d < 6 := by omega
 have hlen : jl.length = 6 := hj.len
 have n0 : 0 ≤ (jl.getD d Zl).n := hj.n0 d
 have n1 : (jl.getD d Zl).n ≤ 4294967296 := hj.n1 d
 have hp : Xo m ⟨jl, false⟩ d s = if (jl.getD d Zl).s = s then (m, ⟨jl, false⟩, none) else if 4294967296 ≤ (jl.getD d Zl).n + 1 then (m, ⟨jl, false⟩, some 5) else
   match (Qu m d ⟨(jl.getD d Zl).n + 1, s⟩).2 with
   | some x => ((Qu m d ⟨(jl.getD d Zl).n + 1, s⟩).1, ⟨jl, true⟩, some x)
   | none => ((Qu m d ⟨(jl.getD d Zl).n + 1, s⟩).1, ⟨jl.set d ⟨(jl.getD d Zl).n + 1, s⟩, false⟩, none) := by
  unfold Xo; rw [if_neg h1, if_neg h2]; rfl
 have he : jl[d]? = some (jl.getD d Zl) := by
  rw [List.getD, List.getElem?_eq_getElem (by omega)]; rfl
 have g1 := rN_get (r := r) (j := ⟨jl, false⟩) he
 have g2 := Zna (r := r) (j := ⟨jl, false⟩) he
 have p1 := rN_put (r := r) (j := ⟨jl, false⟩) (d := d) ⟨(jl.getD d Zl).n + 1, s⟩ (by simp only; omega)
 have p2 := rS_put (r := r) (j := ⟨jl, false⟩) (d := d) ⟨(jl.getD d Zl).n + 1, s⟩ (by simp only; omega)
 simp only at g1 g2 p1 p2
 generalize hE : jl.getD d Zl = e at *
 clear hj h2 he hE h1
 by_cases h3 : e.s = s
 ·rw [hp, if_pos h3]
  subst h3
  refine Za (fun _ _ => Tryz.call259 _ _) Tryz.func259 rfl Tryz.ntmps259 (Nat.le_of_ble_eq_true rfl) ?_; simp only [Zc, Nat.reduceAdd]
  repeat' (first | refine uN ?_ | refine Z7 S ?_ | refine Yt S ?_ | (refine uB ?_; intro b) | (refine uP ?_ ?_ <;> (intro h; ((try simp only [zs, ne_eq, and_true, true_and, eq_self, reduceCtorEq] at h); try exact zx))) | refine da 101 ?_ | fail)
  all_goals exact Yi (L' := Qj r ⟨jl, false⟩ :: Wd r.rp m left :: L) uL ⟨rfl, left, hleft, rfl⟩
 have h3' : ¬ (e.s.ph = s.ph ∧ e.s.pr = s.pr ∧ e.s.att = s.att) := fun h => h3 (St.ext3 h)
 by_cases h4 : 4294967296 ≤ e.n + 1
 ·rw [hp, if_neg h3, if_pos h4]
  refine Za (fun _ _ => Tryz.call259 _ _) Tryz.func259 rfl Tryz.ntmps259 (Nat.le_of_ble_eq_true rfl) ?_; simp only [Zc, Nat.reduceAdd]
  repeat' (first | refine uN ?_ | refine Z7 S ?_ | refine Yt S ?_ | (refine uB ?_; intro b) | (refine uP ?_ ?_ <;> (intro h; ((try simp only [zs, ne_eq, and_true, true_and, eq_self, reduceCtorEq] at h); try exact zx))) | refine da 101 ?_ | fail)
  all_goals exact Yi (L' := Qj r ⟨jl, false⟩ :: Wd r.rp m left :: L) uL ⟨rfl, left, hleft, rfl⟩
 rw [hp, if_neg h3, if_neg h4]
 have kerr : ∀ L, HC Tryz.prog 288 [pt r.rp 0, iv ((2 * (d : Int) + (e.n + 1) % 2) * 18 + 18 - 1), iv 1] (Wd r.rp m left :: L) (fun v L' => v = iv (cdN (X8 m (Uw d ⟨e.n + 1, s⟩ + 18 - 1) 1)) ∧ L' = Wd r.rp m left :: L) := fun L => Ziz r.rp m left (Uw d ⟨e.n + 1, s⟩ + 18 - 1) 1 L hm.len
 have lb := Qt ⟨e.n + 1, s⟩
 have o1 := Zmw hm d ⟨e.n + 1, s⟩
 have o2 := Znb hm d ⟨e.n + 1, s⟩
 have kt1 := fun L => Zaq 0 L
 rw [show bt 0 0 = 0 by decide +kernel] at kt1
 have kt2 := fun L => Zaq 165 L
 rw [show bt 165 0 = 165 by decide +kernel] at kt2
 have kb := fun L => Zhm ⟨e.n + 1, s⟩ L ⟨by simp only; omega, by simp only; omega⟩ ⟨by simp only; omega, by simp only; omega⟩ ⟨by simp only; omega, by simp only; omega⟩ ⟨by simp only; omega, by simp only; omega⟩
 have w1 : ∀ L, HC Tryz.prog 289 [pt r.rp 0, iv ((2 * (d : Int) + (e.n + 1) % 2) * 18 + 18 - 1), bs [0]] (Wd r.rp m left :: L) (fun v L' => v = iv (cdN (Ya m (Uw d ⟨e.n + 1, s⟩ + 18 - 1) [0]).2) ∧ ∃ left', ((Ya m (Uw d ⟨e.n + 1, s⟩ + 18 - 1) [0]).1.cut ≠ -1 → left' = (Ya m (Uw d ⟨e.n + 1, s⟩ + 18 - 1) [0]).1.cut) ∧ L' = Wd r.rp (Ya m (Uw d ⟨e.n + 1, s⟩ + 18 - 1) [0]).1 left' :: L) := fun L => Zbv r.rp m left (Uw d ⟨e.n + 1, s⟩ + 18 - 1) [0] L hm.len (by simp) ⟨hm.lo, hm.hi⟩ hleft
 have w2 : ∀ left1, ((Zbg m d ⟨e.n + 1, s⟩).1.cut ≠ -1 → left1 = (Zbg m d ⟨e.n + 1, s⟩).1.cut) → ∀ L, HC Tryz.prog 289 [pt r.rp 0, iv ((2 * (d : Int) + (e.n + 1) % 2) * 18), bs (Y1 ⟨e.n + 1, s⟩)] (Wd r.rp (Zbg m d ⟨e.n + 1, s⟩).1 left1 :: L) (fun v L' => v = iv (cdN (Ya (Zbg m d ⟨e.n + 1, s⟩).1 (Uw d ⟨e.n + 1, s⟩) (Y1 ⟨e.n + 1, s⟩)).2) ∧ ∃ left', ((Ya (Zbg m d ⟨e.n + 1, s⟩).1 (Uw d ⟨e.n + 1, s⟩) (Y1 ⟨e.n + 1, s⟩)).1.cut ≠ -1 → left' = (Ya (Zbg m d ⟨e.n + 1, s⟩).1 (Uw d ⟨e.n + 1, s⟩) (Y1 ⟨e.n + 1, s⟩)).1.cut) ∧ L' = Wd r.rp (Ya (Zbg m d ⟨e.n + 1, s⟩).1 (Uw d ⟨e.n + 1, s⟩) (Y1 ⟨e.n + 1, s⟩)).1 left' :: L) := fun left1 h1 L => Zbv r.rp _ left1 (Uw d ⟨e.n + 1, s⟩) (Y1 ⟨e.n + 1, s⟩) L o1.len (by omega) ⟨o1.lo, o1.hi⟩ h1
 have w3 : ∀ left1, ((Zap m d ⟨e.n + 1, s⟩).1.cut ≠ -1 → left1 = (Zap m d ⟨e.n + 1, s⟩).1.cut) → ∀ L, HC Tryz.prog 289 [pt r.rp 0, iv ((2 * (d : Int) + (e.n + 1) % 2) * 18 + 18 - 1), bs [165]] (Wd r.rp (Zap m d ⟨e.n + 1, s⟩).1 left1 :: L) (fun v L' => v = iv (cdN (Ya (Zap m d ⟨e.n + 1, s⟩).1 (Uw d ⟨e.n + 1, s⟩ + 18 - 1) [165]).2) ∧ ∃ left', ((Ya (Zap m d ⟨e.n + 1, s⟩).1 (Uw d ⟨e.n + 1, s⟩ + 18 - 1) [165]).1.cut ≠ -1 → left' = (Ya (Zap m d ⟨e.n + 1, s⟩).1 (Uw d ⟨e.n + 1, s⟩ + 18 - 1) [165]).1.cut) ∧ L' = Wd r.rp (Ya (Zap m d ⟨e.n + 1, s⟩).1 (Uw d ⟨e.n + 1, s⟩ + 18 - 1) [165]).1 left' :: L) := fun left1 h1 L => Zbv r.rp _ left1 (Uw d ⟨e.n + 1, s⟩ + 18 - 1) [165] L o2.len (by simp) ⟨o2.lo, o2.hi⟩ h1
 refine Za (fun _ _ => Tryz.call259 _ _) Tryz.func259 rfl Tryz.ntmps259 (Nat.le_of_ble_eq_true rfl) ?_; simp only [Zc, Nat.reduceAdd]
 cases h5 : X8 m (Uw d ⟨e.n + 1, s⟩ + 18 - 1) 1 with
 | some x =>
  rw [h5] at kerr
  have hx := Zki h5
  have e1 : Qu m d ⟨e.n + 1, s⟩ = (m, some x) := by simp [Qu, Zap, Zbg, Zdp, h5]
  rw [e1]
  simp only [cdN] at kerr ⊢
  repeat' (first | refine uN ?_ | refine Z7 S ?_ | refine Yt S ?_ | refine We (qC (Yx kerr 2)) ?_ | refine Qi (qC (Yx kerr 2)) ?_ | refine Yd (fun _ => Yx kerr 2) ?_ | refine Yf (fun _ => Yx kerr 2) ?_ | refine Ye (fun _ => Yx kerr 2) ?_ | refine Yh (fun _ => Yx kerr 2) ?_ | (refine uB ?_; intro b) | (refine uP ?_ ?_ <;> (intro h; ((try simp only [zs, ne_eq, and_true, true_and, eq_self, reduceCtorEq] at h); try exact zx))) | refine da 101 ?_ | fail)
  exact Yi (L' := Qj r ⟨jl, true⟩ :: Wd r.rp m left :: L) uL ⟨rfl, left, hleft, rfl⟩
 | none =>
  rw [h5] at kerr
  simp only [cdN] at kerr
  have hb5 := Zej h5
  have hr1 := Zkt h5
  simp only [Uw] at hb5 hr1
  by_cases hz : m.b.getD ((2 * (d : Int) + (e.n + 1) % 2) * 18 + 18 - 1).toNat 0 = 0
  ·have hz2 : ((m.b.getD ((2 * (d : Int) + (e.n + 1) % 2) * 18 + 18 - 1).toNat 0).toNat : Int) = 0 := by rw [hz]; rfl
   have e1 : Zbg m d ⟨e.n + 1, s⟩ = (m, none) := jw1_zero h5 hz
   have e2 : Zap m d ⟨e.n + 1, s⟩ = Ya (Zbg m d ⟨e.n + 1, s⟩).1 (Uw d ⟨e.n + 1, s⟩) (Y1 ⟨e.n + 1, s⟩) := by simp [Zap, e1]
   have hm1 : (Zbg m d ⟨e.n + 1, s⟩).1 = m := by rw [e1]
   rw [hm1] at w2 e2
   repeat' (first | refine uN ?_ | refine Yc S ?_ | refine We (qC (Yx kerr 2)) ?_ | refine uC (kb _) ?_ | refine Yd (fun _ => Yx kerr 2) ?_ | refine Yf (fun _ => Yx kerr 2) ?_ | refine Ye (fun _ => Yx kerr 2) ?_ | refine Yh (fun _ => Yx kerr 2) ?_ | refine Yd (fun _ => kb _) ?_ | refine Yf (fun _ => kb _) ?_ | refine Ye (fun _ => kb _) ?_ | refine Yh (fun _ => kb _) ?_ | (refine uB ?_; intro b) | (refine uP ?_ ?_ <;> (intro h; ((try simp only [zs, ne_eq, and_true, true_and, eq_self, reduceCtorEq] at h); try exact zx))) | refine da 101 ?_ | fail)
   refine fo 2 ?_
   refine gc (w2 left hleft _) ?_
   rintro v L' ⟨rfl, left2, hl2, rfl⟩
   rw [← e2] at hl2 ⊢
   cases h7 : (Zap m d ⟨e.n + 1, s⟩).2 with
   | some x =>
    have hx := Ug (e2 ▸ h7)
    have e3 : Qu m d ⟨e.n + 1, s⟩ = ((Zap m d ⟨e.n + 1, s⟩).1, some x) := by simp [Qu, h7]
    rw [e3]
    simp only [cdN]
    repeat' (first | refine uN ?_ | refine Z7 S ?_ | refine Yt S ?_ | (refine uB ?_; intro b) | (refine uP ?_ ?_ <;> (intro h; ((try simp only [zs, ne_eq, and_true, true_and, eq_self, reduceCtorEq] at h); try exact zx))) | refine da 101 ?_ | fail)
    exact Yi (L' := Qj r ⟨jl, true⟩ :: Wd r.rp (Zap m d ⟨e.n + 1, s⟩).1 left2 :: L) uL ⟨rfl, left2, hl2, rfl⟩
   | none =>
    have e3 : Qu m d ⟨e.n + 1, s⟩ = Ya (Zap m d ⟨e.n + 1, s⟩).1 (Uw d ⟨e.n + 1, s⟩ + 18 - 1) [165] := by simp [Qu, h7, Y9]
    rw [← e3] at w3
    simp only [cdN]
    repeat' (first | refine uN ?_ | refine Yc S ?_ | refine uC (kt2 _) ?_ | refine Yd (fun _ => kt2 _) ?_ | refine Yf (fun _ => kt2 _) ?_ | refine Ye (fun _ => kt2 _) ?_ | refine Yh (fun _ => kt2 _) ?_ | (refine uB ?_; intro b) | (refine uP ?_ ?_ <;> (intro h; ((try simp only [zs, ne_eq, and_true, true_and, eq_self, reduceCtorEq] at h); try exact zx))) | refine da 101 ?_ | fail)
    refine gc (w3 left2 hl2 _) ?_
    rintro v L' ⟨rfl, left3, hl3, rfl⟩
    cases h8 : (Qu m d ⟨e.n + 1, s⟩).2 with
    | some x =>
     have hx := Ug (e3 ▸ h8)
     simp only [cdN]
     repeat' (first | refine uN ?_ | refine Yc S ?_ | (refine uB ?_; intro b) | (refine uP ?_ ?_ <;> (intro h; ((try simp only [zs, ne_eq, and_true, true_and, eq_self, reduceCtorEq] at h); try exact zx))) | refine da 101 ?_ | fail)
     exact Yi (L' := Qj r ⟨jl, true⟩ :: Wd r.rp (Qu m d ⟨e.n + 1, s⟩).1 left3 :: L) uL ⟨rfl, left3, hl3, rfl⟩
    | none =>
     simp only [cdN]
     repeat' (first | refine uN ?_ | refine Yc S ?_ | (refine uB ?_; intro b) | (refine uP ?_ ?_ <;> (intro h; ((try simp only [zs, ne_eq, and_true, true_and, eq_self, reduceCtorEq] at h); try exact zx))) | refine da 101 ?_ | fail)
     exact Yi (L' := Qj r ⟨jl.set d ⟨e.n + 1, s⟩, false⟩ :: Wd r.rp (Qu m d ⟨e.n + 1, s⟩).1 left3 :: L) uL ⟨rfl, left3, hl3, rfl⟩
  ·have hz2 : 0 < ((m.b.getD ((2 * (d : Int) + (e.n + 1) % 2) * 18 + 18 - 1).toNat 0).toNat : Int) := by
    have : (m.b.getD ((2 * (d : Int) + (e.n + 1) % 2) * 18 + 18 - 1).toNat 0).toNat ≠ 0 := fun h0 => hz (UInt8.toNat_inj.1 h0)
    omega
   have e1 : Zbg m d ⟨e.n + 1, s⟩ = Ya m (Uw d ⟨e.n + 1, s⟩ + 18 - 1) [0] := jw1_some h5 hz
   rw [← e1] at w1
   repeat' (first | refine uN ?_ | refine Yc S ?_ | refine We (qC (Yx kerr 2)) ?_ | refine uC (kt1 _) ?_ | refine Yd (fun _ => Yx kerr 2) ?_ | refine Yf (fun _ => Yx kerr 2) ?_ | refine Ye (fun _ => Yx kerr 2) ?_ | refine Yh (fun _ => Yx kerr 2) ?_ | refine Yd (fun _ => kt1 _) ?_ | refine Yf (fun _ => kt1 _) ?_ | refine Ye (fun _ => kt1 _) ?_ | refine Yh (fun _ => kt1 _) ?_ | (refine uB ?_; intro b) | (refine uP ?_ ?_ <;> (intro h; ((try simp only [zs, ne_eq, and_true, true_and, eq_self, reduceCtorEq] at h); try exact zx))) | refine da 101 ?_ | fail)
   refine fo 2 ?_
   refine gc (w1 _) ?_
   rintro v L' ⟨rfl, left1, hl1, rfl⟩
   cases h6 : (Zbg m d ⟨e.n + 1, s⟩).2 with
   | some x =>
    have hx := Ug (e1 ▸ h6)
    have e3 : Qu m d ⟨e.n + 1, s⟩ = ((Zbg m d ⟨e.n + 1, s⟩).1, some x) := by simp [Qu, Zap, h6]
    rw [e3]
    simp only [cdN]
    repeat' (first | refine uN ?_ | refine Yc S ?_ | (refine uB ?_; intro b) | (refine uP ?_ ?_ <;> (intro h; ((try simp only [zs, ne_eq, and_true, true_and, eq_self, reduceCtorEq] at h); try exact zx))) | refine da 101 ?_ | fail)
    exact Yi (L' := Qj r ⟨jl, true⟩ :: Wd r.rp (Zbg m d ⟨e.n + 1, s⟩).1 left1 :: L) uL ⟨rfl, left1, hl1, rfl⟩
   | none =>
    have e2 : Zap m d ⟨e.n + 1, s⟩ = Ya (Zbg m d ⟨e.n + 1, s⟩).1 (Uw d ⟨e.n + 1, s⟩) (Y1 ⟨e.n + 1, s⟩) := by simp [Zap, h6]
    simp only [cdN]
    repeat' (first | refine uN ?_ | refine Yc S ?_ | refine uC (kb _) ?_ | refine Yd (fun _ => kb _) ?_ | refine Yf (fun _ => kb _) ?_ | refine Ye (fun _ => kb _) ?_ | refine Yh (fun _ => kb _) ?_ | (refine uB ?_; intro b) | (refine uP ?_ ?_ <;> (intro h; ((try simp only [zs, ne_eq, and_true, true_and, eq_self, reduceCtorEq] at h); try exact zx))) | refine da 101 ?_ | fail)
    refine gc (w2 left1 hl1 _) ?_
    rintro v L' ⟨rfl, left2, hl2, rfl⟩
    rw [← e2] at hl2 ⊢
    cases h7 : (Zap m d ⟨e.n + 1, s⟩).2 with
    | some x =>
     have hx := Ug (e2 ▸ h7)
     have e3 : Qu m d ⟨e.n + 1, s⟩ = ((Zap m d ⟨e.n + 1, s⟩).1, some x) := by simp [Qu, h7]
     rw [e3]
     simp only [cdN]
     repeat' (first | refine uN ?_ | refine Z7 S ?_ | refine Yt S ?_ | (refine uB ?_; intro b) | (refine uP ?_ ?_ <;> (intro h; ((try simp only [zs, ne_eq, and_true, true_and, eq_self, reduceCtorEq] at h); try exact zx))) | refine da 101 ?_ | fail)
     exact Yi (L' := Qj r ⟨jl, true⟩ :: Wd r.rp (Zap m d ⟨e.n + 1, s⟩).1 left2 :: L) uL ⟨rfl, left2, hl2, rfl⟩
    | none =>
     have e3 : Qu m d ⟨e.n + 1, s⟩ = Ya (Zap m d ⟨e.n + 1, s⟩).1 (Uw d ⟨e.n + 1, s⟩ + 18 - 1) [165] := by simp [Qu, h7, Y9]
     rw [← e3] at w3
     simp only [cdN]
     repeat' (first | refine uN ?_ | refine Yc S ?_ | refine uC (kt2 _) ?_ | refine Yd (fun _ => kt2 _) ?_ | refine Yf (fun _ => kt2 _) ?_ | refine Ye (fun _ => kt2 _) ?_ | refine Yh (fun _ => kt2 _) ?_ | (refine uB ?_; intro b) | (refine uP ?_ ?_ <;> (intro h; ((try simp only [zs, ne_eq, and_true, true_and, eq_self, reduceCtorEq] at h); try exact zx))) | refine da 101 ?_ | fail)
     refine gc (w3 left2 hl2 _) ?_
     rintro v L' ⟨rfl, left3, hl3, rfl⟩
     cases h8 : (Qu m d ⟨e.n + 1, s⟩).2 with
     | some x =>
      have hx := Ug (e3 ▸ h8)
      simp only [cdN]
      repeat' (first | refine uN ?_ | refine Yc S ?_ | (refine uB ?_; intro b) | (refine uP ?_ ?_ <;> (intro h; ((try simp only [zs, ne_eq, and_true, true_and, eq_self, reduceCtorEq] at h); try exact zx))) | refine da 101 ?_ | fail)
      exact Yi (L' := Qj r ⟨jl, true⟩ :: Wd r.rp (Qu m d ⟨e.n + 1, s⟩).1 left3 :: L) uL ⟨rfl, left3, hl3, rfl⟩
     | none =>
      simp only [cdN]
      repeat' (first | refine uN ?_ | refine Yc S ?_ | (refine uB ?_; intro b) | (refine uP ?_ ?_ <;> (intro h; ((try simp only [zs, ne_eq, and_true, true_and, eq_self, reduceCtorEq] at h); try exact zx))) | refine da 101 ?_ | fail)
      exact Yi (L' := Qj r ⟨jl.set d ⟨e.n + 1, s⟩, false⟩ :: Wd r.rp (Qu m d ⟨e.n + 1, s⟩).1 left3 :: L) uL ⟨rfl, left3, hl3, rfl⟩
end Go.HL
end

/-! RsA -/
section
namespace Go.HL
open Go Go.Proofs
set_option linter.unusedVariables false
set_option linter.unusedSimpArgs false
def Zen (ref : Int → Bool) : List Value := (List.range 6).map fun (d : Nat) => Value.bool (ref (d : Int))
theorem refL_get {ref : Int → Bool} {d : Nat} (h : d < 6) : (Zen ref)[0 + (d : Int).toNat]? = some (.bool (ref d)) := by
 simp [Zen, h]
theorem refL_put {ref : Int → Bool} {d : Nat} (h : d < 6) : Zt (Zen ref) (0 + (d : Int).toNat) [.bool true] (Zen fun x => if x = (d : Int) then true else ref x) := by
 have e : Zen (fun x => if x = (d : Int) then true else ref x) = (Zen ref).set (0 + (d : Int).toNat) (.bool true) := by
  apply List.ext_getElem?
  intro k
  rw [List.getElem?_set]
  by_cases hk : k < 6
  ·by_cases hd : d = k
   ·subst hd; simp [Zen, hk]
   ·simp [Zen, hk, hd]
    intro h9
    exact absurd (by omega) hd
  ·simp [Zen, hk]
   omega
 rw [e]
 exact W4 (by simp [Zen]; omega)
theorem Zi7 : List.replicate (Int.toNat 6) (Value.bool false) = Zen fun _ => false := rfl
def Zeo (rs rj bR : Nat) (id : Int) (ref : Int → Bool) : List Zq := [(rs, .cells ⟨[iv id, pt rj 0, sl bR 0 6 6]⟩ 208), (bR, .cells ⟨Zen ref⟩ 4)]
theorem Zvo (m : Pl) (j : Jn) (deal : Int) (s : St) : ∀ e, (Xo m j deal s).2.2 = some e → 1 ≤ e := by
 unfold Xo
 intro e he
 split at he
 ·cases he; decide
 split at he
 ·cases he; decide
 split at he
 ·cases he
 split at he
 ·cases he; decide
 split at he
 ·rename_i x h
  have : x = 2 ∨ x = 6 := by
   unfold Qu at h
   split at h
   ·rename_i y hy
    cases h
    unfold Zap at hy
    split at hy
    ·rename_i z hz
     cases hy
     unfold Zbg at hz
     split at hz
     ·rename_i w hw
      cases hz
      rw [Zdp] at hw
      exact Zki hw
     ·split at hz
      ·cases hz
      ·exact Ug hz
    ·exact Ug hy
   ·exact Ug h
  cases he
  omega
 ·cases he
set_option maxHeartbeats 2000000 attribute [local irreducible] HW HO HQ HD HC QOp Has Upd Zt Gets Yb Z6 Zr Xr Z4 Zm Xx Zy
attribute [local irreducible] Zo Xo Z8 Zen
theorem Zby (p : Int) (L : Zb) : HC Tryz.prog 39 [iv p] L (fun v L' => v = .bool (decide (p = 2 ∨ p = 3)) ∧ L' = L) := by
 refine Za (fun _ _ => Tryz.call39 _ _) Tryz.func39 rfl Tryz.ntmps39 (Nat.le_of_ble_eq_true rfl) ?_; simp only [Zc, Nat.reduceAdd]
 repeat' (first | refine uN ?_ | (refine uP ?_ ?_ <;> (intro h; ((try simp only [zs, ne_eq, and_true, true_and, eq_self, reduceCtorEq] at h); try exact zx))) | fail)
 all_goals refine Yi uZ ⟨?_, rfl⟩
 all_goals simp [*]
theorem Zck (id : Int) (rp : Nat) (m : Pl) (left : Int) (L : Zb) (hl : 216 ≤ m.b.length) (hh : m.b.length ≤ 1000000) : HC Tryz.prog 80 [iv id, pt rp 0] (Wd rp m left :: L) (fun v L' => ∃ rs bR, ∃ r : RJ, v = pt rs 0 ∧ r.rp = rp ∧ L' = Zeo rs r.rj bR id (fun _ => false) :: Qj r ⟨Zo m.b, false⟩ :: Wd rp m left :: L) := by
 have ko := fun L => Zpn rp m left L hl hh
 refine Za (fun _ _ => Tryz.call80 _ _) Tryz.func80 rfl Tryz.ntmps80 (Nat.le_of_ble_eq_true rfl) ?_; simp only [Zc, Nat.reduceAdd]
 repeat' (first | refine uN ?_ | refine Yc S ?_ | (refine uB ?_; intro b) | refine da 101 ?_ | fail)
 refine Zne ?_ ?_
 ·refine gc (ko _) ?_
  rintro v L' ⟨r, hr, rfl, rfl⟩
  repeat' (first | refine uN ?_ | refine Yc S ?_ | (refine uB ?_; intro b) | refine da 101 ?_ | fail)
  rename_i bR
  rw [Zi7]
  exact Yi (L' := Zeo b r.rj bR id (fun _ => false) :: Qj r ⟨Zo m.b, false⟩ :: Wd rp m left :: L) (LS.trans (b := ([(b, .cells ⟨[iv id, pt r.rj 0, sl bR 0 6 6]⟩ 208)] :: [(bR, .cells ⟨Zen fun _ => false⟩ 4)] :: Qj r ⟨Zo m.b, false⟩ :: Wd rp m left :: L : Zb).flatten) (LS.of_eq rfl) uL) ⟨b, bR, r, rfl, hr, rfl⟩
 ·repeat' (first | refine uN ?_ | refine Yc S ?_ | (refine uB ?_; intro b) | refine da 101 ?_ | fail)
  refine fo 1 ?_
  refine gc (ko _) ?_
  rintro v L' ⟨r, hr, rfl, rfl⟩
  repeat' (first | refine uN ?_ | refine Yc S ?_ | (refine uB ?_; intro b) | refine da 101 ?_ | fail)
  rename_i bR
  rw [Zi7]
  exact Yi (L' := Zeo b r.rj bR id (fun _ => false) :: Qj r ⟨Zo m.b, false⟩ :: Wd rp m left :: L) (LS.trans (b := ([(b, .cells ⟨[iv id, pt r.rj 0, sl bR 0 6 6]⟩ 208)] :: [(bR, .cells ⟨Zen fun _ => false⟩ 4)] :: Qj r ⟨Zo m.b, false⟩ :: Wd rp m left :: L : Zb).flatten) (LS.of_eq rfl) uL) ⟨b, bR, r, rfl, hr, rfl⟩
set_option maxHeartbeats 2000000 in
theorem Zog (rs bR : Nat) (id : Int) (ref : Int → Bool) (r : RJ) (m : Pl) (j : Jn) (left : Int) (f : Fr) (L : Zb) (hm : PlOk m) (hj : JnOk j) (hleft : m.cut ≠ -1 → left = m.cut) :
  HC Tryz.prog 193 [pt rs 0, .agg ⟨fc f⟩] (Zeo rs r.rj bR id ref :: Qj r j :: Wd r.rp m left :: L) (fun v L' => ∃ fv c left', v = .tuple ⟨[fv, iv (cdN (Zp id ref m j f).2.2.2)]⟩ ∧ Zx fv (Zp id ref m j f).2.2.1 c ∧ ((Zp id ref m j f).1.cut ≠ -1 → left' = (Zp id ref m j f).1.cut) ∧
   L' = Zeo rs r.rj bR id ref :: Qj r (Zp id ref m j f).2.1 :: Wd r.rp (Zp id ref m j f).1 left' :: c :: L) := by
 have kfe := fun L => Zqk f L
 unfold Zp Zgp at *
 by_cases hb : Xv f
 ·simp only [if_pos hb, cdF] at kfe ⊢
  refine Za (fun _ _ => Tryz.call193 _ _) Tryz.func193 rfl Tryz.ntmps193 (Nat.le_of_ble_eq_true rfl) ?_; simp only [Zc, Nat.reduceAdd]
  repeat' (first | refine uN ?_ | refine Z7 S ?_ | refine Yt S ?_ | refine uC (kfe _) ?_ | refine Yd (fun _ => kfe _) ?_ | refine Yf (fun _ => kfe _) ?_ | refine Ye (fun _ => kfe _) ?_ | refine Yh (fun _ => kfe _) ?_ | (refine uB ?_; intro b) | (refine uP ?_ ?_ <;> (intro h; ((try simp only [zs, ne_eq, and_true, true_and, eq_self, reduceCtorEq] at h); try exact zx))) | refine da 101 ?_ | fail)
  exact Qh (L' := Zeo rs r.rj bR id ref :: Qj r j :: Wd r.rp m left :: [] :: L) uL ⟨_, [], left, rfl, Zu, hleft, rfl⟩
 simp only [if_neg hb, cdF] at kfe ⊢
 by_cases hto : f.to = id
 ·simp only [ne_eq, hto, not_true_eq_false, if_false]
  unfold Xv at hb
  obtain ⟨fr0, to0, dl0, kd0, at0, ys0, fs0⟩ := f
  simp only at hb hto ⊢
  subst hto
  obtain ⟨d, rfl⟩ := Int.eq_ofNat_of_zero_le (show 0 ≤ dl0 by omega)
  have hd6 : d < 6 := by omega
  simp only [Int.toNat_natCast]
  have gS := Zna (r := r) (j := j) (d := d) (e := j.l.getD d Zl) (by have := hj.len; simp [List.getD, this, hd6])
  have gR := refL_get (ref := ref) hd6
  generalize hst : (j.l.getD d Zl).s = st at *
  have hjl := hj.len
  have kfin := fun p L => Zby p L
  generalize htr : Z8 ref ⟨fr0, to0, d, kd0, at0, ys0, fs0⟩ st = tr at *
  refine Za (fun _ _ => Tryz.call193 _ _) Tryz.func193 rfl Tryz.ntmps193 (Nat.le_of_ble_eq_true rfl) ?_; simp only [Zc, Nat.reduceAdd]
  repeat apply Ziq
  apply Zba
  refine wb (fun b3 => ?_)
  repeat' (first | refine uN ?_ | refine Z7 S ?_ | refine Yt S ?_ | refine uC (kfe _) ?_ | refine Yd (fun _ => kfe _) ?_ | refine Yf (fun _ => kfe _) ?_ | refine Ye (fun _ => kfe _) ?_ | refine Yh (fun _ => kfe _) ?_ | (refine uB ?_; intro b) | (refine uP ?_ ?_ <;> (intro h; ((try simp only [zs, ne_eq, and_true, true_and, eq_self, reduceCtorEq] at h); try exact zx))) | refine da 101 ?_ | fail)
  generalize b = b8
  rename_i b7
  apply Zq7 (ι := St × Int × Bool) (fun q => tr = q) (fun _ => [(0, pt rs 0), (3, pt b3 0), (7, pt b7 0), (8, pt b8 0)]) (fun q => [(b8, .cells ⟨fc ⟨to0, fr0, d, q.2.1, at0, q.2.2, ⟨0, 0, 0⟩⟩⟩ 131)] :: [(b7, .cells ⟨sc q.1⟩ 43)] :: [(b3, .cells ⟨fc ⟨fr0, to0, d, kd0, at0, ys0, fs0⟩⟩ 131)] :: Zeo rs r.rj bR to0 ref :: Qj r j :: Wd r.rp m left :: L)
  ·intro key
   have key3 := fun (a b c k : Int) (y : Bool) (ρ' : Z3) (L' : Zb) (h1 : LS ([(b8, .cells ⟨[iv to0, iv fr0, iv d, iv k, iv at0, .bool y, iv 0, iv 0, iv 0]⟩ 131)] :: [(b7, .cells ⟨[iv a, iv b, iv c]⟩ 43)] :: [(b3, .cells ⟨fc ⟨fr0, to0, d, kd0, at0, ys0, fs0⟩⟩ 131)] :: Zeo rs r.rj bR to0 ref :: Qj r j :: Wd r.rp m left :: L : Zb).flatten L'.flatten) (h2 : Sub [(0, pt rs 0), (3, pt b3 0), (7, pt b7 0), (8, pt b8 0)] ρ') (h3 : tr = (⟨a, b, c⟩, k, y)) => Wi (Zgh (key (⟨a, b, c⟩, k, y) h3) h2) h1
   repeat' (first | refine uN ?_ | refine g_kk S ?_ | refine uC (kfin _ _) ?_ | refine Yd (fun _ => kfin _ _) ?_ | refine Yf (fun _ => kfin _ _) ?_ | refine Ye (fun _ => kfin _ _) ?_ | refine Yh (fun _ => kfin _ _) ?_ | (refine uB ?_; intro b) | (refine uP ?_ ?_ <;> (intro h; ((try simp only [zs, ne_eq, and_true, true_and, eq_self, reduceCtorEq] at h); try exact zx))) | refine da 101 ?_ | fail)
   all_goals apply key3
   all_goals first | (show LS _ _; exact uL) | (show Sub _ _; exact uS) | skip
   all_goals (rw [← htr]; unfold Z8 Zv4 Zhs Vi; simp [*])
   all_goals omega
  ·rintro ⟨st2, kind2, yes2⟩ rfl
   simp only
   clear htr
   have kp := fun L => Zrx r m j left d st2 L hm hj hleft
   generalize hpr : Xo m j d st2 = pr at *
   have hcode := Zvo m j d st2
   rw [hpr] at hcode
   repeat' (first | refine uN ?_ | refine Yc S ?_ | (refine uB ?_; intro b) | (refine uP ?_ ?_ <;> (intro h; ((try simp only [zs, ne_eq, and_true, true_and, eq_self, reduceCtorEq] at h); try exact zx))) | refine da 101 ?_ | fail)
   refine fo 5 ?_
   refine fo 5 ?_
   refine gc (kp _) ?_
   rintro v L' ⟨rfl, left2, hl2, rfl⟩
   cases he : pr.2.2 with
   | some e =>
    have h1 := hcode e he
    simp only [cdN]
    repeat' (first | refine uN ?_ | refine Yc S ?_ | (refine uB ?_; intro b) | (refine uP ?_ ?_ <;> (intro h; ((try simp only [zs, ne_eq, and_true, true_and, eq_self, reduceCtorEq] at h); try exact zx))) | refine da 101 ?_ | fail)
    exact Qh (L' := Zeo rs r.rj bR to0 ref :: Qj r pr.2.1 :: Wd r.rp pr.1 left2 :: [] :: L) uL ⟨_, [], left2, rfl, Zu, by simpa using hl2, rfl⟩
   | none =>
    simp only [cdN]
    by_cases hk : kind2 = 0
    ·simp only [if_pos hk]
     repeat' (first | refine uN ?_ | refine Yc S ?_ | (refine uB ?_; intro b) | (refine uP ?_ ?_ <;> (intro h; ((try simp only [zs, ne_eq, and_true, true_and, eq_self, reduceCtorEq] at h); try exact zx))) | refine da 101 ?_ | fail)
     exact Qh (L' := Zeo rs r.rj bR to0 ref :: Qj r pr.2.1 :: Wd r.rp pr.1 left2 :: [] :: L) uL ⟨_, [], left2, rfl, Zu, by simpa using hl2, rfl⟩
    ·simp only [if_neg hk]
     have hp6 := put_st (iv to0) (iv fr0) (iv d) (iv kind2) (iv at0) (.bool yes2) (iv 0) (iv 0) (iv 0) (iv st2.ph) (iv st2.pr) (iv st2.att)
     repeat' (first | refine uN ?_ | refine Yc S ?_ | (refine uB ?_; intro b) | (refine uP ?_ ?_ <;> (intro h; ((try simp only [zs, ne_eq, and_true, true_and, eq_self, reduceCtorEq] at h); try exact zx))) | refine da 101 ?_ | fail)
     exact Qh (L' := Zeo rs r.rj bR to0 ref :: Qj r pr.2.1 :: Wd r.rp pr.1 left2 :: [(b, .cells ⟨fc ⟨to0, fr0, d, kind2, at0, yes2, st2⟩⟩ 131)] :: L) uL ⟨_, _, left2, rfl, Zs3 _ rfl, by simpa using hl2, rfl⟩
 ·simp only [ne_eq, hto, not_false_eq_true, if_true]
  refine Za (fun _ _ => Tryz.call193 _ _) Tryz.func193 rfl Tryz.ntmps193 (Nat.le_of_ble_eq_true rfl) ?_; simp only [Zc, Nat.reduceAdd]
  repeat' (first | refine uN ?_ | refine Z7 S ?_ | refine Yt S ?_ | refine uC (kfe _) ?_ | refine Yd (fun _ => kfe _) ?_ | refine Yf (fun _ => kfe _) ?_ | refine Ye (fun _ => kfe _) ?_ | refine Yh (fun _ => kfe _) ?_ | (refine uB ?_; intro b) | (refine uP ?_ ?_ <;> (intro h; ((try simp only [zs, ne_eq, and_true, true_and, eq_self, reduceCtorEq] at h); try exact zx))) | refine da 101 ?_ | fail)
  exact Qh (L' := Zeo rs r.rj bR id ref :: Qj r j :: Wd r.rp m left :: [] :: L) uL ⟨_, [], left, rfl, Zu, by simpa using hleft, rfl⟩
end Go.HL
end

/-! MwA -/
section
namespace Go.HL
open Go Go.Proofs
set_option linter.unusedVariables false
set_option linter.unusedSimpArgs false
theorem spn {P : Program} {fn : Func} {Qv : Value → Zb → Prop} {ρ : Z3} {L L' : Zb} (hL : LS L'.flatten L.flatten) (h : Qv (.tuple #[]) L') (hr : fn.results = #[] := by rfl) : Xr P fn Qv .normal ρ L := fun k w a hs ha => ⟨_, L', by simp [results, hr], hs.sp hL, h⟩
def bc2 (p : Int × Int) : List Value := [iv p.1, iv p.2]
theorem Zdi (p : Int × Int) : (bc2 p).length = 2 := rfl
theorem Ztw (p : Int × Int) : (bc2 p).all Value.oneCell' = true := rfl
def BrOk (l : List (Int × Int)) (f : Int × Int → Bool) : Prop := ∀ a b : Int, f (min a b, max a b) = decide ((a, b) ∈ l ∨ (b, a) ∈ l)
def prs : List (Int × Int) := (List.range 49).map fun i => (((i / 7 : Nat) : Int), ((i % 7 : Nat) : Int))
theorem prs_in {a b : Int} (h0 : 0 ≤ a) (h1 : a < 7) (h2 : 0 ≤ b) (h3 : b < 7) : (a, b) ∈ prs := by
 refine List.mem_map.2 ⟨a.toNat * 7 + b.toNat, List.mem_range.2 (by omega), ?_⟩
 refine Prod.ext ?_ ?_
 ·show (((a.toNat * 7 + b.toNat) / 7 : Nat) : Int) = a
  omega
 ·show (((a.toNat * 7 + b.toNat) % 7 : Nat) : Int) = b
  omega
theorem Zls {α : Type} [DecidableEq α] : ∀ (l S : List α), l.Nodup → (∀ x ∈ l, x ∈ S) → l.length ≤ S.length
 | [], _, _, _ => Nat.zero_le _
 | a :: l, S, hn, hs => by
  have hn' := List.nodup_cons.1 hn
  have ha := hs a List.mem_cons_self
  have := Zls l (S.erase a) hn'.2 fun x hx => (List.mem_erase_of_ne (by intro e; subst e; exact hn'.1 hx)).2 (hs x (List.mem_cons_of_mem _ hx))
  rw [List.length_erase_of_mem ha] at this
  have hp : 0 < S.length := List.length_pos_of_mem ha
  simp only [List.length_cons]
  omega
structure NrG where
 np : Nat
 rp : Nat
 left : Int
 rs : Nat
 bR : Nat
 r : RJ
 bl : Nat
 bd : Nat
 ld : List (Nat × Value × List Zq)
def rlB (aw : Option Addr) (cw : Nat) : Option Ld → Nat × Value × List Zq → List Zq
 | none, _ => []
 | some m, g => Up g.1 aw cw g.2.1 g.2.2 m
def Zdx (g : NrG) : Option (Jn × (Int → Bool)) → Value
 | none => .pointer none
 | some _ => pt g.rs 0
def Za1 (g : NrG) (m : Nd) : Obj := .cells ⟨[Zdx g m.site, pt g.rp 0, sl g.bl 0 6 6, sl g.bd 0 6 6]⟩ 150
def Zds (g : NrG) (m : Nd) : List Zq := [(g.np, Za1 g m)]
def Ur (g : NrG) (m : Nd) : List Value := List.zipWith Zed m.leads g.ld
def Zg4 (g : NrG) (m : Nd) : List Zq := [(g.bl, .cells ⟨Ur g m⟩ 209)]
def Zjh (g : NrG) (m : Nd) : List Zq := [(g.bd, .cells ⟨m.done.map Value.bool⟩ 4)]
def Zk8 (g : NrG) (i : Int) : Option (Jn × (Int → Bool)) → List Zq
 | none => []
 | some (_, ref) => Zeo g.rs g.r.rj g.bR i ref
def Zk7 (g : NrG) : Option (Jn × (Int → Bool)) → List Zq
 | none => []
 | some (j, _) => Qj g.r j
def Zdv (aw : Option Addr) (cw : Nat) (g : NrG) (m : Nd) : List Zq := (List.zipWith (rlB aw cw) m.leads g.ld).flatten
def Zf2 (aw : Option Addr) (cw : Nat) (g : NrG) (i : Int) (m : Nd) : List Zq := Zds g m ++ (Zg4 g m ++ (Zjh g m ++ (Zk8 g i m.site ++ (Zk7 g m.site ++ (Wd g.rp m.pl g.left ++ Zdv aw cw g m)))))
def Q5 (aw : Option Addr) (cw : Nat) : List NrG → List Nd → Nat → List Zq
 | g :: gs, m :: ms, i => Zf2 aw cw g i m ++ Q5 aw cw gs ms (i + 1)
 | _, _, _ => []
def W9 (aw : Option Addr) (cw : Nat) : List NrG → List Nd → Nat → Nat → List Zq
 | g :: gs, m :: ms, i, 0 => Q5 aw cw gs ms (i + 1)
 | g :: gs, m :: ms, i, s + 1 => Zf2 aw cw g i m ++ W9 aw cw gs ms (i + 1) s
 | _, _, _, _ => []
section n
variable {aw : Option Addr} {cw : Nat}
theorem Zfy : ∀ {gs : List NrG} {ms : List Nd} {i s : Nat} {g : NrG} {m : Nd}, gs[s]? = some g → ms[s]? = some m → List.Perm (Q5 aw cw gs ms i) (Zf2 aw cw g ((i + s : Nat) : Int) m ++ W9 aw cw gs ms i s)
 | [], _, _, _, _, _, h, _ => by simp at h
 | _ :: _, [], _, _, _, _, _, h => by simp at h
 | g0 :: gs, m0 :: ms, i, 0, g, m, h, h2 => by
  simp at h h2; subst h; subst h2
  exact .refl _
 | g0 :: gs, m0 :: ms, i, s + 1, g, m, h, h2 => by
  have ih := Zfy (gs := gs) (ms := ms) (i := i + 1) (s := s) (g := g) (m := m) (by simpa using h) (by simpa using h2)
  simp only [Q5, W9]
  rw [show i + (s + 1) = i + 1 + s by omega]
  refine (ih.append_left _).trans ?_
  rw [← List.append_assoc, ← List.append_assoc]
  exact List.perm_append_comm.append_right _
theorem Ztq : ∀ {gs : List NrG} {ms : List Nd} {i s : Nat} {g : NrG} {m : Nd}, W9 aw cw (gs.set s g) (ms.set s m) i s = W9 aw cw gs ms i s
 | [], _, _, _, _, _ => by simp [W9]
 | _ :: _, [], _, s, _, _ => by cases s <;> simp [W9]
 | g0 :: gs, m0 :: ms, i, 0, g, m => rfl
 | g0 :: gs, m0 :: ms, i, s + 1, g, m => by
  simp only [List.set_cons_succ, W9]
  rw [Ztq]
end n
structure RwG where
 wp : Nat
 aw : Option Addr
 cw : Nat
 wl : Nat
 nv : Value
 nc : List Zq
 bv : Value
 bc : List Zq
 bl : List (Int × Int)
 lv : Value
 lc : List Zq
 ev : Value
 ec : List Zq
 nd : List NrG
def Vt (G : RwG) : Obj := .cells ⟨[.slice G.aw G.wl G.cw, G.nv, G.bv, G.lv, G.ev]⟩ 94
def Zd3 (G : RwG) : Zb := [[(G.wp, Vt G)], G.ec, G.lc, G.nc, G.bc]
def Xs (G : RwG) (M : Wm) : Zb := Zd3 G ++ [Q5 G.aw G.cw G.nd M.n 0]
structure NrOk (g : NrG) (m : Nd) : Prop where
 ld : g.ld.length = 6
 rp : g.r.rp = g.rp
 left : m.pl.cut ≠ -1 → g.left = m.pl.cut
 lok : ∀ (d : Nat) x, m.leads[d]? = some (some x) → ∀ q, g.ld[d]? = some q → ∃ hs, Zx q.2.1 hs q.2.2 ∧ RelH x hs
structure RwOk (G : RwG) (M : Wm) : Prop where
 wl : G.wl = M.w.length
 nodes : Vec 145 1 pc G.nv (G.nd.map (·.np)) G.nc
 ndl : G.nd.length = M.n.length
 br : Vec 133 2 bc2 G.bv G.bl G.bc
 bro : BrOk G.bl M.br
 bln : G.bl.Nodup
 blr : ∀ p ∈ G.bl, p ∈ prs
 l : Zx G.lv M.l G.lc
 ev : Vec 162 3 ec G.ev M.ev G.ec
 nd : ∀ (s : Nat) g m, G.nd[s]? = some g → M.n[s]? = some m → NrOk g m
theorem RwOk.bll {G : RwG} {M : Wm} (h : RwOk G M) : G.bl.length ≤ 49 := Zls _ _ h.bln h.blr
def Yg (G : RwG) (s : Int) : NrG := G.nd.getD s.toNat ⟨0, 0, 0, 0, 0, ⟨0, 0, 0, 0, [], 0, 0, []⟩, 0, 0, []⟩
def Wr (G : RwG) (s : Int) (g : NrG) (m : Nd) (X : List Zq) (L : Zb) : Zb :=
 [(G.wp, Vt G)] :: G.ec :: Zds g m :: Zg4 g m :: Zjh g m :: Zk8 g s m.site :: Zk7 g m.site :: Wd g.rp m.pl g.left :: Zdv G.aw G.cw g m :: G.lc :: G.nc :: G.bc :: X :: L
theorem Zor (G : RwG) (s : Int) (g : NrG) (m : Nd) (X : List Zq) (L : Zb) : (Zd3 G ++ [Zf2 G.aw G.cw g s m ++ X] ++ L).flatten = ([(G.wp, Vt G)] :: G.ec :: G.lc :: G.nc :: G.bc :: Zds g m :: Zg4 g m :: Zjh g m :: Zk8 g s m.site :: Zk7 g m.site :: Wd g.rp m.pl g.left :: Zdv G.aw G.cw g m :: X :: L).flatten := by
 simp only [Zd3, Zf2, List.flatten_cons, List.flatten_append, List.cons_append, List.nil_append, List.append_assoc, List.flatten_nil, List.append_nil]
theorem rwOp_ls (G : RwG) (s : Int) (g : NrG) (m : Nd) (X : List Zq) (L : Zb) : LS (Wr G s g m X L).flatten (Zd3 G ++ [Zf2 G.aw G.cw g s m ++ X] ++ L).flatten := by
 rw [Zor, Wr]
 exact uL
theorem Zsv (G : RwG) (s : Int) (g : NrG) (m : Nd) (X : List Zq) (L : Zb) : LS (Zd3 G ++ [Zf2 G.aw G.cw g s m ++ X] ++ L).flatten (Wr G s g m X L).flatten := by
 rw [Zor, Wr]
 exact uL
theorem Zpj {aw : Option Addr} {cw : Nat} {gs : List NrG} {ms : List Nd} {s : Int} {g : NrG} {m : Nd} (h0 : 0 ≤ s) (hg : gs[s.toNat]? = some g) (hm : ms[s.toNat]? = some m) (T : Zb) (L : Zb) : List.Perm (T ++ [Q5 aw cw gs ms 0] ++ L).flatten (T ++ [Zf2 aw cw g s m ++ W9 aw cw gs ms 0 s.toNat] ++ L).flatten := by
 have := Zfy (aw := aw) (cw := cw) (i := 0) hg hm
 rw [Vf h0] at this
 simp only [List.flatten_append, List.flatten_cons, List.flatten_nil, List.append_nil]
 exact (this.append_left _).append_right _
theorem Zh4 {G : RwG} {M : Wm} {s : Int} (hl : G.nd.length = M.n.length) (h0 : 0 ≤ s) (h1 : s < M.n.length) (L : Zb) : LS (Wr G s (Yg G s) (Zd M s) (W9 G.aw G.cw G.nd M.n 0 s.toNat) L).flatten (Xs G M ++ L).flatten := by
 have hg : G.nd[s.toNat]? = some (Yg G s) := getD_some (by omega)
 have hm : M.n[s.toNat]? = some (Zd M s) := getD_some (by omega)
 refine LS.trans (rwOp_ls _ _ _ _ _ _) (LS.of_perm ?_)
 exact (Zpj h0 hg hm (Zd3 G) L).symm
theorem Zkh {G : RwG} {gs : List NrG} {ms : List Nd} {s : Int} {g : NrG} {m : Nd} (h0 : 0 ≤ s) (h1 : s.toNat < gs.length) (h2 : s.toNat < ms.length) (L : Zb) : LS (Zd3 G ++ [Q5 G.aw G.cw (gs.set s.toNat g) (ms.set s.toNat m) 0] ++ L).flatten (Wr G s g m (W9 G.aw G.cw gs ms 0 s.toNat) L).flatten := by
 have hg : (gs.set s.toNat g)[s.toNat]? = some g := by simp [h1]
 have hm : (ms.set s.toNat m)[s.toNat]? = some m := by simp [h2]
 refine LS.trans (LS.of_perm (Zpj h0 hg hm (Zd3 G) L)) ?_
 rw [Ztq]
 exact Zsv _ _ _ _ _ _
theorem Un {G : RwG} {M : Wm} (h : RwOk G M) {s : Int} (h0 : 0 ≤ s) (h1 : s < M.n.length) : NrOk (Yg G s) (Zd M s) := by
 have hl := h.ndl
 exact h.nd s.toNat _ _ (getD_some (by omega)) (getD_some (by omega))
theorem RwOk.setL {G : RwG} {M : Wm} (h : RwOk G M) {lv : Value} {lc : List Zq} {l : List Fr} (hv : Zx lv l lc) : RwOk { G with lv := lv, lc := lc } { M with l := l } := ⟨h.wl, h.nodes, h.ndl, h.br, h.bro, h.bln, h.blr, hv, h.ev, h.nd⟩
theorem RwOk.setE {G : RwG} {M : Wm} (h : RwOk G M) {ev : Value} {c : List Zq} {l : List Evt} (hv : Vec 162 3 ec ev l c) : RwOk { G with ev := ev, ec := c } { M with ev := l } := ⟨h.wl, h.nodes, h.ndl, h.br, h.bro, h.bln, h.blr, h.l, hv, h.nd⟩
theorem RwOk.setB {G : RwG} {M : Wm} (h : RwOk G M) {bv : Value} {c : List Zq} {l : List (Int × Int)} {f : Int × Int → Bool} (hv : Vec 133 2 bc2 bv l c) (hb : BrOk l f) (h2 : l.Nodup) (h3 : ∀ p ∈ l, p ∈ prs) : RwOk { G with bv := bv, bc := c, bl := l } { M with br := f } := ⟨h.wl, h.nodes, h.ndl, hv, hb, h2, h3, h.l, h.ev, h.nd⟩
theorem Zh7 {G : RwG} {s : Int} {g : NrG} (h0 : 0 ≤ s) (h1 : s < G.nd.length) (hp : g.np = (Yg G s).np) : (G.nd.set s.toNat g).map (·.np) = G.nd.map (·.np) := by
 rw [List.map_set, hp]
 have hg : G.nd[s.toNat]? = some (Yg G s) := getD_some (by omega)
 refine List.ext_getElem? fun i => ?_
 rw [List.getElem?_set]
 split
 ·rename_i hi
  subst hi
  rw [if_pos (by simp; omega), List.getElem?_map, hg]
  rfl
 ·rfl
theorem RwOk.put {G : RwG} {M : Wm} (h : RwOk G M) {s : Int} {g : NrG} {m : Nd} (h0 : 0 ≤ s) (h1 : s < M.n.length) (hn : NrOk g m) (hp : g.np = (Yg G s).np) : RwOk { G with nd := G.nd.set s.toNat g } (Yp M s m) := by
 have hl := h.ndl
 have e := Zh7 (G := G) h0 (by omega) hp
 refine ⟨h.wl, by simp only [e]; exact h.nodes, by simp [Yp, hl], h.br, h.bro, h.bln, h.blr, h.l, h.ev, fun q g1 m1 Yx hq2 => ?_⟩
 simp only [Yp, List.getElem?_set] at Yx hq2
 by_cases hq : s.toNat = q
 ·rw [if_pos hq] at Yx hq2
  split at Yx
  ·split at hq2
   ·cases Yx; cases hq2; exact hn
   ·cases hq2
  ·cases Yx
 ·rw [if_neg hq] at Yx hq2
  exact h.nd q g1 m1 Yx hq2
structure RwS (G G' : RwG) : Prop where
 wp : G'.wp = G.wp
 aw : G'.aw = G.aw
 cw : G'.cw = G.cw
 wl : G'.wl = G.wl
 np : G'.nd.map (·.np) = G.nd.map (·.np)
theorem RwS.refl (G : RwG) : RwS G G := ⟨rfl, rfl, rfl, rfl, rfl⟩
theorem RwS.trans {G G' G'' : RwG} (h : RwS G G') (h2 : RwS G' G'') : RwS G G'' := ⟨h2.wp.trans h.wp, h2.aw.trans h.aw, h2.cw.trans h.cw, h2.wl.trans h.wl, h2.np.trans h.np⟩
def Zh9 (G : RwG) (M' : Wm) (L L' : Zb) : Prop := ∃ G', RwS G G' ∧ RwOk G' M' ∧ L' = Xs G' M' ++ L
theorem Vl {G : RwG} {M : Wm} (h : RwOk G M) (L : Zb) : Zh9 G M L (Xs G M ++ L) := ⟨G, .refl G, h, rfl⟩
theorem Zs9 {G G' : RwG} (h : RwS G G') {s : Int} (h0 : 0 ≤ s) (h1 : s < G.nd.length) : (Yg G' s).np = (Yg G s).np := by
 have h := h.np
 have hl : G'.nd.length = G.nd.length := by simpa using congrArg List.length h
 have e1 : G'.nd[s.toNat]? = some (Yg G' s) := getD_some (by omega)
 have e2 : G.nd[s.toNat]? = some (Yg G s) := getD_some (by omega)
 have := congrArg (fun l => l[s.toNat]?) h
 simp only [List.getElem?_map, e1, e2, Option.map_some, Option.some.injEq] at this
 exact this
theorem HC.nodeR {F : Nat} {args : List Value} {G : RwG} {M M' : Wm} {s : Int} {L : Zb} {V : Value → List Zq → Prop} (h : RwOk G M) (h0 : 0 ≤ s) (h1 : s < M.n.length)
  (k : HC Tryz.prog F args (Wr G s (Yg G s) (Zd M s) (W9 G.aw G.cw G.nd M.n 0 s.toNat) L) (fun v L' => ∃ c, V v c ∧ ∃ G' M1 g' m', RwOk G' M1 ∧ G'.nd = G.nd ∧ M1.n = M.n ∧ RwS G G' ∧ NrOk g' m' ∧ g'.np = (Yg G s).np ∧ M' = Yp M1 s m' ∧ L' = Wr G' s g' m' (W9 G.aw G.cw G.nd M.n 0 s.toNat) (c :: L))) :
  HC Tryz.prog F args (Xs G M ++ L) (fun v L' => ∃ c, V v c ∧ Zh9 G M' (c :: L) L') := by
 have hl := h.ndl
 refine HC.post (HC.sp k (Zh4 hl h0 h1 L)) ?_
 rintro v L' ⟨c, hv, G', M1, g', m', hW, e1, e2, e3, hN, e4, rfl, rfl⟩
 have hnp : g'.np = (Yg G' s).np := by rw [e4]; unfold Yg; rw [e1]
 have eaw := e3.aw
 have ecw := e3.cw
 have hps := Zh7 (G := G') (g := g') h0 (by rw [e1]; omega) hnp
 refine ⟨Xs { G' with nd := G'.nd.set s.toNat g' } (Yp M1 s m') ++ (c :: L), ?_, c, hv, { G' with nd := G'.nd.set s.toNat g' }, ⟨e3.wp, e3.aw, e3.cw, e3.wl, hps.trans e3.np⟩, hW.put h0 (by rw [e2]; exact h1) hN hnp, rfl⟩
 simp only [Xs, Yp, e1, e2]
 rw [← eaw, ← ecw]
 exact Zkh (G := G') (gs := G.nd) (ms := M.n) (s := s) (g := g') (m := m') h0 (by omega) (by omega) (c :: L)
theorem HC.nodeR0 {F : Nat} {args : List Value} {G : RwG} {M M' : Wm} {s : Int} {L : Zb} {V : Value → Prop} (h : RwOk G M) (h0 : 0 ≤ s) (h1 : s < M.n.length)
  (k : HC Tryz.prog F args (Wr G s (Yg G s) (Zd M s) (W9 G.aw G.cw G.nd M.n 0 s.toNat) L) (fun v L' => V v ∧ ∃ G' M1 g' m', RwOk G' M1 ∧ G'.nd = G.nd ∧ M1.n = M.n ∧ RwS G G' ∧ NrOk g' m' ∧ g'.np = (Yg G s).np ∧ M' = Yp M1 s m' ∧ L' = Wr G' s g' m' (W9 G.aw G.cw G.nd M.n 0 s.toNat) L)) :
  HC Tryz.prog F args (Xs G M ++ L) (fun v L' => V v ∧ Zh9 G M' L L') := by
 have hl := h.ndl
 refine HC.post (HC.sp k (Zh4 hl h0 h1 L)) ?_
 rintro v L' ⟨hv, G', M1, g', m', hW, e1, e2, e3, hN, e4, rfl, rfl⟩
 have hnp : g'.np = (Yg G' s).np := by rw [e4]; unfold Yg; rw [e1]
 have eaw := e3.aw
 have ecw := e3.cw
 have hps := Zh7 (G := G') (g := g') h0 (by rw [e1]; omega) hnp
 refine ⟨Xs { G' with nd := G'.nd.set s.toNat g' } (Yp M1 s m') ++ L, ?_, hv, { G' with nd := G'.nd.set s.toNat g' }, ⟨e3.wp, e3.aw, e3.cw, e3.wl, hps.trans e3.np⟩, hW.put h0 (by rw [e2]; exact h1) hN hnp, rfl⟩
 simp only [Xs, Yp, e1, e2]
 rw [← eaw, ← ecw]
 exact Zkh (G := G') (gs := G.nd) (ms := M.n) (s := s) (g := g') (m := m') h0 (by omega) (by omega) L
structure RwIn (L : Zb) (G : RwG) (M : Wm) : Prop where
 wp : Has L G.wp (Vt G)
 ns : ∃ a cap, G.nv = .slice a M.n.length cap ∧ Rd pc 1 L a (G.nd.map (·.np))
 bs : ∃ a cap, G.bv = .slice a G.bl.length cap ∧ Rd bc2 2 L a G.bl
 ls : ∃ a cap, G.lv = .slice a M.l.length cap ∧ Rd fc 9 L a M.l
 es : ∃ a cap, G.ev = .slice a M.ev.length cap
theorem RwIn.mono {L L' : Zb} {G : RwG} {M : Wm} (h : RwIn L G M) (hl : ∀ b o, Has L b o → Has L' b o) : RwIn L' G M := by
 obtain ⟨h1, ⟨a2, c2, e2, r2⟩, ⟨a3, c3, e3, r3⟩, ⟨a4, c4, e4, r4⟩, h5⟩ := h
 exact ⟨hl _ _ h1, ⟨a2, c2, e2, r2.mono hl⟩, ⟨a3, c3, e3, r3.mono hl⟩, ⟨a4, c4, e4, r4.mono hl⟩, h5⟩
theorem rwInT {G : RwG} {M : Wm} (h : RwOk G M) : RwIn (Zd3 G) G M := by
 refine ⟨Zv, ?_, ?_, ?_, ?_⟩
 ·obtain ⟨a, cap, e, -, hR⟩ := h.nodes.rd Wq
  refine ⟨a, cap, by rw [e, List.length_map, h.ndl], (hR []).mono fun b o hb => ?_⟩
  simp only [Has, List.flatten_cons, List.flatten_nil, List.append_nil, Zd3] at hb ⊢
  simp [hb]
 ·obtain ⟨a, cap, e, -, hR⟩ := h.br.rd Zdi
  refine ⟨a, cap, e, (hR []).mono fun b o hb => ?_⟩
  simp only [Has, List.flatten_cons, List.flatten_nil, List.append_nil, Zd3] at hb ⊢
  simp [hb]
 ·obtain ⟨a, cap, e, -, hR⟩ := h.l.rd Zi
  refine ⟨a, cap, e, (hR []).mono fun b o hb => ?_⟩
  simp only [Has, List.flatten_cons, List.flatten_nil, List.append_nil, Zd3] at hb ⊢
  simp [hb]
 ·obtain ⟨a, cap, e, -, hR⟩ := h.ev.rd Vg
  exact ⟨a, cap, e⟩
theorem rwIn {L : Zb} {G : RwG} {M : Wm} (h : RwOk G M) (hl : ∀ b o, Has (Zd3 G) b o → Has L b o) : RwIn L G M := (rwInT h).mono hl
theorem Zcz {G : RwG} {M : Wm} (h : RwOk G M) (L : Zb) : RwIn (Xs G M ++ L) G M := rwIn h fun b o hb => by
 unfold Has Xs at *
 rw [List.append_assoc, List.flatten_append]
 exact List.mem_append_left _ hb
theorem rwOp_in {G : RwG} {M : Wm} (h : RwOk G M) (s : Int) (g : NrG) (m : Nd) (X : List Zq) (L : Zb) : RwIn (Wr G s g m X L) G M := rwIn h fun b o hb => by
 unfold Has at *
 obtain ⟨l, h1, h2⟩ := Zsv G s g m X L
 refine h2.subset (h1.mem_iff.2 ?_)
 rw [List.append_assoc, List.flatten_append]
 exact List.mem_append_left _ hb
theorem Zks {L : Zb} {G : RwG} {M : Wm} {s : Int} (hI : RwIn L G M) (hl : G.nd.length = M.n.length) (h0 : 0 ≤ s) (h1 : s < M.n.length) : ∃ b i l F fr cap, G.nv = sl b i M.n.length cap ∧ Has L b (.cells ⟨l⟩ F fr) ∧ l[i + s.toNat]? = some (pt (Yg G s).np 0) := by
 obtain ⟨a, cap, hnv, hR⟩ := hI.ns
 obtain ⟨b, i, l, F, fr, rfl, hb, hg⟩ := hR.at1 (j := s) h0 (by simp; omega)
 refine ⟨b, i, l, F, fr, cap, hnv, hb, ?_⟩
 have e : (G.nd.map (·.np))[s.toNat]'(by simp; omega) = (Yg G s).np := by
  rw [List.getElem_map]
  unfold Yg
  rw [List.getD, List.getElem?_eq_getElem (by omega)]
  rfl
 rw [e] at hg
 exact hg 0 _ rfl
theorem Zm9 {G : RwG} {M : Wm} {s : Int} (hl : G.nd.length = M.n.length) (h0 : 0 ≤ s) (h1 : s < M.n.length) {b : Nat} {o : Obj} (hb : (b, o) ∈ Zf2 G.aw G.cw (Yg G s) s (Zd M s)) (L : Zb) : Has (Q5 G.aw G.cw G.nd M.n 0 :: L) b o := by
 have hg : G.nd[s.toNat]? = some (Yg G s) := getD_some (by omega)
 have hm : M.n[s.toNat]? = some (Zd M s) := getD_some (by omega)
 have := Zfy (aw := G.aw) (cw := G.cw) (i := 0) hg hm
 rw [Vf h0] at this
 unfold Has
 rw [List.flatten_cons]
 exact List.mem_append_left _ (this.mem_iff.2 (List.mem_append_left _ hb))
theorem Zfh {G : RwG} {M : Wm} {s : Int} (hl : G.nd.length = M.n.length) (h0 : 0 ≤ s) (h1 : s < M.n.length) {b : Nat} {o : Obj} (hb : (b, o) ∈ Zf2 G.aw G.cw (Yg G s) s (Zd M s)) (L : Zb) : Has (Xs G M ++ L) b o := by
 have hg : G.nd[s.toNat]? = some (Yg G s) := getD_some (by omega)
 have hm : M.n[s.toNat]? = some (Zd M s) := getD_some (by omega)
 have := Zfy (aw := G.aw) (cw := G.cw) (i := 0) hg hm
 rw [Vf h0] at this
 unfold Has Xs
 rw [List.append_assoc, List.flatten_append, List.flatten_append]
 refine List.mem_append_right _ (List.mem_append_left _ ?_)
 rw [List.flatten_cons, List.flatten_nil, List.append_nil]
 exact this.mem_iff.2 (List.mem_append_left _ hb)
theorem Zfi {G : RwG} {M : Wm} {s : Int} (hl : G.nd.length = M.n.length) (h0 : 0 ≤ s) (h1 : s < M.n.length) (L : Zb) : Has (Xs G M ++ L) (Yg G s).np (Za1 (Yg G s) (Zd M s)) := Zfh hl h0 h1 (by simp [Zf2, Zds]) L
theorem rw_hasP {G : RwG} {M : Wm} {s : Int} (hl : G.nd.length = M.n.length) (h0 : 0 ≤ s) (h1 : s < M.n.length) (L : Zb) : ∀ p ∈ Wd (Yg G s).rp (Zd M s).pl (Yg G s).left, Has (Xs G M ++ L) p.1 p.2 := fun p hp => Zfh hl h0 h1 (by simp [Zf2, hp]) L
end Go.HL
end

/-! MwB -/
section
namespace Go.HL
open Go Go.Proofs
set_option linter.unusedVariables false
set_option linter.unusedSimpArgs false
set_option maxHeartbeats 2000000 attribute [local irreducible] HW HO HQ HD HC QOp Has Upd Zt Gets Yb Z6 Zr Xr Z4 Zm Xx Zy
attribute [local irreducible] Zo Qj Wd
theorem Zlz (G : RwG) (M : Wm) (s : Int) (L : Zb) (hI : RwIn L G M) (hl : G.nd.length = M.n.length) (hN : X0 M s = none → Has L (Yg G s).np (Za1 (Yg G s) (Zd M s))) : HC Tryz.prog 139 [pt G.wp 0, iv s] L (fun v L' => v = iv (cdN (Zbm M s)) ∧ L' = L) := by
 have hw := hI.wp
 unfold Vt at hw
 by_cases h : s < 0 ∨ M.n.length ≤ s
 ·have e : Zbm M s = some 2 := by
   have : X0 M s = some 2 := if_pos h
   unfold Zbm; rw [this]
  obtain ⟨a, cap, hnv, hR⟩ := hI.ns
  rw [hnv] at hw
  rw [e]
  by_cases h0 : s < 0
  ·refine Za (fun _ _ => Tryz.call139 _ _) Tryz.func139 rfl Tryz.ntmps139 (Nat.le_of_ble_eq_true rfl) ?_; simp only [Zc, Nat.reduceAdd]
   repeat' (first | refine uN ?_ | (refine uP ?_ ?_ <;> (intro h; ((try simp only [zs, ne_eq, and_true, true_and, eq_self, reduceCtorEq] at h); try exact zx))) | fail)
   exact Vx rfl ⟨rfl, rfl⟩
  ·refine Za (fun _ _ => Tryz.call139 _ _) Tryz.func139 rfl Tryz.ntmps139 (Nat.le_of_ble_eq_true rfl) ?_; simp only [Zc, Nat.reduceAdd]
   repeat' (first | refine uN ?_ | (refine uP ?_ ?_ <;> (intro h; ((try simp only [zs, ne_eq, and_true, true_and, eq_self, reduceCtorEq] at h); try exact zx))) | fail)
   exact Vx rfl ⟨rfl, rfl⟩
 ·have e : X0 M s = none := if_neg h
  have hN' := hN e
  have hu : Zbm M s = if (Zd M s).site.isNone then some 6 else none := by unfold Zbm; rw [e]
  obtain ⟨b, i, l, F, fr, cap, hnv, hb, hg⟩ := Zks hI hl (s := s) (by omega) (by omega)
  rw [hnv] at hw
  unfold Za1 at hN'
  rw [hu]
  cases hs : (Zd M s).site with
  | none =>
   rw [hs] at hN'
   simp only [Zdx] at hN'
   refine Za (fun _ _ => Tryz.call139 _ _) Tryz.func139 rfl Tryz.ntmps139 (Nat.le_of_ble_eq_true rfl) ?_; simp only [Zc, Nat.reduceAdd]
   repeat' (first | refine uN ?_ | (refine uP ?_ ?_ <;> (intro h; ((try simp only [zs, ne_eq, and_true, true_and, eq_self, reduceCtorEq] at h); try exact zx))) | fail)
   exact Vx rfl ⟨rfl, rfl⟩
  | some q =>
   rw [hs] at hN'
   simp only [Zdx] at hN'
   refine Za (fun _ _ => Tryz.call139 _ _) Tryz.func139 rfl Tryz.ntmps139 (Nat.le_of_ble_eq_true rfl) ?_; simp only [Zc, Nat.reduceAdd]
   repeat' (first | refine uN ?_ | (refine uP ?_ ?_ <;> (intro h; ((try simp only [zs, ne_eq, and_true, true_and, eq_self, reduceCtorEq] at h); try exact zx))) | fail)
   exact Vx rfl ⟨rfl, rfl⟩
theorem Ze9 (G : RwG) (M : Wm) (s : Int) (d : Nat) (L : Zb) (hI : RwIn L G M) (hl : G.nd.length = M.n.length) (h0 : 0 ≤ s) (h1 : s < M.n.length) (hd : d < 6) (hb5 : (Zd M s).pl.b.length = 512) (hN : Has L (Yg G s).np (Za1 (Yg G s) (Zd M s))) (hP : ∀ p ∈ Wd (Yg G s).rp (Zd M s).pl (Yg G s).left, Has L p.1 p.2) :
  HC Tryz.prog 95 [pt G.wp 0, iv s, iv d] L (fun v L' => v = .agg ⟨sc (Xe (Zd M s).pl d)⟩ ∧ L' = L) := by
 have hw := hI.wp
 unfold Vt at hw
 obtain ⟨b, i, l, F, fr, cap, hnv, hb, hg⟩ := Zks hI hl h0 h1
 rw [hnv] at hw
 unfold Za1 at hN
 have hp := hP _ (by unfold Wd; exact List.mem_singleton.2 rfl)
 simp only at hp
 have kd := fun L => Zef (Zd M s).pl.b d L hd (by omega) (by omega)
 have e : Xe (Zd M s).pl d = (Xa (Zd M s).pl.b d).s := by
  unfold Xe Zo
  simp [List.getD, hd]
 rw [e]
 generalize Xa (Zd M s).pl.b d = D at *
 refine Za (fun _ _ => Tryz.call95 _ _) Tryz.func95 rfl Tryz.ntmps95 (Nat.le_of_ble_eq_true rfl) ?_; simp only [Zc, Nat.reduceAdd]
 repeat' (first | refine uN ?_ | refine uC (kd _) ?_ | (refine uB ?_; intro b) | fail)
 exact Yi uL ⟨rfl, rfl⟩ (hv := Wu S (hg := Ze rfl (Ze rfl (Ze rfl Ym))))
theorem Zhk (g : NrG) (m : Nd) (L : Zb) (hd : g.ld.length = 6) : HC Tryz.prog 148 [pt g.np 0] (Zds g m :: L) (fun v L' => ∃ bl, v = .tuple ⟨[]⟩ ∧ L' = Zds { g with bl := bl } { m with site := none, leads := noLeads } :: Zg4 { g with bl := bl } { m with site := none, leads := noLeads } :: L) := by
 have e : List.zipWith Zed noLeads g.ld = Zv6 := Zju _ hd
 simp only [Zds, Za1, Zg4, Ur, e, Zdx]
 refine Za (fun _ _ => Tryz.call148 _ _) Tryz.func148 rfl Tryz.ntmps148 (Nat.le_of_ble_eq_true rfl) ?_; simp only [Zc, Nat.reduceAdd]
 repeat' (first | refine uN ?_ | (refine uB ?_; intro b) | fail)
 exact spn (L' := [(g.np, .cells ⟨[.pointer none, pt g.rp 0, sl b 0 6 6, sl g.bd 0 6 6]⟩ 150)] :: [(b, .cells ⟨Zv6⟩ 209)] :: L) uL ⟨b, rfl, rfl⟩
end Go.HL
end

/-! MwC -/
section
namespace Go.HL
open Go Go.Proofs
set_option linter.unusedVariables false
set_option linter.unusedSimpArgs false
structure RsIn (L : Zb) (g : NrG) (id : Int) (j : Jn) : Prop where
 si : ∃ bR, Has L g.rs (.cells ⟨[iv id, pt g.r.rj 0, bR]⟩ 208)
 rj : Has L g.r.rj (.cells ⟨Zfl g.r j.dead⟩ 214)
 st : Has L g.r.bS (.cells ⟨((j.l.map Ent.s).map sc).flatten ++ g.r.spS⟩ 43)
theorem dn_get {dn : List Bool} {d : Nat} {b : Bool} (h : dn[d]? = some b) : (dn.map Value.bool)[0 + (d : Int).toNat]? = some (.bool b) := by
 rw [Nat.zero_add, Int.toNat_natCast, List.getElem?_map, h]; rfl
theorem dn_put {dn : List Bool} {d : Nat} (b : Bool) (h : d < dn.length) : Zt (dn.map Value.bool) (0 + (d : Int).toNat) [.bool b] ((dn.set d b).map Value.bool) := by
 have e : (dn.set d b).map Value.bool = (dn.map Value.bool).set (0 + (d : Int).toNat) (.bool b) := by
  rw [Nat.zero_add, Int.toNat_natCast, List.map_set]
 rw [e]
 exact W4 (by simp; omega)
theorem Zvw {l : List Value} {i : Nat} {v : Value} {vs : List Value} (h : Gets l i (v :: vs)) : l[i + 0]? = some v := h 0 v rfl
set_option maxHeartbeats 2000000 attribute [local irreducible] HW HO HQ HD HC QOp Has Upd Zt Gets Yb Z6 Zr Xr Z4 Zm Xx Zy
attribute [local irreducible] Zo Wg
theorem Zsi (G : RwG) (M : Wm) (a b : Int) (L : Zb) (hI : RwIn L G M) (hb : BrOk G.bl M.br) (hbl : G.bl.length ≤ 49) : HC Tryz.prog 155 [pt G.wp 0, iv a, iv b] L (fun v L' => v = .bool (M.br (min a b, max a b)) ∧ L' = L) := by
 have hw := hI.wp
 unfold Vt at hw
 obtain ⟨ab, cap, hbv, hR⟩ := hI.bs
 rw [hbv] at hw
 rw [hb a b]
 generalize G.bl = bl at *
 refine Za (fun _ _ => Tryz.call155 _ _) Tryz.func155 rfl Tryz.ntmps155 (Nat.le_of_ble_eq_true rfl) ?_; simp only [Zc, Nat.reduceAdd]
 repeat' (first | refine uN ?_ | (refine uP ?_ ?_ <;> (intro h; ((try simp only [zs, ne_eq, and_true, true_and, eq_self, reduceCtorEq] at h); try exact zx))) | fail)
 refine Zn (σ := Nat) (fun k => [(0, pt G.wp 0), (1, iv a), (2, iv b), (7, iv k)]) (fun _ => L) (fun k => k ≤ bl.length ∧ ¬ ((a, b) ∈ bl.take k ∨ (b, a) ∈ bl.take k)) (fun k => bl.length - k) 0 uS (List.Sublist.refl _) ⟨by omega, by simp⟩ ?_
 rintro k ⟨hk, hn⟩
 by_cases hlt : k < bl.length
 ·obtain ⟨bh, ih, lh, Eh, frh, hah, hbh, hgh⟩ := hR.at (j := (k : Int)) (by omega) (by omega)
  subst hah
  have hg0 : Gets lh (ih + (k : Int).toNat * 2) (bc2 bl[k]) := hgh
  have hx : bl[k] ∈ bl := List.getElem_mem _
  have hs : bl.take (k + 1) = bl.take k ++ [bl[k]] := List.take_succ_eq_append_getElem hlt
  generalize bl[k] = x at *
  obtain ⟨x1, x2⟩ := x
  by_cases h1 : (x1, x2) = (a, b)
  ·cases h1
   rw [decide_eq_true (.inl hx)]
   repeat' (first | refine uN ?_ | (refine uP ?_ ?_ <;> (intro h; ((try simp only [zs, ne_eq, and_true, true_and, eq_self, reduceCtorEq] at h); try exact zx))) | fail)
   exact Yi uL ⟨rfl, rfl⟩
  ·by_cases h2 : (x1, x2) = (b, a)
   ·cases h2
    rw [decide_eq_true (.inr hx)]
    repeat' (first | refine uN ?_ | (refine uP ?_ ?_ <;> (intro h; ((try simp only [zs, ne_eq, and_true, true_and, eq_self, reduceCtorEq] at h); try exact zx))) | fail)
    all_goals exact Yi uL ⟨rfl, rfl⟩
   ·repeat' (first | refine uN ?_ | (refine uP ?_ ?_ <;> (intro h; ((try simp only [zs, ne_eq, and_true, true_and, eq_self, reduceCtorEq] at h); try exact zx))) | fail)
    ·exact absurd (Prod.ext (by assumption : x1 = a ∧ x2 = b).1 (by assumption : x1 = a ∧ x2 = b).2) h1
    ·exact absurd (Prod.ext (by assumption : x1 = b ∧ x2 = a).1 (by assumption : x1 = b ∧ x2 = a).2) h2
    all_goals refine Zg (k + 1) uS uL ⟨by omega, ?_⟩ (by omega)
    all_goals rw [hs]
    all_goals simp only [List.mem_append, List.mem_singleton]
    all_goals rintro ((h | h) | (h | h))
    all_goals first | exact hn (.inl h) | exact hn (.inr h) | exact h1 h.symm | exact h2 h.symm
 ·rw [List.take_of_length_le (by omega)] at hn
  rw [decide_eq_false hn]
  repeat' (first | refine uN ?_ | (refine uP ?_ ?_ <;> (intro h; ((try simp only [zs, ne_eq, and_true, true_and, eq_self, reduceCtorEq] at h); try exact zx))) | fail)
  exact Yi uL ⟨rfl, rfl⟩
theorem Zhq (G : RwG) (s : Int) (g : NrG) (m : Nd) (ev : List Evt) (n : Nat) (L : Zb) (hv : Vec 162 3 ec G.ev ev G.ec) (hl : ev.length ≤ 500) (hp : NpIn L G.nv n s g.np) (hN : Has L g.np (Za1 g m)) (hd : m.done.length = 6)
  (hs : ∀ j ref, m.site = some (j, ref) → RsIn L g s j ∧ j.l.length = 6) : HC Tryz.prog 150 [pt G.wp 0, iv s] ([(G.wp, Vt G)] :: G.ec :: Zjh g m :: L)
  (fun v L' => ∃ evv c, Vec 162 3 ec evv (Xb s m ev).2 c ∧ v = .tuple ⟨[]⟩ ∧ L' = [(G.wp, Vt { G with ev := evv, ec := c })] :: c :: Zjh g { m with done := (Xb s m ev).1 } :: L) := by
 obtain ⟨wp, aw, cw, wl, nv, nc, bv, bc, bl, lv, lc, evv, evc, nd⟩ := G
 simp only at hv hp
 obtain ⟨⟨b, i, l, F, fr, cap, rfl, hb, hg⟩, h0, h1⟩ := hp
 obtain ⟨pl, site, leads, done⟩ := m
 simp only at hd hs
 unfold Za1 at hN
 simp only [Vt, Zjh]
 cases site with
 | none =>
  simp only [Xb, Zdx] at hN ⊢
  refine Za (fun _ _ => Tryz.call150 _ _) Tryz.func150 rfl Tryz.ntmps150 (Nat.le_of_ble_eq_true rfl) ?_; simp only [Zc, Nat.reduceAdd]
  repeat' (first | refine uN ?_ | (refine uB ?_; intro b) | (refine uP ?_ ?_ <;> (intro h; ((try simp only [zs, ne_eq, and_true, true_and, eq_self, reduceCtorEq] at h); try exact zx))) | fail)
  refine Zn (σ := Unit) (fun q => [(0, pt wp 0), (1, iv s), (4, pt g.np 0), (5, iv 0)])
   (fun q => [(wp, .cells ⟨[.slice aw wl cw, sl b i n cap, bv, lv, evv]⟩ 94)] :: evc :: [(g.bd, .cells ⟨done.map Value.bool⟩ 4)] :: L) (fun _ => True) (fun _ => 0) () uS (List.Sublist.refl _) trivial ?_
  rintro - -
  repeat' (first | refine uN ?_ | (refine uB ?_; intro b) | (refine uP ?_ ?_ <;> (intro h; ((try simp only [zs, ne_eq, and_true, true_and, eq_self, reduceCtorEq] at h); try exact zx))) | fail)
  exact spn (LS.refl _) ⟨_, _, hv, rfl, rfl⟩
 | some q =>
  obtain ⟨j, ref⟩ := q
  obtain ⟨⟨⟨bR, hsi⟩, hrj, hst⟩, hjl⟩ := hs j ref rfl
  simp only [Xb, Zdx] at hN ⊢
  unfold Zfl at hrj
  have kf := fun p L => Zby p L
  refine Za (fun _ _ => Tryz.call150 _ _) Tryz.func150 rfl Tryz.ntmps150 (Nat.le_of_ble_eq_true rfl) ?_; simp only [Zc, Nat.reduceAdd]
  repeat' (first | refine uN ?_ | (refine uB ?_; intro b) | (refine uP ?_ ?_ <;> (intro h; ((try simp only [zs, ne_eq, and_true, true_and, eq_self, reduceCtorEq] at h); try exact zx))) | fail)
  refine Zn (σ := Nat × (Value × List Zq)) (fun q => [(0, pt wp 0), (1, iv s), (4, pt g.np 0), (5, iv q.1)])
   (fun q => [(wp, .cells ⟨[.slice aw wl cw, sl b i n cap, bv, lv, q.2.1]⟩ 94)] :: q.2.2 :: [(g.bd, .cells ⟨(Ub s (Vq j) (done, ev) q.1).1.map Value.bool⟩ 4)] :: L)
   (fun q => q.1 ≤ 6 ∧ Vec 162 3 ec q.2.1 (Ub s (Vq j) (done, ev) q.1).2 q.2.2) (fun q => 6 - q.1) (0, evv, evc) uS (List.Sublist.refl _) ⟨by simp, hv⟩ ?_
  rintro ⟨d, ev1, c1⟩ ⟨hd6, hv1⟩
  simp only at hd6 hv1 ⊢
  have hdl := Za3 (s := s) (ph := Vq j) (q := (done, ev)) d
  have hel := Zfo (s := s) (ph := Vq j) (q := (done, ev)) hl d
  have hsucc := U7 s (Vq j) (done, ev) d
  generalize hRR : Ub s (Vq j) (done, ev) d = R at *
  obtain ⟨dn, es1⟩ := R
  simp only at hdl hel hv1 ⊢
  by_cases hlt : d < 6
  ·have hdn : dn[d]? = some (dn.getD d true) := getD_some (by omega)
   have gD := dn_get hdn
   have gP := dn_put (dn := dn) (d := d) true (by omega)
   have gS := Zna (r := g.r) (j := j) (d := d) (e := j.l.getD d Zl) (by simp [List.getD, hjl, hlt])
   have gS0 : (((j.l.map Ent.s).map sc).flatten ++ g.r.spS)[0 + (d : Int).toNat * 3 + 0]? = some (iv (Vq j d)) := Zvw gS
   obtain ⟨a5, cap5, he5, -, -⟩ := hv1.rd Vg
   subst he5
   have hnx : Ub s (Vq j) (done, ev) (d + 1) = Wg s (Vq j) (dn, es1) d := hsucc
   generalize hph0 : Vq j d = p at *
   by_cases hdone : dn.getD d true = true
   ·rw [hdone] at gD
    have e2 : Wg s (Vq j) (dn, es1) d = (dn, es1) := by unfold Wg; rw [if_pos (.inl hdone)]
    rw [e2] at hnx
    repeat' (first | refine uN ?_ | refine uC (kf _ _) ?_ | (refine uB ?_; intro b) | (refine uP ?_ ?_ <;> (intro h; ((try simp only [zs, ne_eq, and_true, true_and, eq_self, reduceCtorEq] at h); try exact zx))) | fail)
    all_goals refine Zg (d + 1, .slice a5 es1.length cap5, c1) uS ?_ ⟨by simp only; omega, ?_⟩ (by simp only; omega)
    all_goals rw [hnx]
    all_goals first | exact hv1 | exact LS.refl _
   ·have hdf : dn.getD d true = false := by simpa using hdone
    rw [hdf] at gD
    by_cases hph : p ≠ 2 ∧ p ≠ 3
    ·have e2 : Wg s (Vq j) (dn, es1) d = (dn, es1) := by unfold Wg; rw [if_pos (.inr (by simp only [hph0]; exact hph))]
     rw [e2] at hnx
     have kf2 := kf p
     rw [decide_eq_false (by omega : ¬ (p = 2 ∨ p = 3))] at kf2
     repeat' (first | refine uN ?_ | refine uC (kf2 _) ?_ | (refine uB ?_; intro b) | (refine uP ?_ ?_ <;> (intro h; ((try simp only [zs, ne_eq, and_true, true_and, eq_self, reduceCtorEq] at h); try exact zx))) | fail)
     all_goals refine Zg (d + 1, .slice a5 es1.length cap5, c1) uS ?_ ⟨by simp only; omega, ?_⟩ (by simp only; omega)
     all_goals rw [hnx]
     all_goals first | exact hv1 | exact LS.refl _
    ·have e2 : Wg s (Vq j) (dn, es1) d = (dn.set d true, if es1.length < 500 then es1 ++ [⟨s, d, p⟩] else es1) := by unfold Wg; rw [if_neg (by simp only [hdf, hph0]; intro h; rcases h with h | h; cases h; exact hph h), hph0]
     rw [e2] at hnx
     have kf2 := kf p
     rw [decide_eq_true (by omega : (p = 2 ∨ p = 3))] at kf2
     by_cases h500 : es1.length < 500
     ·rw [if_pos h500] at hnx
      repeat' (first | refine uN ?_ | refine uC (kf2 _) ?_ | (refine uB ?_; intro b) | (refine uP ?_ ?_ <;> (intro h; ((try simp only [zs, ne_eq, and_true, true_and, eq_self, reduceCtorEq] at h); try exact zx))) | fail)
      all_goals refine fo 2 ?_
      all_goals refine Zea S ⟨s, d, p⟩ hv1 Vg Zoi ?_
      all_goals intro v' c' hv'
      all_goals obtain ⟨a6, cap6, he6, -, -⟩ := hv'.rd Vg
      all_goals subst he6
      all_goals repeat' (first | refine uN ?_ | refine uC (kf2 _) ?_ | (refine uB ?_; intro b) | (refine uP ?_ ?_ <;> (intro h; ((try simp only [zs, ne_eq, and_true, true_and, eq_self, reduceCtorEq] at h); try exact zx))) | fail)
      all_goals refine Zg (d + 1, .slice a6 (es1 ++ [⟨s, d, p⟩] : List Evt).length cap6, c') uS ?_ ⟨by simp only; omega, ?_⟩ (by simp only; omega)
      all_goals rw [hnx]
      all_goals first | exact hv' | exact uL
     ·rw [if_neg h500] at hnx
      repeat' (first | refine uN ?_ | refine uC (kf2 _) ?_ | (refine uB ?_; intro b) | (refine uP ?_ ?_ <;> (intro h; ((try simp only [zs, ne_eq, and_true, true_and, eq_self, reduceCtorEq] at h); try exact zx))) | fail)
      all_goals refine Zg (d + 1, .slice a5 es1.length cap5, c1) uS ?_ ⟨by simp only; omega, ?_⟩ (by simp only; omega)
      all_goals rw [hnx]
      all_goals first | exact hv1 | exact uL
  ·obtain rfl : d = 6 := by omega
   have hR6 : Ub s (Vq j) (done, ev) 6 = (dn, es1) := hRR
   rw [hR6]
   repeat' (first | refine uN ?_ | (refine uB ?_; intro b) | (refine uP ?_ ?_ <;> (intro h; ((try simp only [zs, ne_eq, and_true, true_and, eq_self, reduceCtorEq] at h); try exact zx))) | fail)
   exact ee0 rfl ⟨_, _, hv1, rfl, rfl⟩
end Go.HL
end

