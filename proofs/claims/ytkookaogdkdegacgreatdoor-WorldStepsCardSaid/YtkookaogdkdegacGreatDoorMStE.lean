/- Texts laid into one, without what the claim does not use. Conditions: none. -/
import Derived.Test.YtkookaogdkdegacGreatDoorMStD
/-! RlE -/
section
namespace Go.HL
open Go Go.Proofs
set_option linter.unusedVariables false
set_option linter.unusedSimpArgs false
set_option maxHeartbeats 2000000 attribute [local irreducible] HW HO HQ HD HC QOp Has Upd Zt Gets Yb Z6 Zr Xr Z4 Zm Xx Zy
set_option maxHeartbeats 2000000 in
theorem Zrn (lp : Nat) (aw : Option Addr) (capw : Nat) (hv : Value) (hc : List Zq) (m : Ld) (hs : List Fr) (f : Fr) (L : Zb) (hR : Rd ic 1 L aw m.w) (hck : Yw m.w = none) (hH : Zx hv hs hc) (rel : RelH m hs) (hw : m.wait ≠ 0) (hfit : Xn m f) (hy : f.yes = true) (hkd : ¬ f.kd = 2) (hsn : m.seen < f.s.pr) :
  HC Tryz.prog 147 [pt lp 0, .agg ⟨fc f⟩] (Ul lp aw capw hv hc m :: L) (fun v L' => ∃ c hv' hc', Zx v (Zs m f).2 c ∧ Zx hv' (Uz m hs f) hc' ∧ L' = c :: Ul lp aw capw hv' hc' (Zs m f).1 :: L) := by
 have rel2 := rel.m2 hfit
 have hl2 := rel2.le7
 have hw72 := rel2.w7
 have e0 : Qo m f = { m with seen := f.s.pr } := by unfold Qo; rw [if_neg hkd, show max m.seen f.s.pr = f.s.pr by omega]
 have hm2 : U2 m f = { m with seen := f.s.pr, heard := m.heard ||| 2 ^ f.fr.toNat, told := m.told.set f.fr.toNat f.s } := by unfold U2; rw [e0]
 have eh : Zs m f = Z9 (U2 m f) := by unfold Zs; rw [if_neg (fun h => h.elim hw (fun h => h hfit)), if_neg (by rw [hy]; decide)]
 have eh2 : Uz m hs f = Xp (U2 m f) (hs ++ [f]) := by unfold Uz; rw [if_neg (fun h => h.elim hw (fun h => h hfit)), if_neg (by rw [hy]; decide)]
 rw [eh, eh2]
 have kf := fun L => Ve lp aw capw hv hc m hs f.fr L hH (by have := rel.le7; have := rel.w7; omega)
 rw [Zfx rel hfit.2.2.2.2.1 hfit.2.2.2.2.2.1, decide_eq_false (by have := hfit.2.2.2.2.2.2; omega)] at kf
 have hf0 := hfit
 unfold Xn at hf0
 have hw7 := rel.w7
 have hl7 := rel.le7
 generalize hM : U2 m f = m2 at *
 have em : ∀ v' c', Ul lp aw capw v' c' m2 = (lp, .cells ⟨Zwr aw capw v' { m with seen := f.s.pr }⟩ 217) :: c' := fun v' c' => by rw [hm2]; rfl
 have ew : m2.w = m.w := by rw [hm2]
 have ek : m2.wait = f.kd := by rw [hm2]; show m.wait = f.kd; omega
 have ep : m2.phase = m.phase := by rw [hm2]
 refine Za (fun _ _ => Tryz.call147 _ _) Tryz.func147 rfl Tryz.ntmps147 (Nat.le_of_ble_eq_true rfl) ?_; simp only [Zc, Nat.reduceAdd]
 repeat apply Zki
 apply Za4
 refine wb (fun b3 => ?_)
 repeat' (first | refine uN ?_ | refine Z7 S ?_ | refine Yu S ?_ | refine Wf (qC (Yx kf 1)) ?_ | refine Qk (qC (Yx kf 1)) ?_ | refine Yg (fun _ => Yx kf 1) ?_ | refine Yd (fun _ => Yx kf 1) ?_ | refine Yf (fun _ => Yx kf 1) ?_ | refine Yh (fun _ => Yx kf 1) ?_ | (refine uB ?_; intro b) | (refine uP ?_ ?_ <;> (intro h; ((try simp only [zs, ne_eq, and_true, true_and, eq_self, reduceCtorEq] at h); try exact zx))) | refine da 101 ?_ | fail)
 all_goals (try exact absurd ((by assumption : f.yes = false).symm.trans hy) (by decide))
 refine fo 3 ?_
 refine ho_rl ?_
 refine Zeb S f hH Zi Wd ?_
 intro v1 c1 hv1
 obtain ⟨a1, p1, rfl, -, -⟩ := Vec.rd hv1 Zi
 repeat' (first | refine uN ?_ | refine Z7 S ?_ | refine Yu S ?_ | (refine uB ?_; intro b) | (refine uP ?_ ?_ <;> (intro h; ((try simp only [zs, ne_eq, and_true, true_and, eq_self, reduceCtorEq] at h); try exact zx))) | refine da 101 ?_ | fail)
 refine Wi (L' := c1 :: [(lp, .cells ⟨Zwr aw capw (.slice a1 (hs ++ [f]).length p1) { m with seen := f.s.pr }⟩ 217)] :: [] :: [(b3, .cells ⟨fc f⟩ 131)] :: L) ?_ uL
 refine hw_lr ?_
 rw [← em]
 generalize hvv : Value.slice a1 (hs ++ [f]).length p1 = v1 at *
 have kf2 := fun i L => Ve lp aw capw v1 c1 m2 (hs ++ [f]) i L hv1 (by omega)
 refine Wi (L' := [] :: Ul lp aw capw v1 c1 m2 :: [(b3, .cells ⟨fc f⟩ 131)] :: L) ?_ uL
 refine Zn (σ := Nat × Value × List Zq) (fun q => [(0, pt lp 0), (3, pt b3 0), (8, iv ((m2.heard % 2 ^ q.1 : Nat) : Int)), (9, q.2.1), (10, iv q.1)]) (fun q => q.2.2 :: Ul lp aw capw v1 c1 m2 :: [(b3, .cells ⟨fc f⟩ 131)] :: L) (fun q => q.1 ≤ m2.w.length ∧ Vec 43 3 sc q.2.1 ((List.range q.1).flatMap (Wl m2)) q.2.2) (fun q => m2.w.length - q.1) (0, Y3, []) ?_ (List.Sublist.refl _) ⟨by simp, Zu⟩ ?_
 ·simp only [Nat.pow_zero, Nat.mod_one]
  exact uS
 rintro ⟨i, vS, cS⟩ ⟨hi, hS⟩
 simp only at hi hS ⊢
 have hle := Wg (Wl m2) (Zbt m2) i
 have hms := Zi6 m2.heard i
 have hmlt : m2.heard % 2 ^ i < 2 ^ i := Nat.mod_lt _ (Nat.two_pow_pos i)
 by_cases hlt : i < m2.w.length
 ·have kt := fun L => Za6 i (by omega) L
  have et : (2 : Int) ^ i = ((2 ^ i : Nat) : Int) := by simp
  rw [et] at kt
  have hp7 : 2 ^ i ≤ 128 := by
   have := Nat.pow_le_pow_right (n := 2) (by decide) (show i ≤ 7 by omega)
   simpa using this
  have hbi := rel2.bit i hlt
  by_cases hb : m2.heard / 2 ^ i % 2 = 1
  ·obtain ⟨g, hg⟩ := Option.isSome_iff_exists.1 (hbi.1 hb)
   have hgs := rel2.told i hlt g hg
   have kfi := fun L => kf2 i L
   rw [hg] at kfi
   have e1 : Wl m2 i = [g.s] := by unfold Wl; rw [if_pos hb, hgs]
   have e2 : (List.range (i + 1)).flatMap (Wl m2) = (List.range i).flatMap (Wl m2) ++ [g.s] := by rw [Wh, e1]
   rw [hb, Nat.mul_one] at hms
   generalize 2 ^ i = z at *
   simp only [Option.getD_some, Option.isSome_some] at kfi
   repeat' (first | refine uN ?_ | refine Z7 S ?_ | refine Yu S ?_ | refine Wf (qC (Yx kfi 1)) ?_ | refine Qk (qC (Yx kfi 1)) ?_ | refine uC (kt _) ?_ | refine Yg (fun _ => Yx kfi 1) ?_ | refine Yd (fun _ => Yx kfi 1) ?_ | refine Yf (fun _ => Yx kfi 1) ?_ | refine Yh (fun _ => Yx kfi 1) ?_ | refine Yg (fun _ => kt _) ?_ | refine Yd (fun _ => kt _) ?_ | refine Yf (fun _ => kt _) ?_ | refine Yh (fun _ => kt _) ?_ | (refine uB ?_; intro b) | (refine uP ?_ ?_ <;> (intro h; ((try simp only [zs, ne_eq, and_true, true_and, eq_self, reduceCtorEq] at h); try exact zx))) | refine da 101 ?_ | fail)
   refine fo 2 ?_
   refine Zeb S g.s hS Q8 Zoc ?_
   intro v' c' hv'
   rw [← e2] at hv'
   repeat' (first | refine uN ?_ | refine Z7 S ?_ | refine Yu S ?_ | (refine uB ?_; intro b) | (refine uP ?_ ?_ <;> (intro h; ((try simp only [zs, ne_eq, and_true, true_and, eq_self, reduceCtorEq] at h); try exact zx))) | refine da 101 ?_ | fail)
   refine Zg (i + 1, v', c') ?_ uL ⟨by simp only; omega, hv'⟩ (by simp only; omega)
   simp only
   rw [hms, Int.natCast_add]
   exact uS
  ·have hno : Wu (hs ++ [f]) i = none := by
    cases hq : Wu (hs ++ [f]) i with
    | none => rfl
    | some g => exact absurd (hbi.2 (by rw [hq]; rfl)) hb
   have kfi := fun L => kf2 i L
   rw [hno] at kfi
   have e1 : Wl m2 i = [] := by unfold Wl; rw [if_neg hb]
   have e2 : (List.range (i + 1)).flatMap (Wl m2) = (List.range i).flatMap (Wl m2) := by rw [Wh, e1, List.append_nil]
   rw [show m2.heard / 2 ^ i % 2 = 0 by omega, Nat.mul_zero, Nat.add_zero] at hms
   simp only [Option.getD_none, Option.isSome_none] at kfi
   repeat' (first | refine uN ?_ | refine Z7 S ?_ | refine Yu S ?_ | refine Wf (qC (Yx kfi 1)) ?_ | refine Qk (qC (Yx kfi 1)) ?_ | refine uC (kt _) ?_ | refine Yg (fun _ => Yx kfi 1) ?_ | refine Yd (fun _ => Yx kfi 1) ?_ | refine Yf (fun _ => Yx kfi 1) ?_ | refine Yh (fun _ => Yx kfi 1) ?_ | refine Yg (fun _ => kt _) ?_ | refine Yd (fun _ => kt _) ?_ | refine Yf (fun _ => kt _) ?_ | refine Yh (fun _ => kt _) ?_ | (refine uB ?_; intro b) | (refine uP ?_ ?_ <;> (intro h; ((try simp only [zs, ne_eq, and_true, true_and, eq_self, reduceCtorEq] at h); try exact zx))) | refine da 101 ?_ | fail)
   refine Zg (i + 1, vS, cS) ?_ uL ⟨by simp only; omega, by simp only; rw [e2]; exact hS⟩ (by simp only; omega)
   simp only
   rw [hms]
   exact uS
 ·obtain rfl : i = m2.w.length := by omega
  subst hvv
  have hmod : m2.heard % 2 ^ m2.w.length = m2.heard := Nat.mod_eq_of_lt rel2.lt
  obtain ⟨c1w, c2w, c3w, c4w⟩ := W0 hck
  rw [← ew] at hck c3w
  rw [← ew] at hR
  have kq := fun L hR => Zed aw capw m2.w m2.heard L hR hw72 c3w (by have := Nat.lt_of_lt_of_le rel2.lt (Nat.pow_le_pow_right (n := 2) (by decide) hw72); omega)
  have hen := en_ok hck rel2.lt
  rw [hmod]
  obtain ⟨aS, pS, rfl, hpS, hRS⟩ := Vec.rd hS Q8
  have hsl := Wg (Wl m2) (Zbt m2) m2.w.length
  have est : (List.range m2.w.length).flatMap (Wl m2) = Xg m2 := rfl
  rw [est] at hRS hsl hS ⊢
  cases hq : Zr1 m2.w m2.heard with
  | false =>
   have ec : Z9 m2 = (m2, []) := by unfold Z9; rw [if_neg (fun h => hkd (ek ▸ h.1)), if_pos (.inr (by rw [hen, hq]))]
   have ec2 : Xp m2 (hs ++ [f]) = hs ++ [f] := by unfold Xp; rw [if_neg (fun h => hkd (ek ▸ h.1)), if_pos (.inr (by rw [hen, hq]))]
   rw [ec, ec2]
   rw [hq] at kq
   repeat' (first | refine uN ?_ | refine Z7 S ?_ | refine Yu S ?_ | refine Wf (qC (kq _ (((hR.cons _).cons _).cons _))) ?_ | refine Qk (qC (kq _ (((hR.cons _).cons _).cons _))) ?_ | refine Yg (fun _ => kq _ (((hR.cons _).cons _).cons _)) ?_ | refine Yd (fun _ => kq _ (((hR.cons _).cons _).cons _)) ?_ | refine Yf (fun _ => kq _ (((hR.cons _).cons _).cons _)) ?_ | refine Yh (fun _ => kq _ (((hR.cons _).cons _).cons _)) ?_ | (refine uB ?_; intro b) | (refine uP ?_ ?_ <;> (intro h; ((try simp only [zs, ne_eq, and_true, true_and, eq_self, reduceCtorEq] at h); try exact zx))) | refine da 101 ?_ | fail)
   exact Yi (L' := [] :: Ul lp aw capw _ c1 m2 :: L) uL ⟨[], _, c1, Zu, hv1, rfl⟩
  | true =>
   rw [hq] at kq
   have n1 : ¬ (m2.wait = 2 ∧ m2.heard = 2 ^ m2.w.length - 1) := fun h => hkd (ek ▸ h.1)
   have n2 : ¬ (m2.wait = 2 ∨ (Xt m2.w m2.heard).1 = false) := fun h => h.elim (fun h => hkd (ek ▸ h)) (fun h => by rw [hen, hq] at h; cases h)
   have kd := fun p L => Zau lp aw capw (.slice a1 (hs ++ [f]).length p1) c1 m2 p L (by omega)
   have kp := fun p L => Q4 lp aw capw (.slice a1 (hs ++ [f]).length p1) c1 m2 (hs ++ [f]) p L (by omega) hv1
   by_cases h6 : f.kd = 6
   ·have ec : Z9 m2 = Zco m2 (Vi m2.phase) := by unfold Z9; rw [if_neg n1, if_neg n2, if_pos (by omega)]
    have ec2 : Xp m2 (hs ++ [f]) = hs ++ [f] := by unfold Xp; rw [if_neg n1, if_neg n2, if_pos (by omega)]
    rw [ec, ec2]
    repeat' (first | refine uN ?_ | refine Z7 S ?_ | refine Yu S ?_ | refine Wf (qC (kq _ (((hR.cons _).cons _).cons _))) ?_ | refine Qk (qC (kq _ (((hR.cons _).cons _).cons _))) ?_ | refine uC (Xh _ _) ?_ | refine Yg (fun _ => kq _ (((hR.cons _).cons _).cons _)) ?_ | refine Yd (fun _ => kq _ (((hR.cons _).cons _).cons _)) ?_ | refine Yf (fun _ => kq _ (((hR.cons _).cons _).cons _)) ?_ | refine Yh (fun _ => kq _ (((hR.cons _).cons _).cons _)) ?_ | refine Yg (fun _ => Xh _ _) ?_ | refine Yd (fun _ => Xh _ _) ?_ | refine Yf (fun _ => Xh _ _) ?_ | refine Yh (fun _ => Xh _ _) ?_ | (refine uB ?_; intro b) | (refine uP ?_ ?_ <;> (intro h; ((try simp only [zs, ne_eq, and_true, true_and, eq_self, reduceCtorEq] at h); try exact zx))) | refine da 101 ?_ | fail)
    refine fo 1 ?_
    refine gc (kd _ _) ?_
    rintro v L' ⟨c, hv2, rfl⟩
    repeat' (first | refine uN ?_ | refine Z7 S ?_ | refine Yu S ?_ | (refine uB ?_; intro b) | (refine uP ?_ ?_ <;> (intro h; ((try simp only [zs, ne_eq, and_true, true_and, eq_self, reduceCtorEq] at h); try exact zx))) | refine da 101 ?_ | fail)
    exact Yi (L' := c :: Ul lp aw capw _ c1 (Vh m2) :: L) uL ⟨c, _, c1, hv2, hv1, rfl⟩
   ·have kch := fun L hR => Zda aS pS (Xg m2) L hR (by omega)
    cases hch : (Yk (Xg m2)).2 with
    | true =>
     have ec : Z9 m2 = Zco m2 (Yk (Xg m2)).1 := by unfold Z9; rw [if_neg n1, if_neg n2, if_neg (by omega), if_pos hch]
     have ec2 : Xp m2 (hs ++ [f]) = hs ++ [f] := by unfold Xp; rw [if_neg n1, if_neg n2, if_neg (by omega), if_pos hch]
     rw [ec, ec2]
     rw [hch] at kch
     repeat' (first | refine uN ?_ | refine Z7 S ?_ | refine Yu S ?_ | refine Wf (qC (kq _ (((hR.cons _).cons _).cons _))) ?_ | refine Qk (qC (kq _ (((hR.cons _).cons _).cons _))) ?_ | refine Wf (qC (kch _ (hRS _))) ?_ | refine Qk (qC (kch _ (hRS _))) ?_ | refine Yg (fun _ => kq _ (((hR.cons _).cons _).cons _)) ?_ | refine Yd (fun _ => kq _ (((hR.cons _).cons _).cons _)) ?_ | refine Yf (fun _ => kq _ (((hR.cons _).cons _).cons _)) ?_ | refine Yh (fun _ => kq _ (((hR.cons _).cons _).cons _)) ?_ | refine Yg (fun _ => kch _ (hRS _)) ?_ | refine Yd (fun _ => kch _ (hRS _)) ?_ | refine Yf (fun _ => kch _ (hRS _)) ?_ | refine Yh (fun _ => kch _ (hRS _)) ?_ | (refine uB ?_; intro b) | (refine uP ?_ ?_ <;> (intro h; ((try simp only [zs, ne_eq, and_true, true_and, eq_self, reduceCtorEq] at h); try exact zx))) | refine da 101 ?_ | fail)
     refine fo 1 ?_
     refine gc (kd _ _) ?_
     rintro v L' ⟨c, hv2, rfl⟩
     repeat' (first | refine uN ?_ | refine Z7 S ?_ | refine Yu S ?_ | (refine uB ?_; intro b) | (refine uP ?_ ?_ <;> (intro h; ((try simp only [zs, ne_eq, and_true, true_and, eq_self, reduceCtorEq] at h); try exact zx))) | refine da 101 ?_ | fail)
     exact Yi (L' := c :: Ul lp aw capw _ c1 (Vh m2) :: L) uL ⟨c, _, c1, hv2, hv1, rfl⟩
    | false =>
     have ec : Z9 m2 = Zlb m2 (Yk (Xg m2)).1 := by unfold Z9; rw [if_neg n1, if_neg n2, if_neg (by omega), if_neg (by rw [hch]; decide)]
     have ec2 : Xp m2 (hs ++ [f]) = [] := by unfold Xp; rw [if_neg n1, if_neg n2, if_neg (by omega), if_neg (by rw [hch]; decide)]
     rw [ec, ec2]
     rw [hch] at kch
     repeat' (first | refine uN ?_ | refine Z7 S ?_ | refine Yu S ?_ | refine Wf (qC (kq _ (((hR.cons _).cons _).cons _))) ?_ | refine Qk (qC (kq _ (((hR.cons _).cons _).cons _))) ?_ | refine Wf (qC (kch _ (hRS _))) ?_ | refine Qk (qC (kch _ (hRS _))) ?_ | refine Yg (fun _ => kq _ (((hR.cons _).cons _).cons _)) ?_ | refine Yd (fun _ => kq _ (((hR.cons _).cons _).cons _)) ?_ | refine Yf (fun _ => kq _ (((hR.cons _).cons _).cons _)) ?_ | refine Yh (fun _ => kq _ (((hR.cons _).cons _).cons _)) ?_ | refine Yg (fun _ => kch _ (hRS _)) ?_ | refine Yd (fun _ => kch _ (hRS _)) ?_ | refine Yf (fun _ => kch _ (hRS _)) ?_ | refine Yh (fun _ => kch _ (hRS _)) ?_ | (refine uB ?_; intro b) | (refine uP ?_ ?_ <;> (intro h; ((try simp only [zs, ne_eq, and_true, true_and, eq_self, reduceCtorEq] at h); try exact zx))) | refine da 101 ?_ | fail)
     refine fo 1 ?_
     refine gc (kp _ _) ?_
     rintro v L' ⟨c, hv2, rfl⟩
     repeat' (first | refine uN ?_ | refine Z7 S ?_ | refine Yu S ?_ | (refine uB ?_; intro b) | (refine uP ?_ ?_ <;> (intro h; ((try simp only [zs, ne_eq, and_true, true_and, eq_self, reduceCtorEq] at h); try exact zx))) | refine da 101 ?_ | fail)
     exact Yi (L' := c :: Ul lp aw capw Y3 [] (U0 m2 (Yk (Xg m2)).1) :: L) uL ⟨c, Y3, [], hv2, Zu, rfl⟩
set_option maxHeartbeats 2000000 in
theorem Zrs (lp : Nat) (aw : Option Addr) (capw : Nat) (hv : Value) (hc : List Zq) (m : Ld) (hs : List Fr) (f : Fr) (L : Zb) (hR : Rd ic 1 L aw m.w) (hck : Yw m.w = none) (hH : Zx hv hs hc) (rel : RelH m hs) (hw : m.wait ≠ 0) (hfit : Xn m f) (hy : f.yes = true) (hkd : ¬ f.kd = 2) (hsn : ¬ m.seen < f.s.pr) :
  HC Tryz.prog 147 [pt lp 0, .agg ⟨fc f⟩] (Ul lp aw capw hv hc m :: L) (fun v L' => ∃ c hv' hc', Zx v (Zs m f).2 c ∧ Zx hv' (Uz m hs f) hc' ∧ L' = c :: Ul lp aw capw hv' hc' (Zs m f).1 :: L) := by
 have rel2 := rel.m2 hfit
 have hl2 := rel2.le7
 have hw72 := rel2.w7
 have e0 : Qo m f = { m with seen := m.seen } := by unfold Qo; rw [if_neg hkd, show max m.seen f.s.pr = m.seen by omega]
 have hm2 : U2 m f = { m with seen := m.seen, heard := m.heard ||| 2 ^ f.fr.toNat, told := m.told.set f.fr.toNat f.s } := by unfold U2; rw [e0]
 have eh : Zs m f = Z9 (U2 m f) := by unfold Zs; rw [if_neg (fun h => h.elim hw (fun h => h hfit)), if_neg (by rw [hy]; decide)]
 have eh2 : Uz m hs f = Xp (U2 m f) (hs ++ [f]) := by unfold Uz; rw [if_neg (fun h => h.elim hw (fun h => h hfit)), if_neg (by rw [hy]; decide)]
 rw [eh, eh2]
 have kf := fun L => Ve lp aw capw hv hc m hs f.fr L hH (by have := rel.le7; have := rel.w7; omega)
 rw [Zfx rel hfit.2.2.2.2.1 hfit.2.2.2.2.2.1, decide_eq_false (by have := hfit.2.2.2.2.2.2; omega)] at kf
 have hf0 := hfit
 unfold Xn at hf0
 have hw7 := rel.w7
 have hl7 := rel.le7
 generalize hM : U2 m f = m2 at *
 have em : ∀ v' c', Ul lp aw capw v' c' m2 = (lp, .cells ⟨Zwr aw capw v' { m with seen := m.seen }⟩ 217) :: c' := fun v' c' => by rw [hm2]; rfl
 have ew : m2.w = m.w := by rw [hm2]
 have ek : m2.wait = f.kd := by rw [hm2]; show m.wait = f.kd; omega
 have ep : m2.phase = m.phase := by rw [hm2]
 refine Za (fun _ _ => Tryz.call147 _ _) Tryz.func147 rfl Tryz.ntmps147 (Nat.le_of_ble_eq_true rfl) ?_; simp only [Zc, Nat.reduceAdd]
 repeat apply Zki
 apply Za4
 refine wb (fun b3 => ?_)
 repeat' (first | refine uN ?_ | refine Z7 S ?_ | refine Yu S ?_ | refine Wf (qC (Yx kf 1)) ?_ | refine Qk (qC (Yx kf 1)) ?_ | refine Yg (fun _ => Yx kf 1) ?_ | refine Yd (fun _ => Yx kf 1) ?_ | refine Yf (fun _ => Yx kf 1) ?_ | refine Yh (fun _ => Yx kf 1) ?_ | (refine uB ?_; intro b) | (refine uP ?_ ?_ <;> (intro h; ((try simp only [zs, ne_eq, and_true, true_and, eq_self, reduceCtorEq] at h); try exact zx))) | refine da 101 ?_ | fail)
 all_goals (try exact absurd ((by assumption : f.yes = false).symm.trans hy) (by decide))
 refine fo 3 ?_
 refine ho_rl ?_
 refine Zeb S f hH Zi Wd ?_
 intro v1 c1 hv1
 obtain ⟨a1, p1, rfl, -, -⟩ := Vec.rd hv1 Zi
 repeat' (first | refine uN ?_ | refine Z7 S ?_ | refine Yu S ?_ | (refine uB ?_; intro b) | (refine uP ?_ ?_ <;> (intro h; ((try simp only [zs, ne_eq, and_true, true_and, eq_self, reduceCtorEq] at h); try exact zx))) | refine da 101 ?_ | fail)
 refine Wi (L' := c1 :: [(lp, .cells ⟨Zwr aw capw (.slice a1 (hs ++ [f]).length p1) { m with seen := m.seen }⟩ 217)] :: [] :: [(b3, .cells ⟨fc f⟩ 131)] :: L) ?_ uL
 refine hw_lr ?_
 rw [← em]
 generalize hvv : Value.slice a1 (hs ++ [f]).length p1 = v1 at *
 have kf2 := fun i L => Ve lp aw capw v1 c1 m2 (hs ++ [f]) i L hv1 (by omega)
 refine Wi (L' := [] :: Ul lp aw capw v1 c1 m2 :: [(b3, .cells ⟨fc f⟩ 131)] :: L) ?_ uL
 refine Zn (σ := Nat × Value × List Zq) (fun q => [(0, pt lp 0), (3, pt b3 0), (8, iv ((m2.heard % 2 ^ q.1 : Nat) : Int)), (9, q.2.1), (10, iv q.1)]) (fun q => q.2.2 :: Ul lp aw capw v1 c1 m2 :: [(b3, .cells ⟨fc f⟩ 131)] :: L) (fun q => q.1 ≤ m2.w.length ∧ Vec 43 3 sc q.2.1 ((List.range q.1).flatMap (Wl m2)) q.2.2) (fun q => m2.w.length - q.1) (0, Y3, []) ?_ (List.Sublist.refl _) ⟨by simp, Zu⟩ ?_
 ·simp only [Nat.pow_zero, Nat.mod_one]
  exact uS
 rintro ⟨i, vS, cS⟩ ⟨hi, hS⟩
 simp only at hi hS ⊢
 have hle := Wg (Wl m2) (Zbt m2) i
 have hms := Zi6 m2.heard i
 have hmlt : m2.heard % 2 ^ i < 2 ^ i := Nat.mod_lt _ (Nat.two_pow_pos i)
 by_cases hlt : i < m2.w.length
 ·have kt := fun L => Za6 i (by omega) L
  have et : (2 : Int) ^ i = ((2 ^ i : Nat) : Int) := by simp
  rw [et] at kt
  have hp7 : 2 ^ i ≤ 128 := by
   have := Nat.pow_le_pow_right (n := 2) (by decide) (show i ≤ 7 by omega)
   simpa using this
  have hbi := rel2.bit i hlt
  by_cases hb : m2.heard / 2 ^ i % 2 = 1
  ·obtain ⟨g, hg⟩ := Option.isSome_iff_exists.1 (hbi.1 hb)
   have hgs := rel2.told i hlt g hg
   have kfi := fun L => kf2 i L
   rw [hg] at kfi
   have e1 : Wl m2 i = [g.s] := by unfold Wl; rw [if_pos hb, hgs]
   have e2 : (List.range (i + 1)).flatMap (Wl m2) = (List.range i).flatMap (Wl m2) ++ [g.s] := by rw [Wh, e1]
   rw [hb, Nat.mul_one] at hms
   generalize 2 ^ i = z at *
   simp only [Option.getD_some, Option.isSome_some] at kfi
   repeat' (first | refine uN ?_ | refine Z7 S ?_ | refine Yu S ?_ | refine Wf (qC (Yx kfi 1)) ?_ | refine Qk (qC (Yx kfi 1)) ?_ | refine uC (kt _) ?_ | refine Yg (fun _ => Yx kfi 1) ?_ | refine Yd (fun _ => Yx kfi 1) ?_ | refine Yf (fun _ => Yx kfi 1) ?_ | refine Yh (fun _ => Yx kfi 1) ?_ | refine Yg (fun _ => kt _) ?_ | refine Yd (fun _ => kt _) ?_ | refine Yf (fun _ => kt _) ?_ | refine Yh (fun _ => kt _) ?_ | (refine uB ?_; intro b) | (refine uP ?_ ?_ <;> (intro h; ((try simp only [zs, ne_eq, and_true, true_and, eq_self, reduceCtorEq] at h); try exact zx))) | refine da 101 ?_ | fail)
   refine fo 2 ?_
   refine Zeb S g.s hS Q8 Zoc ?_
   intro v' c' hv'
   rw [← e2] at hv'
   repeat' (first | refine uN ?_ | refine Z7 S ?_ | refine Yu S ?_ | (refine uB ?_; intro b) | (refine uP ?_ ?_ <;> (intro h; ((try simp only [zs, ne_eq, and_true, true_and, eq_self, reduceCtorEq] at h); try exact zx))) | refine da 101 ?_ | fail)
   refine Zg (i + 1, v', c') ?_ uL ⟨by simp only; omega, hv'⟩ (by simp only; omega)
   simp only
   rw [hms, Int.natCast_add]
   exact uS
  ·have hno : Wu (hs ++ [f]) i = none := by
    cases hq : Wu (hs ++ [f]) i with
    | none => rfl
    | some g => exact absurd (hbi.2 (by rw [hq]; rfl)) hb
   have kfi := fun L => kf2 i L
   rw [hno] at kfi
   have e1 : Wl m2 i = [] := by unfold Wl; rw [if_neg hb]
   have e2 : (List.range (i + 1)).flatMap (Wl m2) = (List.range i).flatMap (Wl m2) := by rw [Wh, e1, List.append_nil]
   rw [show m2.heard / 2 ^ i % 2 = 0 by omega, Nat.mul_zero, Nat.add_zero] at hms
   simp only [Option.getD_none, Option.isSome_none] at kfi
   repeat' (first | refine uN ?_ | refine Z7 S ?_ | refine Yu S ?_ | refine Wf (qC (Yx kfi 1)) ?_ | refine Qk (qC (Yx kfi 1)) ?_ | refine uC (kt _) ?_ | refine Yg (fun _ => Yx kfi 1) ?_ | refine Yd (fun _ => Yx kfi 1) ?_ | refine Yf (fun _ => Yx kfi 1) ?_ | refine Yh (fun _ => Yx kfi 1) ?_ | refine Yg (fun _ => kt _) ?_ | refine Yd (fun _ => kt _) ?_ | refine Yf (fun _ => kt _) ?_ | refine Yh (fun _ => kt _) ?_ | (refine uB ?_; intro b) | (refine uP ?_ ?_ <;> (intro h; ((try simp only [zs, ne_eq, and_true, true_and, eq_self, reduceCtorEq] at h); try exact zx))) | refine da 101 ?_ | fail)
   refine Zg (i + 1, vS, cS) ?_ uL ⟨by simp only; omega, by simp only; rw [e2]; exact hS⟩ (by simp only; omega)
   simp only
   rw [hms]
   exact uS
 ·obtain rfl : i = m2.w.length := by omega
  subst hvv
  have hmod : m2.heard % 2 ^ m2.w.length = m2.heard := Nat.mod_eq_of_lt rel2.lt
  obtain ⟨c1w, c2w, c3w, c4w⟩ := W0 hck
  rw [← ew] at hck c3w
  rw [← ew] at hR
  have kq := fun L hR => Zed aw capw m2.w m2.heard L hR hw72 c3w (by have := Nat.lt_of_lt_of_le rel2.lt (Nat.pow_le_pow_right (n := 2) (by decide) hw72); omega)
  have hen := en_ok hck rel2.lt
  rw [hmod]
  obtain ⟨aS, pS, rfl, hpS, hRS⟩ := Vec.rd hS Q8
  have hsl := Wg (Wl m2) (Zbt m2) m2.w.length
  have est : (List.range m2.w.length).flatMap (Wl m2) = Xg m2 := rfl
  rw [est] at hRS hsl hS ⊢
  cases hq : Zr1 m2.w m2.heard with
  | false =>
   have ec : Z9 m2 = (m2, []) := by unfold Z9; rw [if_neg (fun h => hkd (ek ▸ h.1)), if_pos (.inr (by rw [hen, hq]))]
   have ec2 : Xp m2 (hs ++ [f]) = hs ++ [f] := by unfold Xp; rw [if_neg (fun h => hkd (ek ▸ h.1)), if_pos (.inr (by rw [hen, hq]))]
   rw [ec, ec2]
   rw [hq] at kq
   repeat' (first | refine uN ?_ | refine Z7 S ?_ | refine Yu S ?_ | refine Wf (qC (kq _ (((hR.cons _).cons _).cons _))) ?_ | refine Qk (qC (kq _ (((hR.cons _).cons _).cons _))) ?_ | refine Yg (fun _ => kq _ (((hR.cons _).cons _).cons _)) ?_ | refine Yd (fun _ => kq _ (((hR.cons _).cons _).cons _)) ?_ | refine Yf (fun _ => kq _ (((hR.cons _).cons _).cons _)) ?_ | refine Yh (fun _ => kq _ (((hR.cons _).cons _).cons _)) ?_ | (refine uB ?_; intro b) | (refine uP ?_ ?_ <;> (intro h; ((try simp only [zs, ne_eq, and_true, true_and, eq_self, reduceCtorEq] at h); try exact zx))) | refine da 101 ?_ | fail)
   exact Yi (L' := [] :: Ul lp aw capw _ c1 m2 :: L) uL ⟨[], _, c1, Zu, hv1, rfl⟩
  | true =>
   rw [hq] at kq
   have n1 : ¬ (m2.wait = 2 ∧ m2.heard = 2 ^ m2.w.length - 1) := fun h => hkd (ek ▸ h.1)
   have n2 : ¬ (m2.wait = 2 ∨ (Xt m2.w m2.heard).1 = false) := fun h => h.elim (fun h => hkd (ek ▸ h)) (fun h => by rw [hen, hq] at h; cases h)
   have kd := fun p L => Zau lp aw capw (.slice a1 (hs ++ [f]).length p1) c1 m2 p L (by omega)
   have kp := fun p L => Q4 lp aw capw (.slice a1 (hs ++ [f]).length p1) c1 m2 (hs ++ [f]) p L (by omega) hv1
   by_cases h6 : f.kd = 6
   ·have ec : Z9 m2 = Zco m2 (Vi m2.phase) := by unfold Z9; rw [if_neg n1, if_neg n2, if_pos (by omega)]
    have ec2 : Xp m2 (hs ++ [f]) = hs ++ [f] := by unfold Xp; rw [if_neg n1, if_neg n2, if_pos (by omega)]
    rw [ec, ec2]
    repeat' (first | refine uN ?_ | refine Z7 S ?_ | refine Yu S ?_ | refine Wf (qC (kq _ (((hR.cons _).cons _).cons _))) ?_ | refine Qk (qC (kq _ (((hR.cons _).cons _).cons _))) ?_ | refine uC (Xh _ _) ?_ | refine Yg (fun _ => kq _ (((hR.cons _).cons _).cons _)) ?_ | refine Yd (fun _ => kq _ (((hR.cons _).cons _).cons _)) ?_ | refine Yf (fun _ => kq _ (((hR.cons _).cons _).cons _)) ?_ | refine Yh (fun _ => kq _ (((hR.cons _).cons _).cons _)) ?_ | refine Yg (fun _ => Xh _ _) ?_ | refine Yd (fun _ => Xh _ _) ?_ | refine Yf (fun _ => Xh _ _) ?_ | refine Yh (fun _ => Xh _ _) ?_ | (refine uB ?_; intro b) | (refine uP ?_ ?_ <;> (intro h; ((try simp only [zs, ne_eq, and_true, true_and, eq_self, reduceCtorEq] at h); try exact zx))) | refine da 101 ?_ | fail)
    refine fo 1 ?_
    refine gc (kd _ _) ?_
    rintro v L' ⟨c, hv2, rfl⟩
    repeat' (first | refine uN ?_ | refine Z7 S ?_ | refine Yu S ?_ | (refine uB ?_; intro b) | (refine uP ?_ ?_ <;> (intro h; ((try simp only [zs, ne_eq, and_true, true_and, eq_self, reduceCtorEq] at h); try exact zx))) | refine da 101 ?_ | fail)
    exact Yi (L' := c :: Ul lp aw capw _ c1 (Vh m2) :: L) uL ⟨c, _, c1, hv2, hv1, rfl⟩
   ·have kch := fun L hR => Zda aS pS (Xg m2) L hR (by omega)
    cases hch : (Yk (Xg m2)).2 with
    | true =>
     have ec : Z9 m2 = Zco m2 (Yk (Xg m2)).1 := by unfold Z9; rw [if_neg n1, if_neg n2, if_neg (by omega), if_pos hch]
     have ec2 : Xp m2 (hs ++ [f]) = hs ++ [f] := by unfold Xp; rw [if_neg n1, if_neg n2, if_neg (by omega), if_pos hch]
     rw [ec, ec2]
     rw [hch] at kch
     repeat' (first | refine uN ?_ | refine Z7 S ?_ | refine Yu S ?_ | refine Wf (qC (kq _ (((hR.cons _).cons _).cons _))) ?_ | refine Qk (qC (kq _ (((hR.cons _).cons _).cons _))) ?_ | refine Wf (qC (kch _ (hRS _))) ?_ | refine Qk (qC (kch _ (hRS _))) ?_ | refine Yg (fun _ => kq _ (((hR.cons _).cons _).cons _)) ?_ | refine Yd (fun _ => kq _ (((hR.cons _).cons _).cons _)) ?_ | refine Yf (fun _ => kq _ (((hR.cons _).cons _).cons _)) ?_ | refine Yh (fun _ => kq _ (((hR.cons _).cons _).cons _)) ?_ | refine Yg (fun _ => kch _ (hRS _)) ?_ | refine Yd (fun _ => kch _ (hRS _)) ?_ | refine Yf (fun _ => kch _ (hRS _)) ?_ | refine Yh (fun _ => kch _ (hRS _)) ?_ | (refine uB ?_; intro b) | (refine uP ?_ ?_ <;> (intro h; ((try simp only [zs, ne_eq, and_true, true_and, eq_self, reduceCtorEq] at h); try exact zx))) | refine da 101 ?_ | fail)
     refine fo 1 ?_
     refine gc (kd _ _) ?_
     rintro v L' ⟨c, hv2, rfl⟩
     repeat' (first | refine uN ?_ | refine Z7 S ?_ | refine Yu S ?_ | (refine uB ?_; intro b) | (refine uP ?_ ?_ <;> (intro h; ((try simp only [zs, ne_eq, and_true, true_and, eq_self, reduceCtorEq] at h); try exact zx))) | refine da 101 ?_ | fail)
     exact Yi (L' := c :: Ul lp aw capw _ c1 (Vh m2) :: L) uL ⟨c, _, c1, hv2, hv1, rfl⟩
    | false =>
     have ec : Z9 m2 = Zlb m2 (Yk (Xg m2)).1 := by unfold Z9; rw [if_neg n1, if_neg n2, if_neg (by omega), if_neg (by rw [hch]; decide)]
     have ec2 : Xp m2 (hs ++ [f]) = [] := by unfold Xp; rw [if_neg n1, if_neg n2, if_neg (by omega), if_neg (by rw [hch]; decide)]
     rw [ec, ec2]
     rw [hch] at kch
     repeat' (first | refine uN ?_ | refine Z7 S ?_ | refine Yu S ?_ | refine Wf (qC (kq _ (((hR.cons _).cons _).cons _))) ?_ | refine Qk (qC (kq _ (((hR.cons _).cons _).cons _))) ?_ | refine Wf (qC (kch _ (hRS _))) ?_ | refine Qk (qC (kch _ (hRS _))) ?_ | refine Yg (fun _ => kq _ (((hR.cons _).cons _).cons _)) ?_ | refine Yd (fun _ => kq _ (((hR.cons _).cons _).cons _)) ?_ | refine Yf (fun _ => kq _ (((hR.cons _).cons _).cons _)) ?_ | refine Yh (fun _ => kq _ (((hR.cons _).cons _).cons _)) ?_ | refine Yg (fun _ => kch _ (hRS _)) ?_ | refine Yd (fun _ => kch _ (hRS _)) ?_ | refine Yf (fun _ => kch _ (hRS _)) ?_ | refine Yh (fun _ => kch _ (hRS _)) ?_ | (refine uB ?_; intro b) | (refine uP ?_ ?_ <;> (intro h; ((try simp only [zs, ne_eq, and_true, true_and, eq_self, reduceCtorEq] at h); try exact zx))) | refine da 101 ?_ | fail)
     refine fo 1 ?_
     refine gc (kp _ _) ?_
     rintro v L' ⟨c, hv2, rfl⟩
     repeat' (first | refine uN ?_ | refine Z7 S ?_ | refine Yu S ?_ | (refine uB ?_; intro b) | (refine uP ?_ ?_ <;> (intro h; ((try simp only [zs, ne_eq, and_true, true_and, eq_self, reduceCtorEq] at h); try exact zx))) | refine da 101 ?_ | fail)
     exact Yi (L' := c :: Ul lp aw capw Y3 [] (U0 m2 (Yk (Xg m2)).1) :: L) uL ⟨c, Y3, [], hv2, Zu, rfl⟩
end Go.HL
end

/-! ErD2 -/
section
namespace Go.HL
open Go Go.Proofs
set_option linter.unusedVariables false
set_option linter.unusedSimpArgs false
set_option maxHeartbeats 2000000 attribute [local irreducible] HW HO HQ HD HC QOp Has Upd Zt Gets Yb Z6 Zr Xr Z4 Zm Xx Zy
end Go.HL
end

/-! RlF -/
section
namespace Go.HL
open Go Go.Proofs
set_option linter.unusedVariables false
set_option linter.unusedSimpArgs false
theorem Zhy (lp : Nat) (aw : Option Addr) (capw : Nat) (hv : Value) (hc : List Zq) (m : Ld) (hs : List Fr) (f : Fr) (L : Zb) (hR : Rd ic 1 L aw m.w) (hck : Yw m.w = none) (hH : Zx hv hs hc) (rel : RelH m hs) :
  HC Tryz.prog 147 [pt lp 0, .agg ⟨fc f⟩] (Ul lp aw capw hv hc m :: L) (fun v L' => ∃ c hv' hc', Zx v (Zs m f).2 c ∧ Zx hv' (Uz m hs f) hc' ∧ L' = c :: Ul lp aw capw hv' hc' (Zs m f).1 :: L) := by
 by_cases hq : m.wait = 0 ∨ ¬ Xn m f ∨ f.yes = false
 ·exact Zo6 lp aw capw hv hc m hs f L hR hck hH rel hq
 ·have hw : m.wait ≠ 0 := fun h => hq (.inl h)
  have hfit : Xn m f := Decidable.not_not.1 fun h => hq (.inr (.inl h))
  have hy : f.yes = true := by
   cases h : f.yes with
   | true => rfl
   | false => exact absurd (.inr (.inr h)) hq
  by_cases hk : f.kd = 2
  ·exact Zr0 lp aw capw hv hc m hs f L hR hck hH rel hw hfit hy hk
  ·by_cases hs' : m.seen < f.s.pr
   ·exact Zrn lp aw capw hv hc m hs f L hR hck hH rel hw hfit hy hk hs'
   ·exact Zrs lp aw capw hv hc m hs f L hR hck hH rel hw hfit hy hk hs'
theorem Zi9 (ws : List Int) : okE (Yw ws) := by
 unfold Yw
 split
 ·exact rfl
 ·split
  ·exact rfl
  ·split
   ·exact rfl
   ·trivial
theorem Zt1 {e : Nat} (h : okE (some e)) : 1 ≤ e := by
 cases e with
 | zero => exact absurd (show List.elem 0 all9 = true from h) (by decide)
 | succ n => omega
set_option maxHeartbeats 2000000 attribute [local irreducible] HW HO HQ HD HC QOp Has Upd Zt Gets Yb Z6 Zr Xr Z4 Zm Xx Zy
def Zit (att : Int) : Int := if att = 0 then 2 else 4
theorem Zaf (id deal : Int) (a : Option Addr) (cap : Nat) (w : List Int) (att : Int) (L : Zb) : HC Tryz.prog 140 [iv id, iv deal, .slice a w.length cap, iv att] L (fun v L' => ∃ lp, v = pt lp 0 ∧ L' = Ul lp a cap Y3 [] (Zh id deal w att (Zit att)) :: L) := by
 unfold Zit
 refine Za (fun _ _ => Tryz.call140 _ _) Tryz.func140 rfl Tryz.ntmps140 (Nat.le_of_ble_eq_true rfl) ?_; simp only [Zc, Nat.reduceAdd]
 repeat' (first | refine uN ?_ | (refine uB ?_; intro b) | (refine uP ?_ ?_ <;> (intro h; ((try simp only [zs, ne_eq, and_true, true_and, eq_self, reduceCtorEq] at h); try exact zx))) | fail)
 ·rw [if_pos h]
  exact Yi (LS.refl _) ⟨b, rfl, rfl⟩
 ·rw [if_neg h]
  exact Yi (LS.refl _) ⟨b, rfl, rfl⟩
end Go.HL
end

/-! WrA -/
section
namespace Go.HL
open Go Go.Proofs
set_option linter.unusedVariables false
set_option linter.unusedSimpArgs false
def lowB (n : Int) : List UInt8 := [bt n 0, bt n 1, bt n 2, bt n 3]
theorem u8_bt (n : Int) (k : Nat) : u8 (bt n k) = .int .u8 (n / 2 ^ (8 * k) % 256) := by
 unfold u8
 rw [Zrv]
theorem u8_bt0 (n : Int) : u8 (bt n 0) = .int .u8 (n % 256) := by
 rw [u8_bt]; simp
theorem bt_div (n : Int) (k : Nat) : bt (n / 256 ^ k) 0 = bt n k := by
 unfold bt
 congr 2
 simp only [Nat.mul_zero, Int.pow_zero, Int.ediv_one]
 rw [show (256 : Int) = 2 ^ 8 from rfl, ← Int.pow_mul]
theorem bt_mod (n : Int) : bt (n % 256) 0 = bt n 0 := by
 unfold bt
 simp
def rc (c b k : Nat) : Nat := Zem k (c ^^^ b) ^^^ (b / 2 ^ k)
theorem rc_0 (c b : Nat) : rc c b 0 = c := by simp [rc, Zem, Nat.xor_assoc]
theorem rc_8 {c b : Nat} (h : b < 256) : rc c b 8 = Zem 8 (c ^^^ b) := by
 unfold rc
 rw [show b / 2 ^ 8 = 0 from Nat.div_eq_of_lt h, Nat.xor_zero]
theorem rc_bit (c b k : Nat) : (rc c b k ^^^ (b / 2 ^ k)) % 2 = Zem k (c ^^^ b) % 2 := by
 unfold rc
 rw [Nat.xor_assoc, Nat.xor_self, Nat.xor_zero]
theorem xor_half (a b : Nat) : (a ^^^ b) / 2 = a / 2 ^^^ b / 2 := by
 have := Nat.shiftRight_xor_distrib (a := a) (b := b) (i := 1)
 simpa [Nat.shiftRight_eq_div_pow] using this
theorem rc_succ (c b k : Nat) : rc c b (k + 1) = if Zem k (c ^^^ b) % 2 = 1 then rc c b k / 2 ^^^ 3988292384 else rc c b k / 2 := by
 unfold rc
 rw [Zma, xor_half]
 have e : b / 2 ^ (k + 1) = b / 2 ^ k / 2 := by rw [Nat.pow_succ, ← Nat.div_div_eq_div_mul]
 rw [e]
 unfold Zrg
 split
 ·rename_i h
  rw [h, Nat.mul_one, Nat.xor_assoc, Nat.xor_assoc, Nat.xor_comm 3988292384]
 ·rename_i h
  have h0 : Zem k (c ^^^ b) % 2 = 0 := by omega
  rw [h0, Nat.mul_zero, Nat.xor_zero]
theorem rc_lt {c b k : Nat} (hc : c < 4294967296) (hb : b < 256) : rc c b k < 4294967296 := by
 unfold rc
 refine Nat.xor_lt_two_pow (n := 32) (Znw (Nat.xor_lt_two_pow (n := 32) hc (by omega))) ?_
 exact Nat.lt_of_le_of_lt (Nat.div_le_self _ _) (by omega)
theorem xor_ones {x : Nat} (h : x < 4294967296) : x ^^^ 4294967295 = 4294967295 - x := by
 have h1 : ((BitVec.allOnes 32) ^^^ BitVec.ofNat 32 x).toNat = (~~~ BitVec.ofNat 32 x).toNat := by rw [BitVec.allOnes_xor]
 rw [BitVec.toNat_xor, BitVec.toNat_not, BitVec.toNat_allOnes, BitVec.toNat_ofNat, Nat.mod_eq_of_lt h] at h1
 rw [Nat.xor_comm]
 simpa using h1
set_option maxHeartbeats 2000000 attribute [local irreducible] HW HO HQ HD HC QOp Has Upd Zt Gets Yb Z6 Zr Xr Z4 Zm Xx Zy
theorem Zar (n : Int) (L : Zb) : HC Tryz.prog 158 [iv n] L (fun v L' => v = bs [bt n 0] ∧ L' = L) := by
 have e : ([Value.int .u8 (n % 256)] : List Value) = [bt n 0].map u8 := by simp [u8_bt0]
 refine Za (fun _ _ => Tryz.call158 _ _) Tryz.func158 rfl Tryz.ntmps158 (Nat.le_of_ble_eq_true rfl) ?_; simp only [Zc, Nat.reduceAdd]
 repeat' (first | refine uN ?_ | (refine uB ?_; intro b) | fail)
 rw [e]
 refine Wf (qtx S (Zkd _ _ _ _) rfl) ?_
 repeat' (first | refine uN ?_ | (refine uB ?_; intro b) | fail)
 exact Yi uZ ⟨rfl, rfl⟩
theorem Qf (n : Int) (many : Nat) (L : Zb) (h0 : 0 ≤ n) (h1 : n ≤ 9223372036854775807) (hm : many ≤ 8) : HC Tryz.prog 159 [iv n, iv many] L (fun v L' => v = bs (Xm n many) ∧ L' = L) := by
 refine Za (fun _ _ => Tryz.call159 _ _) Tryz.func159 rfl Tryz.ntmps159 (Nat.le_of_ble_eq_true rfl) ?_; simp only [Zc, Nat.reduceAdd]
 repeat' (first | refine uN ?_ | (refine uP ?_ ?_ <;> (intro h; ((try simp only [zs, ne_eq, and_true, true_and, eq_self, reduceCtorEq] at h); try exact zx))) | fail)
 refine Zn (σ := Nat) (fun i => [(0, iv (n / 256 ^ i)), (1, iv many), (5, bs (Xm n i)), (6, iv i)]) (fun _ => L) (fun i => i ≤ many) (fun i => many - i) 0 ?_ (List.Sublist.refl _) (by omega) ?_
 ·simp only [Int.pow_zero, Int.ediv_one]
  exact uS
 intro i hi
 by_cases hlt : i < many
 ·have hq : 0 ≤ n / 256 ^ i ∧ n / 256 ^ i ≤ 9223372036854775807 := ⟨Int.ediv_nonneg h0 (Int.pow_nonneg (by decide)), Int.le_trans (Int.ediv_le_self _ h0) h1⟩
  have kb := fun L => Zar (n / 256 ^ i % 256) L
  rw [bt_mod, bt_div] at kb
  have hl : ([bt n i].length + (Xm n i).length) ≤ 9223372036854775807 := by simp [Y4]; omega
  have e : n / 256 ^ i / 256 = n / 256 ^ (i + 1) := by rw [Int.pow_succ, Int.ediv_ediv_of_nonneg (Int.pow_nonneg (by decide))]
  repeat' (first | refine uN ?_ | refine uC (kb _) ?_ | (refine uP ?_ ?_ <;> (intro h; ((try simp only [zs, ne_eq, and_true, true_and, eq_self, reduceCtorEq] at h); try exact zx))) | fail)
  rw [e]
  exact Zg (i + 1) uS uL (by omega) (by omega)
 ·have hi2 : i = many := by omega
  subst hi2
  repeat' (first | refine uN ?_ | (refine uP ?_ ?_ <;> (intro h; ((try simp only [zs, ne_eq, and_true, true_and, eq_self, reduceCtorEq] at h); try exact zx))) | fail)
  exact Yi uZ ⟨rfl, rfl⟩
theorem Zso (s : List UInt8) (L : Zb) (hs : s.length ≤ 1000000) : HC Tryz.prog 161 [bs s] L (fun v L' => v = iv (Zor s) ∧ L' = L) := by
 refine Za (fun _ _ => Tryz.call161 _ _) Tryz.func161 rfl Tryz.ntmps161 (Nat.le_of_ble_eq_true rfl) ?_; simp only [Zc, Nat.reduceAdd]
 repeat' (first | refine uN ?_ | (refine uP ?_ ?_ <;> (intro h; ((try simp only [zs, ne_eq, and_true, true_and, eq_self, reduceCtorEq] at h); try exact zx))) | fail)
 refine Zn (σ := Nat) (fun i => [(0, bs s), (3, iv (V8 (s.take i))), (4, iv i)]) (fun _ => L) (fun i => i ≤ s.length) (fun i => s.length - i) 0 uS (List.Sublist.refl _) (by omega) ?_
 intro i hi
 have hc := Zt4 (s.take i)
 by_cases hlt : i < s.length
 ·repeat' (first | refine uN ?_ | (refine uP ?_ ?_ <;> (intro h; ((try simp only [zs, ne_eq, and_true, true_and, eq_self, reduceCtorEq] at h); try exact zx))) | fail)
  have hb : (s.getD i 0).toNat < 256 := (s.getD i 0).toNat_lt
  have e0 : (V8 (s.take i) : Int) = ((rc (V8 (s.take i)) (s.getD i 0).toNat 0 : Nat) : Int) := by rw [rc_0]
  rw [e0]
  refine Zn (σ := Nat) (fun k => [(0, bs s), (3, iv (rc (V8 (s.take i)) (s.getD i 0).toNat k)), (4, iv i), (5, iv k)]) (fun _ => L) (fun k => k ≤ 8) (fun k => 8 - k) 0 uS (List.Sublist.refl _) (by omega) ?_
  intro k hk
  by_cases hk8 : k < 8
  ·have hr := rc_lt (k := k) hc hb
   have hsu := rc_succ (V8 (s.take i)) (s.getD i 0).toNat k
   have hbit := rc_bit (V8 (s.take i)) (s.getD i 0).toNat k
   have hb2 := (s.getD (i : Int).toNat 0).toNat_lt
   have hbk : (s.getD i 0).toNat / 2 ^ k < 256 := Nat.lt_of_le_of_lt (Nat.div_le_self _ _) hb
   have eB : (((s.getD (i : Int).toNat 0).toNat : Nat) : Int) / 2 ^ (k : Int).toNat = (((s.getD i 0).toNat / 2 ^ k : Nat) : Int) := by simp
   have hxl : rc (V8 (s.take i)) (s.getD i 0).toNat k ^^^ ((s.getD i 0).toNat / 2 ^ k) < 4294967296 := Nat.xor_lt_two_pow (n := 32) hr (by omega)
   have hx1 : rc (V8 (s.take i)) (s.getD i 0).toNat k / 2 ^^^ 3988292384 < 4294967296 := Nat.xor_lt_two_pow (n := 32) (by omega) (by decide)
   repeat' (first | refine uN ?_ | (refine uP ?_ ?_ <;> (intro h; ((try simp only [zs, ne_eq, and_true, true_and, eq_self, reduceCtorEq] at h); try exact zx))) | fail)
   rw [eB]
   generalize hr1 : rc (V8 (s.take i)) (s.getD i 0).toNat (k + 1) = r1 at hsu
   generalize rc (V8 (s.take i)) (s.getD i 0).toNat k = r0 at *
   generalize (s.getD i 0).toNat / 2 ^ k = bk at *
   generalize Zem k (V8 (s.take i) ^^^ (s.getD i 0).toNat) = cN at *
   have hxt : (((r0 : Nat) : Int).toNat ^^^ ((bk : Nat) : Int).toNat) = r0 ^^^ bk := by simp
   have hxt2 : (((r0 : Nat) : Int) / 2).toNat ^^^ Int.toNat 3988292384 = r0 / 2 ^^^ 3988292384 := by
    rw [show (((r0 : Nat) : Int) / 2).toNat = r0 / 2 by omega]
    rfl
   rw [← hxt] at hxl hbit
   rw [← hxt2] at hx1
   repeat' (first | refine uN ?_ | (refine uP ?_ ?_ <;> (intro h; ((try simp only [zs, ne_eq, and_true, true_and, eq_self, reduceCtorEq] at h); try exact zx))) | fail)
   ·rw [if_pos (by omega)] at hsu
    rw [hxt2, ← hsu, ← hr1]
    exact Zg (k + 1) uS uL (by omega) (by omega)
   ·rw [if_neg (by omega)] at hsu
    have e9 : ((r0 : Nat) : Int) / 2 = ((r1 : Nat) : Int) := by omega
    rw [e9, ← hr1]
    exact Zg (k + 1) uS uL (by omega) (by omega)
  ·have hk2 : k = 8 := by omega
   subst hk2
   repeat' (first | refine uN ?_ | (refine uP ?_ ?_ <;> (intro h; ((try simp only [zs, ne_eq, and_true, true_and, eq_self, reduceCtorEq] at h); try exact zx))) | fail)
   rw [rc_8 hb]
   have e : V8 (s.take (i + 1)) = Zem 8 (V8 (s.take i) ^^^ (s.getD i 0).toNat) := by
    rw [List.take_succ_eq_append_getElem hlt]
    rw [show ∀ l b, V8 (l ++ [b]) = Zq7 (V8 l) b from fun l b => by simp [V8]]
    simp [Zq7, List.getD, hlt]
   rw [← e]
   exact Zg (i + 1) uS uL (by omega) (by omega)
 ·have hi2 : i = s.length := by omega
  subst hi2
  repeat' (first | refine uN ?_ | (refine uP ?_ ?_ <;> (intro h; ((try simp only [zs, ne_eq, and_true, true_and, eq_self, reduceCtorEq] at h); try exact zx))) | fail)
  refine Yi uZ ⟨congrArg iv ?_, rfl⟩
  rw [List.take_length] at hc ⊢
  have := xor_ones hc
  unfold Zor
  simp only [Int.toNat_natCast]
  rw [show Int.toNat 4294967295 = 4294967295 from rfl, this]
end Go.HL
end

/-! WrB -/
section
namespace Go.HL
open Go Go.Proofs
set_option linter.unusedVariables false
set_option linter.unusedSimpArgs false
def yesN (b : Bool) : Int := if b then 1 else 0
def encA (f : Fr) : List UInt8 := Xm f.fr 1 ++ Xm f.to 1 ++ Xm f.dl 1 ++ Xm f.kd 1 ++ Xm f.att 4
def encB (f : Fr) : List UInt8 := Xm (yesN f.yes) 1 ++ Xm f.s.ph 1 ++ Xm f.s.pr 4 ++ Xm f.s.att 4
def cdF : Option Nat → Int
 | none => 0
 | some c => c
def Zcr (s : List UInt8) (a b : Nat) : Int := (Zak ((s.take b).drop a) : Nat)
set_option maxHeartbeats 2000000 attribute [local irreducible] HW HO HQ HD HC QOp Has Upd Zt Gets Yb Z6 Zr Xr Z4 Zm Xx Zy
attribute [local irreducible] Xm Zor encA encB
theorem Zqo (f : Fr) (L : Zb) : HC Tryz.prog 258 [.agg ⟨fc f⟩] L (fun v L' => v = iv (cdF (Zgv f)) ∧ L' = L) := by
 unfold Zgv
 refine Za (fun _ _ => Tryz.call258 _ _) Tryz.func258 rfl Tryz.ntmps258 (Nat.le_of_ble_eq_true rfl) ?_; simp only [Zc, Nat.reduceAdd]
 by_cases hb : Xv f
 ·rw [if_pos hb]
  repeat' (first | refine uN ?_ | (refine uB ?_; intro b) | (refine uP ?_ ?_ <;> (intro h; ((try simp only [zs, ne_eq, and_true, true_and, eq_self, reduceCtorEq] at h); try exact zx))) | fail)
  all_goals first | exact Yi uZ ⟨rfl, rfl⟩ | (exfalso; unfold Xv at hb; omega)
 ·rw [if_neg hb]
  repeat' (first | refine uN ?_ | (refine uB ?_; intro b) | (refine uP ?_ ?_ <;> (intro h; ((try simp only [zs, ne_eq, and_true, true_and, eq_self, reduceCtorEq] at h); try exact zx))) | fail)
  all_goals first | exact Yi uZ ⟨rfl, rfl⟩ | (exfalso; unfold Xv at hb; omega)
end Go.HL
end

/-! WrC -/
section
namespace Go.HL
open Go Go.Proofs
set_option linter.unusedVariables false
set_option linter.unusedSimpArgs false
theorem put_st (x0 x1 x2 x3 x4 x5 a b c u v w : Value) : Zt [x0, x1, x2, x3, x4, x5, a, b, c] (0 + 6) [u, v, w] [x0, x1, x2, x3, x4, x5, u, v, w] := ⟨rfl, by simp⟩
set_option maxHeartbeats 2000000 attribute [local irreducible] HW HO HQ HD HC QOp Has Upd Zt Gets Yb Z6 Zr Xr Z4 Zm Xx Zy
attribute [local irreducible] Xm Zor encA encB lowB Zak
end Go.HL
end

/-! WrD -/
section
namespace Go.HL
open Go Go.Proofs
set_option linter.unusedVariables false
set_option linter.unusedSimpArgs false
theorem map_getW {α : Type} {enc : α → Value} {xs : List α} {k : Nat} {x : α} (h : xs[k]? = some x) : (xs.map enc)[0 + (k : Int).toNat]? = some (enc x) := by simp [h]
theorem fld_same (s : List UInt8) (a : Nat) : Zcr s a a = 0 := by
 unfold Zcr
 rw [List.drop_eq_nil_of_le (by simp; omega)]; rfl
theorem fld_snoc {s : List UInt8} {a k : Nat} (h : a ≤ k) (hk : k < s.length) : Zcr s a (k + 1) = 256 * Zcr s a k + ((s.getD k 0).toNat : Nat) := by
 unfold Zcr
 rw [List.take_succ_eq_append_getElem hk, List.drop_append_of_le_length (by simp; omega), Zk0]
 simp [List.getD, hk]
 omega
theorem Zir {s : List UInt8} {a k : Nat} (h : k ≤ a + 4) : 0 ≤ Zcr s a k ∧ Zcr s a k < 4294967296 := by
 unfold Zcr
 have h1 := Zof ((s.take k).drop a)
 have h2 : ((s.take k).drop a).length ≤ 4 := by simp; omega
 have h3 : 256 ^ ((s.take k).drop a).length ≤ 256 ^ 4 := Nat.pow_le_pow_right (by decide) h2
 omega
set_option maxHeartbeats 2000000 attribute [local irreducible] HW HO HQ HD HC QOp Has Upd Zt Gets Yb Z6 Zr Xr Z4 Zm Xx Zy
attribute [local irreducible] Xm Zor encA encB lowB Zak Zcr
end Go.HL
end

/-! JaA -/
section
namespace Go.HL
open Go Go.Proofs
set_option linter.unusedVariables false
set_option linter.unusedSimpArgs false
def ends4 : List Int := [4, 5, 9, 13]
def Zq1 : Nat → Nat
 | 0 => 4 | 1 => 5 | 2 => 9 | _ => 13
def Ztc : Nat → Nat
 | 0 => 0
 | i + 1 => Zq1 i
theorem en4_get {i : Nat} (h : i < 4) : ends4[i]? = some (Zq1 i : Int) := by
 have : ∀ i, i < 4 → ends4[i]? = some (Zq1 i : Int) := by decide
 exact this i h
theorem en4_fact {i : Nat} (h : i < 4) : Ztc i ≤ Zq1 i ∧ Zq1 i ≤ 13 ∧ Zq1 i ≤ Ztc i + 4 := by
 have : ∀ i, i < 4 → Ztc i ≤ Zq1 i ∧ Zq1 i ≤ 13 ∧ Zq1 i ≤ Ztc i + 4 := by decide
 exact this i h
def Zr8 (s : List UInt8) (i : Nat) : List Int := (List.range i).map fun q => Zcr s (Ztc q) (Zq1 q)
theorem Zvo (s : List UInt8) (i : Nat) : Zr8 s (i + 1) = Zr8 s i ++ [Zcr s (Ztc i) (Zq1 i)] := by
 unfold Zr8
 rw [List.range_succ, List.map_append]; rfl
theorem Zi1 (s : List UInt8) (i : Nat) : (Zr8 s i).length = i := by simp [Zr8]
theorem Zwi (s : List UInt8) : Zcq s = ⟨Zcr s 0 4, Zcr s 4 5, Zcr s 5 9, Zcr s 9 13⟩ := rfl
theorem slot_cut (b : List UInt8) (i : Nat) : (b.take (((i : Int) + 1) * 18).toNat).drop ((i : Int) * 18).toNat = Xd b i := by
 unfold Xd
 rw [List.drop_take, show ((i : Int) * 18).toNat = i * 18 by omega, show (((i : Int) + 1) * 18).toNat - i * 18 = 18 by omega]
theorem upd_zero (k : Int) (s : List UInt8) (hs : 4 ≤ s.length) : V2 Zl (Y2 k s) = Y2 k s := by
 unfold V2
 split
 ·rfl
 ·rename_i h
  have hn := Zh3 k s hs
  have h0 : (Y2 k s).n = 0 := by simp only [Zl] at h; omega
  rw [Qe] at h0 ⊢
  split
  ·rfl
  ·rename_i hc
   rw [if_neg hc] at h0
   omega
theorem deal_two {b : List UInt8} {d : Nat} (hd : d < 6) (hl : 216 ≤ b.length) : Xa b d = if (Y2 0 (Xd b (2 * d))).n < (Y2 1 (Xd b (2 * d + 1))).n then Y2 1 (Xd b (2 * d + 1)) else Y2 0 (Xd b (2 * d)) := by
 unfold Xa
 simp only [W9]
 rw [show ((0 : Nat) : Int) = 0 from rfl, show ((1 : Nat) : Int) = 1 from rfl, Nat.add_zero, upd_zero _ _ (by rw [Zbl _ _ (by omega) hl]; decide)]
 rfl
set_option maxHeartbeats 2000000 attribute [local irreducible] HW HO HQ HD HC QOp Has Upd Zt Gets Yb Z6 Zr Xr Z4 Zm Xx Zy
attribute [local irreducible] Xm Zor encA encB lowB Zak Zcr
theorem Zhw (e : Ent) (L : Zb) (h0 : 0 ≤ e.n ∧ e.n ≤ 9223372036854775807) (h1 : 0 ≤ e.s.ph ∧ e.s.ph ≤ 9223372036854775807) (h2 : 0 ≤ e.s.pr ∧ e.s.pr ≤ 9223372036854775807) (h3 : 0 ≤ e.s.att ∧ e.s.att ≤ 9223372036854775807) : HC Tryz.prog 262 [iv e.n, .agg ⟨sc e.s⟩] L (fun v L' => v = bs (Y0 e) ∧ L' = L) := by
 have k1 := fun L => Qf e.n 4 L h0.1 h0.2 (by decide)
 have k2 := fun L => Qf e.s.ph 1 L h1.1 h1.2 (by decide)
 have k3 := fun L => Qf e.s.pr 4 L h2.1 h2.2 (by decide)
 have k4 := fun L => Qf e.s.att 4 L h3.1 h3.2 (by decide)
 have hcl : Zor (head e) < 4294967296 := by unfold Zor; omega
 have k5 := fun L => Qf (Zor (head e)) 4 L (by omega) (by omega) (by decide)
 have hh : (head e).length = 13 := by simp [head, Y4]
 have k6 := fun L => Zso (head e) L (by omega)
 have n1 := Y4 e.n 4
 have n2 := Y4 e.s.ph 1
 have n3 := Y4 e.s.pr 4
 have n4 := Y4 e.s.att 4
 have n5 := Y4 (Zor (head e)) 4
 have e1 : Xm e.n 4 ++ Xm e.s.ph 1 ++ Xm e.s.pr 4 ++ Xm e.s.att 4 = head e := rfl
 refine Za (fun _ _ => Tryz.call262 _ _) Tryz.func262 rfl Tryz.ntmps262 (Nat.le_of_ble_eq_true rfl) ?_; simp only [Zc, Nat.reduceAdd]
 repeat' (first | refine uN ?_ | refine Z7 S ?_ | refine uC (k1 _) ?_ | refine uC (k2 _) ?_ | refine uC (k3 _) ?_ | refine uC (k4 _) ?_ | (refine uB ?_; intro b) | fail)
 rw [e1]
 repeat' (first | refine uN ?_ | refine Z7 S ?_ | refine uC (k5 _) ?_ | refine uC (k6 _) ?_ | (refine uB ?_; intro b) | fail)
 exact Yi (L' := L) uL ⟨rfl, rfl⟩
theorem Zg8 (bb : List UInt8) (i : Nat) (L : Zb) (hi : i < 12) (hl : 216 ≤ bb.length) (hh : bb.length ≤ 1000000) : HC Tryz.prog 201 [bs bb, iv i] L (fun v L' => v = .tuple ⟨[iv (Y2 ((i : Int) % 2) (Xd bb i)).n, .agg ⟨sc (Y2 ((i : Int) % 2) (Xd bb i)).s⟩]⟩ ∧ L' = L) := by
 have hs := Zbl bb i hi hl
 have hc := slot_cut bb i
 rw [Qe, Zwi]
 refine Za (fun _ _ => Tryz.call201 _ _) Tryz.func201 rfl Tryz.ntmps201 (Nat.le_of_ble_eq_true rfl) ?_; simp only [Zc, Nat.reduceAdd]
 repeat' (first | refine uN ?_ | refine Z7 S ?_ | refine Yu S ?_ | (refine uB ?_; intro b) | (refine uP ?_ ?_ <;> (intro h; ((try simp only [zs, ne_eq, and_true, true_and, eq_self, reduceCtorEq] at h); try exact zx))) | refine da 101 ?_ | fail)
 rw [hc]
 generalize Xd bb i = s at *
 rename_i bR
 generalize b = bE
 refine Wi (L' := [] :: [(bE, .cells ⟨ends4.map iv⟩ 3)] :: [(bR, .cells ⟨sc ⟨0, 0, 0⟩⟩ 43)] :: L) ?_ uL
 refine Zn (σ := Nat × Value × List Zq) (fun q => [(1, iv i), (5, pt bR 0), (6, bs s), (7, q.2.1), (8, sl bE 0 4 4), (9, iv (Ztc q.1)), (10, iv q.1)]) (fun q => q.2.2 :: [(bE, .cells ⟨ends4.map iv⟩ 3)] :: [(bR, .cells ⟨sc ⟨0, 0, 0⟩⟩ 43)] :: L) (fun q => q.1 ≤ 4 ∧ Vec 3 1 ic q.2.1 (Zr8 s q.1) q.2.2) (fun q => 4 - q.1) (0, Y3, []) uS (List.Sublist.refl _) ⟨by simp, Zu⟩ ?_
 rintro ⟨i4, v, c⟩ ⟨hi4, hv⟩
 simp only at hi4 hv ⊢
 by_cases hlt : i4 < 4
 ·obtain ⟨f1, f2, f3⟩ := en4_fact hlt
  have ge := map_getW (enc := iv) (en4_get hlt)
  repeat' (first | refine uN ?_ | refine Yc S ?_ | (refine uB ?_; intro b) | (refine uP ?_ ?_ <;> (intro h; ((try simp only [zs, ne_eq, and_true, true_and, eq_self, reduceCtorEq] at h); try exact zx))) | refine da 101 ?_ | fail)
  have e0 : (Value.int .i64 0) = iv (Zcr s (Ztc i4) (Ztc i4)) := by rw [fld_same]
  rw [e0]
  refine Zn (σ := Nat) (fun k => [(1, iv i), (5, pt bR 0), (6, bs s), (7, v), (8, sl bE 0 4 4), (9, iv k), (10, iv i4), (11, iv (Zcr s (Ztc i4) k))]) (fun _ => c :: [(bE, .cells ⟨ends4.map iv⟩ 3)] :: [(bR, .cells ⟨sc ⟨0, 0, 0⟩⟩ 43)] :: L) (fun k => Ztc i4 ≤ k ∧ k ≤ Zq1 i4) (fun k => Zq1 i4 - k) (Ztc i4) uS (List.Sublist.refl _) ⟨Nat.le_refl _, f1⟩ ?_
  rintro k ⟨k3, k4⟩
  have hfl := Zir (s := s) (a := Ztc i4) (k := k) (by omega)
  by_cases hk : k < Zq1 i4
  ·have hb2 := (s.getD (k : Int).toNat 0).toNat_lt
   have hsn := fld_snoc (s := s) k3 (show k < s.length by omega)
   have ek : s.getD (k : Int).toNat 0 = s.getD k 0 := rfl
   repeat' (first | refine uN ?_ | refine Yc S ?_ | (refine uB ?_; intro b) | (refine uP ?_ ?_ <;> (intro h; ((try simp only [zs, ne_eq, and_true, true_and, eq_self, reduceCtorEq] at h); try exact zx))) | refine da 101 ?_ | fail)
   rw [ek, ← hsn]
   exact Zg (k + 1) uS uL ⟨by omega, by omega⟩ (by omega)
  ·have hke : k = Zq1 i4 := by omega
   subst hke
   have hvl := Zi1 s i4
   repeat' (first | refine uN ?_ | refine Yc S ?_ | (refine uB ?_; intro b) | (refine uP ?_ ?_ <;> (intro h; ((try simp only [zs, ne_eq, and_true, true_and, eq_self, reduceCtorEq] at h); try exact zx))) | refine da 101 ?_ | fail)
   refine fo 1 ?_
   refine Zeb S (Zcr s (Ztc i4) (Zq1 i4)) hv (fun _ => rfl) (fun _ => rfl) ?_
   intro v' c' hv'
   rw [← Zvo] at hv'
   repeat' (first | refine uN ?_ | refine Yc S ?_ | (refine uB ?_; intro b) | (refine uP ?_ ?_ <;> (intro h; ((try simp only [zs, ne_eq, and_true, true_and, eq_self, reduceCtorEq] at h); try exact zx))) | refine da 101 ?_ | fail)
   exact Zg (i4 + 1, v', c') uS uL ⟨by simp only; omega, hv'⟩ (by simp only; omega)
 ·have hi9 : i4 = 4 := by omega
  subst hi9
  rcases hv with ⟨rfl, h0, -, rfl⟩ | ⟨bv, capv, spv, rfl, rfl, hcs, hle, hall⟩
  ·simp [Zi1] at h0
  have ev : (List.map ic (Zr8 s 4)).flatten ++ spv = [iv (Zcr s 0 4), iv (Zcr s 4 5), iv (Zcr s 5 9), iv (Zcr s 9 13)] ++ spv := rfl
  rw [ev, Zi1]
  have u0 := Zir (s := s) (a := 0) (k := 4) (by omega)
  have u1 := Zir (s := s) (a := 4) (k := 5) (by omega)
  have u2 := Zir (s := s) (a := 5) (k := 9) (by omega)
  have u3 := Zir (s := s) (a := 9) (k := 13) (by omega)
  have kb := fun L => Zhw ⟨Zcr s 0 4, ⟨Zcr s 4 5, Zcr s 5 9, Zcr s 9 13⟩⟩ L ⟨u0.1, by simp only; omega⟩ ⟨u1.1, by simp only; omega⟩ ⟨u2.1, by simp only; omega⟩ ⟨u3.1, by simp only; omega⟩
  have hbl := Qz ⟨Zcr s 0 4, ⟨Zcr s 4 5, Zcr s 5 9, Zcr s 9 13⟩⟩
  generalize Zcr s 0 4 = x0 at *
  generalize Zcr s 4 5 = x1 at *
  generalize Zcr s 5 9 = x2 at *
  generalize Zcr s 9 13 = x3 at *
  have kt := fun L => Zar 165 L
  rw [show bt 165 0 = 165 by decide +kernel] at kt
  repeat' (first | refine uN ?_ | refine Z7 S ?_ | refine Yu S ?_ | refine uC (kb _) ?_ | refine uC (kt _) ?_ | refine Yg (fun _ => kb _) ?_ | refine Yd (fun _ => kb _) ?_ | refine Yf (fun _ => kb _) ?_ | refine Yh (fun _ => kb _) ?_ | refine Yg (fun _ => kt _) ?_ | refine Yd (fun _ => kt _) ?_ | refine Yf (fun _ => kt _) ?_ | refine Yh (fun _ => kt _) ?_ | (refine uB ?_; intro b) | (refine uP ?_ ?_ <;> (intro h; ((try simp only [zs, ne_eq, and_true, true_and, eq_self, reduceCtorEq] at h); try exact zx))) | refine da 101 ?_ | fail)
  ·rw [if_pos (.inl h)]
   exact Qj (L' := L) uL ⟨rfl, rfl⟩ (hy := Ww S (hg := X2 _))
  ·rw [if_pos (.inr (.inl h))]
   exact Qj (L' := L) uL ⟨rfl, rfl⟩ (hy := Ww S (hg := X2 _))
  ·rw [if_pos (.inr (.inr h))]
   exact Qj (L' := L) uL ⟨rfl, rfl⟩ (hy := Ww S (hg := X2 _))
  ·rename_i h1 h2
   rw [if_neg (fun h0 => h0.elim h1 (fun h0 => h0.elim (fun h0 => h0 h2) (fun h0 => h0 h)))]
   exact Qj (L' := L) uL ⟨rfl, rfl⟩ (hy := Ww S (hg := X2 _))
theorem Zd6 (bb : List UInt8) (d : Nat) (L : Zb) (hd : d < 6) (hl : 216 ≤ bb.length) (hh : bb.length ≤ 1000000) : HC Tryz.prog 156 [bs bb, iv d] L (fun v L' => v = .tuple ⟨[iv (Xa bb d).n, .agg ⟨sc (Xa bb d).s⟩]⟩ ∧ L' = L) := by
 have k1 := fun L => Zg8 bb (2 * d) L (by omega) hl hh
 have k2 := fun L => Zg8 bb (2 * d + 1) L (by omega) hl hh
 rw [show (((2 * d : Nat) : Int) % 2) = 0 by omega, show (((2 * d : Nat) : Int)) = 2 * (d : Int) by omega] at k1
 rw [show (((2 * d + 1 : Nat) : Int) % 2) = 1 by omega, show (((2 * d + 1 : Nat) : Int)) = 2 * (d : Int) + 1 by omega] at k2
 rw [deal_two hd hl]
 generalize Y2 0 (Xd bb (2 * d)) = e0 at *
 generalize Y2 1 (Xd bb (2 * d + 1)) = e1 at *
 refine Za (fun _ _ => Tryz.call156 _ _) Tryz.func156 rfl Tryz.ntmps156 (Nat.le_of_ble_eq_true rfl) ?_; simp only [Zc, Nat.reduceAdd]
 by_cases h0 : e0.n < e1.n
 ·rw [if_pos h0]
  repeat' (first | refine uN ?_ | refine Z7 S ?_ | refine Yu S ?_ | refine uC (k1 _) ?_ | refine uC (k2 _) ?_ | refine Yg (fun _ => k1 _) ?_ | refine Yd (fun _ => k1 _) ?_ | refine Yf (fun _ => k1 _) ?_ | refine Yh (fun _ => k1 _) ?_ | refine Yg (fun _ => k2 _) ?_ | refine Yd (fun _ => k2 _) ?_ | refine Yf (fun _ => k2 _) ?_ | refine Yh (fun _ => k2 _) ?_ | (refine uB ?_; intro b) | (refine uP ?_ ?_ <;> (intro h; ((try simp only [zs, ne_eq, and_true, true_and, eq_self, reduceCtorEq] at h); try exact zx))) | refine da 101 ?_ | fail)
  exact Qj (L' := L) uL ⟨rfl, rfl⟩ (hy := Ww S (hg := X2 _))
 ·rw [if_neg h0]
  repeat' (first | refine uN ?_ | refine Z7 S ?_ | refine Yu S ?_ | refine uC (k1 _) ?_ | refine uC (k2 _) ?_ | refine Yg (fun _ => k1 _) ?_ | refine Yd (fun _ => k1 _) ?_ | refine Yf (fun _ => k1 _) ?_ | refine Yh (fun _ => k1 _) ?_ | refine Yg (fun _ => k2 _) ?_ | refine Yd (fun _ => k2 _) ?_ | refine Yf (fun _ => k2 _) ?_ | refine Yh (fun _ => k2 _) ?_ | (refine uB ?_; intro b) | (refine uP ?_ ?_ <;> (intro h; ((try simp only [zs, ne_eq, and_true, true_and, eq_self, reduceCtorEq] at h); try exact zx))) | refine da 101 ?_ | fail)
  exact Qj (L' := L) uL ⟨rfl, rfl⟩ (hy := Ww S (hg := X2 _))
end Go.HL
end

/-! JaB -/
section
namespace Go.HL
open Go Go.Proofs
set_option linter.unusedVariables false
set_option linter.unusedSimpArgs false
structure RJ where
 rj : Nat
 rp : Nat
 bN : Nat
 capN : Nat
 spN : List Value
 bS : Nat
 capS : Nat
 spS : List Value
def Zf4 (r : RJ) (dead : Bool) : List Value := [pt r.rp 0, sl r.bN 0 6 r.capN, sl r.bS 0 6 r.capS, .bool dead]
def Ql (r : RJ) (j : Jn) : List Zq := [(r.rj, .cells ⟨Zf4 r j.dead⟩ 214), (r.bN, .cells ⟨((j.l.map Ent.n).map ic).flatten ++ r.spN⟩ 3), (r.bS, .cells ⟨((j.l.map Ent.s).map sc).flatten ++ r.spS⟩ 43)]
theorem Zrf {b : List UInt8} {d : Nat} (hd : d < 6) : (Zo b).take (d + 1) = (Zo b).take d ++ [Xa b d] := by
 have h : (Zo b).length = 6 := by simp [Zo]
 rw [List.take_succ_eq_append_getElem (by omega)]
 simp [Zo]
theorem Zl4 (b : List UInt8) : (Zo b).length = 6 := by simp [Zo]
set_option maxHeartbeats 2000000 attribute [local irreducible] HW HO HQ HD HC QOp Has Upd Zt Gets Yb Z6 Zr Xr Z4 Zm Xx Zy
attribute [local irreducible] Zo Xa
theorem Zpk (rp : Nat) (m : Pl) (left : Int) (L : Zb) (hl : 216 ≤ m.b.length) (hh : m.b.length ≤ 1000000) : HC Tryz.prog 138 [pt rp 0] (We rp m left :: L) (fun v L' => ∃ r : RJ, r.rp = rp ∧ v = pt r.rj 0 ∧ L' = Ql r ⟨Zo m.b, false⟩ :: We rp m left :: L) := by
 refine Za (fun _ _ => Tryz.call138 _ _) Tryz.func138 rfl Tryz.ntmps138 (Nat.le_of_ble_eq_true rfl) ?_; simp only [Zc, Nat.reduceAdd]
 repeat' (first | refine uN ?_ | refine Yc S ?_ | (refine uB ?_; intro b) | (refine uP ?_ ?_ <;> (intro h; ((try simp only [zs, ne_eq, and_true, true_and, eq_self, reduceCtorEq] at h); try exact zx))) | refine da 101 ?_ | fail)
 generalize b = b3
 refine Wi (L' := [] :: [] :: [(b3, .cells ⟨[pt rp 0, Y3, Y3, .bool false]⟩ 214)] :: We rp m left :: L) ?_ uL
 refine Zn (σ := Nat × (Value × List Zq) × (Value × List Zq)) (fun q => [(0, pt rp 0), (3, pt b3 0), (4, iv q.1)]) (fun q => q.2.1.2 :: q.2.2.2 :: [(b3, .cells ⟨[pt rp 0, q.2.1.1, q.2.2.1, .bool false]⟩ 214)] :: We rp m left :: L) (fun q => q.1 ≤ 6 ∧ Vec 3 1 ic q.2.1.1 (((Zo m.b).take q.1).map Ent.n) q.2.1.2 ∧ Vec 43 3 sc q.2.2.1 (((Zo m.b).take q.1).map Ent.s) q.2.2.2) (fun q => 6 - q.1) (0, (Y3, []), (Y3, [])) uS (List.Sublist.refl _) ⟨by simp, Zu, Zu⟩ ?_
 rintro ⟨d, ⟨vN, cN⟩, ⟨vS, cS⟩⟩ ⟨hd, hN, hS⟩
 simp only at hd hN hS ⊢
 by_cases hlt : d < 6
 ·have k1 := fun L => Zd6 m.b d L hlt hl hh
  have et := Zrf (b := m.b) hlt
  have hol := Zl4 m.b
  generalize Xa m.b d = e at *
  have hNl : (List.map Ent.n (List.take d (Zo m.b))).length ≤ 6 := by simp; omega
  have hSl : (List.map Ent.s (List.take d (Zo m.b))).length ≤ 6 := by simp; omega
  repeat' (first | refine uN ?_ | refine Yc S ?_ | refine uC (k1 _) ?_ | refine Yg (fun _ => k1 _) ?_ | refine Yd (fun _ => k1 _) ?_ | refine Yf (fun _ => k1 _) ?_ | refine Yh (fun _ => k1 _) ?_ | (refine uB ?_; intro b) | (refine uP ?_ ?_ <;> (intro h; ((try simp only [zs, ne_eq, and_true, true_and, eq_self, reduceCtorEq] at h); try exact zx))) | refine da 101 ?_ | fail)
  refine fo 2 ?_
  refine Zeb S e.n hN (fun _ => rfl) (fun _ => rfl) ?_
  intro v1 c1 hv1
  have e1 : List.map Ent.n (List.take d (Zo m.b)) ++ [e.n] = List.map Ent.n (List.take (d + 1) (Zo m.b)) := by rw [et, List.map_append]; rfl
  rw [e1] at hv1
  obtain ⟨a1, p1, rfl, -, -⟩ := Vec.rd hv1 (fun _ => rfl)
  repeat' (first | refine uN ?_ | refine Yc S ?_ | (refine uB ?_; intro b) | (refine uP ?_ ?_ <;> (intro h; ((try simp only [zs, ne_eq, and_true, true_and, eq_self, reduceCtorEq] at h); try exact zx))) | refine da 101 ?_ | fail)
  refine fo 4 ?_
  have scl : ∀ s, (sc s).length = 3 := fun _ => rfl
  have sco : ∀ s, (sc s).all Value.oneCell' = true := fun _ => rfl
  refine Zeb (enc := sc) (xs := List.map Ent.s (List.take d (Zo m.b))) S e.s hS scl sco ?_
  intro v2 c2 hv2
  have e2 : List.map Ent.s (List.take d (Zo m.b)) ++ [e.s] = List.map Ent.s (List.take (d + 1) (Zo m.b)) := by rw [et, List.map_append]; rfl
  rw [e2] at hv2
  obtain ⟨a2, p2, rfl, -, -⟩ := Vec.rd hv2 (fun _ => rfl)
  repeat' (first | refine uN ?_ | refine Yc S ?_ | (refine uB ?_; intro b) | (refine uP ?_ ?_ <;> (intro h; ((try simp only [zs, ne_eq, and_true, true_and, eq_self, reduceCtorEq] at h); try exact zx))) | refine da 101 ?_ | fail)
  exact Zg (d + 1, (_, c1), (_, c2)) uS uL ⟨by simp only; omega, hv1, hv2⟩ (by simp only; omega)
 ·obtain rfl : d = 6 := by omega
  have hol := Zl4 m.b
  rw [List.take_of_length_le (by omega)] at hN hS
  rcases hN with ⟨rfl, h0, -, rfl⟩ | ⟨bN, capN, spN, rfl, rfl, hcsN, hleN, hallN⟩
  ·simp [hol] at h0
  rcases hS with ⟨rfl, h0, -, rfl⟩ | ⟨bS, capS, spS, rfl, rfl, hcsS, hleS, hallS⟩
  ·simp [hol] at h0
  simp only [List.length_map, hol]
  refine fw 2 ?_
  repeat' (first | refine uN ?_ | refine Yc S ?_ | (refine uB ?_; intro b) | (refine uP ?_ ?_ <;> (intro h; ((try simp only [zs, ne_eq, and_true, true_and, eq_self, reduceCtorEq] at h); try exact zx))) | refine da 101 ?_ | fail)
  exact Yi (L' := Ql ⟨b3, rp, bN, capN, spN, bS, capS, spS⟩ ⟨Zo m.b, false⟩ :: We rp m left :: L) (LS.of_eq rfl) ⟨⟨b3, rp, bN, capN, spN, bS, capS, spS⟩, rfl, rfl, rfl⟩
end Go.HL
end

/-! JaC -/
section
namespace Go.HL
open Go Go.Proofs
set_option linter.unusedVariables false
set_option linter.unusedSimpArgs false
theorem Zkf {m : Pl} {a n : Int} {x : Nat} (h : X9 m a n = some x) : x = 2 ∨ x = 6 := by
 unfold X9 at h
 split at h
 ·cases h; exact .inl rfl
 ·split at h
  ·cases h; exact .inr rfl
  ·cases h
theorem Uh {m : Pl} {a : Int} {s : List UInt8} {x : Nat} (h : (Ya m a s).2 = some x) : x = 2 ∨ x = 6 := by
 unfold Ya at h
 split at h
 ·rename_i e he
  cases h
  exact Zkf he
 ·unfold Za5 at h
  simp only at h
  split at h
  ·cases h; exact .inr rfl
  ·cases h
theorem Zds (m : Pl) (a n : Int) : (U1 m a n).2 = X9 m a n := by
 unfold U1
 split <;> simp_all
theorem Zi3 {m : Pl} {a : Int} (h : X9 m a 1 = none) : (U1 m a 1).1 = [0] ↔ m.b.getD a.toNat 0 = 0 := by
 obtain ⟨h0, -, h1, -⟩ := Zep h
 unfold U1
 rw [h]
 simp only
 have hlt : a.toNat < m.b.length := by omega
 rw [List.drop_eq_getElem_cons hlt]
 show ([m.b[a.toNat]] : List UInt8) = [0] ↔ _
 simp [List.getD, hlt]
theorem jw1_zero {m : Pl} {d : Int} {e : Ent} (h : X9 m (Ux d e + 18 - 1) 1 = none) (hz : m.b.getD (Ux d e + 18 - 1).toNat 0 = 0) : Zbj m d e = (m, none) := by
 unfold Zbj
 rw [Zds, h]
 simp only
 rw [if_pos ((Zi3 h).2 hz)]
theorem jw1_some {m : Pl} {d : Int} {e : Ent} (h : X9 m (Ux d e + 18 - 1) 1 = none) (hz : ¬ m.b.getD (Ux d e + 18 - 1).toNat 0 = 0) : Zbj m d e = Ya m (Ux d e + 18 - 1) [0] := by
 unfold Zbj
 rw [Zds, h]
 simp only
 rw [if_neg (fun h0 => hz ((Zi3 h).1 h0))]
theorem rN_get {r : RJ} {j : Jn} {d : Nat} {e : Ent} (h : j.l[d]? = some e) : (((j.l.map Ent.n).map ic).flatten ++ r.spN)[0 + (d : Int).toNat]? = some (iv e.n) := by
 have := Uo (enc := ic) (sz := 1) (fun _ => rfl) (j.l.map Ent.n) r.spN [] d e.n (by simp [h])
 have := this 0 (iv e.n) rfl
 simpa using this
theorem Znc {r : RJ} {j : Jn} {d : Nat} {e : Ent} (h : j.l[d]? = some e) : Gets (((j.l.map Ent.s).map sc).flatten ++ r.spS) (0 + (d : Int).toNat * 3) (sc e.s) := by
 have := Uo (enc := sc) (sz := 3) (fun _ => rfl) (j.l.map Ent.s) r.spS [] d e.s (by simp [h])
 simpa using this
theorem rN_put {r : RJ} {j : Jn} {d : Nat} (e : Ent) (h : d < j.l.length) : Zt (((j.l.map Ent.n).map ic).flatten ++ r.spN) (0 + (d : Int).toNat) [iv e.n] ((((j.l.set d e).map Ent.n).map ic).flatten ++ r.spN) := by
 have := Zcm (enc := ic) (sz := 1) (fun _ => rfl) (j.l.map Ent.n) r.spN [] d (0 + (d : Int).toNat) e.n (by simpa using h) (by simp)
 rw [List.map_set]
 exact this
theorem rS_put {r : RJ} {j : Jn} {d : Nat} (e : Ent) (h : d < j.l.length) : Zt (((j.l.map Ent.s).map sc).flatten ++ r.spS) (0 + (d : Int).toNat * 3) (sc e.s) ((((j.l.set d e).map Ent.s).map sc).flatten ++ r.spS) := by
 have := Zcm (enc := sc) (sz := 3) (fun _ => rfl) (j.l.map Ent.s) r.spS [] d (0 + (d : Int).toNat * 3) e.s (by simpa using h) (by simp)
 rw [List.map_set]
 simpa using this
set_option maxHeartbeats 2000000 attribute [local irreducible] HW HO HQ HD HC QOp Has Upd Zt Gets Yb Z6 Zr Xr Z4 Zm Xx Zy
set_option maxHeartbeats 2000000 in
theorem Zr9 (r : RJ) (m : Pl) (j : Jn) (left : Int) (deal : Int) (s : St) (L : Zb) (hm : PlOk m) (hj : JnOk j) (hleft : m.cut ≠ -1 → left = m.cut) :
  HC Tryz.prog 259 [pt r.rj 0, iv deal, .agg ⟨sc s⟩] (Ql r j :: We r.rp m left :: L) (fun v L' => v = iv (Xy (Xo m j deal s).2.2) ∧ ∃ left', ((Xo m j deal s).1.cut ≠ -1 → left' = (Xo m j deal s).1.cut) ∧ L' = Ql r (Xo m j deal s).2.1 :: We r.rp (Xo m j deal s).1 left' :: L) := by
 by_cases h1 : j.dead = true
 ·rw [show Xo m j deal s = (m, j, some 6) from if_pos h1]
  obtain ⟨jl, dead⟩ := j
  simp only at h1
  subst h1
  refine Za (fun _ _ => Tryz.call259 _ _) Tryz.func259 rfl Tryz.ntmps259 (Nat.le_of_ble_eq_true rfl) ?_; simp only [Zc, Nat.reduceAdd]
  repeat' (first | refine uN ?_ | refine Z7 S ?_ | refine Yu S ?_ | (refine uB ?_; intro b) | (refine uP ?_ ?_ <;> (intro h; ((try simp only [zs, ne_eq, and_true, true_and, eq_self, reduceCtorEq] at h); try exact zx))) | refine da 101 ?_ | fail)
  exact Yi (L' := Ql r ⟨jl, true⟩ :: We r.rp m left :: L) uL ⟨rfl, left, hleft, rfl⟩
 obtain ⟨jl, dead⟩ := j
 obtain rfl : dead = false := by simpa using h1
 by_cases h2 : V5 deal s
 ·rw [show Xo m ⟨jl, false⟩ deal s = (m, ⟨jl, false⟩, some 2) by unfold Xo; rw [if_neg h1, if_pos h2]]
  unfold V5 at h2
  refine Za (fun _ _ => Tryz.call259 _ _) Tryz.func259 rfl Tryz.ntmps259 (Nat.le_of_ble_eq_true rfl) ?_; simp only [Zc, Nat.reduceAdd]
  repeat' (first | refine uN ?_ | refine Z7 S ?_ | refine Yu S ?_ | (refine uB ?_; intro b) | (refine uP ?_ ?_ <;> (intro h; ((try simp only [zs, ne_eq, and_true, true_and, eq_self, reduceCtorEq] at h); try exact zx))) | refine da 101 ?_ | fail)
  all_goals exact Yi (L' := Ql r ⟨jl, false⟩ :: We r.rp m left :: L) uL ⟨rfl, left, hleft, rfl⟩
 have hb := h2
 unfold V5 at hb
 obtain ⟨d, rfl⟩ := Int.eq_ofNat_of_zero_le (show 0 ≤ deal by omega)
 have hd : d < 6 := by omega
 have hlen : jl.length = 6 := hj.len
 have n0 : 0 ≤ (jl.getD d Zl).n := hj.n0 d
 have n1 : (jl.getD d Zl).n ≤ 4294967296 := hj.n1 d
 have hp : Xo m ⟨jl, false⟩ d s = if (jl.getD d Zl).s = s then (m, ⟨jl, false⟩, none) else if 4294967296 ≤ (jl.getD d Zl).n + 1 then (m, ⟨jl, false⟩, some 5) else
   match (Qu m d ⟨(jl.getD d Zl).n + 1, s⟩).2 with
   | some x => ((Qu m d ⟨(jl.getD d Zl).n + 1, s⟩).1, ⟨jl, true⟩, some x)
   | none => ((Qu m d ⟨(jl.getD d Zl).n + 1, s⟩).1, ⟨jl.set d ⟨(jl.getD d Zl).n + 1, s⟩, false⟩, none) := by
  unfold Xo; rw [if_neg h1, if_neg h2]; rfl
 have he : jl[d]? = some (jl.getD d Zl) := by
  rw [List.getD, List.getElem?_eq_getElem (by omega)]; rfl
 have g1 := rN_get (r := r) (j := ⟨jl, false⟩) he
 have g2 := Znc (r := r) (j := ⟨jl, false⟩) he
 have p1 := rN_put (r := r) (j := ⟨jl, false⟩) (d := d) ⟨(jl.getD d Zl).n + 1, s⟩ (by simp only; omega)
 have p2 := rS_put (r := r) (j := ⟨jl, false⟩) (d := d) ⟨(jl.getD d Zl).n + 1, s⟩ (by simp only; omega)
 simp only at g1 g2 p1 p2
 generalize hE : jl.getD d Zl = e at *
 clear hj h2 he hE h1
 by_cases h3 : e.s = s
 ·rw [hp, if_pos h3]
  subst h3
  refine Za (fun _ _ => Tryz.call259 _ _) Tryz.func259 rfl Tryz.ntmps259 (Nat.le_of_ble_eq_true rfl) ?_; simp only [Zc, Nat.reduceAdd]
  repeat' (first | refine uN ?_ | refine Z7 S ?_ | refine Yu S ?_ | (refine uB ?_; intro b) | (refine uP ?_ ?_ <;> (intro h; ((try simp only [zs, ne_eq, and_true, true_and, eq_self, reduceCtorEq] at h); try exact zx))) | refine da 101 ?_ | fail)
  all_goals exact Yi (L' := Ql r ⟨jl, false⟩ :: We r.rp m left :: L) uL ⟨rfl, left, hleft, rfl⟩
 have h3' : ¬ (e.s.ph = s.ph ∧ e.s.pr = s.pr ∧ e.s.att = s.att) := fun h => h3 (St.ext3 h)
 by_cases h4 : 4294967296 ≤ e.n + 1
 ·rw [hp, if_neg h3, if_pos h4]
  refine Za (fun _ _ => Tryz.call259 _ _) Tryz.func259 rfl Tryz.ntmps259 (Nat.le_of_ble_eq_true rfl) ?_; simp only [Zc, Nat.reduceAdd]
  repeat' (first | refine uN ?_ | refine Z7 S ?_ | refine Yu S ?_ | (refine uB ?_; intro b) | (refine uP ?_ ?_ <;> (intro h; ((try simp only [zs, ne_eq, and_true, true_and, eq_self, reduceCtorEq] at h); try exact zx))) | refine da 101 ?_ | fail)
  all_goals exact Yi (L' := Ql r ⟨jl, false⟩ :: We r.rp m left :: L) uL ⟨rfl, left, hleft, rfl⟩
 rw [hp, if_neg h3, if_neg h4]
 have kerr : ∀ L, HC Tryz.prog 288 [pt r.rp 0, iv ((2 * (d : Int) + (e.n + 1) % 2) * 18 + 18 - 1), iv 1] (We r.rp m left :: L) (fun v L' => v = iv (Xy (X9 m (Ux d ⟨e.n + 1, s⟩ + 18 - 1) 1)) ∧ L' = We r.rp m left :: L) := fun L => Zkv r.rp m left (Ux d ⟨e.n + 1, s⟩ + 18 - 1) 1 L hm.len
 have lb := Qz ⟨e.n + 1, s⟩
 have o1 := Zne hm d ⟨e.n + 1, s⟩
 have o2 := Zoe hm d ⟨e.n + 1, s⟩
 have kt1 := fun L => Zar 0 L
 rw [show bt 0 0 = 0 by decide +kernel] at kt1
 have kt2 := fun L => Zar 165 L
 rw [show bt 165 0 = 165 by decide +kernel] at kt2
 have kb := fun L => Zhw ⟨e.n + 1, s⟩ L ⟨by simp only; omega, by simp only; omega⟩ ⟨by simp only; omega, by simp only; omega⟩ ⟨by simp only; omega, by simp only; omega⟩ ⟨by simp only; omega, by simp only; omega⟩
 have w1 : ∀ L, HC Tryz.prog 289 [pt r.rp 0, iv ((2 * (d : Int) + (e.n + 1) % 2) * 18 + 18 - 1), bs [0]] (We r.rp m left :: L) (fun v L' => v = iv (Xy (Ya m (Ux d ⟨e.n + 1, s⟩ + 18 - 1) [0]).2) ∧ ∃ left', ((Ya m (Ux d ⟨e.n + 1, s⟩ + 18 - 1) [0]).1.cut ≠ -1 → left' = (Ya m (Ux d ⟨e.n + 1, s⟩ + 18 - 1) [0]).1.cut) ∧ L' = We r.rp (Ya m (Ux d ⟨e.n + 1, s⟩ + 18 - 1) [0]).1 left' :: L) := fun L => Zb7 r.rp m left (Ux d ⟨e.n + 1, s⟩ + 18 - 1) [0] L hm.len (by simp) ⟨hm.lo, hm.hi⟩ hleft
 have w2 : ∀ left1, ((Zbj m d ⟨e.n + 1, s⟩).1.cut ≠ -1 → left1 = (Zbj m d ⟨e.n + 1, s⟩).1.cut) → ∀ L, HC Tryz.prog 289 [pt r.rp 0, iv ((2 * (d : Int) + (e.n + 1) % 2) * 18), bs (Y0 ⟨e.n + 1, s⟩)] (We r.rp (Zbj m d ⟨e.n + 1, s⟩).1 left1 :: L) (fun v L' => v = iv (Xy (Ya (Zbj m d ⟨e.n + 1, s⟩).1 (Ux d ⟨e.n + 1, s⟩) (Y0 ⟨e.n + 1, s⟩)).2) ∧ ∃ left', ((Ya (Zbj m d ⟨e.n + 1, s⟩).1 (Ux d ⟨e.n + 1, s⟩) (Y0 ⟨e.n + 1, s⟩)).1.cut ≠ -1 → left' = (Ya (Zbj m d ⟨e.n + 1, s⟩).1 (Ux d ⟨e.n + 1, s⟩) (Y0 ⟨e.n + 1, s⟩)).1.cut) ∧ L' = We r.rp (Ya (Zbj m d ⟨e.n + 1, s⟩).1 (Ux d ⟨e.n + 1, s⟩) (Y0 ⟨e.n + 1, s⟩)).1 left' :: L) := fun left1 h1 L => Zb7 r.rp _ left1 (Ux d ⟨e.n + 1, s⟩) (Y0 ⟨e.n + 1, s⟩) L o1.len (by omega) ⟨o1.lo, o1.hi⟩ h1
 have w3 : ∀ left1, ((Zao m d ⟨e.n + 1, s⟩).1.cut ≠ -1 → left1 = (Zao m d ⟨e.n + 1, s⟩).1.cut) → ∀ L, HC Tryz.prog 289 [pt r.rp 0, iv ((2 * (d : Int) + (e.n + 1) % 2) * 18 + 18 - 1), bs [165]] (We r.rp (Zao m d ⟨e.n + 1, s⟩).1 left1 :: L) (fun v L' => v = iv (Xy (Ya (Zao m d ⟨e.n + 1, s⟩).1 (Ux d ⟨e.n + 1, s⟩ + 18 - 1) [165]).2) ∧ ∃ left', ((Ya (Zao m d ⟨e.n + 1, s⟩).1 (Ux d ⟨e.n + 1, s⟩ + 18 - 1) [165]).1.cut ≠ -1 → left' = (Ya (Zao m d ⟨e.n + 1, s⟩).1 (Ux d ⟨e.n + 1, s⟩ + 18 - 1) [165]).1.cut) ∧ L' = We r.rp (Ya (Zao m d ⟨e.n + 1, s⟩).1 (Ux d ⟨e.n + 1, s⟩ + 18 - 1) [165]).1 left' :: L) := fun left1 h1 L => Zb7 r.rp _ left1 (Ux d ⟨e.n + 1, s⟩ + 18 - 1) [165] L o2.len (by simp) ⟨o2.lo, o2.hi⟩ h1
 refine Za (fun _ _ => Tryz.call259 _ _) Tryz.func259 rfl Tryz.ntmps259 (Nat.le_of_ble_eq_true rfl) ?_; simp only [Zc, Nat.reduceAdd]
 cases h5 : X9 m (Ux d ⟨e.n + 1, s⟩ + 18 - 1) 1 with
 | some x =>
  rw [h5] at kerr
  have hx := Zkf h5
  have e1 : Qu m d ⟨e.n + 1, s⟩ = (m, some x) := by simp [Qu, Zao, Zbj, Zds, h5]
  rw [e1]
  simp only [Xy] at kerr ⊢
  repeat' (first | refine uN ?_ | refine Z7 S ?_ | refine Yu S ?_ | refine Wf (qC (Yx kerr 2)) ?_ | refine Qk (qC (Yx kerr 2)) ?_ | refine Yg (fun _ => Yx kerr 2) ?_ | refine Yd (fun _ => Yx kerr 2) ?_ | refine Yf (fun _ => Yx kerr 2) ?_ | refine Yh (fun _ => Yx kerr 2) ?_ | (refine uB ?_; intro b) | (refine uP ?_ ?_ <;> (intro h; ((try simp only [zs, ne_eq, and_true, true_and, eq_self, reduceCtorEq] at h); try exact zx))) | refine da 101 ?_ | fail)
  exact Yi (L' := Ql r ⟨jl, true⟩ :: We r.rp m left :: L) uL ⟨rfl, left, hleft, rfl⟩
 | none =>
  rw [h5] at kerr
  simp only [Xy] at kerr
  have hb5 := Zep h5
  have hr1 := Zi3 h5
  simp only [Ux] at hb5 hr1
  by_cases hz : m.b.getD ((2 * (d : Int) + (e.n + 1) % 2) * 18 + 18 - 1).toNat 0 = 0
  ·have hz2 : ((m.b.getD ((2 * (d : Int) + (e.n + 1) % 2) * 18 + 18 - 1).toNat 0).toNat : Int) = 0 := by rw [hz]; rfl
   have e1 : Zbj m d ⟨e.n + 1, s⟩ = (m, none) := jw1_zero h5 hz
   have e2 : Zao m d ⟨e.n + 1, s⟩ = Ya (Zbj m d ⟨e.n + 1, s⟩).1 (Ux d ⟨e.n + 1, s⟩) (Y0 ⟨e.n + 1, s⟩) := by simp [Zao, e1]
   have hm1 : (Zbj m d ⟨e.n + 1, s⟩).1 = m := by rw [e1]
   rw [hm1] at w2 e2
   repeat' (first | refine uN ?_ | refine Yc S ?_ | refine Wf (qC (Yx kerr 2)) ?_ | refine uC (kb _) ?_ | refine Yg (fun _ => Yx kerr 2) ?_ | refine Yd (fun _ => Yx kerr 2) ?_ | refine Yf (fun _ => Yx kerr 2) ?_ | refine Yh (fun _ => Yx kerr 2) ?_ | refine Yg (fun _ => kb _) ?_ | refine Yd (fun _ => kb _) ?_ | refine Yf (fun _ => kb _) ?_ | refine Yh (fun _ => kb _) ?_ | (refine uB ?_; intro b) | (refine uP ?_ ?_ <;> (intro h; ((try simp only [zs, ne_eq, and_true, true_and, eq_self, reduceCtorEq] at h); try exact zx))) | refine da 101 ?_ | fail)
   refine fo 2 ?_
   refine gc (w2 left hleft _) ?_
   rintro v L' ⟨rfl, left2, hl2, rfl⟩
   rw [← e2] at hl2 ⊢
   cases h7 : (Zao m d ⟨e.n + 1, s⟩).2 with
   | some x =>
    have hx := Uh (e2 ▸ h7)
    have e3 : Qu m d ⟨e.n + 1, s⟩ = ((Zao m d ⟨e.n + 1, s⟩).1, some x) := by simp [Qu, h7]
    rw [e3]
    simp only [Xy]
    repeat' (first | refine uN ?_ | refine Z7 S ?_ | refine Yu S ?_ | (refine uB ?_; intro b) | (refine uP ?_ ?_ <;> (intro h; ((try simp only [zs, ne_eq, and_true, true_and, eq_self, reduceCtorEq] at h); try exact zx))) | refine da 101 ?_ | fail)
    exact Yi (L' := Ql r ⟨jl, true⟩ :: We r.rp (Zao m d ⟨e.n + 1, s⟩).1 left2 :: L) uL ⟨rfl, left2, hl2, rfl⟩
   | none =>
    have e3 : Qu m d ⟨e.n + 1, s⟩ = Ya (Zao m d ⟨e.n + 1, s⟩).1 (Ux d ⟨e.n + 1, s⟩ + 18 - 1) [165] := by simp [Qu, h7, Y9]
    rw [← e3] at w3
    simp only [Xy]
    repeat' (first | refine uN ?_ | refine Yc S ?_ | refine uC (kt2 _) ?_ | refine Yg (fun _ => kt2 _) ?_ | refine Yd (fun _ => kt2 _) ?_ | refine Yf (fun _ => kt2 _) ?_ | refine Yh (fun _ => kt2 _) ?_ | (refine uB ?_; intro b) | (refine uP ?_ ?_ <;> (intro h; ((try simp only [zs, ne_eq, and_true, true_and, eq_self, reduceCtorEq] at h); try exact zx))) | refine da 101 ?_ | fail)
    refine gc (w3 left2 hl2 _) ?_
    rintro v L' ⟨rfl, left3, hl3, rfl⟩
    cases h8 : (Qu m d ⟨e.n + 1, s⟩).2 with
    | some x =>
     have hx := Uh (e3 ▸ h8)
     simp only [Xy]
     repeat' (first | refine uN ?_ | refine Yc S ?_ | (refine uB ?_; intro b) | (refine uP ?_ ?_ <;> (intro h; ((try simp only [zs, ne_eq, and_true, true_and, eq_self, reduceCtorEq] at h); try exact zx))) | refine da 101 ?_ | fail)
     exact Yi (L' := Ql r ⟨jl, true⟩ :: We r.rp (Qu m d ⟨e.n + 1, s⟩).1 left3 :: L) uL ⟨rfl, left3, hl3, rfl⟩
    | none =>
     simp only [Xy]
     repeat' (first | refine uN ?_ | refine Yc S ?_ | (refine uB ?_; intro b) | (refine uP ?_ ?_ <;> (intro h; ((try simp only [zs, ne_eq, and_true, true_and, eq_self, reduceCtorEq] at h); try exact zx))) | refine da 101 ?_ | fail)
     exact Yi (L' := Ql r ⟨jl.set d ⟨e.n + 1, s⟩, false⟩ :: We r.rp (Qu m d ⟨e.n + 1, s⟩).1 left3 :: L) uL ⟨rfl, left3, hl3, rfl⟩
  ·have hz2 : 0 < ((m.b.getD ((2 * (d : Int) + (e.n + 1) % 2) * 18 + 18 - 1).toNat 0).toNat : Int) := by
    have : (m.b.getD ((2 * (d : Int) + (e.n + 1) % 2) * 18 + 18 - 1).toNat 0).toNat ≠ 0 := fun h0 => hz (UInt8.toNat_inj.1 h0)
    omega
   have e1 : Zbj m d ⟨e.n + 1, s⟩ = Ya m (Ux d ⟨e.n + 1, s⟩ + 18 - 1) [0] := jw1_some h5 hz
   rw [← e1] at w1
   repeat' (first | refine uN ?_ | refine Yc S ?_ | refine Wf (qC (Yx kerr 2)) ?_ | refine uC (kt1 _) ?_ | refine Yg (fun _ => Yx kerr 2) ?_ | refine Yd (fun _ => Yx kerr 2) ?_ | refine Yf (fun _ => Yx kerr 2) ?_ | refine Yh (fun _ => Yx kerr 2) ?_ | refine Yg (fun _ => kt1 _) ?_ | refine Yd (fun _ => kt1 _) ?_ | refine Yf (fun _ => kt1 _) ?_ | refine Yh (fun _ => kt1 _) ?_ | (refine uB ?_; intro b) | (refine uP ?_ ?_ <;> (intro h; ((try simp only [zs, ne_eq, and_true, true_and, eq_self, reduceCtorEq] at h); try exact zx))) | refine da 101 ?_ | fail)
   refine fo 2 ?_
   refine gc (w1 _) ?_
   rintro v L' ⟨rfl, left1, hl1, rfl⟩
   cases h6 : (Zbj m d ⟨e.n + 1, s⟩).2 with
   | some x =>
    have hx := Uh (e1 ▸ h6)
    have e3 : Qu m d ⟨e.n + 1, s⟩ = ((Zbj m d ⟨e.n + 1, s⟩).1, some x) := by simp [Qu, Zao, h6]
    rw [e3]
    simp only [Xy]
    repeat' (first | refine uN ?_ | refine Yc S ?_ | (refine uB ?_; intro b) | (refine uP ?_ ?_ <;> (intro h; ((try simp only [zs, ne_eq, and_true, true_and, eq_self, reduceCtorEq] at h); try exact zx))) | refine da 101 ?_ | fail)
    exact Yi (L' := Ql r ⟨jl, true⟩ :: We r.rp (Zbj m d ⟨e.n + 1, s⟩).1 left1 :: L) uL ⟨rfl, left1, hl1, rfl⟩
   | none =>
    have e2 : Zao m d ⟨e.n + 1, s⟩ = Ya (Zbj m d ⟨e.n + 1, s⟩).1 (Ux d ⟨e.n + 1, s⟩) (Y0 ⟨e.n + 1, s⟩) := by simp [Zao, h6]
    simp only [Xy]
    repeat' (first | refine uN ?_ | refine Yc S ?_ | refine uC (kb _) ?_ | refine Yg (fun _ => kb _) ?_ | refine Yd (fun _ => kb _) ?_ | refine Yf (fun _ => kb _) ?_ | refine Yh (fun _ => kb _) ?_ | (refine uB ?_; intro b) | (refine uP ?_ ?_ <;> (intro h; ((try simp only [zs, ne_eq, and_true, true_and, eq_self, reduceCtorEq] at h); try exact zx))) | refine da 101 ?_ | fail)
    refine gc (w2 left1 hl1 _) ?_
    rintro v L' ⟨rfl, left2, hl2, rfl⟩
    rw [← e2] at hl2 ⊢
    cases h7 : (Zao m d ⟨e.n + 1, s⟩).2 with
    | some x =>
     have hx := Uh (e2 ▸ h7)
     have e3 : Qu m d ⟨e.n + 1, s⟩ = ((Zao m d ⟨e.n + 1, s⟩).1, some x) := by simp [Qu, h7]
     rw [e3]
     simp only [Xy]
     repeat' (first | refine uN ?_ | refine Z7 S ?_ | refine Yu S ?_ | (refine uB ?_; intro b) | (refine uP ?_ ?_ <;> (intro h; ((try simp only [zs, ne_eq, and_true, true_and, eq_self, reduceCtorEq] at h); try exact zx))) | refine da 101 ?_ | fail)
     exact Yi (L' := Ql r ⟨jl, true⟩ :: We r.rp (Zao m d ⟨e.n + 1, s⟩).1 left2 :: L) uL ⟨rfl, left2, hl2, rfl⟩
    | none =>
     have e3 : Qu m d ⟨e.n + 1, s⟩ = Ya (Zao m d ⟨e.n + 1, s⟩).1 (Ux d ⟨e.n + 1, s⟩ + 18 - 1) [165] := by simp [Qu, h7, Y9]
     rw [← e3] at w3
     simp only [Xy]
     repeat' (first | refine uN ?_ | refine Yc S ?_ | refine uC (kt2 _) ?_ | refine Yg (fun _ => kt2 _) ?_ | refine Yd (fun _ => kt2 _) ?_ | refine Yf (fun _ => kt2 _) ?_ | refine Yh (fun _ => kt2 _) ?_ | (refine uB ?_; intro b) | (refine uP ?_ ?_ <;> (intro h; ((try simp only [zs, ne_eq, and_true, true_and, eq_self, reduceCtorEq] at h); try exact zx))) | refine da 101 ?_ | fail)
     refine gc (w3 left2 hl2 _) ?_
     rintro v L' ⟨rfl, left3, hl3, rfl⟩
     cases h8 : (Qu m d ⟨e.n + 1, s⟩).2 with
     | some x =>
      have hx := Uh (e3 ▸ h8)
      simp only [Xy]
      repeat' (first | refine uN ?_ | refine Yc S ?_ | (refine uB ?_; intro b) | (refine uP ?_ ?_ <;> (intro h; ((try simp only [zs, ne_eq, and_true, true_and, eq_self, reduceCtorEq] at h); try exact zx))) | refine da 101 ?_ | fail)
      exact Yi (L' := Ql r ⟨jl, true⟩ :: We r.rp (Qu m d ⟨e.n + 1, s⟩).1 left3 :: L) uL ⟨rfl, left3, hl3, rfl⟩
     | none =>
      simp only [Xy]
      repeat' (first | refine uN ?_ | refine Yc S ?_ | (refine uB ?_; intro b) | (refine uP ?_ ?_ <;> (intro h; ((try simp only [zs, ne_eq, and_true, true_and, eq_self, reduceCtorEq] at h); try exact zx))) | refine da 101 ?_ | fail)
      exact Yi (L' := Ql r ⟨jl.set d ⟨e.n + 1, s⟩, false⟩ :: We r.rp (Qu m d ⟨e.n + 1, s⟩).1 left3 :: L) uL ⟨rfl, left3, hl3, rfl⟩
end Go.HL
end

/-! RsA -/
section
namespace Go.HL
open Go Go.Proofs
set_option linter.unusedVariables false
set_option linter.unusedSimpArgs false
def Zet (ref : Int → Bool) : List Value := (List.range 6).map fun (d : Nat) => Value.bool (ref (d : Int))
theorem refL_get {ref : Int → Bool} {d : Nat} (h : d < 6) : (Zet ref)[0 + (d : Int).toNat]? = some (.bool (ref d)) := by
 simp [Zet, h]
theorem refL_put {ref : Int → Bool} {d : Nat} (h : d < 6) : Zt (Zet ref) (0 + (d : Int).toNat) [.bool true] (Zet fun x => if x = (d : Int) then true else ref x) := by
 have e : Zet (fun x => if x = (d : Int) then true else ref x) = (Zet ref).set (0 + (d : Int).toNat) (.bool true) := by
  apply List.ext_getElem?
  intro k
  rw [List.getElem?_set]
  by_cases hk : k < 6
  ·by_cases hd : d = k
   ·subst hd; simp [Zet, hk]
   ·simp [Zet, hk, hd]
    intro h9
    exact absurd (by omega) hd
  ·simp [Zet, hk]
   omega
 rw [e]
 exact W2 (by simp [Zet]; omega)
theorem Zjd : List.replicate (Int.toNat 6) (Value.bool false) = Zet fun _ => false := rfl
def Zew (rs rj bR : Nat) (id : Int) (ref : Int → Bool) : List Zq := [(rs, .cells ⟨[iv id, pt rj 0, sl bR 0 6 6]⟩ 208), (bR, .cells ⟨Zet ref⟩ 4)]
theorem Zuq (m : Pl) (j : Jn) (deal : Int) (s : St) : ∀ e, (Xo m j deal s).2.2 = some e → 1 ≤ e := by
 unfold Xo
 intro e he
 split at he
 ·cases he; decide
 split at he
 ·cases he; decide
 split at he
 ·cases he
 split at he
 ·cases he; decide
 split at he
 ·rename_i x h
  have : x = 2 ∨ x = 6 := by
   unfold Qu at h
   split at h
   ·rename_i y hy
    cases h
    unfold Zao at hy
    split at hy
    ·rename_i z hz
     cases hy
     unfold Zbj at hz
     split at hz
     ·rename_i w hw
      cases hz
      rw [Zds] at hw
      exact Zkf hw
     ·split at hz
      ·cases hz
      ·exact Uh hz
    ·exact Uh hy
   ·exact Uh h
  cases he
  omega
 ·cases he
set_option maxHeartbeats 2000000 attribute [local irreducible] HW HO HQ HD HC QOp Has Upd Zt Gets Yb Z6 Zr Xr Z4 Zm Xx Zy
attribute [local irreducible] Zo Xo Z8 Zet
theorem Zb0 (p : Int) (L : Zb) : HC Tryz.prog 39 [iv p] L (fun v L' => v = .bool (decide (p = 2 ∨ p = 3)) ∧ L' = L) := by
 refine Za (fun _ _ => Tryz.call39 _ _) Tryz.func39 rfl Tryz.ntmps39 (Nat.le_of_ble_eq_true rfl) ?_; simp only [Zc, Nat.reduceAdd]
 repeat' (first | refine uN ?_ | (refine uP ?_ ?_ <;> (intro h; ((try simp only [zs, ne_eq, and_true, true_and, eq_self, reduceCtorEq] at h); try exact zx))) | fail)
 all_goals refine Yi uZ ⟨?_, rfl⟩
 all_goals simp [*]
theorem Zc2 (id : Int) (rp : Nat) (m : Pl) (left : Int) (L : Zb) (hl : 216 ≤ m.b.length) (hh : m.b.length ≤ 1000000) : HC Tryz.prog 80 [iv id, pt rp 0] (We rp m left :: L) (fun v L' => ∃ rs bR, ∃ r : RJ, v = pt rs 0 ∧ r.rp = rp ∧ L' = Zew rs r.rj bR id (fun _ => false) :: Ql r ⟨Zo m.b, false⟩ :: We rp m left :: L) := by
 have ko := fun L => Zpk rp m left L hl hh
 refine Za (fun _ _ => Tryz.call80 _ _) Tryz.func80 rfl Tryz.ntmps80 (Nat.le_of_ble_eq_true rfl) ?_; simp only [Zc, Nat.reduceAdd]
 repeat' (first | refine uN ?_ | refine Yc S ?_ | (refine uB ?_; intro b) | refine da 101 ?_ | fail)
 refine Znn ?_ ?_
 ·refine gc (ko _) ?_
  rintro v L' ⟨r, hr, rfl, rfl⟩
  repeat' (first | refine uN ?_ | refine Yc S ?_ | (refine uB ?_; intro b) | refine da 101 ?_ | fail)
  rename_i bR
  rw [Zjd]
  exact Yi (L' := Zew b r.rj bR id (fun _ => false) :: Ql r ⟨Zo m.b, false⟩ :: We rp m left :: L) (LS.trans (b := ([(b, .cells ⟨[iv id, pt r.rj 0, sl bR 0 6 6]⟩ 208)] :: [(bR, .cells ⟨Zet fun _ => false⟩ 4)] :: Ql r ⟨Zo m.b, false⟩ :: We rp m left :: L : Zb).flatten) (LS.of_eq rfl) uL) ⟨b, bR, r, rfl, hr, rfl⟩
 ·repeat' (first | refine uN ?_ | refine Yc S ?_ | (refine uB ?_; intro b) | refine da 101 ?_ | fail)
  refine fo 1 ?_
  refine gc (ko _) ?_
  rintro v L' ⟨r, hr, rfl, rfl⟩
  repeat' (first | refine uN ?_ | refine Yc S ?_ | (refine uB ?_; intro b) | refine da 101 ?_ | fail)
  rename_i bR
  rw [Zjd]
  exact Yi (L' := Zew b r.rj bR id (fun _ => false) :: Ql r ⟨Zo m.b, false⟩ :: We rp m left :: L) (LS.trans (b := ([(b, .cells ⟨[iv id, pt r.rj 0, sl bR 0 6 6]⟩ 208)] :: [(bR, .cells ⟨Zet fun _ => false⟩ 4)] :: Ql r ⟨Zo m.b, false⟩ :: We rp m left :: L : Zb).flatten) (LS.of_eq rfl) uL) ⟨b, bR, r, rfl, hr, rfl⟩
set_option maxHeartbeats 2000000 in
theorem Znh (rs bR : Nat) (id : Int) (ref : Int → Bool) (r : RJ) (m : Pl) (j : Jn) (left : Int) (f : Fr) (L : Zb) (hm : PlOk m) (hj : JnOk j) (hleft : m.cut ≠ -1 → left = m.cut) :
  HC Tryz.prog 193 [pt rs 0, .agg ⟨fc f⟩] (Zew rs r.rj bR id ref :: Ql r j :: We r.rp m left :: L) (fun v L' => ∃ fv c left', v = .tuple ⟨[fv, iv (Xy (Zp id ref m j f).2.2.2)]⟩ ∧ Zx fv (Zp id ref m j f).2.2.1 c ∧ ((Zp id ref m j f).1.cut ≠ -1 → left' = (Zp id ref m j f).1.cut) ∧
   L' = Zew rs r.rj bR id ref :: Ql r (Zp id ref m j f).2.1 :: We r.rp (Zp id ref m j f).1 left' :: c :: L) := by
 have kfe := fun L => Zqo f L
 unfold Zp Zgv at *
 by_cases hb : Xv f
 ·simp only [if_pos hb, cdF] at kfe ⊢
  refine Za (fun _ _ => Tryz.call193 _ _) Tryz.func193 rfl Tryz.ntmps193 (Nat.le_of_ble_eq_true rfl) ?_; simp only [Zc, Nat.reduceAdd]
  repeat' (first | refine uN ?_ | refine Z7 S ?_ | refine Yu S ?_ | refine uC (kfe _) ?_ | refine Yg (fun _ => kfe _) ?_ | refine Yd (fun _ => kfe _) ?_ | refine Yf (fun _ => kfe _) ?_ | refine Yh (fun _ => kfe _) ?_ | (refine uB ?_; intro b) | (refine uP ?_ ?_ <;> (intro h; ((try simp only [zs, ne_eq, and_true, true_and, eq_self, reduceCtorEq] at h); try exact zx))) | refine da 101 ?_ | fail)
  exact Qj (L' := Zew rs r.rj bR id ref :: Ql r j :: We r.rp m left :: [] :: L) uL ⟨_, [], left, rfl, Zu, hleft, rfl⟩
 simp only [if_neg hb, cdF] at kfe ⊢
 by_cases hto : f.to = id
 ·simp only [ne_eq, hto, not_true_eq_false, if_false]
  unfold Xv at hb
  obtain ⟨fr0, to0, dl0, kd0, at0, ys0, fs0⟩ := f
  simp only at hb hto ⊢
  subst hto
  obtain ⟨d, rfl⟩ := Int.eq_ofNat_of_zero_le (show 0 ≤ dl0 by omega)
  have hd6 : d < 6 := by omega
  simp only [Int.toNat_natCast]
  have gS := Znc (r := r) (j := j) (d := d) (e := j.l.getD d Zl) (by have := hj.len; simp [List.getD, this, hd6])
  have gR := refL_get (ref := ref) hd6
  generalize hst : (j.l.getD d Zl).s = st at *
  have hjl := hj.len
  have kfin := fun p L => Zb0 p L
  generalize htr : Z8 ref ⟨fr0, to0, d, kd0, at0, ys0, fs0⟩ st = tr at *
  refine Za (fun _ _ => Tryz.call193 _ _) Tryz.func193 rfl Tryz.ntmps193 (Nat.le_of_ble_eq_true rfl) ?_; simp only [Zc, Nat.reduceAdd]
  repeat apply Zki
  apply Za4
  refine wb (fun b3 => ?_)
  repeat' (first | refine uN ?_ | refine Z7 S ?_ | refine Yu S ?_ | refine uC (kfe _) ?_ | refine Yg (fun _ => kfe _) ?_ | refine Yd (fun _ => kfe _) ?_ | refine Yf (fun _ => kfe _) ?_ | refine Yh (fun _ => kfe _) ?_ | (refine uB ?_; intro b) | (refine uP ?_ ?_ <;> (intro h; ((try simp only [zs, ne_eq, and_true, true_and, eq_self, reduceCtorEq] at h); try exact zx))) | refine da 101 ?_ | fail)
  generalize b = b8
  rename_i b7
  apply Zq3 (ι := St × Int × Bool) (fun q => tr = q) (fun _ => [(0, pt rs 0), (3, pt b3 0), (7, pt b7 0), (8, pt b8 0)]) (fun q => [(b8, .cells ⟨fc ⟨to0, fr0, d, q.2.1, at0, q.2.2, ⟨0, 0, 0⟩⟩⟩ 131)] :: [(b7, .cells ⟨sc q.1⟩ 43)] :: [(b3, .cells ⟨fc ⟨fr0, to0, d, kd0, at0, ys0, fs0⟩⟩ 131)] :: Zew rs r.rj bR to0 ref :: Ql r j :: We r.rp m left :: L)
  ·intro key
   have key3 := fun (a b c k : Int) (y : Bool) (ρ' : Z3) (L' : Zb) (h1 : LS ([(b8, .cells ⟨[iv to0, iv fr0, iv d, iv k, iv at0, .bool y, iv 0, iv 0, iv 0]⟩ 131)] :: [(b7, .cells ⟨[iv a, iv b, iv c]⟩ 43)] :: [(b3, .cells ⟨fc ⟨fr0, to0, d, kd0, at0, ys0, fs0⟩⟩ 131)] :: Zew rs r.rj bR to0 ref :: Ql r j :: We r.rp m left :: L : Zb).flatten L'.flatten) (h2 : Sub [(0, pt rs 0), (3, pt b3 0), (7, pt b7 0), (8, pt b8 0)] ρ') (h3 : tr = (⟨a, b, c⟩, k, y)) => Wi (Zg1 (key (⟨a, b, c⟩, k, y) h3) h2) h1
   repeat' (first | refine uN ?_ | refine g_kk S ?_ | refine uC (kfin _ _) ?_ | refine Yg (fun _ => kfin _ _) ?_ | refine Yd (fun _ => kfin _ _) ?_ | refine Yf (fun _ => kfin _ _) ?_ | refine Yh (fun _ => kfin _ _) ?_ | (refine uB ?_; intro b) | (refine uP ?_ ?_ <;> (intro h; ((try simp only [zs, ne_eq, and_true, true_and, eq_self, reduceCtorEq] at h); try exact zx))) | refine da 101 ?_ | fail)
   all_goals apply key3
   all_goals first | (show LS _ _; exact uL) | (show Sub _ _; exact uS) | skip
   all_goals (rw [← htr]; unfold Z8 Zuz Zhj Vi; simp [*])
   all_goals omega
  ·rintro ⟨st2, kind2, yes2⟩ rfl
   simp only
   clear htr
   have kp := fun L => Zr9 r m j left d st2 L hm hj hleft
   generalize hpr : Xo m j d st2 = pr at *
   have hcode := Zuq m j d st2
   rw [hpr] at hcode
   repeat' (first | refine uN ?_ | refine Yc S ?_ | (refine uB ?_; intro b) | (refine uP ?_ ?_ <;> (intro h; ((try simp only [zs, ne_eq, and_true, true_and, eq_self, reduceCtorEq] at h); try exact zx))) | refine da 101 ?_ | fail)
   refine fo 5 ?_
   refine fo 5 ?_
   refine gc (kp _) ?_
   rintro v L' ⟨rfl, left2, hl2, rfl⟩
   cases he : pr.2.2 with
   | some e =>
    have h1 := hcode e he
    simp only [Xy]
    repeat' (first | refine uN ?_ | refine Yc S ?_ | (refine uB ?_; intro b) | (refine uP ?_ ?_ <;> (intro h; ((try simp only [zs, ne_eq, and_true, true_and, eq_self, reduceCtorEq] at h); try exact zx))) | refine da 101 ?_ | fail)
    exact Qj (L' := Zew rs r.rj bR to0 ref :: Ql r pr.2.1 :: We r.rp pr.1 left2 :: [] :: L) uL ⟨_, [], left2, rfl, Zu, by simpa using hl2, rfl⟩
   | none =>
    simp only [Xy]
    by_cases hk : kind2 = 0
    ·simp only [if_pos hk]
     repeat' (first | refine uN ?_ | refine Yc S ?_ | (refine uB ?_; intro b) | (refine uP ?_ ?_ <;> (intro h; ((try simp only [zs, ne_eq, and_true, true_and, eq_self, reduceCtorEq] at h); try exact zx))) | refine da 101 ?_ | fail)
     exact Qj (L' := Zew rs r.rj bR to0 ref :: Ql r pr.2.1 :: We r.rp pr.1 left2 :: [] :: L) uL ⟨_, [], left2, rfl, Zu, by simpa using hl2, rfl⟩
    ·simp only [if_neg hk]
     have hp6 := put_st (iv to0) (iv fr0) (iv d) (iv kind2) (iv at0) (.bool yes2) (iv 0) (iv 0) (iv 0) (iv st2.ph) (iv st2.pr) (iv st2.att)
     repeat' (first | refine uN ?_ | refine Yc S ?_ | (refine uB ?_; intro b) | (refine uP ?_ ?_ <;> (intro h; ((try simp only [zs, ne_eq, and_true, true_and, eq_self, reduceCtorEq] at h); try exact zx))) | refine da 101 ?_ | fail)
     exact Qj (L' := Zew rs r.rj bR to0 ref :: Ql r pr.2.1 :: We r.rp pr.1 left2 :: [(b, .cells ⟨fc ⟨to0, fr0, d, kind2, at0, yes2, st2⟩⟩ 131)] :: L) uL ⟨_, _, left2, rfl, Zt0 _ rfl, by simpa using hl2, rfl⟩
 ·simp only [ne_eq, hto, not_false_eq_true, if_true]
  refine Za (fun _ _ => Tryz.call193 _ _) Tryz.func193 rfl Tryz.ntmps193 (Nat.le_of_ble_eq_true rfl) ?_; simp only [Zc, Nat.reduceAdd]
  repeat' (first | refine uN ?_ | refine Z7 S ?_ | refine Yu S ?_ | refine uC (kfe _) ?_ | refine Yg (fun _ => kfe _) ?_ | refine Yd (fun _ => kfe _) ?_ | refine Yf (fun _ => kfe _) ?_ | refine Yh (fun _ => kfe _) ?_ | (refine uB ?_; intro b) | (refine uP ?_ ?_ <;> (intro h; ((try simp only [zs, ne_eq, and_true, true_and, eq_self, reduceCtorEq] at h); try exact zx))) | refine da 101 ?_ | fail)
  exact Qj (L' := Zew rs r.rj bR id ref :: Ql r j :: We r.rp m left :: [] :: L) uL ⟨_, [], left, rfl, Zu, by simpa using hleft, rfl⟩
end Go.HL
end

/-! MwA -/
section
namespace Go.HL
open Go Go.Proofs
set_option linter.unusedVariables false
set_option linter.unusedSimpArgs false
theorem spn {P : Program} {fn : Func} {Qv : Value → Zb → Prop} {ρ : Z3} {L L' : Zb} (hL : LS L'.flatten L.flatten) (h : Qv (.tuple #[]) L') (hr : fn.results = #[] := by rfl) : Xr P fn Qv .normal ρ L := fun k w a hs ha => ⟨_, L', by simp [results, hr], hs.sp hL, h⟩
def bc2 (p : Int × Int) : List Value := [iv p.1, iv p.2]
theorem Zdi (p : Int × Int) : (bc2 p).length = 2 := rfl
theorem Ztm (p : Int × Int) : (bc2 p).all Value.oneCell' = true := rfl
def BrOk (l : List (Int × Int)) (f : Int × Int → Bool) : Prop := ∀ a b : Int, f (min a b, max a b) = decide ((a, b) ∈ l ∨ (b, a) ∈ l)
def prs : List (Int × Int) := (List.range 49).map fun i => (((i / 7 : Nat) : Int), ((i % 7 : Nat) : Int))
theorem prs_in {a b : Int} (h0 : 0 ≤ a) (h1 : a < 7) (h2 : 0 ≤ b) (h3 : b < 7) : (a, b) ∈ prs := by
 refine List.mem_map.2 ⟨a.toNat * 7 + b.toNat, List.mem_range.2 (by omega), ?_⟩
 refine Prod.ext ?_ ?_
 ·show (((a.toNat * 7 + b.toNat) / 7 : Nat) : Int) = a
  omega
 ·show (((a.toNat * 7 + b.toNat) % 7 : Nat) : Int) = b
  omega
theorem Zl6 {α : Type} [DecidableEq α] : ∀ (l S : List α), l.Nodup → (∀ x ∈ l, x ∈ S) → l.length ≤ S.length
 | [], _, _, _ => Nat.zero_le _
 | a :: l, S, hn, hs => by
  have hn' := List.nodup_cons.1 hn
  have ha := hs a List.mem_cons_self
  have := Zl6 l (S.erase a) hn'.2 fun x hx => (List.mem_erase_of_ne (by intro e; subst e; exact hn'.1 hx)).2 (hs x (List.mem_cons_of_mem _ hx))
  rw [List.length_erase_of_mem ha] at this
  have hp : 0 < S.length := List.length_pos_of_mem ha
  simp only [List.length_cons]
  omega
structure NrG where
 np : Nat
 rp : Nat
 left : Int
 rs : Nat
 bR : Nat
 r : RJ
 bl : Nat
 bd : Nat
 ld : List (Nat × Value × List Zq)
def rlB (aw : Option Addr) (cw : Nat) : Option Ld → Nat × Value × List Zq → List Zq
 | none, _ => []
 | some m, g => Ul g.1 aw cw g.2.1 g.2.2 m
def Zdx (g : NrG) : Option (Jn × (Int → Bool)) → Value
 | none => .pointer none
 | some _ => pt g.rs 0
def Za2 (g : NrG) (m : Nd) : Obj := .cells ⟨[Zdx g m.site, pt g.rp 0, sl g.bl 0 6 6, sl g.bd 0 6 6]⟩ 150
def Zd2 (g : NrG) (m : Nd) : List Zq := [(g.np, Za2 g m)]
def Uj (g : NrG) (m : Nd) : List Value := List.zipWith Zei m.leads g.ld
def Zg4 (g : NrG) (m : Nd) : List Zq := [(g.bl, .cells ⟨Uj g m⟩ 209)]
def Zks (g : NrG) (m : Nd) : List Zq := [(g.bd, .cells ⟨m.done.map Value.bool⟩ 4)]
def Zk9 (g : NrG) (i : Int) : Option (Jn × (Int → Bool)) → List Zq
 | none => []
 | some (_, ref) => Zew g.rs g.r.rj g.bR i ref
def Zlc (g : NrG) : Option (Jn × (Int → Bool)) → List Zq
 | none => []
 | some (j, _) => Ql g.r j
def Zdw (aw : Option Addr) (cw : Nat) (g : NrG) (m : Nd) : List Zq := (List.zipWith (rlB aw cw) m.leads g.ld).flatten
def Zf6 (aw : Option Addr) (cw : Nat) (g : NrG) (i : Int) (m : Nd) : List Zq := Zd2 g m ++ (Zg4 g m ++ (Zks g m ++ (Zk9 g i m.site ++ (Zlc g m.site ++ (We g.rp m.pl g.left ++ Zdw aw cw g m)))))
def Q1 (aw : Option Addr) (cw : Nat) : List NrG → List Nd → Nat → List Zq
 | g :: gs, m :: ms, i => Zf6 aw cw g i m ++ Q1 aw cw gs ms (i + 1)
 | _, _, _ => []
def Vc (aw : Option Addr) (cw : Nat) : List NrG → List Nd → Nat → Nat → List Zq
 | g :: gs, m :: ms, i, 0 => Q1 aw cw gs ms (i + 1)
 | g :: gs, m :: ms, i, s + 1 => Zf6 aw cw g i m ++ Vc aw cw gs ms (i + 1) s
 | _, _, _, _ => []
section n
variable {aw : Option Addr} {cw : Nat}
theorem Zfm : ∀ {gs : List NrG} {ms : List Nd} {i s : Nat} {g : NrG} {m : Nd}, gs[s]? = some g → ms[s]? = some m → List.Perm (Q1 aw cw gs ms i) (Zf6 aw cw g ((i + s : Nat) : Int) m ++ Vc aw cw gs ms i s)
 | [], _, _, _, _, _, h, _ => by simp at h
 | _ :: _, [], _, _, _, _, _, h => by simp at h
 | g0 :: gs, m0 :: ms, i, 0, g, m, h, h2 => by
  simp at h h2; subst h; subst h2
  exact .refl _
 | g0 :: gs, m0 :: ms, i, s + 1, g, m, h, h2 => by
  have ih := Zfm (gs := gs) (ms := ms) (i := i + 1) (s := s) (g := g) (m := m) (by simpa using h) (by simpa using h2)
  simp only [Q1, Vc]
  rw [show i + (s + 1) = i + 1 + s by omega]
  refine (ih.append_left _).trans ?_
  rw [← List.append_assoc, ← List.append_assoc]
  exact List.perm_append_comm.append_right _
theorem Ztb : ∀ {gs : List NrG} {ms : List Nd} {i s : Nat} {g : NrG} {m : Nd}, Vc aw cw (gs.set s g) (ms.set s m) i s = Vc aw cw gs ms i s
 | [], _, _, _, _, _ => by simp [Vc]
 | _ :: _, [], _, s, _, _ => by cases s <;> simp [Vc]
 | g0 :: gs, m0 :: ms, i, 0, g, m => rfl
 | g0 :: gs, m0 :: ms, i, s + 1, g, m => by
  simp only [List.set_cons_succ, Vc]
  rw [Ztb]
end n
structure RwG where
 wp : Nat
 aw : Option Addr
 cw : Nat
 wl : Nat
 nv : Value
 nc : List Zq
 bv : Value
 bc : List Zq
 bl : List (Int × Int)
 lv : Value
 lc : List Zq
 ev : Value
 ec : List Zq
 nd : List NrG
def Vv (G : RwG) : Obj := .cells ⟨[.slice G.aw G.wl G.cw, G.nv, G.bv, G.lv, G.ev]⟩ 94
def Zee (G : RwG) : Zb := [[(G.wp, Vv G)], G.ec, G.lc, G.nc, G.bc]
def Xs (G : RwG) (M : Wm) : Zb := Zee G ++ [Q1 G.aw G.cw G.nd M.n 0]
structure NrOk (g : NrG) (m : Nd) : Prop where
 ld : g.ld.length = 6
 rp : g.r.rp = g.rp
 left : m.pl.cut ≠ -1 → g.left = m.pl.cut
 lok : ∀ (d : Nat) x, m.leads[d]? = some (some x) → ∀ q, g.ld[d]? = some q → ∃ hs, Zx q.2.1 hs q.2.2 ∧ RelH x hs
structure RwOk (G : RwG) (M : Wm) : Prop where
 wl : G.wl = M.w.length
 nodes : Vec 145 1 pc G.nv (G.nd.map (·.np)) G.nc
 ndl : G.nd.length = M.n.length
 br : Vec 133 2 bc2 G.bv G.bl G.bc
 bro : BrOk G.bl M.br
 bln : G.bl.Nodup
 blr : ∀ p ∈ G.bl, p ∈ prs
 l : Zx G.lv M.l G.lc
 ev : Vec 162 3 ec G.ev M.ev G.ec
 nd : ∀ (s : Nat) g m, G.nd[s]? = some g → M.n[s]? = some m → NrOk g m
theorem RwOk.bll {G : RwG} {M : Wm} (h : RwOk G M) : G.bl.length ≤ 49 := Zl6 _ _ h.bln h.blr
def Ye (G : RwG) (s : Int) : NrG := G.nd.getD s.toNat ⟨0, 0, 0, 0, 0, ⟨0, 0, 0, 0, [], 0, 0, []⟩, 0, 0, []⟩
def Ws (G : RwG) (s : Int) (g : NrG) (m : Nd) (X : List Zq) (L : Zb) : Zb :=
 [(G.wp, Vv G)] :: G.ec :: Zd2 g m :: Zg4 g m :: Zks g m :: Zk9 g s m.site :: Zlc g m.site :: We g.rp m.pl g.left :: Zdw G.aw G.cw g m :: G.lc :: G.nc :: G.bc :: X :: L
theorem Zqs (G : RwG) (s : Int) (g : NrG) (m : Nd) (X : List Zq) (L : Zb) : (Zee G ++ [Zf6 G.aw G.cw g s m ++ X] ++ L).flatten = ([(G.wp, Vv G)] :: G.ec :: G.lc :: G.nc :: G.bc :: Zd2 g m :: Zg4 g m :: Zks g m :: Zk9 g s m.site :: Zlc g m.site :: We g.rp m.pl g.left :: Zdw G.aw G.cw g m :: X :: L).flatten := by
 simp only [Zee, Zf6, List.flatten_cons, List.flatten_append, List.cons_append, List.nil_append, List.append_assoc, List.flatten_nil, List.append_nil]
theorem rwOp_ls (G : RwG) (s : Int) (g : NrG) (m : Nd) (X : List Zq) (L : Zb) : LS (Ws G s g m X L).flatten (Zee G ++ [Zf6 G.aw G.cw g s m ++ X] ++ L).flatten := by
 rw [Zqs, Ws]
 exact uL
theorem Ztg (G : RwG) (s : Int) (g : NrG) (m : Nd) (X : List Zq) (L : Zb) : LS (Zee G ++ [Zf6 G.aw G.cw g s m ++ X] ++ L).flatten (Ws G s g m X L).flatten := by
 rw [Zqs, Ws]
 exact uL
theorem Zpy {aw : Option Addr} {cw : Nat} {gs : List NrG} {ms : List Nd} {s : Int} {g : NrG} {m : Nd} (h0 : 0 ≤ s) (hg : gs[s.toNat]? = some g) (hm : ms[s.toNat]? = some m) (T : Zb) (L : Zb) : List.Perm (T ++ [Q1 aw cw gs ms 0] ++ L).flatten (T ++ [Zf6 aw cw g s m ++ Vc aw cw gs ms 0 s.toNat] ++ L).flatten := by
 have := Zfm (aw := aw) (cw := cw) (i := 0) hg hm
 rw [Vg h0] at this
 simp only [List.flatten_append, List.flatten_cons, List.flatten_nil, List.append_nil]
 exact (this.append_left _).append_right _
theorem Zh4 {G : RwG} {M : Wm} {s : Int} (hl : G.nd.length = M.n.length) (h0 : 0 ≤ s) (h1 : s < M.n.length) (L : Zb) : LS (Ws G s (Ye G s) (Zd M s) (Vc G.aw G.cw G.nd M.n 0 s.toNat) L).flatten (Xs G M ++ L).flatten := by
 have hg : G.nd[s.toNat]? = some (Ye G s) := getD_some (by omega)
 have hm : M.n[s.toNat]? = some (Zd M s) := getD_some (by omega)
 refine LS.trans (rwOp_ls _ _ _ _ _ _) (LS.of_perm ?_)
 exact (Zpy h0 hg hm (Zee G) L).symm
theorem Zj4 {G : RwG} {gs : List NrG} {ms : List Nd} {s : Int} {g : NrG} {m : Nd} (h0 : 0 ≤ s) (h1 : s.toNat < gs.length) (h2 : s.toNat < ms.length) (L : Zb) : LS (Zee G ++ [Q1 G.aw G.cw (gs.set s.toNat g) (ms.set s.toNat m) 0] ++ L).flatten (Ws G s g m (Vc G.aw G.cw gs ms 0 s.toNat) L).flatten := by
 have hg : (gs.set s.toNat g)[s.toNat]? = some g := by simp [h1]
 have hm : (ms.set s.toNat m)[s.toNat]? = some m := by simp [h2]
 refine LS.trans (LS.of_perm (Zpy h0 hg hm (Zee G) L)) ?_
 rw [Ztb]
 exact Ztg _ _ _ _ _ _
theorem Uu {G : RwG} {M : Wm} (h : RwOk G M) {s : Int} (h0 : 0 ≤ s) (h1 : s < M.n.length) : NrOk (Ye G s) (Zd M s) := by
 have hl := h.ndl
 exact h.nd s.toNat _ _ (getD_some (by omega)) (getD_some (by omega))
theorem RwOk.setL {G : RwG} {M : Wm} (h : RwOk G M) {lv : Value} {lc : List Zq} {l : List Fr} (hv : Zx lv l lc) : RwOk { G with lv := lv, lc := lc } { M with l := l } := ⟨h.wl, h.nodes, h.ndl, h.br, h.bro, h.bln, h.blr, hv, h.ev, h.nd⟩
theorem RwOk.setE {G : RwG} {M : Wm} (h : RwOk G M) {ev : Value} {c : List Zq} {l : List Evt} (hv : Vec 162 3 ec ev l c) : RwOk { G with ev := ev, ec := c } { M with ev := l } := ⟨h.wl, h.nodes, h.ndl, h.br, h.bro, h.bln, h.blr, h.l, hv, h.nd⟩
theorem RwOk.setB {G : RwG} {M : Wm} (h : RwOk G M) {bv : Value} {c : List Zq} {l : List (Int × Int)} {f : Int × Int → Bool} (hv : Vec 133 2 bc2 bv l c) (hb : BrOk l f) (h2 : l.Nodup) (h3 : ∀ p ∈ l, p ∈ prs) : RwOk { G with bv := bv, bc := c, bl := l } { M with br := f } := ⟨h.wl, h.nodes, h.ndl, hv, hb, h2, h3, h.l, h.ev, h.nd⟩
theorem Zh9 {G : RwG} {s : Int} {g : NrG} (h0 : 0 ≤ s) (h1 : s < G.nd.length) (hp : g.np = (Ye G s).np) : (G.nd.set s.toNat g).map (·.np) = G.nd.map (·.np) := by
 rw [List.map_set, hp]
 have hg : G.nd[s.toNat]? = some (Ye G s) := getD_some (by omega)
 refine List.ext_getElem? fun i => ?_
 rw [List.getElem?_set]
 split
 ·rename_i hi
  subst hi
  rw [if_pos (by simp; omega), List.getElem?_map, hg]
  rfl
 ·rfl
theorem RwOk.put {G : RwG} {M : Wm} (h : RwOk G M) {s : Int} {g : NrG} {m : Nd} (h0 : 0 ≤ s) (h1 : s < M.n.length) (hn : NrOk g m) (hp : g.np = (Ye G s).np) : RwOk { G with nd := G.nd.set s.toNat g } (Yp M s m) := by
 have hl := h.ndl
 have e := Zh9 (G := G) h0 (by omega) hp
 refine ⟨h.wl, by simp only [e]; exact h.nodes, by simp [Yp, hl], h.br, h.bro, h.bln, h.blr, h.l, h.ev, fun q g1 m1 Yx Zdz => ?_⟩
 simp only [Yp, List.getElem?_set] at Yx Zdz
 by_cases hq : s.toNat = q
 ·rw [if_pos hq] at Yx Zdz
  split at Yx
  ·split at Zdz
   ·cases Yx; cases Zdz; exact hn
   ·cases Zdz
  ·cases Yx
 ·rw [if_neg hq] at Yx Zdz
  exact h.nd q g1 m1 Yx Zdz
structure RwS (G G' : RwG) : Prop where
 wp : G'.wp = G.wp
 aw : G'.aw = G.aw
 cw : G'.cw = G.cw
 wl : G'.wl = G.wl
 np : G'.nd.map (·.np) = G.nd.map (·.np)
theorem RwS.refl (G : RwG) : RwS G G := ⟨rfl, rfl, rfl, rfl, rfl⟩
theorem RwS.trans {G G' G'' : RwG} (h : RwS G G') (h2 : RwS G' G'') : RwS G G'' := ⟨h2.wp.trans h.wp, h2.aw.trans h.aw, h2.cw.trans h.cw, h2.wl.trans h.wl, h2.np.trans h.np⟩
def Zif (G : RwG) (M' : Wm) (L L' : Zb) : Prop := ∃ G', RwS G G' ∧ RwOk G' M' ∧ L' = Xs G' M' ++ L
theorem Vj {G : RwG} {M : Wm} (h : RwOk G M) (L : Zb) : Zif G M L (Xs G M ++ L) := ⟨G, .refl G, h, rfl⟩
theorem Ztz {G G' : RwG} (h : RwS G G') {s : Int} (h0 : 0 ≤ s) (h1 : s < G.nd.length) : (Ye G' s).np = (Ye G s).np := by
 have h := h.np
 have hl : G'.nd.length = G.nd.length := by simpa using congrArg List.length h
 have e1 : G'.nd[s.toNat]? = some (Ye G' s) := getD_some (by omega)
 have e2 : G.nd[s.toNat]? = some (Ye G s) := getD_some (by omega)
 have := congrArg (fun l => l[s.toNat]?) h
 simp only [List.getElem?_map, e1, e2, Option.map_some, Option.some.injEq] at this
 exact this
theorem HC.nodeR {F : Nat} {args : List Value} {G : RwG} {M M' : Wm} {s : Int} {L : Zb} {V : Value → List Zq → Prop} (h : RwOk G M) (h0 : 0 ≤ s) (h1 : s < M.n.length)
  (k : HC Tryz.prog F args (Ws G s (Ye G s) (Zd M s) (Vc G.aw G.cw G.nd M.n 0 s.toNat) L) (fun v L' => ∃ c, V v c ∧ ∃ G' M1 g' m', RwOk G' M1 ∧ G'.nd = G.nd ∧ M1.n = M.n ∧ RwS G G' ∧ NrOk g' m' ∧ g'.np = (Ye G s).np ∧ M' = Yp M1 s m' ∧ L' = Ws G' s g' m' (Vc G.aw G.cw G.nd M.n 0 s.toNat) (c :: L))) :
  HC Tryz.prog F args (Xs G M ++ L) (fun v L' => ∃ c, V v c ∧ Zif G M' (c :: L) L') := by
 have hl := h.ndl
 refine HC.post (HC.sp k (Zh4 hl h0 h1 L)) ?_
 rintro v L' ⟨c, hv, G', M1, g', m', hW, e1, e2, e3, hN, e4, rfl, rfl⟩
 have hnp : g'.np = (Ye G' s).np := by rw [e4]; unfold Ye; rw [e1]
 have eaw := e3.aw
 have ecw := e3.cw
 have hps := Zh9 (G := G') (g := g') h0 (by rw [e1]; omega) hnp
 refine ⟨Xs { G' with nd := G'.nd.set s.toNat g' } (Yp M1 s m') ++ (c :: L), ?_, c, hv, { G' with nd := G'.nd.set s.toNat g' }, ⟨e3.wp, e3.aw, e3.cw, e3.wl, hps.trans e3.np⟩, hW.put h0 (by rw [e2]; exact h1) hN hnp, rfl⟩
 simp only [Xs, Yp, e1, e2]
 rw [← eaw, ← ecw]
 exact Zj4 (G := G') (gs := G.nd) (ms := M.n) (s := s) (g := g') (m := m') h0 (by omega) (by omega) (c :: L)
theorem HC.nodeR0 {F : Nat} {args : List Value} {G : RwG} {M M' : Wm} {s : Int} {L : Zb} {V : Value → Prop} (h : RwOk G M) (h0 : 0 ≤ s) (h1 : s < M.n.length)
  (k : HC Tryz.prog F args (Ws G s (Ye G s) (Zd M s) (Vc G.aw G.cw G.nd M.n 0 s.toNat) L) (fun v L' => V v ∧ ∃ G' M1 g' m', RwOk G' M1 ∧ G'.nd = G.nd ∧ M1.n = M.n ∧ RwS G G' ∧ NrOk g' m' ∧ g'.np = (Ye G s).np ∧ M' = Yp M1 s m' ∧ L' = Ws G' s g' m' (Vc G.aw G.cw G.nd M.n 0 s.toNat) L)) :
  HC Tryz.prog F args (Xs G M ++ L) (fun v L' => V v ∧ Zif G M' L L') := by
 have hl := h.ndl
 refine HC.post (HC.sp k (Zh4 hl h0 h1 L)) ?_
 rintro v L' ⟨hv, G', M1, g', m', hW, e1, e2, e3, hN, e4, rfl, rfl⟩
 have hnp : g'.np = (Ye G' s).np := by rw [e4]; unfold Ye; rw [e1]
 have eaw := e3.aw
 have ecw := e3.cw
 have hps := Zh9 (G := G') (g := g') h0 (by rw [e1]; omega) hnp
 refine ⟨Xs { G' with nd := G'.nd.set s.toNat g' } (Yp M1 s m') ++ L, ?_, hv, { G' with nd := G'.nd.set s.toNat g' }, ⟨e3.wp, e3.aw, e3.cw, e3.wl, hps.trans e3.np⟩, hW.put h0 (by rw [e2]; exact h1) hN hnp, rfl⟩
 simp only [Xs, Yp, e1, e2]
 rw [← eaw, ← ecw]
 exact Zj4 (G := G') (gs := G.nd) (ms := M.n) (s := s) (g := g') (m := m') h0 (by omega) (by omega) L
structure RwIn (L : Zb) (G : RwG) (M : Wm) : Prop where
 wp : Has L G.wp (Vv G)
 ns : ∃ a cap, G.nv = .slice a M.n.length cap ∧ Rd pc 1 L a (G.nd.map (·.np))
 bs : ∃ a cap, G.bv = .slice a G.bl.length cap ∧ Rd bc2 2 L a G.bl
 ls : ∃ a cap, G.lv = .slice a M.l.length cap ∧ Rd fc 9 L a M.l
 es : ∃ a cap, G.ev = .slice a M.ev.length cap
theorem RwIn.mono {L L' : Zb} {G : RwG} {M : Wm} (h : RwIn L G M) (hl : ∀ b o, Has L b o → Has L' b o) : RwIn L' G M := by
 obtain ⟨h1, ⟨a2, c2, e2, r2⟩, ⟨a3, c3, e3, r3⟩, ⟨a4, c4, e4, r4⟩, h5⟩ := h
 exact ⟨hl _ _ h1, ⟨a2, c2, e2, r2.mono hl⟩, ⟨a3, c3, e3, r3.mono hl⟩, ⟨a4, c4, e4, r4.mono hl⟩, h5⟩
theorem rwInT {G : RwG} {M : Wm} (h : RwOk G M) : RwIn (Zee G) G M := by
 refine ⟨Zv, ?_, ?_, ?_, ?_⟩
 ·obtain ⟨a, cap, e, -, hR⟩ := h.nodes.rd Wt
  refine ⟨a, cap, by rw [e, List.length_map, h.ndl], (hR []).mono fun b o hb => ?_⟩
  simp only [Has, List.flatten_cons, List.flatten_nil, List.append_nil, Zee] at hb ⊢
  simp [hb]
 ·obtain ⟨a, cap, e, -, hR⟩ := h.br.rd Zdi
  refine ⟨a, cap, e, (hR []).mono fun b o hb => ?_⟩
  simp only [Has, List.flatten_cons, List.flatten_nil, List.append_nil, Zee] at hb ⊢
  simp [hb]
 ·obtain ⟨a, cap, e, -, hR⟩ := h.l.rd Zi
  refine ⟨a, cap, e, (hR []).mono fun b o hb => ?_⟩
  simp only [Has, List.flatten_cons, List.flatten_nil, List.append_nil, Zee] at hb ⊢
  simp [hb]
 ·obtain ⟨a, cap, e, -, hR⟩ := h.ev.rd Vo
  exact ⟨a, cap, e⟩
theorem rwIn {L : Zb} {G : RwG} {M : Wm} (h : RwOk G M) (hl : ∀ b o, Has (Zee G) b o → Has L b o) : RwIn L G M := (rwInT h).mono hl
theorem Zdc {G : RwG} {M : Wm} (h : RwOk G M) (L : Zb) : RwIn (Xs G M ++ L) G M := rwIn h fun b o hb => by
 unfold Has Xs at *
 rw [List.append_assoc, List.flatten_append]
 exact List.mem_append_left _ hb
theorem rwOp_in {G : RwG} {M : Wm} (h : RwOk G M) (s : Int) (g : NrG) (m : Nd) (X : List Zq) (L : Zb) : RwIn (Ws G s g m X L) G M := rwIn h fun b o hb => by
 unfold Has at *
 obtain ⟨l, h1, h2⟩ := Ztg G s g m X L
 refine h2.subset (h1.mem_iff.2 ?_)
 rw [List.append_assoc, List.flatten_append]
 exact List.mem_append_left _ hb
theorem Ziq {L : Zb} {G : RwG} {M : Wm} {s : Int} (hI : RwIn L G M) (hl : G.nd.length = M.n.length) (h0 : 0 ≤ s) (h1 : s < M.n.length) : ∃ b i l F fr cap, G.nv = sl b i M.n.length cap ∧ Has L b (.cells ⟨l⟩ F fr) ∧ l[i + s.toNat]? = some (pt (Ye G s).np 0) := by
 obtain ⟨a, cap, hnv, hR⟩ := hI.ns
 obtain ⟨b, i, l, F, fr, rfl, hb, hg⟩ := hR.at1 (j := s) h0 (by simp; omega)
 refine ⟨b, i, l, F, fr, cap, hnv, hb, ?_⟩
 have e : (G.nd.map (·.np))[s.toNat]'(by simp; omega) = (Ye G s).np := by
  rw [List.getElem_map]
  unfold Ye
  rw [List.getD, List.getElem?_eq_getElem (by omega)]
  rfl
 rw [e] at hg
 exact hg 0 _ rfl
theorem Zm3 {G : RwG} {M : Wm} {s : Int} (hl : G.nd.length = M.n.length) (h0 : 0 ≤ s) (h1 : s < M.n.length) {b : Nat} {o : Obj} (hb : (b, o) ∈ Zf6 G.aw G.cw (Ye G s) s (Zd M s)) (L : Zb) : Has (Q1 G.aw G.cw G.nd M.n 0 :: L) b o := by
 have hg : G.nd[s.toNat]? = some (Ye G s) := getD_some (by omega)
 have hm : M.n[s.toNat]? = some (Zd M s) := getD_some (by omega)
 have := Zfm (aw := G.aw) (cw := G.cw) (i := 0) hg hm
 rw [Vg h0] at this
 unfold Has
 rw [List.flatten_cons]
 exact List.mem_append_left _ (this.mem_iff.2 (List.mem_append_left _ hb))
theorem Zfu {G : RwG} {M : Wm} {s : Int} (hl : G.nd.length = M.n.length) (h0 : 0 ≤ s) (h1 : s < M.n.length) {b : Nat} {o : Obj} (hb : (b, o) ∈ Zf6 G.aw G.cw (Ye G s) s (Zd M s)) (L : Zb) : Has (Xs G M ++ L) b o := by
 have hg : G.nd[s.toNat]? = some (Ye G s) := getD_some (by omega)
 have hm : M.n[s.toNat]? = some (Zd M s) := getD_some (by omega)
 have := Zfm (aw := G.aw) (cw := G.cw) (i := 0) hg hm
 rw [Vg h0] at this
 unfold Has Xs
 rw [List.append_assoc, List.flatten_append, List.flatten_append]
 refine List.mem_append_right _ (List.mem_append_left _ ?_)
 rw [List.flatten_cons, List.flatten_nil, List.append_nil]
 exact this.mem_iff.2 (List.mem_append_left _ hb)
theorem Zfo {G : RwG} {M : Wm} {s : Int} (hl : G.nd.length = M.n.length) (h0 : 0 ≤ s) (h1 : s < M.n.length) (L : Zb) : Has (Xs G M ++ L) (Ye G s).np (Za2 (Ye G s) (Zd M s)) := Zfu hl h0 h1 (by simp [Zf6, Zd2]) L
theorem rw_hasP {G : RwG} {M : Wm} {s : Int} (hl : G.nd.length = M.n.length) (h0 : 0 ≤ s) (h1 : s < M.n.length) (L : Zb) : ∀ p ∈ We (Ye G s).rp (Zd M s).pl (Ye G s).left, Has (Xs G M ++ L) p.1 p.2 := fun p hp => Zfu hl h0 h1 (by simp [Zf6, hp]) L
end Go.HL
end

/-! MwB -/
section
namespace Go.HL
open Go Go.Proofs
set_option linter.unusedVariables false
set_option linter.unusedSimpArgs false
set_option maxHeartbeats 2000000 attribute [local irreducible] HW HO HQ HD HC QOp Has Upd Zt Gets Yb Z6 Zr Xr Z4 Zm Xx Zy
attribute [local irreducible] Zo Ql We
theorem Zmy (G : RwG) (M : Wm) (s : Int) (L : Zb) (hI : RwIn L G M) (hl : G.nd.length = M.n.length) (hN : X1 M s = none → Has L (Ye G s).np (Za2 (Ye G s) (Zd M s))) : HC Tryz.prog 139 [pt G.wp 0, iv s] L (fun v L' => v = iv (Xy (Zbn M s)) ∧ L' = L) := by
 have hw := hI.wp
 unfold Vv at hw
 by_cases h : s < 0 ∨ M.n.length ≤ s
 ·have e : Zbn M s = some 2 := by
   have : X1 M s = some 2 := if_pos h
   unfold Zbn; rw [this]
  obtain ⟨a, cap, hnv, hR⟩ := hI.ns
  rw [hnv] at hw
  rw [e]
  by_cases h0 : s < 0
  ·refine Za (fun _ _ => Tryz.call139 _ _) Tryz.func139 rfl Tryz.ntmps139 (Nat.le_of_ble_eq_true rfl) ?_; simp only [Zc, Nat.reduceAdd]
   repeat' (first | refine uN ?_ | (refine uP ?_ ?_ <;> (intro h; ((try simp only [zs, ne_eq, and_true, true_and, eq_self, reduceCtorEq] at h); try exact zx))) | fail)
   exact Vy rfl ⟨rfl, rfl⟩
  ·refine Za (fun _ _ => Tryz.call139 _ _) Tryz.func139 rfl Tryz.ntmps139 (Nat.le_of_ble_eq_true rfl) ?_; simp only [Zc, Nat.reduceAdd]
   repeat' (first | refine uN ?_ | (refine uP ?_ ?_ <;> (intro h; ((try simp only [zs, ne_eq, and_true, true_and, eq_self, reduceCtorEq] at h); try exact zx))) | fail)
   exact Vy rfl ⟨rfl, rfl⟩
 ·have e : X1 M s = none := if_neg h
  have hN' := hN e
  have hu : Zbn M s = if (Zd M s).site.isNone then some 6 else none := by unfold Zbn; rw [e]
  obtain ⟨b, i, l, F, fr, cap, hnv, hb, hg⟩ := Ziq hI hl (s := s) (by omega) (by omega)
  rw [hnv] at hw
  unfold Za2 at hN'
  rw [hu]
  cases hs : (Zd M s).site with
  | none =>
   rw [hs] at hN'
   simp only [Zdx] at hN'
   refine Za (fun _ _ => Tryz.call139 _ _) Tryz.func139 rfl Tryz.ntmps139 (Nat.le_of_ble_eq_true rfl) ?_; simp only [Zc, Nat.reduceAdd]
   repeat' (first | refine uN ?_ | (refine uP ?_ ?_ <;> (intro h; ((try simp only [zs, ne_eq, and_true, true_and, eq_self, reduceCtorEq] at h); try exact zx))) | fail)
   exact Vy rfl ⟨rfl, rfl⟩
  | some q =>
   rw [hs] at hN'
   simp only [Zdx] at hN'
   refine Za (fun _ _ => Tryz.call139 _ _) Tryz.func139 rfl Tryz.ntmps139 (Nat.le_of_ble_eq_true rfl) ?_; simp only [Zc, Nat.reduceAdd]
   repeat' (first | refine uN ?_ | (refine uP ?_ ?_ <;> (intro h; ((try simp only [zs, ne_eq, and_true, true_and, eq_self, reduceCtorEq] at h); try exact zx))) | fail)
   exact Vy rfl ⟨rfl, rfl⟩
theorem Zfc (G : RwG) (M : Wm) (s : Int) (d : Nat) (L : Zb) (hI : RwIn L G M) (hl : G.nd.length = M.n.length) (h0 : 0 ≤ s) (h1 : s < M.n.length) (hd : d < 6) (hb5 : (Zd M s).pl.b.length = 512) (hN : Has L (Ye G s).np (Za2 (Ye G s) (Zd M s))) (hP : ∀ p ∈ We (Ye G s).rp (Zd M s).pl (Ye G s).left, Has L p.1 p.2) :
  HC Tryz.prog 95 [pt G.wp 0, iv s, iv d] L (fun v L' => v = .agg ⟨sc (Xf (Zd M s).pl d)⟩ ∧ L' = L) := by
 have hw := hI.wp
 unfold Vv at hw
 obtain ⟨b, i, l, F, fr, cap, hnv, hb, hg⟩ := Ziq hI hl h0 h1
 rw [hnv] at hw
 unfold Za2 at hN
 have hp := hP _ (by unfold We; exact List.mem_singleton.2 rfl)
 simp only at hp
 have kd := fun L => Zd6 (Zd M s).pl.b d L hd (by omega) (by omega)
 have e : Xf (Zd M s).pl d = (Xa (Zd M s).pl.b d).s := by
  unfold Xf Zo
  simp [List.getD, hd]
 rw [e]
 generalize Xa (Zd M s).pl.b d = D at *
 refine Za (fun _ _ => Tryz.call95 _ _) Tryz.func95 rfl Tryz.ntmps95 (Nat.le_of_ble_eq_true rfl) ?_; simp only [Zc, Nat.reduceAdd]
 repeat' (first | refine uN ?_ | refine uC (kd _) ?_ | (refine uB ?_; intro b) | fail)
 exact Yi uL ⟨rfl, rfl⟩ (hv := Ww S (hg := Ze rfl (Ze rfl (Ze rfl Ym))))
theorem Zhi (g : NrG) (m : Nd) (L : Zb) (hd : g.ld.length = 6) : HC Tryz.prog 148 [pt g.np 0] (Zd2 g m :: L) (fun v L' => ∃ bl, v = .tuple ⟨[]⟩ ∧ L' = Zd2 { g with bl := bl } { m with site := none, leads := noLeads } :: Zg4 { g with bl := bl } { m with site := none, leads := noLeads } :: L) := by
 have e : List.zipWith Zei noLeads g.ld = Zuk := Zk2 _ hd
 simp only [Zd2, Za2, Zg4, Uj, e, Zdx]
 refine Za (fun _ _ => Tryz.call148 _ _) Tryz.func148 rfl Tryz.ntmps148 (Nat.le_of_ble_eq_true rfl) ?_; simp only [Zc, Nat.reduceAdd]
 repeat' (first | refine uN ?_ | (refine uB ?_; intro b) | fail)
 exact spn (L' := [(g.np, .cells ⟨[.pointer none, pt g.rp 0, sl b 0 6 6, sl g.bd 0 6 6]⟩ 150)] :: [(b, .cells ⟨Zuk⟩ 209)] :: L) uL ⟨b, rfl, rfl⟩
end Go.HL
end

/-! MwC -/
section
namespace Go.HL
open Go Go.Proofs
set_option linter.unusedVariables false
set_option linter.unusedSimpArgs false
structure RsIn (L : Zb) (g : NrG) (id : Int) (j : Jn) : Prop where
 si : ∃ bR, Has L g.rs (.cells ⟨[iv id, pt g.r.rj 0, bR]⟩ 208)
 rj : Has L g.r.rj (.cells ⟨Zf4 g.r j.dead⟩ 214)
 st : Has L g.r.bS (.cells ⟨((j.l.map Ent.s).map sc).flatten ++ g.r.spS⟩ 43)
theorem dn_get {dn : List Bool} {d : Nat} {b : Bool} (h : dn[d]? = some b) : (dn.map Value.bool)[0 + (d : Int).toNat]? = some (.bool b) := by
 rw [Nat.zero_add, Int.toNat_natCast, List.getElem?_map, h]; rfl
theorem dn_put {dn : List Bool} {d : Nat} (b : Bool) (h : d < dn.length) : Zt (dn.map Value.bool) (0 + (d : Int).toNat) [.bool b] ((dn.set d b).map Value.bool) := by
 have e : (dn.set d b).map Value.bool = (dn.map Value.bool).set (0 + (d : Int).toNat) (.bool b) := by
  rw [Nat.zero_add, Int.toNat_natCast, List.map_set]
 rw [e]
 exact W2 (by simp; omega)
theorem Zu1 {l : List Value} {i : Nat} {v : Value} {vs : List Value} (h : Gets l i (v :: vs)) : l[i + 0]? = some v := h 0 v rfl
set_option maxHeartbeats 2000000 attribute [local irreducible] HW HO HQ HD HC QOp Has Upd Zt Gets Yb Z6 Zr Xr Z4 Zm Xx Zy
attribute [local irreducible] Zo Wj
theorem Zrr (G : RwG) (M : Wm) (a b : Int) (L : Zb) (hI : RwIn L G M) (hb : BrOk G.bl M.br) (hbl : G.bl.length ≤ 49) : HC Tryz.prog 155 [pt G.wp 0, iv a, iv b] L (fun v L' => v = .bool (M.br (min a b, max a b)) ∧ L' = L) := by
 have hw := hI.wp
 unfold Vv at hw
 obtain ⟨ab, cap, hbv, hR⟩ := hI.bs
 rw [hbv] at hw
 rw [hb a b]
 generalize G.bl = bl at *
 refine Za (fun _ _ => Tryz.call155 _ _) Tryz.func155 rfl Tryz.ntmps155 (Nat.le_of_ble_eq_true rfl) ?_; simp only [Zc, Nat.reduceAdd]
 repeat' (first | refine uN ?_ | (refine uP ?_ ?_ <;> (intro h; ((try simp only [zs, ne_eq, and_true, true_and, eq_self, reduceCtorEq] at h); try exact zx))) | fail)
 refine Zn (σ := Nat) (fun k => [(0, pt G.wp 0), (1, iv a), (2, iv b), (7, iv k)]) (fun _ => L) (fun k => k ≤ bl.length ∧ ¬ ((a, b) ∈ bl.take k ∨ (b, a) ∈ bl.take k)) (fun k => bl.length - k) 0 uS (List.Sublist.refl _) ⟨by omega, by simp⟩ ?_
 rintro k ⟨hk, hn⟩
 by_cases hlt : k < bl.length
 ·obtain ⟨bh, ih, lh, Eh, frh, hah, hbh, hgh⟩ := hR.at (j := (k : Int)) (by omega) (by omega)
  subst hah
  have hg0 : Gets lh (ih + (k : Int).toNat * 2) (bc2 bl[k]) := hgh
  have hx : bl[k] ∈ bl := List.getElem_mem _
  have hs : bl.take (k + 1) = bl.take k ++ [bl[k]] := List.take_succ_eq_append_getElem hlt
  generalize bl[k] = x at *
  obtain ⟨x1, x2⟩ := x
  by_cases h1 : (x1, x2) = (a, b)
  ·cases h1
   rw [decide_eq_true (.inl hx)]
   repeat' (first | refine uN ?_ | (refine uP ?_ ?_ <;> (intro h; ((try simp only [zs, ne_eq, and_true, true_and, eq_self, reduceCtorEq] at h); try exact zx))) | fail)
   exact Yi uL ⟨rfl, rfl⟩
  ·by_cases h2 : (x1, x2) = (b, a)
   ·cases h2
    rw [decide_eq_true (.inr hx)]
    repeat' (first | refine uN ?_ | (refine uP ?_ ?_ <;> (intro h; ((try simp only [zs, ne_eq, and_true, true_and, eq_self, reduceCtorEq] at h); try exact zx))) | fail)
    all_goals exact Yi uL ⟨rfl, rfl⟩
   ·repeat' (first | refine uN ?_ | (refine uP ?_ ?_ <;> (intro h; ((try simp only [zs, ne_eq, and_true, true_and, eq_self, reduceCtorEq] at h); try exact zx))) | fail)
    ·exact absurd (Prod.ext (by assumption : x1 = a ∧ x2 = b).1 (by assumption : x1 = a ∧ x2 = b).2) h1
    ·exact absurd (Prod.ext (by assumption : x1 = b ∧ x2 = a).1 (by assumption : x1 = b ∧ x2 = a).2) h2
    all_goals refine Zg (k + 1) uS uL ⟨by omega, ?_⟩ (by omega)
    all_goals rw [hs]
    all_goals simp only [List.mem_append, List.mem_singleton]
    all_goals rintro ((h | h) | (h | h))
    all_goals first | exact hn (.inl h) | exact hn (.inr h) | exact h1 h.symm | exact h2 h.symm
 ·rw [List.take_of_length_le (by omega)] at hn
  rw [decide_eq_false hn]
  repeat' (first | refine uN ?_ | (refine uP ?_ ?_ <;> (intro h; ((try simp only [zs, ne_eq, and_true, true_and, eq_self, reduceCtorEq] at h); try exact zx))) | fail)
  exact Yi uL ⟨rfl, rfl⟩
theorem Zg7 (G : RwG) (s : Int) (g : NrG) (m : Nd) (ev : List Evt) (n : Nat) (L : Zb) (hv : Vec 162 3 ec G.ev ev G.ec) (hl : ev.length ≤ 500) (hp : NpIn L G.nv n s g.np) (hN : Has L g.np (Za2 g m)) (hd : m.done.length = 6)
  (hs : ∀ j ref, m.site = some (j, ref) → RsIn L g s j ∧ j.l.length = 6) : HC Tryz.prog 150 [pt G.wp 0, iv s] ([(G.wp, Vv G)] :: G.ec :: Zks g m :: L)
  (fun v L' => ∃ evv c, Vec 162 3 ec evv (Xb s m ev).2 c ∧ v = .tuple ⟨[]⟩ ∧ L' = [(G.wp, Vv { G with ev := evv, ec := c })] :: c :: Zks g { m with done := (Xb s m ev).1 } :: L) := by
 obtain ⟨wp, aw, cw, wl, nv, nc, bv, bc, bl, lv, lc, evv, Zr7, nd⟩ := G
 simp only at hv hp
 obtain ⟨⟨b, i, l, F, fr, cap, rfl, hb, hg⟩, h0, h1⟩ := hp
 obtain ⟨pl, site, leads, done⟩ := m
 simp only at hd hs
 unfold Za2 at hN
 simp only [Vv, Zks]
 cases site with
 | none =>
  simp only [Xb, Zdx] at hN ⊢
  refine Za (fun _ _ => Tryz.call150 _ _) Tryz.func150 rfl Tryz.ntmps150 (Nat.le_of_ble_eq_true rfl) ?_; simp only [Zc, Nat.reduceAdd]
  repeat' (first | refine uN ?_ | (refine uB ?_; intro b) | (refine uP ?_ ?_ <;> (intro h; ((try simp only [zs, ne_eq, and_true, true_and, eq_self, reduceCtorEq] at h); try exact zx))) | fail)
  refine Zn (σ := Unit) (fun q => [(0, pt wp 0), (1, iv s), (4, pt g.np 0), (5, iv 0)])
   (fun q => [(wp, .cells ⟨[.slice aw wl cw, sl b i n cap, bv, lv, evv]⟩ 94)] :: Zr7 :: [(g.bd, .cells ⟨done.map Value.bool⟩ 4)] :: L) (fun _ => True) (fun _ => 0) () uS (List.Sublist.refl _) trivial ?_
  rintro - -
  repeat' (first | refine uN ?_ | (refine uB ?_; intro b) | (refine uP ?_ ?_ <;> (intro h; ((try simp only [zs, ne_eq, and_true, true_and, eq_self, reduceCtorEq] at h); try exact zx))) | fail)
  exact spn (LS.refl _) ⟨_, _, hv, rfl, rfl⟩
 | some q =>
  obtain ⟨j, ref⟩ := q
  obtain ⟨⟨⟨bR, hsi⟩, hrj, hst⟩, hjl⟩ := hs j ref rfl
  simp only [Xb, Zdx] at hN ⊢
  unfold Zf4 at hrj
  have kf := fun p L => Zb0 p L
  refine Za (fun _ _ => Tryz.call150 _ _) Tryz.func150 rfl Tryz.ntmps150 (Nat.le_of_ble_eq_true rfl) ?_; simp only [Zc, Nat.reduceAdd]
  repeat' (first | refine uN ?_ | (refine uB ?_; intro b) | (refine uP ?_ ?_ <;> (intro h; ((try simp only [zs, ne_eq, and_true, true_and, eq_self, reduceCtorEq] at h); try exact zx))) | fail)
  refine Zn (σ := Nat × (Value × List Zq)) (fun q => [(0, pt wp 0), (1, iv s), (4, pt g.np 0), (5, iv q.1)])
   (fun q => [(wp, .cells ⟨[.slice aw wl cw, sl b i n cap, bv, lv, q.2.1]⟩ 94)] :: q.2.2 :: [(g.bd, .cells ⟨(Ua s (Vt j) (done, ev) q.1).1.map Value.bool⟩ 4)] :: L)
   (fun q => q.1 ≤ 6 ∧ Vec 162 3 ec q.2.1 (Ua s (Vt j) (done, ev) q.1).2 q.2.2) (fun q => 6 - q.1) (0, evv, Zr7) uS (List.Sublist.refl _) ⟨by simp, hv⟩ ?_
  rintro ⟨d, ev1, c1⟩ ⟨hd6, hv1⟩
  simp only at hd6 hv1 ⊢
  have hdl := Za7 (s := s) (ph := Vt j) (q := (done, ev)) d
  have hel := Zf3 (s := s) (ph := Vt j) (q := (done, ev)) hl d
  have hsucc := U5 s (Vt j) (done, ev) d
  generalize hRR : Ua s (Vt j) (done, ev) d = R at *
  obtain ⟨dn, es1⟩ := R
  simp only at hdl hel hv1 ⊢
  by_cases hlt : d < 6
  ·have hdn : dn[d]? = some (dn.getD d true) := getD_some (by omega)
   have gD := dn_get hdn
   have gP := dn_put (dn := dn) (d := d) true (by omega)
   have gS := Znc (r := g.r) (j := j) (d := d) (e := j.l.getD d Zl) (by simp [List.getD, hjl, hlt])
   have gS0 : (((j.l.map Ent.s).map sc).flatten ++ g.r.spS)[0 + (d : Int).toNat * 3 + 0]? = some (iv (Vt j d)) := Zu1 gS
   obtain ⟨a5, cap5, he5, -, -⟩ := hv1.rd Vo
   subst he5
   have hnx : Ua s (Vt j) (done, ev) (d + 1) = Wj s (Vt j) (dn, es1) d := hsucc
   generalize hph0 : Vt j d = p at *
   by_cases hdone : dn.getD d true = true
   ·rw [hdone] at gD
    have e2 : Wj s (Vt j) (dn, es1) d = (dn, es1) := by unfold Wj; rw [if_pos (.inl hdone)]
    rw [e2] at hnx
    repeat' (first | refine uN ?_ | refine uC (kf _ _) ?_ | (refine uB ?_; intro b) | (refine uP ?_ ?_ <;> (intro h; ((try simp only [zs, ne_eq, and_true, true_and, eq_self, reduceCtorEq] at h); try exact zx))) | fail)
    all_goals refine Zg (d + 1, .slice a5 es1.length cap5, c1) uS ?_ ⟨by simp only; omega, ?_⟩ (by simp only; omega)
    all_goals rw [hnx]
    all_goals first | exact hv1 | exact LS.refl _
   ·have hdf : dn.getD d true = false := by simpa using hdone
    rw [hdf] at gD
    by_cases hph : p ≠ 2 ∧ p ≠ 3
    ·have e2 : Wj s (Vt j) (dn, es1) d = (dn, es1) := by unfold Wj; rw [if_pos (.inr (by simp only [hph0]; exact hph))]
     rw [e2] at hnx
     have kf2 := kf p
     rw [decide_eq_false (by omega : ¬ (p = 2 ∨ p = 3))] at kf2
     repeat' (first | refine uN ?_ | refine uC (kf2 _) ?_ | (refine uB ?_; intro b) | (refine uP ?_ ?_ <;> (intro h; ((try simp only [zs, ne_eq, and_true, true_and, eq_self, reduceCtorEq] at h); try exact zx))) | fail)
     all_goals refine Zg (d + 1, .slice a5 es1.length cap5, c1) uS ?_ ⟨by simp only; omega, ?_⟩ (by simp only; omega)
     all_goals rw [hnx]
     all_goals first | exact hv1 | exact LS.refl _
    ·have e2 : Wj s (Vt j) (dn, es1) d = (dn.set d true, if es1.length < 500 then es1 ++ [⟨s, d, p⟩] else es1) := by unfold Wj; rw [if_neg (by simp only [hdf, hph0]; intro h; rcases h with h | h; cases h; exact hph h), hph0]
     rw [e2] at hnx
     have kf2 := kf p
     rw [decide_eq_true (by omega : (p = 2 ∨ p = 3))] at kf2
     by_cases h500 : es1.length < 500
     ·rw [if_pos h500] at hnx
      repeat' (first | refine uN ?_ | refine uC (kf2 _) ?_ | (refine uB ?_; intro b) | (refine uP ?_ ?_ <;> (intro h; ((try simp only [zs, ne_eq, and_true, true_and, eq_self, reduceCtorEq] at h); try exact zx))) | fail)
      all_goals refine fo 2 ?_
      all_goals refine Zeb S ⟨s, d, p⟩ hv1 Vo Znq ?_
      all_goals intro v' c' hv'
      all_goals obtain ⟨a6, cap6, he6, -, -⟩ := hv'.rd Vo
      all_goals subst he6
      all_goals repeat' (first | refine uN ?_ | refine uC (kf2 _) ?_ | (refine uB ?_; intro b) | (refine uP ?_ ?_ <;> (intro h; ((try simp only [zs, ne_eq, and_true, true_and, eq_self, reduceCtorEq] at h); try exact zx))) | fail)
      all_goals refine Zg (d + 1, .slice a6 (es1 ++ [⟨s, d, p⟩] : List Evt).length cap6, c') uS ?_ ⟨by simp only; omega, ?_⟩ (by simp only; omega)
      all_goals rw [hnx]
      all_goals first | exact hv' | exact uL
     ·rw [if_neg h500] at hnx
      repeat' (first | refine uN ?_ | refine uC (kf2 _) ?_ | (refine uB ?_; intro b) | (refine uP ?_ ?_ <;> (intro h; ((try simp only [zs, ne_eq, and_true, true_and, eq_self, reduceCtorEq] at h); try exact zx))) | fail)
      all_goals refine Zg (d + 1, .slice a5 es1.length cap5, c1) uS ?_ ⟨by simp only; omega, ?_⟩ (by simp only; omega)
      all_goals rw [hnx]
      all_goals first | exact hv1 | exact uL
  ·obtain rfl : d = 6 := by omega
   have hR6 : Ua s (Vt j) (done, ev) 6 = (dn, es1) := hRR
   rw [hR6]
   repeat' (first | refine uN ?_ | (refine uB ?_; intro b) | (refine uP ?_ ?_ <;> (intro h; ((try simp only [zs, ne_eq, and_true, true_and, eq_self, reduceCtorEq] at h); try exact zx))) | fail)
   exact ee0 rfl ⟨_, _, hv1, rfl, rfl⟩
end Go.HL
end

/-! MwD -/
section
namespace Go.HL
open Go Go.Proofs
set_option linter.unusedVariables false
set_option linter.unusedSimpArgs false
theorem put_off {m : Pl} {j : Jn} (h : JI m j) (ho : m.off = false) (deal : Int) (s : St) : (Xo m j deal s).2.2 = some 6 ↔ (Xo m j deal s).1.off = true := by
 have hd : j.dead = false := by rw [h.off, ho]
 rcases (Zfh h deal s).2.2 with ⟨-, ⟨h1, h2⟩ | ⟨h1, h2⟩ | ⟨h1, h2⟩⟩ | ⟨-, h1, -, h2, -⟩
 ·simp [h1, h2]
 ·have : Xo m j deal s = (m, j, some 2) := by unfold Xo; rw [hd]; simp [h2]
  rw [this]; simp [ho]
 ·rw [h1]
  have : (Xo m j deal s).1 = m := by
   unfold Xo at h1 ⊢
   rw [hd] at h1 ⊢
   simp only [Bool.false_eq_true, if_false] at h1 ⊢
   split
   ·rfl
   ·split
    ·rfl
    ·rfl
  rw [this, ho]; simp
 ·rw [h1, h2]; simp
theorem site_off {m : Pl} {j : Jn} (h : JI m j) (ho : m.off = false) (id : Int) (ref : Int → Bool) (f : Fr) : (Zp id ref m j f).2.2.2 = some 6 ↔ (Zp id ref m j f).1.off = true := by
 unfold Zp
 split
 ·simp [ho]
 split
 ·simp [ho]
 have := put_off h ho f.dl (Z8 ref f (j.l.getD f.dl.toNat Zl).s).1
 split
 ·rename_i e he
  rw [he] at this
  exact this
 ·rename_i he
  rw [he] at this
  exact this
theorem Zu4 {m : Pl} {j : Jn} (h : JI m j) (ho : m.off = false) (id : Int) (ref : Int → Bool) (f : Fr) (hb : ¬ Xv f) (hto : f.to = id) (hn : (j.l.getD f.dl.toNat Zl).n + 1 < 4294967296) (hp : ¬ V5 f.dl (Z8 ref f (j.l.getD f.dl.toNat Zl).s).1) :
  (Zp id ref m j f).2.2.2.isNone = !(Zp id ref m j f).1.off := by
 unfold Zp
 rw [if_neg hb, if_neg (by simpa using hto)]
 rcases (Zfh h f.dl (Z8 ref f (j.l.getD f.dl.toNat Zl).s).1).2.2 with ⟨-, ⟨h1, h2⟩ | ⟨h1, h2⟩ | ⟨h1, h2⟩⟩ | ⟨-, h1, -, h2, -⟩
 ·simp only [h1]; rw [h2]; rfl
 ·exact absurd h2 hp
 ·omega
 ·simp only [h1]; rw [h2]; rfl
theorem Zon {G : RwG} {M : Wm} (h : RwOk G M) {s : Int} (h0 : 0 ≤ s) (h1 : s < M.n.length) {H : Zb} (hH : ∀ b o, (b, o) ∈ G.nc → Has H b o) : NpIn H G.nv M.n.length s (Ye G s).np := by
 have hl := h.ndl
 obtain ⟨a, cap, hnv, -, hR⟩ := h.nodes.rd Wt
 have hR2 := (hR []).mono (L' := H) fun b o hb => hH b o (by simpa [Has] using hb)
 obtain ⟨b, i, l, F, fr, rfl, hb, hg⟩ := hR2.at1 (j := s) h0 (by simp; omega)
 refine ⟨⟨b, i, l, F, fr, cap, by rw [hnv, List.length_map, hl], hb, ?_⟩, h0, h1⟩
 have e : (G.nd.map (·.np))[s.toNat]'(by simp; omega) = (Ye G s).np := by
  rw [List.getElem_map]
  unfold Ye
  rw [List.getD, List.getElem?_eq_getElem (by omega)]
  rfl
 rw [e] at hg
 exact hg 0 _ rfl
theorem rjC_in {g : NrG} {j : Jn} {H : Zb} (h : ∀ p ∈ Ql g.r j, Has H p.1 p.2) : Has H g.r.rj (.cells ⟨Zf4 g.r j.dead⟩ 214) ∧ Has H g.r.bS (.cells ⟨((j.l.map Ent.s).map sc).flatten ++ g.r.spS⟩ 43) :=
 ⟨h (g.r.rj, _) (by simp [Ql]), h (g.r.bS, _) (by simp [Ql])⟩
theorem rsC_in {g : NrG} {s : Int} {ref : Int → Bool} {H : Zb} (h : ∀ p ∈ Zew g.rs g.r.rj g.bR s ref, Has H p.1 p.2) : ∃ bR, Has H g.rs (.cells ⟨[iv s, pt g.r.rj 0, bR]⟩ 208) := ⟨sl g.bR 0 6 6, h (g.rs, .cells ⟨[iv s, pt g.r.rj 0, sl g.bR 0 6 6]⟩ 208) (by simp [Zew])⟩
theorem Zn2 {g : NrG} {s : Int} {ref : Int → Bool} {j : Jn} {H : Zb} (h1 : ∀ p ∈ Zew g.rs g.r.rj g.bR s ref, Has H p.1 p.2) (h2 : ∀ p ∈ Ql g.r j, Has H p.1 p.2) : RsIn H g s j := ⟨rsC_in h1, (rjC_in h2).1, (rjC_in h2).2⟩
def Zra (G : RwG) (s : Int) (g : NrG) (m : Nd) (ref : Int → Bool) (ev : List Evt) (r : Pl × Jn × List Fr × Option Nat) (L : Zb) (v : Value) (L' : Zb) : Prop :=
 ∃ left, (r.1.cut ≠ -1 → left = r.1.cut) ∧ if r.1.off then ∃ bl, v = .tuple ⟨[Y3, .bool false]⟩ ∧ L' = [(G.wp, Vv G)] :: G.ec :: Zd2 { g with bl := bl } ⟨r.1, none, noLeads, m.done⟩ :: Zg4 { g with bl := bl } ⟨r.1, none, noLeads, m.done⟩ :: Zks g m :: We g.rp r.1 left :: L
 else ∃ fv c evv c2, Zx fv r.2.2.1 c ∧ Vec 162 3 ec evv (Xb s ⟨r.1, some (r.2.1, ref), m.leads, m.done⟩ ev).2 c2 ∧ v = .tuple ⟨[fv, .bool true]⟩ ∧
  L' = [(G.wp, Vv { G with ev := evv, ec := c2 })] :: c2 :: Zd2 g m :: Zg4 g m :: Zks g ⟨r.1, some (r.2.1, ref), m.leads, (Xb s ⟨r.1, some (r.2.1, ref), m.leads, m.done⟩ ev).1⟩ :: Zew g.rs g.r.rj g.bR s ref :: Ql g.r r.2.1 :: We g.rp r.1 left :: c :: L
set_option maxHeartbeats 2000000 attribute [local irreducible] HW HO HQ HD HC QOp Has Upd Zt Gets Yb Z6 Zr Xr Z4 Zm Xx Zy
attribute [local irreducible] Zo Zp Ql Zew We
theorem Zn6 (G : RwG) (s : Int) (g : NrG) (m : Nd) (f : Fr) (ev : List Evt) (n : Nat) (j : Jn) (ref : Int → Bool) (L : Zb) (hp : NpIn L G.nv n s g.np) (hv : Vec 162 3 ec G.ev ev G.ec) (hl : ev.length ≤ 500)
  (hN : NrOk g m) (w : List Int) (sn : Nat) (hI : NdI w sn m) (hs : m.site = some (j, ref)) (hj' : (Zp s ref m.pl j f).2.1.l.length = 6) : HC Tryz.prog 146 [pt G.wp 0, iv s, .agg ⟨fc f⟩] ([(G.wp, Vv G)] :: G.ec :: Zd2 g m :: Zg4 g m :: Zks g m :: Zew g.rs g.r.rj g.bR s ref :: Ql g.r j :: We g.rp m.pl g.left :: L)
  (Zra G s g m ref ev (Zp s ref m.pl j f) L) := by
 have hJ := (hI.jn hs).ji
 have kh := fun L => Znh g.rs g.bR s ref g.r m.pl j g.left f L hJ.pl hJ.jn hN.left
 have hso := site_off hJ (hI.up j ref hs).2 s ref f
 rw [hN.rp] at kh
 generalize Zp s ref m.pl j f = r at kh hj' hso ⊢
 obtain ⟨pl', j', fs, er⟩ := r
 simp only at kh hj' hso ⊢
 have kf := fun L => Zhi g m L hN.ld
 unfold Zra
 obtain ⟨pl, site, leads, done⟩ := m
 simp only at hs kh kf ⊢
 subst hs
 obtain ⟨wp, aw, cw, wl, nv, nc, bv, bc, bl, lv, lc, evv, Zr7, nd⟩ := G
 simp only at hv hp ⊢
 have hp0 := hp
 obtain ⟨⟨nb, i, l, F, fr, cap, rfl, hb, hg⟩, h0, h1⟩ := hp
 cases hoff : pl'.off with
 | true =>
  have her : er = some 6 := hso.2 hoff
  subst her
  simp only [if_true, Vv, Zd2, Za2, Zdx, Xy] at kh kf ⊢
  refine Za (fun _ _ => Tryz.call146 _ _) Tryz.func146 rfl Tryz.ntmps146 (Nat.le_of_ble_eq_true rfl) ?_; simp only [Zc, Nat.reduceAdd]
  repeat' (first | refine uN ?_ | refine Yc S ?_ | (refine uB ?_; intro b) | (refine uP ?_ ?_ <;> (intro h; ((try simp only [zs, ne_eq, and_true, true_and, eq_self, reduceCtorEq] at h); try exact zx))) | refine da 101 ?_ | fail)
  refine fo 8 ?_
  refine fo 8 ?_
  refine fo 8 ?_
  refine gc (kh _) ?_
  rintro v L' ⟨fv, c, left', rfl, hfv, hl', rfl⟩
  repeat' (first | refine uN ?_ | refine Yc S ?_ | (refine uB ?_; intro b) | (refine uP ?_ ?_ <;> (intro h; ((try simp only [zs, ne_eq, and_true, true_and, eq_self, reduceCtorEq] at h); try exact zx))) | refine da 101 ?_ | fail)
  refine fo 7 ?_
  refine gc (kf _) ?_
  rintro v L' ⟨bl', rfl, rfl⟩
  repeat' (first | refine uN ?_ | refine Yc S ?_ | (refine uB ?_; intro b) | (refine uP ?_ ?_ <;> (intro h; ((try simp only [zs, ne_eq, and_true, true_and, eq_self, reduceCtorEq] at h); try exact zx))) | refine da 101 ?_ | fail)
  exact Qj (L' := [(wp, .cells ⟨[.slice aw wl cw, sl nb i n cap, bv, lv, evv]⟩ 94)] :: Zr7 :: Zd2 { g with bl := bl' } ⟨pl', none, noLeads, done⟩ :: Zg4 { g with bl := bl' } ⟨pl', none, noLeads, done⟩ :: Zks g ⟨pl, some (j, ref), leads, done⟩ :: We g.rp pl' left' :: L) (by simp only [Zd2, Za2, Zdx]; exact uL) ⟨left', hl', bl', rfl, rfl⟩
 | false =>
  have her : Xy er ≠ 6 := by
   intro h
   have : er = some 6 := by
    cases er with
    | none => cases h
    | some e => simp only [Xy] at h; congr 1; omega
   rw [hso.1 this] at hoff; cases hoff
  generalize Xy er = z at her kh
  have hkn := fun (M1 : Nd) (hM : M1 = ⟨pl', some (j', ref), leads, done⟩) (G1 : RwG) (hG1 : G1 = ⟨wp, aw, cw, wl, sl nb i n cap, nc, bv, bc, bl, lv, lc, evv, Zr7, nd⟩) L (hq : NpIn L (sl nb i n cap) n s g.np) (hN2 : Has L g.np (Za2 g M1)) (hsi : RsIn L g s j') => Zg7 G1 s g M1 ev n L (by subst hG1; exact hv) hl (by subst hG1; exact hq) hN2 (by subst hM; exact hI.done) (by subst hM; intro j2 r2 h2; cases h2; exact ⟨hsi, hj'⟩)
  have hkn := fun L hq hN2 hsi => hkn _ rfl _ rfl L hq hN2 hsi
  simp only [Bool.false_eq_true, if_false, Vv, Zd2, Za2, Zdx] at hkn kh ⊢
  refine Za (fun _ _ => Tryz.call146 _ _) Tryz.func146 rfl Tryz.ntmps146 (Nat.le_of_ble_eq_true rfl) ?_; simp only [Zc, Nat.reduceAdd]
  repeat' (first | refine uN ?_ | refine Yc S ?_ | (refine uB ?_; intro b) | (refine uP ?_ ?_ <;> (intro h; ((try simp only [zs, ne_eq, and_true, true_and, eq_self, reduceCtorEq] at h); try exact zx))) | refine da 101 ?_ | fail)
  refine fo 8 ?_
  refine fo 8 ?_
  refine fo 8 ?_
  refine gc (kh _) ?_
  rintro v L' ⟨fv, c, left', rfl, hfv, hl', rfl⟩
  repeat' (first | refine uN ?_ | refine Yc S ?_ | (refine uB ?_; intro b) | (refine uP ?_ ?_ <;> (intro h; ((try simp only [zs, ne_eq, and_true, true_and, eq_self, reduceCtorEq] at h); try exact zx))) | refine da 101 ?_ | fail)
  refine fo 9 ?_
  refine fo 7 ?_
  refine fo 7 ?_
  refine gc (hkn _ ?_ ?_ ?_) ?_
  ·exact (((((((⟨⟨nb, i, l, F, fr, cap, rfl, hb, hg⟩, h0, h1⟩ : NpIn L (sl nb i n cap) n s g.np).cons _).cons _).cons _).cons _).cons _).cons _).cons _
  ·exact Zf (Zf (Zf (Zf (Zf Zv))))
  ·exact Zn2 (fun p hp => Yt hp) (fun p hp => Zf (Yt hp))
  rintro v L' ⟨evv', c2, hv2, rfl, rfl⟩
  obtain ⟨af, capf, rfl, -, -⟩ := hfv.rd Zi
  repeat' (first | refine uN ?_ | refine Yc S ?_ | (refine uB ?_; intro b) | (refine uP ?_ ?_ <;> (intro h; ((try simp only [zs, ne_eq, and_true, true_and, eq_self, reduceCtorEq] at h); try exact zx))) | refine da 101 ?_ | fail)
  exact Qj (L' := [(wp, .cells ⟨[.slice aw wl cw, sl nb i n cap, bv, lv, evv']⟩ 94)] :: c2 :: Zd2 g ⟨pl, some (j, ref), leads, done⟩ :: Zg4 g ⟨pl, some (j, ref), leads, done⟩ :: Zks g ⟨pl', some (j', ref), leads, (Xb s ⟨pl', some (j', ref), leads, done⟩ ev).1⟩ :: Zew g.rs g.r.rj g.bR s ref :: Ql g.r j' :: We g.rp pl' left' :: c :: L) (by simp only [Zd2, Za2, Zdx]; exact uL) ⟨left', hl', _, c, evv', c2, hfv, hv2, rfl, rfl⟩
def Zj1 (s : Int) (m : Nd) (f : Fr) : Bool := match m.site with
 | none => false
 | some (j, ref) => !(Zp s ref m.pl j f).1.off
theorem NrOk.fall {g : NrG} {m : Nd} (h : NrOk g m) (pl : Pl) (dn : List Bool) (bl : Nat) {left : Int} (hl : pl.cut ≠ -1 → left = pl.cut) : NrOk { g with bl := bl, left := left } ⟨pl, none, noLeads, dn⟩ := by
 refine ⟨h.ld, h.rp, hl, fun d x hx => ?_⟩
 simp only [noLeads, List.getElem?_replicate] at hx
 split at hx <;> cases hx
theorem NrOk.same {g : NrG} {m : Nd} (h : NrOk g m) (st : Option (Jn × (Int → Bool))) (pl : Pl) (dn : List Bool) {left : Int} (hl : pl.cut ≠ -1 → left = pl.cut) : NrOk { g with left := left } ⟨pl, st, m.leads, dn⟩ := ⟨h.ld, h.rp, hl, h.lok⟩
theorem Zub {aw : Option Addr} {cw : Nat} {g : NrG} (h : g.ld.length = 6) {pl : Pl} {st : Option (Jn × (Int → Bool))} {dn : List Bool} : Zdw aw cw g ⟨pl, st, noLeads, dn⟩ = [] := by
 unfold Zdw noLeads
 obtain ⟨a, b, c, d, e, f, hh⟩ : ∃ a b c d e f, g.ld = [a, b, c, d, e, f] := by
  match g.ld, h with
  | [a, b, c, d, e, f], _ => exact ⟨_, _, _, _, _, _, rfl⟩
 rw [hh]; rfl
theorem Zfz (G : RwG) (M : Wm) (s : Int) (f : Fr) (L : Zb) (h : RwOk G M) (hI : WI M) (h0 : 0 ≤ s) (h1 : s < M.n.length) (hs : (Zd M s).site ≠ none) :
  HC Tryz.prog 146 [pt G.wp 0, iv s, .agg ⟨fc f⟩] (Xs G M ++ L) (fun v L' => ∃ c, (∃ fv, Zx fv (Yo M s f).2.1 c ∧ v = .tuple ⟨[fv, .bool (Zj1 s (Zd M s) f)]⟩) ∧ Zif G (Yo M s f).1 (c :: L) L') := by
 refine HC.nodeR h h0 h1 ?_
 have hN := Uu h h0 h1
 have hi := Wr hI h0 h1
 have hnp := Zon h h0 h1 (H := Zdw G.aw G.cw (Ye G s) (Zd M s) :: G.lc :: G.nc :: G.bc :: Vc G.aw G.cw G.nd M.n 0 s.toNat :: L) fun b o hb => Zf (Zf (Yt hb))
 unfold Yo Y7 Zj1
 generalize Vc G.aw G.cw G.nd M.n 0 s.toNat = X at *
 generalize hm : Zd M s = m at *
 generalize hg : Ye G s = g at *
 obtain ⟨pl, site, leads, done⟩ := m
 cases site with
 | none => exact absurd rfl hs
 | some q =>
  obtain ⟨j, ref⟩ := q
  have hsj := Zcl (id := s) (ref := ref) (hi.jn rfl) f
  have hj6 : (Zp s ref pl j f).2.1.l.length = 6 := hsj.1.ji.jn.len
  have kh := Zn6 G s g ⟨pl, some (j, ref), leads, done⟩ f M.ev M.n.length j ref (Zdw G.aw G.cw g ⟨pl, some (j, ref), leads, done⟩ :: G.lc :: G.nc :: G.bc :: X :: L) hnp h.ev hI.evl hN M.w s.toNat hi rfl hj6
  refine HC.post kh ?_
  intro v L' hq
  unfold Zra at hq
  obtain ⟨left', hl', hq⟩ := hq
  simp only at hq hl' ⊢
  generalize Zp s ref pl j f = r at *
  split at hq
  ·rename_i hoff
   obtain ⟨bl', rfl, rfl⟩ := hq
   have e := Zub (aw := G.aw) (cw := G.cw) (g := { g with bl := bl', left := left' }) hN.ld (pl := r.1) (st := none) (dn := done)
   refine ⟨Ws G s { g with bl := bl', left := left' } ⟨r.1, none, noLeads, done⟩ X ([] :: L), ?_, [], ?_, G, M, { g with bl := bl', left := left' }, ⟨r.1, none, noLeads, done⟩, h, rfl, rfl, .refl G, hN.fall _ _ _ hl', rfl, ?_, rfl⟩
   ·simp only [Ws, Zk9, Zlc, e]
    exact uL
   ·rw [if_pos hoff, hoff]
    exact ⟨_, Zu, rfl⟩
   ·rw [if_pos hoff]; rfl
  ·rename_i hoff
   obtain ⟨fv, c, evv, c2, hfv, hev, rfl, rfl⟩ := hq
   have hoff2 : r.1.off = false := by simpa using hoff
   refine ⟨Ws { G with ev := evv, ec := c2 } s { g with left := left' } ⟨r.1, some (r.2.1, ref), leads, (Xb s ⟨r.1, some (r.2.1, ref), leads, done⟩ M.ev).1⟩ X (c :: L), ?_, c, ?_, { G with ev := evv, ec := c2 }, { M with ev := (Xb s ⟨r.1, some (r.2.1, ref), leads, done⟩ M.ev).2 }, { g with left := left' }, ⟨r.1, some (r.2.1, ref), leads, (Xb s ⟨r.1, some (r.2.1, ref), leads, done⟩ M.ev).1⟩, h.setE hev, rfl, rfl, ⟨rfl, rfl, rfl, rfl, rfl⟩, hN.same _ _ _ hl', rfl, ?_, rfl⟩
   ·simp only [Ws, Zk9, Zlc]
    exact uL
   ·rw [if_neg hoff, hoff2]
    exact ⟨_, hfv, rfl⟩
   ·rw [if_neg hoff]; rfl
end Go.HL
end

/-! MwE -/
section
namespace Go.HL
open Go Go.Proofs
set_option linter.unusedVariables false
set_option linter.unusedSimpArgs false
theorem Zu5 (xs : List Fr) (k : Nat) : xs.take k ++ xs.drop (k + 1) = xs.eraseIdx k := (List.eraseIdx_eq_take_drop_succ ..).symm
set_option maxHeartbeats 2000000 attribute [local irreducible] HW HO HQ HD HC QOp Has Upd Zt Gets Yb Z6 Zr Xr Z4 Zm Xx Zy
attribute [local irreducible] Zo Zp Ql Zew We
theorem Uv (G : RwG) (xs ys : List Fr) (a : Option Addr) (cap : Nat) (L : Zb) (hv : Zx G.lv xs G.lc) (hR : Rd fc 9 L a ys) (hl : xs.length + ys.length ≤ 100000000) :
  HC Tryz.prog 141 [pt G.wp 0, .slice a ys.length cap] ([(G.wp, Vv G)] :: G.lc :: L) (fun v L' => ∃ lv lc, Zx lv (xs ++ ys) lc ∧ v = .tuple ⟨[]⟩ ∧ L' = [(G.wp, Vv { G with lv := lv, lc := lc })] :: lc :: L) := by
 obtain ⟨wp, aw, cw, wl, nv, nc, bv, bc, bl, lv, lc, evv, Zr7, nd⟩ := G
 simp only [Vv] at hv ⊢
 refine Za (fun _ _ => Tryz.call141 _ _) Tryz.func141 rfl Tryz.ntmps141 (Nat.le_of_ble_eq_true rfl) ?_; simp only [Zc, Nat.reduceAdd]
 repeat' (first | refine uN ?_)
 refine fo 1 ?_
 refine Ztv S hv (Rd.cons (hR.cons _) _) Zi Wd ?_ (hby := by omega) (hmax := by omega)
 intro v' c' hv'
 obtain ⟨a9, cap9, rfl, -, -⟩ := hv'.rd Zi
 repeat' (first | refine uN ?_)
 exact spn (L' := [(wp, .cells ⟨[.slice aw wl cw, nv, bv, .slice a9 (xs ++ ys).length cap9, evv]⟩ 94)] :: c' :: L) uL ⟨_, c', hv', rfl, rfl⟩
theorem Zht (G : RwG) (xs : List Fr) (k : Int) (L : Zb) (hv : Zx G.lv xs G.lc) (hl : xs.length ≤ 99999999) :
  HC Tryz.prog 151 [pt G.wp 0, iv k] ([(G.wp, Vv G)] :: G.lc :: L) (fun v L' => if k < 0 ∨ xs.length ≤ k then v = .tuple ⟨[.agg ⟨fc Ys⟩, .bool false]⟩ ∧ L' = [(G.wp, Vv G)] :: G.lc :: L
   else ∃ lv lc, Zx lv (xs.eraseIdx k.toNat) lc ∧ v = .tuple ⟨[.agg ⟨fc (xs.getD k.toNat Ys)⟩, .bool true]⟩ ∧ L' = [(G.wp, Vv { G with lv := lv, lc := lc })] :: lc :: L) := by
 obtain ⟨wp, aw, cw, wl, nv, nc, bv, bc, bl, lv, lc, evv, Zr7, nd⟩ := G
 simp only [Vv] at hv ⊢
 obtain ⟨a5, cap5, rfl, hcap, hR5⟩ := hv.rd Zi
 by_cases h : k < 0 ∨ xs.length ≤ k
 ·simp only [if_pos h]
  refine Za (fun _ _ => Tryz.call151 _ _) Tryz.func151 rfl Tryz.ntmps151 (Nat.le_of_ble_eq_true rfl) ?_; simp only [Zc, Nat.reduceAdd]
  repeat' (first | refine uN ?_ | (refine uB ?_; intro b) | (refine uP ?_ ?_ <;> (intro h; ((try simp only [zs, ne_eq, and_true, true_and, eq_self, reduceCtorEq] at h); try exact zx))) | fail)
  all_goals exact Qj (L' := [(wp, .cells ⟨[.slice aw wl cw, nv, bv, .slice a5 xs.length cap5, evv]⟩ 94)] :: lc :: L) uL ⟨rfl, rfl⟩ (hx := Ww S (hg := X2 _))
 ·simp only [if_neg h]
  obtain ⟨b9, i9, l, F, fr, rfl, hb, hg⟩ := (hR5 L).at (j := k) (by omega) (by omega)
  have hgk : xs[k.toNat]'(by omega) = xs.getD k.toNat Ys := by
   rw [List.getD, List.getElem?_eq_getElem (by omega)]; rfl
  have hlt : k.toNat < xs.length := by omega
  have e1 : (xs.take k.toNat).length = k.toNat := by rw [List.length_take]; omega
  rw [hgk] at hg
  have hT := fun L => (hR5 L).take (n := k.toNat)
  have hD := fun L => (hR5 L).drop (l := (k + 1).toNat) hcap
  have eD : xs.take k.toNat ++ xs.drop (k + 1).toNat = xs.eraseIdx k.toNat := by rw [← Zu5]; congr 2; omega
  have eL : (xs.drop (k + 1).toNat).length = xs.length - (k + 1).toNat := List.length_drop ..
  generalize xs.getD k.toNat Ys = f at *
  refine Za (fun _ _ => Tryz.call151 _ _) Tryz.func151 rfl Tryz.ntmps151 (Nat.le_of_ble_eq_true rfl) ?_; simp only [Zc, Nat.reduceAdd]
  repeat' (first | refine uN ?_ | (refine uB ?_; intro b) | (refine uP ?_ ?_ <;> (intro h; ((try simp only [zs, ne_eq, and_true, true_and, eq_self, reduceCtorEq] at h); try exact zx))) | fail)
  refine Zic ?_
  refine Ztv S (xs := []) Zu (ys := xs.take k.toNat) (a := some ⟨b9, i9, none⟩) (cap := cap5) (Rd.cons ((hT []).mono fun x o hb => ?_) _) Zi Wd ?_ (hy := by rw [e1]; exact rfl) (hby := by simp only [List.length_nil]; omega) (hmax := by simp only [List.length_nil]; omega)
  ·exact Zf (Zf (Zf (Yt (by simpa [Has] using hb))))
  intro v' c' hv'
  simp only [List.nil_append] at hv'
  obtain ⟨a6, cap6, rfl, -, -⟩ := hv'.rd Zi
  repeat' (first | refine uN ?_ | (refine uB ?_; intro b) | (refine uP ?_ ?_ <;> (intro h; ((try simp only [zs, ne_eq, and_true, true_and, eq_self, reduceCtorEq] at h); try exact zx))) | fail)
  refine Ztv S hv' (ys := xs.drop (k + 1).toNat) (a := cut (some ⟨b9, i9, none⟩) cap5 (k + 1).toNat 9) (cap := cap5 - (k + 1).toNat) (Rd.cons ((hD []).mono fun x o hb => ?_) _) Zi Wd ?_ (hy := by rw [eL]; exact rfl) (hby := by rw [e1, eL]; omega) (hmax := by rw [e1, eL]; omega)
  ·exact Zf (Zf (Zf (Yt (by simpa [Has] using hb))))
  intro v' c'' hv''
  rw [eD] at hv''
  obtain ⟨a7, cap7, rfl, -, -⟩ := hv''.rd Zi
  repeat' (first | refine uN ?_ | (refine uB ?_; intro b) | (refine uP ?_ ?_ <;> (intro h; ((try simp only [zs, ne_eq, and_true, true_and, eq_self, reduceCtorEq] at h); try exact zx))) | fail)
  exact Qj (L' := [(wp, .cells ⟨[.slice aw wl cw, nv, bv, .slice a7 (xs.eraseIdx k.toNat).length cap7, evv]⟩ 94)] :: c'' :: L) uL ⟨_, c'', hv'', rfl, rfl⟩ (hx := Ww S (hg := X2 _))
theorem Zll (G : RwG) (xs : List Fr) (k : Int) (L : Zb) (hv : Zx G.lv xs G.lc) (hl : xs.length ≤ 99999999) :
  HC Tryz.prog 89 [pt G.wp 0, iv k] ([(G.wp, Vv G)] :: G.lc :: L) (fun v L' => if k < 0 ∨ xs.length ≤ k then v = iv 4 ∧ L' = [(G.wp, Vv G)] :: G.lc :: L
   else ∃ lv lc, Zx lv (xs.take (k + 1).toNat ++ xs.getD k.toNat Ys :: xs.drop (k + 1).toNat) lc ∧ v = iv 0 ∧ L' = [(G.wp, Vv { G with lv := lv, lc := lc })] :: lc :: L) := by
 obtain ⟨wp, aw, cw, wl, nv, nc, bv, bc, bl, lv, lc, evv, Zr7, nd⟩ := G
 simp only [Vv] at hv ⊢
 obtain ⟨a5, cap5, rfl, hcap, hR5⟩ := hv.rd Zi
 by_cases h : k < 0 ∨ xs.length ≤ k
 ·simp only [if_pos h]
  refine Za (fun _ _ => Tryz.call89 _ _) Tryz.func89 rfl Tryz.ntmps89 (Nat.le_of_ble_eq_true rfl) ?_; simp only [Zc, Nat.reduceAdd]
  repeat' (first | refine uN ?_ | (refine uB ?_; intro b) | (refine uP ?_ ?_ <;> (intro h; ((try simp only [zs, ne_eq, and_true, true_and, eq_self, reduceCtorEq] at h); try exact zx))) | fail)
  all_goals exact Yi uL ⟨rfl, rfl⟩
 ·simp only [if_neg h]
  obtain ⟨b9, i9, l, F, fr, rfl, hb, hg⟩ := (hR5 L).at (j := k) (by omega) (by omega)
  have hgk : xs[k.toNat]'(by omega) = xs.getD k.toNat Ys := by
   rw [List.getD, List.getElem?_eq_getElem (by omega)]; rfl
  have hb5 : ∀ H, Has (lc :: H) b9 (.cells ⟨l⟩ F fr) → True := fun _ _ => trivial
  have hlt : k.toNat < xs.length := by omega
  have e1 : (xs.take (k + 1).toNat).length = (k + 1).toNat := by rw [List.length_take]; omega
  rw [hgk] at hg
  have hT := fun L => (hR5 L).take (n := (k + 1).toNat)
  have hD := fun L => (hR5 L).drop (l := (k + 1).toNat) hcap
  have eL : (xs.drop (k + 1).toNat).length = xs.length - (k + 1).toNat := List.length_drop ..
  have eA : ∀ f : Fr, (xs.take (k + 1).toNat ++ [f]) ++ xs.drop (k + 1).toNat = xs.take (k + 1).toNat ++ f :: xs.drop (k + 1).toNat := fun f => by simp
  have eB : ∀ f : Fr, (xs.take (k + 1).toNat ++ [f]).length = (k + 1).toNat + 1 := fun f => by simp only [List.length_append, e1, List.length_singleton]
  generalize xs.getD k.toNat Ys = f at *
  refine Za (fun _ _ => Tryz.call89 _ _) Tryz.func89 rfl Tryz.ntmps89 (Nat.le_of_ble_eq_true rfl) ?_; simp only [Zc, Nat.reduceAdd]
  repeat' (first | refine uN ?_ | (refine uB ?_; intro b) | (refine uP ?_ ?_ <;> (intro h; ((try simp only [zs, ne_eq, and_true, true_and, eq_self, reduceCtorEq] at h); try exact zx))) | fail)
  refine Zic ?_
  refine Ztv S (xs := []) Zu (ys := xs.take (k + 1).toNat) (a := some ⟨b9, i9, none⟩) (cap := cap5) (Rd.cons ((hT []).mono fun x o hb => ?_) _) Zi Wd ?_ (hy := by rw [e1]; exact rfl) (hby := by simp only [List.length_nil]; omega) (hmax := by simp only [List.length_nil]; omega)
  ·exact Zf (Yt (by simpa [Has] using hb))
  intro v' c' hv'
  simp only [List.nil_append] at hv'
  obtain ⟨a6, cap6, rfl, -, -⟩ := hv'.rd Zi
  repeat' (first | refine uN ?_ | (refine uB ?_; intro b) | (refine uP ?_ ?_ <;> (intro h; ((try simp only [zs, ne_eq, and_true, true_and, eq_self, reduceCtorEq] at h); try exact zx))) | fail)
  refine fo 1 ?_
  refine Zeb S f hv' Zi Wd ?_ (hby := by rw [e1]; omega) (hmax := by rw [e1]; omega)
  intro v'' c'' hv''
  obtain ⟨a7, cap7, rfl, -, -⟩ := hv''.rd Zi
  repeat' (first | refine uN ?_ | (refine uB ?_; intro b) | (refine uP ?_ ?_ <;> (intro h; ((try simp only [zs, ne_eq, and_true, true_and, eq_self, reduceCtorEq] at h); try exact zx))) | fail)
  refine Ztv S hv'' (ys := xs.drop (k + 1).toNat) (a := cut (some ⟨b9, i9, none⟩) cap5 (k + 1).toNat 9) (cap := cap5 - (k + 1).toNat) (Rd.cons ((hD []).mono fun x o hb => ?_) _) Zi Wd ?_ (hy := by rw [eL]; exact rfl) (hby := by rw [eB, eL]; omega) (hmax := by rw [eB, eL]; omega)
  ·exact Zf (Zf (Yt (by simpa [Has] using hb)))
  intro v3 c3 hv3
  rw [eA] at hv3
  obtain ⟨a8, cap8, rfl, -, -⟩ := hv3.rd Zi
  repeat' (first | refine uN ?_ | (refine uB ?_; intro b) | (refine uP ?_ ?_ <;> (intro h; ((try simp only [zs, ne_eq, and_true, true_and, eq_self, reduceCtorEq] at h); try exact zx))) | fail)
  exact Yi (L' := [(wp, .cells ⟨[.slice aw wl cw, nv, bv, .slice a8 (xs.take (k + 1).toNat ++ f :: xs.drop (k + 1).toNat).length cap8, evv]⟩ 94)] :: c3 :: L) uL ⟨_, c3, hv3, rfl, rfl⟩
theorem Zie {G G' : RwG} {M' : Wm} {L : Zb} (h : RwOk G' M') (e : RwS G G') : Zif G M' L (Xs G' M' ++ L) := ⟨G', e, h, rfl⟩
theorem Zkw {G : RwG} {lv : Value} {lc : List Zq} : RwS G { G with lv := lv, lc := lc } := ⟨rfl, rfl, rfl, rfl, rfl⟩
theorem Zhh (G : RwG) (M : Wm) (k : Int) (L : Zb) (hW : RwOk G M) (hl : M.l.length ≤ 99999999) :
  HC Tryz.prog 87 [pt G.wp 0, iv k] (Xs G M ++ L) (fun v L' => v = iv (Xy (U4 M k).2) ∧ Zif G (U4 M k).1 L L') := by
 have hself := Vj hW L
 have kt := fun L => Zht G M.l k L hW.l hl
 unfold U4 Zk7
 by_cases h : k < 0 ∨ M.l.length ≤ k
 ·simp only [if_pos h, Xy] at kt ⊢
  simp only [Xs, Zee, List.cons_append, List.nil_append] at hself ⊢
  refine Za (fun _ _ => Tryz.call87 _ _) Tryz.func87 rfl Tryz.ntmps87 (Nat.le_of_ble_eq_true rfl) ?_; simp only [Zc, Nat.reduceAdd]
  repeat' (first | refine uN ?_ | (refine uB ?_; intro b) | (refine uP ?_ ?_ <;> (intro h; ((try simp only [zs, ne_eq, and_true, true_and, eq_self, reduceCtorEq] at h); try exact zx))) | fail)
  refine fo 2 ?_
  refine fo 1 ?_
  refine gc (kt _) ?_
  rintro v L' ⟨rfl, rfl⟩
  repeat' (first | refine uN ?_ | (refine uB ?_; intro b) | (refine uP ?_ ?_ <;> (intro h; ((try simp only [zs, ne_eq, and_true, true_and, eq_self, reduceCtorEq] at h); try exact zx))) | fail)
  exact Yi uL ⟨rfl, hself⟩
 ·simp only [if_neg h, Xy] at kt ⊢
  have key : ∀ lv lc, Zx lv (M.l.eraseIdx k.toNat) lc → Zif G { M with l := M.l.eraseIdx k.toNat } L (Xs { G with lv := lv, lc := lc } { M with l := M.l.eraseIdx k.toNat } ++ L) := fun lv lc hv => Zie (hW.setL hv) Zkw
  simp only [Xs, Zee, List.cons_append, List.nil_append] at key ⊢
  refine Za (fun _ _ => Tryz.call87 _ _) Tryz.func87 rfl Tryz.ntmps87 (Nat.le_of_ble_eq_true rfl) ?_; simp only [Zc, Nat.reduceAdd]
  repeat' (first | refine uN ?_ | (refine uB ?_; intro b) | (refine uP ?_ ?_ <;> (intro h; ((try simp only [zs, ne_eq, and_true, true_and, eq_self, reduceCtorEq] at h); try exact zx))) | fail)
  refine fo 2 ?_
  refine fo 1 ?_
  refine gc (kt _) ?_
  rintro v L' ⟨lv, lc, hv, rfl, rfl⟩
  repeat' (first | refine uN ?_ | (refine uB ?_; intro b) | (refine uP ?_ ?_ <;> (intro h; ((try simp only [zs, ne_eq, and_true, true_and, eq_self, reduceCtorEq] at h); try exact zx))) | fail)
  exact Yi uL ⟨rfl, key lv lc hv⟩
theorem Zf5 (G : RwG) (M : Wm) (k : Int) (L : Zb) (hW : RwOk G M) (hl : M.l.length ≤ 99999999) :
  HC Tryz.prog 89 [pt G.wp 0, iv k] (Xs G M ++ L) (fun v L' => v = iv (Xy (Vx M k).2) ∧ Zif G (Vx M k).1 L L') := by
 have hself := Vj hW L
 have kt := fun L => Zll G M.l k L hW.l hl
 have e : LS ([(G.wp, Vv G)] :: G.lc :: G.ec :: G.nc :: G.bc :: Q1 G.aw G.cw G.nd M.n 0 :: L : Zb).flatten (Xs G M ++ L).flatten := by
  simp only [Xs, Zee, List.cons_append, List.nil_append]
  exact uL
 refine HC.post (HC.sp (kt _) e) ?_
 unfold Vx Zk7
 by_cases h : k < 0 ∨ M.l.length ≤ k
 ·simp only [if_pos h, Xy]
  rintro v L' ⟨rfl, rfl⟩
  refine ⟨Xs G M ++ L, ?_, rfl, hself⟩
  simp only [Xs, Zee, List.cons_append, List.nil_append]
  exact uL
 ·simp only [if_neg h, Xy]
  rintro v L' ⟨lv, lc, hv, rfl, rfl⟩
  refine ⟨Xs { G with lv := lv, lc := lc } { M with l := M.l.take (k + 1).toNat ++ M.l.getD k.toNat Ys :: M.l.drop (k + 1).toNat } ++ L, ?_, rfl, Zie (hW.setL hv) Zkw⟩
  simp only [Xs, Zee, List.cons_append, List.nil_append]
  exact uL
end Go.HL
end

/-! MwF -/
section
namespace Go.HL
open Go Go.Proofs
set_option linter.unusedVariables false
set_option linter.unusedSimpArgs false
theorem Zu2 {G : RwG} {s : Int} {g : NrG} {m : Nd} {X : List Zq} {L : Zb} : Has (Ws G s g m X L) g.np (Za2 g m) := by
 unfold Ws Zd2
 exact Zf (Zf Zv)
theorem Zk3 {G : RwG} {M : Wm} (s : Int) (hW : RwOk G M) (L : Zb) : HC Tryz.prog 139 [pt G.wp 0, iv s] (Xs G M ++ L) (fun v L' => v = iv (Xy (Zbn M s)) ∧ L' = Xs G M ++ L) :=
 Zmy G M s _ (Zdc hW L) hW.ndl fun hn => Zfo hW.ndl (Xe hn).1 (Xe hn).2 L
theorem Zr2 {G : RwG} {M : Wm} {s : Int} (hW : RwOk G M) (hu : Zbn M s = none) (X : List Zq) (L : Zb) : HC Tryz.prog 139 [pt G.wp 0, iv s] (Ws G s (Ye G s) (Zd M s) X L) (fun v L' => v = iv 0 ∧ L' = Ws G s (Ye G s) (Zd M s) X L) := by
 have := Zmy G M s _ (rwOp_in hW s (Ye G s) (Zd M s) X L) hW.ndl fun hn => Zu2
 rw [hu] at this
 exact this
theorem Zly {G : RwG} {M : Wm} (hW : RwOk G M) {s : Int} (h0 : 0 ≤ s) (h1 : s < M.n.length) : ∃ b i l F fr cap, G.nv = sl b i M.n.length cap ∧ (∀ H, Has (G.nc :: H) b (.cells ⟨l⟩ F fr)) ∧ l[i + s.toNat]? = some (pt (Ye G s).np 0) := by
 obtain ⟨⟨b, i, l, F, fr, cap, e, hb, hg⟩, -, -⟩ := Zon hW h0 h1 (H := G.nc :: []) fun b o hb => Yt hb
 refine ⟨b, i, l, F, fr, cap, e, fun H => ?_, hg⟩
 simp only [Has, List.flatten_cons, List.flatten_nil, List.append_nil] at hb
 exact Yt hb
set_option maxHeartbeats 2000000 attribute [local irreducible] HW HO HQ HD HC QOp Has Upd Zt Gets Yb Z6 Zr Xr Z4 Zm Xx Zy
attribute [local irreducible] Zo Zp Ql We
theorem Zd9 (G : RwG) (M : Wm) (s d : Int) (L : Zb) (hW : RwOk G M) (hM : WI M) :
  HC Tryz.prog 82 [pt G.wp 0, iv s, iv d] (Xs G M ++ L) (fun v L' => v = iv (Xy (Wq M s d).2) ∧ Zif G (Wq M s d).1 L L') := by
 unfold Wq
 have hself := Vj hW L
 by_cases hd : d < 0 ∨ 6 ≤ d
 ·simp only [if_pos hd, Xy]
  generalize Xs G M ++ L = H at *
  refine Za (fun _ _ => Tryz.call82 _ _) Tryz.func82 rfl Tryz.ntmps82 (Nat.le_of_ble_eq_true rfl) ?_; simp only [Zc, Nat.reduceAdd]
  repeat' (first | refine uN ?_ | (refine uP ?_ ?_ <;> (intro h; ((try simp only [zs, ne_eq, and_true, true_and, eq_self, reduceCtorEq] at h); try exact zx))) | fail)
  all_goals exact Vy rfl ⟨rfl, hself⟩
 simp only [if_neg hd]
 rcases Zas (M := M) (s := s) with ⟨e, he⟩ | ⟨he, hn, h0, h1, j, ref, hs⟩
 ·have ku := Zk3 s hW L
  have h1 : 1 ≤ e := by
   unfold Zbn at he
   split at he
   ·rename_i x hx
    unfold X1 at hx
    split at hx <;> cases hx
    cases he; decide
   ·split at he <;> cases he
    decide
  generalize Xs G M ++ L = H at *
  simp only [he, Xy] at ku ⊢
  refine Za (fun _ _ => Tryz.call82 _ _) Tryz.func82 rfl Tryz.ntmps82 (Nat.le_of_ble_eq_true rfl) ?_; simp only [Zc, Nat.reduceAdd]
  repeat' (first | refine uN ?_ | refine uC (ku) ?_ | (refine uP ?_ ?_ <;> (intro h; ((try simp only [zs, ne_eq, and_true, true_and, eq_self, reduceCtorEq] at h); try exact zx))) | fail)
  exact Vy rfl ⟨rfl, hself⟩
 ·simp only [he, Xy]
  refine HC.nodeR0 hW h0 h1 ?_
  have ku := Zr2 (X := Vc G.aw G.cw G.nd M.n 0 s.toNat) hW he L
  have hok := Uu hW h0 h1
  have hni := Wr hM h0 h1
  obtain ⟨nb, i, l, F, fr, cap, hnv, hb, hg⟩ := Zly hW h0 h1
  have hb2 := hb (G.bc :: Vc G.aw G.cw G.nd M.n 0 s.toNat :: L)
  generalize Vc G.aw G.cw G.nd M.n 0 s.toNat = X at *
  generalize Zd M s = m at *
  generalize Ye G s = g at *
  obtain ⟨pl, site, leads, done⟩ := m
  simp only at hs
  subst hs
  obtain ⟨dn, rfl⟩ := Int.eq_ofNat_of_zero_le (show 0 ≤ d by omega)
  have hd6 : dn < 6 := by omega
  have gP := refL_put (ref := ref) hd6
  simp only [Ws, Zd2, Za2, Zdx, Zk9, Zlc, Vv, hnv, Zew] at ku ⊢
  refine Za (fun _ _ => Tryz.call82 _ _) Tryz.func82 rfl Tryz.ntmps82 (Nat.le_of_ble_eq_true rfl) ?_; simp only [Zc, Nat.reduceAdd]
  repeat' (first | refine uN ?_ | refine uC (ku) ?_ | (refine uP ?_ ?_ <;> (intro h; ((try simp only [zs, ne_eq, and_true, true_and, eq_self, reduceCtorEq] at h); try exact zx))) | fail)
  refine Yi (L' := Ws G s g (Uk ⟨pl, some (j, ref), leads, done⟩ dn) X L) ?_ ⟨rfl, G, M, g, Uk ⟨pl, some (j, ref), leads, done⟩ dn, hW, rfl, rfl, .refl G, ⟨hok.ld, hok.rp, hok.left, hok.lok⟩, rfl, rfl, rfl⟩
  simp only [Ws, Zd2, Za2, Zdx, Zk9, Zlc, Vv, hnv, Zew, Uk]
  exact uL
theorem Zid {M : Wm} {s : Int} {e : Nat} (he : Zbn M s = some e) : 1 ≤ e := by
 unfold Zbn at he
 split at he
 ·rename_i x hx
  unfold X1 at hx
  split at hx <;> cases hx
  cases he; decide
 ·split at he <;> cases he
  decide
theorem Zhc (G : RwG) (M : Wm) (s n : Int) (L : Zb) (hW : RwOk G M) (hM : WI M) :
  HC Tryz.prog 92 [pt G.wp 0, iv s, iv n] (Xs G M ++ L) (fun v L' => v = iv (Xy (Zd1 M s n).2) ∧ Zif G (Zd1 M s n).1 L L') := by
 unfold Zd1
 have hself := Vj hW L
 by_cases hd : n < 0
 ·simp only [if_pos hd, Xy]
  generalize Xs G M ++ L = H at *
  refine Za (fun _ _ => Tryz.call92 _ _) Tryz.func92 rfl Tryz.ntmps92 (Nat.le_of_ble_eq_true rfl) ?_; simp only [Zc, Nat.reduceAdd]
  repeat' (first | refine uN ?_ | (refine uP ?_ ?_ <;> (intro h; ((try simp only [zs, ne_eq, and_true, true_and, eq_self, reduceCtorEq] at h); try exact zx))) | fail)
  all_goals exact Vy rfl ⟨rfl, hself⟩
 simp only [if_neg hd]
 rcases Zas (M := M) (s := s) with ⟨e, he⟩ | ⟨he, hn, h0, h1, j, ref, hs⟩
 ·have ku := Zk3 s hW L
  have h1 := Zid he
  generalize Xs G M ++ L = H at *
  simp only [he, Xy] at ku ⊢
  refine Za (fun _ _ => Tryz.call92 _ _) Tryz.func92 rfl Tryz.ntmps92 (Nat.le_of_ble_eq_true rfl) ?_; simp only [Zc, Nat.reduceAdd]
  repeat' (first | refine uN ?_ | refine uC (ku) ?_ | (refine uP ?_ ?_ <;> (intro h; ((try simp only [zs, ne_eq, and_true, true_and, eq_self, reduceCtorEq] at h); try exact zx))) | fail)
  exact Vy rfl ⟨rfl, hself⟩
 ·simp only [he, Xy]
  refine HC.nodeR0 hW h0 h1 ?_
  have ku := Zr2 (X := Vc G.aw G.cw G.nd M.n 0 s.toNat) hW he L
  have hok := Uu hW h0 h1
  have hni := Wr hM h0 h1
  obtain ⟨nb, i, l, F, fr, cap, hnv, hb, hg⟩ := Zly hW h0 h1
  have hb2 := hb (G.bc :: Vc G.aw G.cw G.nd M.n 0 s.toNat :: L)
  generalize Vc G.aw G.cw G.nd M.n 0 s.toNat = X at *
  generalize hmm : Zd M s = m at *
  generalize Ye G s = g at *
  obtain ⟨pl, site, leads, done⟩ := m
  simp only at hs
  subst hs
  have hoff : pl.off = false := (hni.up j ref rfl).2
  have kr := fun L => Zrt g.rp pl g.left n L
  simp only [if_neg hd, hoff, Bool.false_eq_true, if_false] at kr
  simp only [Ws, Zd2, Za2, Zdx, Zk9, Zlc, Vv, hnv] at ku ⊢
  refine Za (fun _ _ => Tryz.call92 _ _) Tryz.func92 rfl Tryz.ntmps92 (Nat.le_of_ble_eq_true rfl) ?_; simp only [Zc, Nat.reduceAdd]
  repeat' (first | refine uN ?_ | refine uC (ku) ?_ | (refine uP ?_ ?_ <;> (intro h; ((try simp only [zs, ne_eq, and_true, true_and, eq_self, reduceCtorEq] at h); try exact zx))) | fail)
  refine fo 7 ?_
  refine gc (kr _) ?_
  rintro v L' ⟨rfl, rfl⟩
  repeat' (first | refine uN ?_ | refine uC (ku) ?_ | (refine uP ?_ ?_ <;> (intro h; ((try simp only [zs, ne_eq, and_true, true_and, eq_self, reduceCtorEq] at h); try exact zx))) | fail)
  refine Yi (L' := Ws G s { g with left := n } ⟨{ pl with cut := n }, some (j, ref), leads, done⟩ X L) ?_ ⟨rfl, G, M, { g with left := n }, ⟨{ pl with cut := n }, some (j, ref), leads, done⟩, hW, rfl, rfl, .refl G, hok.same _ _ _ (fun _ => rfl), rfl, rfl, rfl⟩
  have e1 : Zdw G.aw G.cw { g with left := n } ⟨{ pl with cut := n }, some (j, ref), leads, done⟩ = Zdw G.aw G.cw g ⟨pl, some (j, ref), leads, done⟩ := rfl
  have e2 : Zg4 { g with left := n } ⟨{ pl with cut := n }, some (j, ref), leads, done⟩ = Zg4 g ⟨pl, some (j, ref), leads, done⟩ := rfl
  have e3 : Zks { g with left := n } ⟨{ pl with cut := n }, some (j, ref), leads, done⟩ = Zks g ⟨pl, some (j, ref), leads, done⟩ := rfl
  simp only [Ws, Zd2, Za2, Zdx, Zk9, Zlc, Vv, hnv]
  rw [e1, e2, e3]
  simp only [hoff]
  exact uL
theorem Zg6 (G : RwG) (M : Wm) (s : Int) (L : Zb) (hW : RwOk G M) (hM : WI M) :
  HC Tryz.prog 85 [pt G.wp 0, iv s] (Xs G M ++ L) (fun v L' => v = iv (Xy (Qd M s).2) ∧ Zif G (Qd M s).1 L L') := by
 unfold Qd
 have hself := Vj hW L
 rcases Zas (M := M) (s := s) with ⟨e, he⟩ | ⟨he, hn, h0, h1, j, ref, hs⟩
 ·have ku := Zk3 s hW L
  have h1 := Zid he
  generalize Xs G M ++ L = H at *
  simp only [he, Xy] at ku ⊢
  refine Za (fun _ _ => Tryz.call85 _ _) Tryz.func85 rfl Tryz.ntmps85 (Nat.le_of_ble_eq_true rfl) ?_; simp only [Zc, Nat.reduceAdd]
  repeat' (first | refine uN ?_ | refine uC (ku) ?_ | (refine uP ?_ ?_ <;> (intro h; ((try simp only [zs, ne_eq, and_true, true_and, eq_self, reduceCtorEq] at h); try exact zx))) | fail)
  exact Vy rfl ⟨rfl, hself⟩
 ·simp only [he, Xy]
  refine HC.nodeR0 hW h0 h1 ?_
  have ku := Zr2 (X := Vc G.aw G.cw G.nd M.n 0 s.toNat) hW he L
  have hok := Uu hW h0 h1
  have hni := Wr hM h0 h1
  obtain ⟨nb, i, l, F, fr, cap, hnv, hb, hg⟩ := Zly hW h0 h1
  have hb2 := hb (G.bc :: Vc G.aw G.cw G.nd M.n 0 s.toNat :: L)
  generalize Vc G.aw G.cw G.nd M.n 0 s.toNat = X at *
  generalize hmm : Zd M s = m at *
  generalize Ye G s = g at *
  obtain ⟨pl, site, leads, done⟩ := m
  simp only at hs
  subst hs
  have kf := fun L => Zhi g ⟨pl, some (j, ref), leads, done⟩ L hok.ld
  have e0 : We g.rp pl g.left = [(g.rp, .cells ⟨[bs pl.b, .bool pl.off, iv g.left, .bool (decide (pl.cut ≠ -1))]⟩ 144)] := by unfold We; rfl
  have e1 : We g.rp { pl with off := true } g.left = [(g.rp, .cells ⟨[bs pl.b, .bool true, iv g.left, .bool (decide (pl.cut ≠ -1))]⟩ 144)] := by unfold We; rfl
  simp only [Ws, Zd2, Za2, Zdx, Zk9, Zlc, Vv, hnv, e0] at ku kf ⊢
  refine Za (fun _ _ => Tryz.call85 _ _) Tryz.func85 rfl Tryz.ntmps85 (Nat.le_of_ble_eq_true rfl) ?_; simp only [Zc, Nat.reduceAdd]
  repeat' (first | refine uN ?_ | refine uC (ku) ?_ | (refine uP ?_ ?_ <;> (intro h; ((try simp only [zs, ne_eq, and_true, true_and, eq_self, reduceCtorEq] at h); try exact zx))) | fail)
  refine fo 2 ?_
  refine gc (kf _) ?_
  rintro v L' ⟨bl, rfl, rfl⟩
  repeat' (first | refine uN ?_ | refine uC (ku) ?_ | (refine uP ?_ ?_ <;> (intro h; ((try simp only [zs, ne_eq, and_true, true_and, eq_self, reduceCtorEq] at h); try exact zx))) | fail)
  have e := Zub (aw := G.aw) (cw := G.cw) (g := { g with bl := bl }) hok.ld (pl := { pl with off := true }) (st := none) (dn := done)
  refine Yi (L' := Ws G s { g with bl := bl } (Zjr ⟨pl, some (j, ref), leads, done⟩) X L) ?_ ⟨rfl, G, M, { g with bl := bl }, Zjr ⟨pl, some (j, ref), leads, done⟩, hW, rfl, rfl, .refl G, hok.fall _ _ _ hok.left, rfl, rfl, rfl⟩
  have e3 : Zks { g with bl := bl } ⟨{ pl with off := true }, none, noLeads, done⟩ = Zks g ⟨pl, some (j, ref), leads, done⟩ := rfl
  have e4 : Zg4 { g with bl := bl } ⟨{ pl with off := true }, none, noLeads, done⟩ = Zg4 { g with bl := bl } ⟨pl, none, noLeads, done⟩ := rfl
  simp only [Ws, Zd2, Za2, Zdx, Zk9, Zlc, Vv, hnv, Zjr, e, e1]
  rw [e3, e4]
  exact uL
theorem Zkt (G : RwG) (M : Wm) (s : Int) (L : Zb) (hW : RwOk G M) (hM : WI M) :
  HC Tryz.prog 86 [pt G.wp 0, iv s] (Xs G M ++ L) (fun v L' => v = iv (Xy (Zms M s).2) ∧ Zif G (Zms M s).1 L L') := by
 unfold Zms
 have hself := Vj hW L
 rcases Vn (M := M) s with he | ⟨he, h0, h1⟩
 ·have hI := Zdc hW L
  obtain ⟨a, cap, hnv, hR⟩ := hI.ns
  have hw := hI.wp
  unfold Vv at hw
  rw [hnv] at hw
  have hs : s < 0 ∨ M.n.length ≤ s := by
   unfold X1 at he
   split at he
   ·assumption
   ·cases he
  generalize Xs G M ++ L = H at *
  simp only [he, Xy]
  refine Za (fun _ _ => Tryz.call86 _ _) Tryz.func86 rfl Tryz.ntmps86 (Nat.le_of_ble_eq_true rfl) ?_; simp only [Zc, Nat.reduceAdd]
  repeat' (first | refine uN ?_ | (refine uP ?_ ?_ <;> (intro h; ((try simp only [zs, ne_eq, and_true, true_and, eq_self, reduceCtorEq] at h); try exact zx))) | fail)
  all_goals exact Vy rfl ⟨rfl, hself⟩
 ·simp only [he]
  cases hs : (Zd M s).site with
  | some q =>
   have hI := Zdc hW L
   obtain ⟨b9, i, l, F, fr, cap, hnv, hb, hg⟩ := Ziq hI hW.ndl h0 h1
   have hw := hI.wp
   unfold Vv at hw
   rw [hnv] at hw
   have hN := Zfo hW.ndl h0 h1 L
   unfold Za2 at hN
   rw [hs] at hN
   obtain ⟨q1, q2⟩ := q
   simp only [Zdx] at hN
   generalize Xs G M ++ L = H at *
   simp only [Option.isSome_some, if_true, Xy]
   refine Za (fun _ _ => Tryz.call86 _ _) Tryz.func86 rfl Tryz.ntmps86 (Nat.le_of_ble_eq_true rfl) ?_; simp only [Zc, Nat.reduceAdd]
   repeat' (first | refine uN ?_ | (refine uP ?_ ?_ <;> (intro h; ((try simp only [zs, ne_eq, and_true, true_and, eq_self, reduceCtorEq] at h); try exact zx))) | fail)
   exact Vy rfl ⟨rfl, hself⟩
  | none =>
   simp only [Option.isSome_none, Bool.false_eq_true, if_false, Xy]
   refine HC.nodeR0 hW h0 h1 ?_
   have hok := Uu hW h0 h1
   have hni := Wr hM h0 h1
   obtain ⟨nb, i, l, F, fr, cap, hnv, hb, hg⟩ := Zly hW h0 h1
   have hb2 := hb (G.bc :: Vc G.aw G.cw G.nd M.n 0 s.toNat :: L)
   have hnp := fun H hH => Zon hW h0 h1 (H := H) hH
   generalize Vc G.aw G.cw G.nd M.n 0 s.toNat = X at *
   generalize hmm : Zd M s = m at *
   generalize Ye G s = g at *
   obtain ⟨pl, site, leads, done⟩ := m
   simp only at hs
   subst hs
   have hpl : pl.b.length = 512 := hni.b512
   have kon := fun L => Zvb g.rp pl g.left L
   have kne := fun L => Zc2 s g.rp { pl with off := false, cut := -1 } g.left L (by simp only; omega) (by simp only; omega)
   have e0 : ∀ pl', ∃ q, We g.rp pl' g.left = [(g.rp, q)] := fun pl' => ⟨_, by unfold We; rfl⟩
   simp only [Ws, Zd2, Za2, Zdx, Zk9, Zlc, Vv, hnv]
   refine Za (fun _ _ => Tryz.call86 _ _) Tryz.func86 rfl Tryz.ntmps86 (Nat.le_of_ble_eq_true rfl) ?_; simp only [Zc, Nat.reduceAdd]
   repeat' (first | refine uN ?_ | (refine uP ?_ ?_ <;> (intro h; ((try simp only [zs, ne_eq, and_true, true_and, eq_self, reduceCtorEq] at h); try exact zx))) | fail)
   refine fo 7 ?_
   refine gc (kon _) ?_
   rintro v L' ⟨rfl, rfl⟩
   repeat' (first | refine uN ?_ | (refine uP ?_ ?_ <;> (intro h; ((try simp only [zs, ne_eq, and_true, true_and, eq_self, reduceCtorEq] at h); try exact zx))) | fail)
   refine gc (kne _) ?_
   rintro v L' ⟨rs, bR, r, rfl, hr, rfl⟩
   repeat' (first | refine uN ?_ | (refine uP ?_ ?_ <;> (intro h; ((try simp only [zs, ne_eq, and_true, true_and, eq_self, reduceCtorEq] at h); try exact zx))) | fail)
   refine fo 7 ?_
   refine fo 5 ?_
   refine fo 5 ?_
   have kn := fun L hq hN2 (hsi : ∀ (j2 : Jn) (r2 : Int → Bool), some (j2, r2) = some ((⟨Zo pl.b, false⟩ : Jn), (fun _ => false : Int → Bool)) → RsIn L { g with rs := rs, bR := bR, r := r } s j2) => Zg7 G s { g with rs := rs, bR := bR, r := r } (Vz ⟨pl, none, leads, done⟩) M.ev M.n.length L hW.ev hM.evl hq hN2 hni.done (fun j2 r2 h2 => ⟨hsi j2 r2 h2.symm, by cases h2; exact Zgz _⟩)
   simp only [Vv, Zks, Za2, Zdx, Vz, hnv] at kn ⊢
   refine gc (kn _ ?_ ?_ ?_) ?_
   ·refine ⟨⟨nb, i, l, F, fr, cap, rfl, ?_, hg⟩, h0, h1⟩
    exact Zf (Zf (Zf (Zf (Zf (Zf (Zf (Zf (Zf (hb _)))))))))
   ·exact Zf (Zf (Zf Zv))
   ·intro j2 r2 h2
    cases h2
    exact Zn2 (g := { g with rs := rs, bR := bR, r := r }) (ref := fun _ => false) (fun p hp => Yt hp) (fun p hp => Zf (Yt hp))
   rintro v L' ⟨evv, c, hv, rfl, rfl⟩
   repeat' (first | refine uN ?_ | (refine uP ?_ ?_ <;> (intro h; ((try simp only [zs, ne_eq, and_true, true_and, eq_self, reduceCtorEq] at h); try exact zx))) | fail)
   refine Yi (L' := Ws { G with ev := evv, ec := c } s { g with rs := rs, bR := bR, r := r } { Vz ⟨pl, none, leads, done⟩ with done := (Xb s (Vz ⟨pl, none, leads, done⟩) M.ev).1 } X L) ?_ ⟨rfl, { G with ev := evv, ec := c }, { M with ev := (Xb s (Vz ⟨pl, none, leads, done⟩) M.ev).2 }, { g with rs := rs, bR := bR, r := r }, { Vz ⟨pl, none, leads, done⟩ with done := (Xb s (Vz ⟨pl, none, leads, done⟩) M.ev).1 }, hW.setE hv, rfl, rfl, ⟨rfl, rfl, rfl, rfl, rfl⟩, ⟨hok.ld, hr, fun h => absurd rfl h, hok.lok⟩, rfl, rfl, rfl⟩
   have e1 : ∀ dn, Zdw G.aw G.cw { g with rs := rs, bR := bR, r := r } ⟨{ pl with off := false, cut := -1 }, some (⟨Zo pl.b, false⟩, fun _ => false), leads, dn⟩ = Zdw G.aw G.cw g ⟨pl, none, leads, done⟩ := fun _ => rfl
   have e2 : ∀ dn, Zg4 { g with rs := rs, bR := bR, r := r } ⟨{ pl with off := false, cut := -1 }, some (⟨Zo pl.b, false⟩, fun _ => false), leads, dn⟩ = Zg4 g ⟨pl, none, leads, done⟩ := fun _ => rfl
   simp only [Ws, Zd2, Za2, Zdx, Zk9, Zlc, Vv, Zks, hnv, Vz, e1, e2]
   exact uL
end Go.HL
end

/-! MwG -/
section
namespace Go.HL
open Go Go.Proofs
set_option linter.unusedVariables false
set_option linter.unusedSimpArgs false
def Zba (a b : Int) (l : List (Int × Int)) : List (Int × Int) := l.filter fun p => decide (p ≠ (a, b)) && decide (p ≠ (b, a))
def Zfk (a b : Int) (whole : Bool) (l : List (Int × Int)) : List (Int × Int) := if (!whole && decide (a ≠ b)) = true then Zba a b l ++ [(a, b)] else Zba a b l
theorem fltB_mem {a b : Int} {l : List (Int × Int)} {p : Int × Int} : p ∈ Zba a b l ↔ p ∈ l ∧ p ≠ (a, b) ∧ p ≠ (b, a) := by
 unfold Zba
 rw [List.mem_filter]
 simp
theorem lnkB_mem {a b : Int} {whole : Bool} {l : List (Int × Int)} {p : Int × Int} : p ∈ Zfk a b whole l ↔ (p ∈ l ∧ p ≠ (a, b) ∧ p ≠ (b, a)) ∨ ((!whole && decide (a ≠ b)) = true ∧ p = (a, b)) := by
 unfold Zfk
 split
 ·rename_i h
  rw [List.mem_append, fltB_mem, List.mem_singleton]
  simp only [h, true_and]
 ·rename_i h
  rw [fltB_mem]
  simp only [h, Bool.false_eq_true, false_and, or_false]
theorem br_link {l : List (Int × Int)} {f : Int × Int → Bool} (h : BrOk l f) (a b : Int) (whole : Bool) : BrOk (Zfk a b whole l) (fun x => if x = (min a b, max a b) then (!whole && decide (a ≠ b)) else f x) := by
 intro c d
 simp only
 by_cases hs : (c = a ∧ d = b) ∨ (c = b ∧ d = a)
 ·have e : (min c d, max c d) = (min a b, max a b) := by
   refine Prod.ext ?_ ?_ <;> simp only <;> omega
  rw [if_pos e]
  cases hv : (!whole && decide (a ≠ b)) with
  | true =>
   symm
   refine decide_eq_true ?_
   rcases hs with ⟨rfl, rfl⟩ | ⟨rfl, rfl⟩
   ·exact .inl (lnkB_mem.2 (.inr ⟨hv, rfl⟩))
   ·exact .inr (lnkB_mem.2 (.inr ⟨hv, rfl⟩))
  | false =>
   symm
   refine decide_eq_false ?_
   rintro (k | k)
   ·rcases lnkB_mem.1 k with ⟨-, h1, h2⟩ | ⟨h1, -⟩
    ·rcases hs with ⟨rfl, rfl⟩ | ⟨rfl, rfl⟩
     ·exact h1 rfl
     ·exact h2 rfl
    ·rw [hv] at h1; cases h1
   ·rcases lnkB_mem.1 k with ⟨-, h1, h2⟩ | ⟨h1, -⟩
    ·rcases hs with ⟨rfl, rfl⟩ | ⟨rfl, rfl⟩
     ·exact h2 rfl
     ·exact h1 rfl
    ·rw [hv] at h1; cases h1
 ·have e : (min c d, max c d) ≠ (min a b, max a b) := by
   intro e
   have e1 := congrArg Prod.fst e
   have e2 := congrArg Prod.snd e
   simp only at e1 e2
   omega
  rw [if_neg e, h c d]
  have hne : ∀ x y : Int, ¬ (x = a ∧ y = b) → (x, y) ≠ (a, b) := fun x y k q => k ⟨congrArg Prod.fst q, congrArg Prod.snd q⟩
  have hne2 : ∀ x y : Int, ¬ (x = b ∧ y = a) → (x, y) ≠ (b, a) := fun x y k q => k ⟨congrArg Prod.fst q, congrArg Prod.snd q⟩
  have key : ∀ x y : Int, ¬ (x = a ∧ y = b) → ¬ (x = b ∧ y = a) → ((x, y) ∈ Zfk a b whole l ↔ (x, y) ∈ l) := fun x y k1 k2 => by
   rw [lnkB_mem]
   constructor
   ·rintro (⟨k, -⟩ | ⟨-, k⟩)
    ·exact k
    ·exact absurd k (hne x y k1)
   ·exact fun k => .inl ⟨k, hne x y k1, hne2 x y k2⟩
  have k1 := key c d (fun q => hs (.inl q)) (fun q => hs (.inr q))
  have k2 := key d c (fun q => hs (.inr ⟨q.2, q.1⟩)) (fun q => hs (.inl ⟨q.2, q.1⟩))
  simp only [k1, k2]
theorem Zro {a b : Int} {whole : Bool} {l : List (Int × Int)} (h : l.Nodup) : (Zfk a b whole l).Nodup := by
 have hf : (Zba a b l).Nodup := h.sublist List.filter_sublist
 unfold Zfk
 split
 ·refine List.nodup_append.2 ⟨hf, by simp, fun x hx y hy => ?_⟩
  rw [List.mem_singleton] at hy
  subst hy
  exact (fltB_mem.1 hx).2.1
 ·exact hf
theorem Zoz {a b : Int} {l : List (Int × Int)} : (Zba a b l).length ≤ l.length := List.length_filter_le ..
set_option maxHeartbeats 2000000 attribute [local irreducible] HW HO HQ HD HC QOp Has Upd Zt Gets Yb Z6 Zr Xr Z4 Zm Xx Zy
attribute [local irreducible] Zo Zp Ql We
theorem Zom (G : RwG) (n : Nat) (a z : Int) (whole : Bool) (L : Zb) (an : Option Addr) (capn : Nat) (hnv : G.nv = .slice an n capn) (hv : Vec 133 2 bc2 G.bv G.bl G.bc) (hbl : G.bl.length ≤ 49) (h : ¬ (a < 0 ∨ n ≤ a ∨ z < 0 ∨ n ≤ z)) :
  HC Tryz.prog 90 [pt G.wp 0, iv a, iv z, .bool whole] ([(G.wp, Vv G)] :: G.bc :: L) (fun v L' => ∃ bv bc, Vec 133 2 bc2 bv (Zfk a z whole G.bl) bc ∧ v = iv 0 ∧ L' = [(G.wp, Vv { G with bv := bv, bc := bc, bl := Zfk a z whole G.bl })] :: bc :: L) := by
 obtain ⟨wp, aw, cw, wl, nv, nc, bv, bc, bl, lv, lc, evv, Zr7, nd⟩ := G
 simp only [Vv] at hv hnv hbl ⊢
 subst hnv
 obtain ⟨ab, cap, rfl, hcap, hR⟩ := hv.rd Zdi
 have hfl := fun k => Zoz (a := a) (b := z) (l := bl.take k)
 have hl9 : (Zba a z bl).length ≤ 49 := Nat.le_trans Zoz hbl
 refine Za (fun _ _ => Tryz.call90 _ _) Tryz.func90 rfl Tryz.ntmps90 (Nat.le_of_ble_eq_true rfl) ?_; simp only [Zc, Nat.reduceAdd]
 repeat' (first | refine uN ?_ | (refine uB ?_; intro b) | (refine uP ?_ ?_ <;> (intro h; ((try simp only [zs, ne_eq, and_true, true_and, eq_self, reduceCtorEq] at h); try exact zx))) | fail)
 refine Zio ?_
 refine Zn (σ := Nat × Value × List Zq) (fun q => [(0, pt wp 0), (1, iv a), (2, iv z), (3, .bool whole), (9, q.2.1), (10, iv q.1)]) (fun q => q.2.2 :: [(wp, .cells ⟨[.slice aw wl cw, .slice an n capn, .slice ab bl.length cap, lv, evv]⟩ 94)] :: bc :: L) (fun q => q.1 ≤ bl.length ∧ Vec 133 2 bc2 q.2.1 (Zba a z (bl.take q.1)) q.2.2) (fun q => bl.length - q.1) (0, Y3, []) uS (List.Sublist.refl _) ⟨by simp, Zu⟩ ?_
 rintro ⟨k, v, c⟩ ⟨hk, hv'⟩
 simp only at hk hv' ⊢
 have hfk := hfl k
 have hlen : (bl.take k).length ≤ 49 := by rw [List.length_take]; omega
 by_cases hlt : k < bl.length
 ·obtain ⟨bh, ih, lh, Eh, frh, hah, hbh, hgh⟩ := (hR L).at (j := (k : Int)) (by omega) (by omega)
  subst hah
  have hg0 : Gets lh (ih + (k : Int).toNat * 2) (bc2 bl[k]) := hgh
  have hs : bl.take (k + 1) = bl.take k ++ [bl[k]] := List.take_succ_eq_append_getElem hlt
  generalize bl[k] = x at *
  obtain ⟨x1, x2⟩ := x
  have hbh2 : Has (c :: [(wp, .cells ⟨[.slice aw wl cw, .slice an n capn, .slice (some ⟨bh, ih, none⟩) bl.length cap, lv, evv]⟩ 94)] :: bc :: L) bh (.cells ⟨lh⟩ Eh frh) := Zf (Zf hbh)
  by_cases h1 : (x1, x2) = (a, z) ∨ (x1, x2) = (z, a)
  ·have e2 : Zba a z (bl.take (k + 1)) = Zba a z (bl.take k) := by
    rw [hs]; unfold Zba
    rw [List.filter_append, List.filter_cons_of_neg (by rcases h1 with h1 | h1 <;> simp [h1]), List.filter_nil, List.append_nil]
   rcases h1 with h1 | h1
   ·cases h1
    repeat' (first | refine uN ?_ | (refine uB ?_; intro b) | (refine uP ?_ ?_ <;> (intro h; ((try simp only [zs, ne_eq, and_true, true_and, eq_self, reduceCtorEq] at h); try exact zx))) | fail)
    all_goals refine Zg (k + 1, v, c) uS uL ⟨by simp only; omega, by simp only; rw [e2]; exact hv'⟩ (by simp only; omega)
   ·cases h1
    repeat' (first | refine uN ?_ | (refine uB ?_; intro b) | (refine uP ?_ ?_ <;> (intro h; ((try simp only [zs, ne_eq, and_true, true_and, eq_self, reduceCtorEq] at h); try exact zx))) | fail)
    all_goals refine Zg (k + 1, v, c) uS uL ⟨by simp only; omega, by simp only; rw [e2]; exact hv'⟩ (by simp only; omega)
  ·have h1a : ¬ (x1 = a ∧ x2 = z) := fun q => h1 (.inl (Prod.ext q.1 q.2))
   have h1b : ¬ (x1 = z ∧ x2 = a) := fun q => h1 (.inr (Prod.ext q.1 q.2))
   have e2 : Zba a z (bl.take (k + 1)) = Zba a z (bl.take k) ++ [(x1, x2)] := by
    rw [hs]; unfold Zba
    rw [List.filter_append, List.filter_cons_of_pos (by rw [Bool.and_eq_true]; exact ⟨decide_eq_true (fun q => h1 (.inl q)), decide_eq_true (fun q => h1 (.inr q))⟩), List.filter_nil]
   repeat' (first | refine uN ?_ | (refine uB ?_; intro b) | (refine uP ?_ ?_ <;> (intro h; ((try simp only [zs, ne_eq, and_true, true_and, eq_self, reduceCtorEq] at h); try exact zx))) | fail)
   all_goals try exact absurd (by assumption : x1 = a ∧ x2 = z) h1a
   all_goals try exact absurd (by assumption : x1 = z ∧ x2 = a) h1b
   all_goals refine fo 1 ?_
   all_goals refine Zeb S (x1, x2) hv' Zdi Ztm ?_
   all_goals intro v' c' hv2
   all_goals repeat' (first | refine uN ?_ | (refine uB ?_; intro b) | (refine uP ?_ ?_ <;> (intro h; ((try simp only [zs, ne_eq, and_true, true_and, eq_self, reduceCtorEq] at h); try exact zx))) | fail)
   all_goals refine Zg (k + 1, v', c') uS uL ⟨by simp only; omega, by simp only; rw [e2]; exact hv2⟩ (by simp only; omega)
 ·obtain rfl : k = bl.length := by omega
  rw [List.take_length] at hv'
  obtain ⟨a7, cap7, rfl, -, -⟩ := hv'.rd Zdi
  cases whole with
  | true =>
   have e3 : Zfk a z true bl = Zba a z bl := rfl
   rw [e3]
   repeat' (first | refine uN ?_ | (refine uB ?_; intro b) | (refine uP ?_ ?_ <;> (intro h; ((try simp only [zs, ne_eq, and_true, true_and, eq_self, reduceCtorEq] at h); try exact zx))) | fail)
   all_goals exact Yi (L' := [(wp, .cells ⟨[.slice aw wl cw, .slice an n capn, .slice a7 (Zba a z bl).length cap7, lv, evv]⟩ 94)] :: c :: L) uL ⟨_, c, hv', rfl, rfl⟩
  | false =>
   by_cases hab : a = z
   ·have e3 : Zfk a z false bl = Zba a z bl := by unfold Zfk; rw [if_neg (by simp [hab])]
    rw [e3]
    repeat' (first | refine uN ?_ | (refine uB ?_; intro b) | (refine uP ?_ ?_ <;> (intro h; ((try simp only [zs, ne_eq, and_true, true_and, eq_self, reduceCtorEq] at h); try exact zx))) | fail)
    all_goals exact Yi (L' := [(wp, .cells ⟨[.slice aw wl cw, .slice an n capn, .slice a7 (Zba a z bl).length cap7, lv, evv]⟩ 94)] :: c :: L) uL ⟨_, c, hv', rfl, rfl⟩
   ·have e3 : Zfk a z false bl = Zba a z bl ++ [(a, z)] := by unfold Zfk; rw [if_pos (by simp [hab])]
    rw [e3]
    repeat' (first | refine uN ?_ | (refine uB ?_; intro b) | (refine uP ?_ ?_ <;> (intro h; ((try simp only [zs, ne_eq, and_true, true_and, eq_self, reduceCtorEq] at h); try exact zx))) | fail)
    all_goals refine fo 1 ?_
    all_goals refine Zeb S (a, z) hv' Zdi Ztm ?_
    all_goals intro v' c' hv2
    all_goals obtain ⟨a8, cap8, rfl, -, -⟩ := hv2.rd Zdi
    all_goals repeat' (first | refine uN ?_ | (refine uB ?_; intro b) | (refine uP ?_ ?_ <;> (intro h; ((try simp only [zs, ne_eq, and_true, true_and, eq_self, reduceCtorEq] at h); try exact zx))) | fail)
    all_goals exact Yi (L' := [(wp, .cells ⟨[.slice aw wl cw, .slice an n capn, .slice a8 (Zba a z bl ++ [(a, z)]).length cap8, lv, evv]⟩ 94)] :: c' :: L) uL ⟨_, c', hv2, rfl, rfl⟩
theorem Zhf (G : RwG) (M : Wm) (a z : Int) (whole : Bool) (L : Zb) (hW : RwOk G M) (hM : WI M) :
  HC Tryz.prog 90 [pt G.wp 0, iv a, iv z, .bool whole] (Xs G M ++ L) (fun v L' => v = iv (Xy (V9 M a z whole).2) ∧ Zif G (V9 M a z whole).1 L L') := by
 unfold V9
 have hself := Vj hW L
 have hI := Zdc hW L
 obtain ⟨an, capn, hnv, hnr⟩ := hI.ns
 by_cases h : a < 0 ∨ M.n.length ≤ a ∨ z < 0 ∨ M.n.length ≤ z
 ·simp only [if_pos h, Xy]
  have hw := hI.wp
  unfold Vv at hw
  rw [hnv] at hw
  generalize Xs G M ++ L = H at *
  refine Za (fun _ _ => Tryz.call90 _ _) Tryz.func90 rfl Tryz.ntmps90 (Nat.le_of_ble_eq_true rfl) ?_; simp only [Zc, Nat.reduceAdd]
  repeat' (first | refine uN ?_ | (refine uB ?_; intro b) | (refine uP ?_ ?_ <;> (intro h; ((try simp only [zs, ne_eq, and_true, true_and, eq_self, reduceCtorEq] at h); try exact zx))) | fail)
  all_goals exact Vy rfl ⟨rfl, hself⟩
 ·simp only [if_neg h, Xy]
  have hn := hM.wn
  have hwl := hM.wl
  have e : LS ([(G.wp, Vv G)] :: G.bc :: G.ec :: G.lc :: G.nc :: Q1 G.aw G.cw G.nd M.n 0 :: L : Zb).flatten (Xs G M ++ L).flatten := by
   simp only [Xs, Zee, List.cons_append, List.nil_append]
   exact uL
  refine HC.post (HC.sp (Zom G M.n.length a z whole _ an capn hnv hW.br hW.bll h) e) ?_
  rintro v L' ⟨bv, bc, hv, rfl, rfl⟩
  refine ⟨Xs { G with bv := bv, bc := bc, bl := Zfk a z whole G.bl } { M with br := fun x => if x = (min a z, max a z) then (!whole && decide (a ≠ z)) else M.br x } ++ L, ?_, rfl, Zie (hW.setB hv (br_link hW.bro a z whole) (Zro hW.bln) ?_) ⟨rfl, rfl, rfl, rfl, rfl⟩⟩
  ·simp only [Xs, Zee, List.cons_append, List.nil_append]
   exact uL
  ·intro p hp
   rcases lnkB_mem.1 hp with ⟨k, -⟩ | ⟨-, rfl⟩
   ·exact hW.blr p k
   ·exact prs_in (by omega) (by omega) (by omega) (by omega)
theorem Zip {g : NrG} {m : Nd} {d : Nat} {o : Option Ld} {q : Nat × Value × List Zq} (h1 : m.leads[d]? = some o) (h2 : g.ld[d]? = some q) : (Uj g m)[d]? = some (Zei o q) := by
 unfold Uj
 rw [List.getElem?_zipWith, h1, h2]
theorem Zqe {aw : Option Addr} {cw : Nat} {g : NrG} {m : Nd} {d : Nat} {x : Ld} {q : Nat × Value × List Zq} (h1 : m.leads[d]? = some (some x)) (h2 : g.ld[d]? = some q) {y : Zq} (hy : y ∈ Ul q.1 aw cw q.2.1 q.2.2 x) : y ∈ Zdw aw cw g m := by
 unfold Zdw
 refine List.mem_flatten.2 ⟨Ul q.1 aw cw q.2.1 q.2.2 x, ?_, hy⟩
 refine List.mem_iff_getElem?.2 ⟨d, ?_⟩
 rw [List.getElem?_zipWith, h1, h2]
 rfl
theorem Zla (G : RwG) (M : Wm) (s : Int) (d : Nat) (L : Zb) (hW : RwOk G M) (hM : WI M) (h0 : 0 ≤ s) (h1 : s < M.n.length) (hd : d < 6) :
  HC Tryz.prog 96 [pt G.wp 0, iv s, iv d] (Xs G M ++ L) (fun v L' => v = bs (Zaa M s d).1 ∧ L' = Xs G M ++ L) := by
 have hI := Zdc hW L
 obtain ⟨b9, i, l, F, fr, cap, hnv, hb, hg⟩ := Ziq hI hW.ndl h0 h1
 have hw := hI.wp
 unfold Vv at hw
 rw [hnv] at hw
 have hN := Zfo hW.ndl h0 h1 L
 have hA := fun {b o} (hb : (b, o) ∈ Zf6 G.aw G.cw (Ye G s) s (Zd M s)) => Zfu hW.ndl h0 h1 hb L
 have hok := Uu hW h0 h1
 have hni := Wr hM h0 h1
 generalize Xs G M ++ L = H at *
 unfold Zaa
 rw [if_neg (by omega)]
 generalize Zd M s = m at *
 generalize Ye G s = g at *
 simp only [Int.toNat_natCast]
 have hm1 : m.leads[d]? = some (m.leads.getD d none) := getD_some (by rw [hni.leads]; exact hd)
 obtain ⟨q, hq⟩ : ∃ q, g.ld[d]? = some q := ⟨_, List.getElem?_eq_getElem (by rw [hok.ld]; exact hd)⟩
 have hv := Zip hm1 hq
 have hL : Has H g.bl (.cells ⟨Uj g m⟩ 209) := hA (by simp [Zf6, Zg4])
 unfold Za2 at hN
 have gL : (Uj g m)[0 + (d : Int).toNat]? = some (Zei (m.leads.getD d none) q) := by rw [Nat.zero_add, Int.toNat_natCast]; exact hv
 cases hx : m.leads.getD d none with
 | none =>
  rw [hx] at gL
  simp only [Zei] at gL
  refine Za (fun _ _ => Tryz.call96 _ _) Tryz.func96 rfl Tryz.ntmps96 (Nat.le_of_ble_eq_true rfl) ?_; simp only [Zc, Nat.reduceAdd]
  repeat' (first | refine uN ?_ | (refine uP ?_ ?_ <;> (intro h; ((try simp only [zs, ne_eq, and_true, true_and, eq_self, reduceCtorEq] at h); try exact zx))) | fail)
  exact Vy rfl ⟨rfl, rfl⟩
 | some x =>
  rw [hx] at gL hm1
  simp only [Zei] at gL
  have hLd : Has H q.1 (.cells ⟨Zwr G.aw G.cw q.2.1 x⟩ 217) := hA (by
   unfold Zf6
   exact List.mem_append_right _ (List.mem_append_right _ (List.mem_append_right _ (List.mem_append_right _ (List.mem_append_right _ (List.mem_append_right _ (Zqe hm1 hq (by simp [Ul]))))))))
  unfold Zwr at hLd
  refine Za (fun _ _ => Tryz.call96 _ _) Tryz.func96 rfl Tryz.ntmps96 (Nat.le_of_ble_eq_true rfl) ?_; simp only [Zc, Nat.reduceAdd]
  repeat' (first | refine uN ?_ | (refine uP ?_ ?_ <;> (intro h; ((try simp only [zs, ne_eq, and_true, true_and, eq_self, reduceCtorEq] at h); try exact zx))) | fail)
  exact Vy rfl ⟨rfl, rfl⟩
end Go.HL
end

/-! MwH -/
section
namespace Go.HL
open Go Go.Proofs
set_option linter.unusedVariables false
set_option linter.unusedSimpArgs false
theorem Zgo {aw : Option Addr} {cw : Nat} {g : NrG} {m : Nd} {d : Nat} {o : Option Ld} {q : Nat × Value × List Zq} (h1 : m.leads[d]? = some o) (h2 : g.ld[d]? = some q) :
  ∃ A B, Zdw aw cw g m = A ++ (rlB aw cw o q ++ B) ∧ ∀ o' q' (m' : Nd) (g' : NrG), m'.leads = m.leads.set d o' → g'.ld = g.ld.set d q' → Zdw aw cw g' m' = A ++ (rlB aw cw o' q' ++ B) := by
 obtain ⟨A, B, e1, e2⟩ := Zjv (rlB aw cw) h1 h2
 refine ⟨A, B, e1, fun o' q' m' g' h3 h4 => ?_⟩
 unfold Zdw
 rw [h3, h4]
 exact e2 o' q'
theorem Zjo {g g' : NrG} {m m' : Nd} {d : Nat} {o' : Option Ld} {q' : Nat × Value × List Zq} (h3 : m'.leads = m.leads.set d o') (h4 : g'.ld = g.ld.set d q') : Uj g' m' = (Uj g m).set d (Zei o' q') := by
 have := Zfn (g := ⟨0, 0, 0, 0, 0, 0, [], 0, g.ld⟩) (g' := ⟨0, 0, 0, 0, 0, 0, [], 0, g'.ld⟩) (m := m) (m' := m') h3 h4
 exact this
theorem NrOk.lead {g : NrG} {m : Nd} (h : NrOk g m) {d : Nat} {x : Ld} {q : Nat × Value × List Zq} {hs : List Fr} (hx : Zx q.2.1 hs q.2.2) (hr : RelH x hs) : NrOk { g with ld := g.ld.set d q } { m with leads := m.leads.set d (some x) } := by
 refine ⟨by simp [h.ld], h.rp, h.left, fun e y hy p hp => ?_⟩
 simp only [List.getElem?_set] at hy hp
 by_cases hde : d = e
 ·rw [if_pos hde] at hy hp
  split at hy
  ·split at hp
   ·cases hy; cases hp; exact ⟨hs, hx, hr⟩
   ·cases hp
  ·cases hy
 ·rw [if_neg hde] at hy hp
  exact h.lok e y hy p hp
theorem LS.has {L H : Zb} (h : LS L.flatten H.flatten) {b : Nat} {o : Obj} (hb : Has L b o) : Has H b o := h.mem hb
theorem Has.app {L : Zb} (T : Zb) {b : Nat} {o : Obj} (hb : Has L b o) : Has (L ++ T) b o := by
 unfold Has at *
 rw [List.flatten_append]
 exact List.mem_append_left _ hb
theorem ls8 {x0 x1 x2 x3 x4 x5 x6 x7 c A B : List Zq} {D : Zb} : LS (x0 :: x1 :: x2 :: x3 :: x4 :: x5 :: x6 :: x7 :: (A ++ (c ++ B)) :: D).flatten (x0 :: x1 :: x2 :: x3 :: x4 :: x5 :: x6 :: x7 :: c :: A :: B :: D).flatten := LS.k (LS.k (LS.k (LS.k (LS.k (LS.k (LS.k (LS.k ls_mid')))))))
theorem ls8' {x0 x1 x2 x3 x4 x5 x6 x7 c A B : List Zq} {D : Zb} : LS (x0 :: x1 :: x2 :: x3 :: x4 :: x5 :: x6 :: x7 :: c :: A :: B :: D).flatten (x0 :: x1 :: x2 :: x3 :: x4 :: x5 :: x6 :: x7 :: (A ++ (c ++ B)) :: D).flatten := LS.k (LS.k (LS.k (LS.k (LS.k (LS.k (LS.k (LS.k ls_mid)))))))
theorem Rd.up {α : Type} {enc : α → List Value} {sz : Nat} {L : Zb} {a : Option Addr} {xs : List α} (h : Rd enc sz L a xs) (T : Zb) : Rd enc sz (T ++ L) a xs := h.mono fun b o hb => by
 unfold Has at *
 rw [List.flatten_append]
 exact List.mem_append_right _ hb
theorem hearU_no {M : Wm} {s : Int} {f : Fr} (h : Zj1 s (Zd M s) f = false) : (Yo M s f).2.1 = [] := by
 unfold Zj1 at h
 unfold Yo Y7
 split at h
 ·rename_i hs
  simp only [hs]
 ·rename_i j ref hs
  have ho : (Zp s ref (Zd M s).pl j f).1.off = true := by simpa using h
  simp only [hs, if_pos ho]
set_option maxHeartbeats 2000000 attribute [local irreducible] HW HO HQ HD HC QOp Has Upd Zt Gets Yb Z6 Zr Xr Z4 Zm Xx Zy
attribute [local irreducible] Zo Zp Ql We Zew
set_option maxHeartbeats 1000000 in
theorem Zah (G : RwG) (M : Wm) (k : Int) (L : Zb) (hRw : Rd ic 1 L G.aw M.w) (hW : RwOk G M) (hM : WI M) (hl : M.l.length ≤ 99999000) :
  HC Tryz.prog 93 [pt G.wp 0, iv k] (Xs G M ++ L) (fun v L' => v = iv (Xy (Zw M k).2) ∧ Zif G (Zw M k).1 L L') := by
 have hself := Vj hW L
 have kt := fun L => Zht G M.l k L hW.l (by omega)
 unfold Zw Zk7
 by_cases h : k < 0 ∨ M.l.length ≤ k
 ·simp only [if_pos h, Xy] at kt ⊢
  simp only [Xs, Zee, List.cons_append, List.nil_append] at hself ⊢
  refine Za (fun _ _ => Tryz.call93 _ _) Tryz.func93 rfl Tryz.ntmps93 (Nat.le_of_ble_eq_true rfl) ?_; simp only [Zc, Nat.reduceAdd]
  repeat' (first | refine uN ?_ | refine Yc S ?_ | (refine uB ?_; intro b) | (refine uP ?_ ?_ <;> (intro h; ((try simp only [zs, ne_eq, and_true, true_and, eq_self, reduceCtorEq] at h); try exact zx))) | refine da 101 ?_ | fail)
  refine fo 2 ?_
  refine fo 1 ?_
  refine gc (kt _) ?_
  rintro v L' ⟨rfl, rfl⟩
  repeat' (first | refine uN ?_ | refine Yc S ?_ | (refine uB ?_; intro b) | (refine uP ?_ ?_ <;> (intro h; ((try simp only [zs, ne_eq, and_true, true_and, eq_self, reduceCtorEq] at h); try exact zx))) | refine da 101 ?_ | fail)
  exact Yi uL ⟨rfl, hself⟩
 ·simp only [if_neg h] at kt ⊢
  have hgk : M.l[k.toNat]'(by omega) = M.l.getD k.toNat Ys := by
   rw [List.getD, List.getElem?_eq_getElem (by omega)]; rfl
  obtain ⟨hbad, hto, hfr⟩ := hM.fr (M.l.getD k.toNat Ys) (by rw [← hgk]; exact List.getElem_mem _)
  have hM1 := hM.erase k.toNat
  have hW1 : ∀ lv lc, Zx lv (M.l.eraseIdx k.toNat) lc → RwOk { G with lv := lv, lc := lc } { M with l := M.l.eraseIdx k.toNat } := fun lv lc hv => hW.setL hv
  have hcl : ∀ lv lc, Zx lv (M.l.eraseIdx k.toNat) lc → Zif G { M with l := M.l.eraseIdx k.toNat } L (Xs { G with lv := lv, lc := lc } { M with l := M.l.eraseIdx k.toNat } ++ L) := fun lv lc hv => Zie (hW1 lv lc hv) Zkw
  have hn0 : 0 ≤ (M.l.getD k.toNat Ys).to := by unfold Xv at hbad; omega
  have hn1 : (M.l.getD k.toNat Ys).to < M.n.length := by rw [hM.wn]; exact hto
  have hd0 : 0 ≤ (M.l.getD k.toNat Ys).dl ∧ (M.l.getD k.toNat Ys).dl < 6 := by unfold Xv at hbad; omega
  have hno := fun L => Zm3 hW.ndl hn0 hn1 (b := (Ye G (M.l.getD k.toNat Ys).to).np) (o := Za2 (Ye G (M.l.getD k.toNat Ys).to) (Zd M (M.l.getD k.toNat Ys).to)) (by simp [Zf6, Zd2]) L
  have hnl := fun L => Zm3 hW.ndl hn0 hn1 (b := (Ye G (M.l.getD k.toNat Ys).to).bl) (o := .cells ⟨Uj (Ye G (M.l.getD k.toNat Ys).to) (Zd M (M.l.getD k.toNat Ys).to)⟩ 209) (by simp [Zf6, Zg4]) L
  have e8 : ∀ l, (Zd { M with l := l } (M.l.getD k.toNat Ys).to) = Zd M (M.l.getD k.toNat Ys).to := fun l => rfl
  have hel : (M.l.eraseIdx k.toNat).length ≤ 99999000 := by rw [List.length_eraseIdx]; split <;> omega
  rw [e8]
  have hni := Wr hM hn0 hn1
  have hok := Uu hW hn0 hn1
  obtain ⟨nb, ni, nl, nF, nfr, ncap, hnv, hnb, hng⟩ := Zly hW hn0 hn1
  have hA := fun {b o} (hb : (b, o) ∈ Zf6 G.aw G.cw (Ye G (M.l.getD k.toNat Ys).to) (M.l.getD k.toNat Ys).to (Zd M (M.l.getD k.toNat Ys).to)) => Zm3 hW.ndl hn0 hn1 hb L
  have kb := fun lv lc H (hI : RwIn H { G with lv := lv, lc := lc } { M with l := M.l.eraseIdx k.toNat }) => Zrr { G with lv := lv, lc := lc } { M with l := M.l.eraseIdx k.toNat } (M.l.getD k.toNat Ys).fr (M.l.getD k.toNat Ys).to H hI hW.bro hW.bll
  generalize hf : M.l.getD k.toNat Ys = f at *
  have hIn : ∀ lv lc, Zx lv (M.l.eraseIdx k.toNat) lc → ∀ H T : Zb, LS ([(G.wp, Vv { G with lv := lv, lc := lc })] :: G.ec :: lc :: G.nc :: G.bc :: T : Zb).flatten H.flatten → RwIn H { G with lv := lv, lc := lc } { M with l := M.l.eraseIdx k.toNat } := fun lv lc hv H T hls => rwIn (hW1 lv lc hv) fun b o hb => hls.has (hb.app T)
  have hbr0 : ∀ b, M.br (Zku f) = b → M.br (min f.fr f.to, max f.fr f.to) = b := fun b h => h
  simp only [Vv, hnv] at kt hIn kb
  have hnba := hnb (G.bc :: Q1 G.aw G.cw G.nd M.n 0 :: L)
  rcases hsc : (Zd M f.to).site with _ | ⟨j, ref⟩
  ·rw [if_pos (.inl rfl)]
   have hN := hno L
   unfold Za2 at hN
   rw [hsc] at hN
   simp only [Zdx] at hN
   obtain ⟨ffr, fto, fdl, fkd, fatt, fys, fs⟩ := f
   simp only at hbad hto hfr hng hn0 hn1 hN kb hbr0 ⊢
   simp only [Xy]
   simp only [Xs, Zee, Vv, List.cons_append, List.nil_append, hnv] at hcl ⊢
   refine Za (fun _ _ => Tryz.call93 _ _) Tryz.func93 rfl Tryz.ntmps93 (Nat.le_of_ble_eq_true rfl) ?_; simp only [Zc, Nat.reduceAdd]
   repeat' (first | refine uN ?_ | refine Yc S ?_ | (refine uB ?_; intro b) | (refine uP ?_ ?_ <;> (intro h; ((try simp only [zs, ne_eq, and_true, true_and, eq_self, reduceCtorEq] at h); try exact zx))) | refine da 101 ?_ | fail)
   refine fo 2 ?_
   refine fo 1 ?_
   refine gc (kt _) ?_
   rintro v L' ⟨lv, lc, hv, rfl, rfl⟩
   repeat' (first | refine uN ?_ | refine Yc S ?_ | (refine uB ?_; intro b) | (refine uP ?_ ?_ <;> (intro h; ((try simp only [zs, ne_eq, and_true, true_and, eq_self, reduceCtorEq] at h); try exact zx))) | refine da 101 ?_ | fail)
   refine gc (kb lv lc _ (hIn lv lc hv _ (Q1 G.aw G.cw G.nd M.n 0 :: L) ?_)) ?_
   ·exact uL
   rintro v L' ⟨rfl, rfl⟩
   repeat' (first | refine uN ?_ | refine Yc S ?_ | (refine uB ?_; intro b) | (refine uP ?_ ?_ <;> (intro h; ((try simp only [zs, ne_eq, and_true, true_and, eq_self, reduceCtorEq] at h); try exact zx))) | refine da 101 ?_ | fail)
   all_goals exact Yi uL ⟨rfl, hcl _ lc hv⟩
  ·by_cases hbr : M.br (Zku f) = true
   ·rw [if_pos (.inr hbr)]
    have hbr' := hbr0 _ hbr
    have hN := hno L
    unfold Za2 at hN
    rw [hsc] at hN
    simp only [Zdx] at hN
    obtain ⟨ffr, fto, fdl, fkd, fatt, fys, fs⟩ := f
    simp only at hbad hto hfr hng hn0 hn1 hN kb hbr' ⊢
    rw [hbr'] at kb
    simp only [Xy]
    simp only [Xs, Zee, Vv, List.cons_append, List.nil_append, hnv] at hcl ⊢
    refine Za (fun _ _ => Tryz.call93 _ _) Tryz.func93 rfl Tryz.ntmps93 (Nat.le_of_ble_eq_true rfl) ?_; simp only [Zc, Nat.reduceAdd]
    repeat' (first | refine uN ?_ | refine Yc S ?_ | (refine uB ?_; intro b) | (refine uP ?_ ?_ <;> (intro h; ((try simp only [zs, ne_eq, and_true, true_and, eq_self, reduceCtorEq] at h); try exact zx))) | refine da 101 ?_ | fail)
    refine fo 2 ?_
    refine fo 1 ?_
    refine gc (kt _) ?_
    rintro v L' ⟨lv, lc, hv, rfl, rfl⟩
    repeat' (first | refine uN ?_ | refine Yc S ?_ | (refine uB ?_; intro b) | (refine uP ?_ ?_ <;> (intro h; ((try simp only [zs, ne_eq, and_true, true_and, eq_self, reduceCtorEq] at h); try exact zx))) | refine da 101 ?_ | fail)
    refine gc (kb lv lc _ (hIn lv lc hv _ (Q1 G.aw G.cw G.nd M.n 0 :: L) ?_)) ?_
    ·exact uL
    rintro v L' ⟨rfl, rfl⟩
    repeat' (first | refine uN ?_ | refine Yc S ?_ | (refine uB ?_; intro b) | (refine uP ?_ ?_ <;> (intro h; ((try simp only [zs, ne_eq, and_true, true_and, eq_self, reduceCtorEq] at h); try exact zx))) | refine da 101 ?_ | fail)
    all_goals exact Yi uL ⟨rfl, hcl _ lc hv⟩
   ·have hbrf : M.br (Zku f) = false := by simpa using hbr
    rw [if_neg (by simp [hbrf])]
    have hbr' := hbr0 _ hbrf
    by_cases hkd : f.kd = 2 ∨ f.kd = 4 ∨ f.kd = 6
    ·rw [if_pos hkd]
     obtain ⟨dn, hdn⟩ := Int.eq_ofNat_of_zero_le hd0.1
     have hd6 : dn < 6 := by omega
     have hm1 : (Zd M f.to).leads[dn]? = some ((Zd M f.to).leads.getD dn none) := getD_some (by rw [hni.leads]; exact hd6)
     obtain ⟨q, hq⟩ : ∃ q, (Ye G f.to).ld[dn]? = some q := ⟨_, List.getElem?_eq_getElem (by rw [hok.ld]; exact hd6)⟩
     have hv0 := Zip hm1 hq
     rw [show f.dl.toNat = dn by omega]
     have gL : (Uj (Ye G f.to) (Zd M f.to))[0 + (dn : Int).toNat]? = some (Zei ((Zd M f.to).leads.getD dn none) q) := by rw [Nat.zero_add, Int.toNat_natCast]; exact hv0
     cases hx : (Zd M f.to).leads.getD dn none with
     | none =>
      rw [hx] at gL
      simp only [Zei] at gL
      have hN := hno L
      have hNL := hnl L
      unfold Za2 at hN
      rw [hsc] at hN
      simp only [Zdx] at hN
      obtain ⟨ffr, fto, fdl, fkd, fatt, fys, fs⟩ := f
      simp only at hbad hto hfr hng hn0 hn1 hN hNL gL hdn hkd kb hbr' ⊢
      subst hdn
      rw [hbr'] at kb
      simp only [Xy]
      simp only [Xs, Zee, Vv, List.cons_append, List.nil_append, hnv] at hcl ⊢
      refine Za (fun _ _ => Tryz.call93 _ _) Tryz.func93 rfl Tryz.ntmps93 (Nat.le_of_ble_eq_true rfl) ?_; simp only [Zc, Nat.reduceAdd]
      repeat' (first | refine uN ?_ | refine Yc S ?_ | (refine uB ?_; intro b) | (refine uP ?_ ?_ <;> (intro h; ((try simp only [zs, ne_eq, and_true, true_and, eq_self, reduceCtorEq] at h); try exact zx))) | refine da 101 ?_ | fail)
      refine fo 2 ?_
      refine fo 1 ?_
      refine gc (kt _) ?_
      rintro v L' ⟨lv, lc, hv, rfl, rfl⟩
      repeat' (first | refine uN ?_ | refine Yc S ?_ | (refine uB ?_; intro b) | (refine uP ?_ ?_ <;> (intro h; ((try simp only [zs, ne_eq, and_true, true_and, eq_self, reduceCtorEq] at h); try exact zx))) | refine da 101 ?_ | fail)
      refine gc (kb lv lc _ (hIn lv lc hv _ (Q1 G.aw G.cw G.nd M.n 0 :: L) ?_)) ?_
      ·exact uL
      rintro v L' ⟨rfl, rfl⟩
      repeat' (first | refine uN ?_ | refine Yc S ?_ | (refine uB ?_; intro b) | (refine uP ?_ ?_ <;> (intro h; ((try simp only [zs, ne_eq, and_true, true_and, eq_self, reduceCtorEq] at h); try exact zx))) | refine da 101 ?_ | fail)
      all_goals exact Yi uL ⟨rfl, hcl _ lc hv⟩
     | some x =>
      simp only
      rw [hx] at hm1 gL hv0
      simp only [Zei] at gL hv0
      have hLI := hni.ldi dn x hm1
      obtain ⟨hs, hH, hrel⟩ := hok.lok dn x hm1 q hq
      have hxw := hLI.ww
      have hwl := hM.wl
      have hck : Yw x.w = none := by rw [hxw]; exact hM.w0
      have hRx : Rd ic 1 L G.aw x.w := by rw [hxw]; exact hRw
      have hhl := Q6 x f
      rw [hxw] at hhl
      have hrel2 := hrel.hear f
      have kh := fun L hR => Zhy q.1 G.aw G.cw q.2.1 q.2.2 x hs f L hR hck hH hrel
      refine HC.nodeR0 (M' := { Yp { M with l := M.l.eraseIdx k.toNat } f.to { (Zd M f.to) with site := some (j, ref), leads := (Zd M f.to).leads.set dn (some (Zs x f).1) } with l := M.l.eraseIdx k.toNat ++ (Zs x f).2 }) hW hn0 hn1 ?_
      obtain ⟨A, B, eA, eB⟩ := Zgo (aw := G.aw) (cw := G.cw) hm1 hq
      have hnba := hnb (G.bc :: Vc G.aw G.cw G.nd M.n 0 f.to.toNat :: L)
      clear hno hnl hA hcl
      generalize Vc G.aw G.cw G.nd M.n 0 f.to.toNat = X at *
      generalize hmm : Zd M f.to = m at *
      generalize Ye G f.to = g at *
      have eVs : ∀ q', Zei (some (Zs x f).1) q' = Zei (some x) q → Uj { g with ld := g.ld.set dn q' } { m with leads := m.leads.set dn (some (Zs x f).1) } = Uj g m := fun q' e => by
       rw [Zjo (g := g) (m := m) (g' := { g with ld := g.ld.set dn q' }) (m' := { m with leads := m.leads.set dn (some (Zs x f).1) }) rfl rfl, e]
       exact Zbi hv0
      have eBs := fun q' => eB (some (Zs x f).1) q' { m with leads := m.leads.set dn (some (Zs x f).1) } { g with ld := g.ld.set dn q' } rfl rfl
      have hokD := fun hv' hc' (h1 : Zx hv' (Uz x hs f) hc') => hok.lead (d := dn) (q := (q.1, hv', hc')) h1 hrel2
      obtain ⟨pl, site, leads, done⟩ := m
      simp only at hsc
      subst hsc
      obtain ⟨ffr, fto, fdl, fkd, fatt, fys, fs⟩ := f
      simp only at hbad hto hfr hng hn0 hn1 hdn hkd kb hbr' kh hhl hrel2 eVs eBs hokD ⊢
      subst hdn
      rw [hbr'] at kb
      generalize Zs x ⟨ffr, fto, dn, fkd, fatt, fys, fs⟩ = R at *
      simp only [Xy]
      refine HC.sp (L' := [(G.wp, .cells ⟨[.slice G.aw G.wl G.cw, sl nb ni M.n.length ncap, G.bv, G.lv, G.ev]⟩ 94)] :: G.ec :: [(g.np, .cells ⟨[pt g.rs 0, pt g.rp 0, sl g.bl 0 6 6, sl g.bd 0 6 6]⟩ 150)] :: [(g.bl, .cells ⟨Uj g ⟨pl, some (j, ref), leads, done⟩⟩ 209)] :: Zks g ⟨pl, some (j, ref), leads, done⟩ :: Zew g.rs g.r.rj g.bR fto ref :: Ql g.r j :: We g.rp pl g.left :: Ul q.1 G.aw G.cw q.2.1 q.2.2 x :: A :: B :: G.lc :: G.nc :: G.bc :: X :: L) ?_ ?_
      ·refine Za (fun _ _ => Tryz.call93 _ _) Tryz.func93 rfl Tryz.ntmps93 (Nat.le_of_ble_eq_true rfl) ?_; simp only [Zc, Nat.reduceAdd]
       repeat' (first | refine uN ?_ | refine Yc S ?_ | (refine uB ?_; intro b) | (refine uP ?_ ?_ <;> (intro h; ((try simp only [zs, ne_eq, and_true, true_and, eq_self, reduceCtorEq] at h); try exact zx))) | refine da 101 ?_ | fail)
       refine fo 11 ?_
       refine fo 1 ?_
       refine gc (kt _) ?_
       rintro v L' ⟨lv, lc, hv, rfl, rfl⟩
       obtain ⟨a6, cap6, rfl, -, -⟩ := hv.rd Zi
       repeat' (first | refine uN ?_ | refine Yc S ?_ | (refine uB ?_; intro b) | (refine uP ?_ ?_ <;> (intro h; ((try simp only [zs, ne_eq, and_true, true_and, eq_self, reduceCtorEq] at h); try exact zx))) | refine da 101 ?_ | fail)
       refine gc (kb _ lc _ (hIn _ lc hv _ ([(g.np, .cells ⟨[pt g.rs 0, pt g.rp 0, sl g.bl 0 6 6, sl g.bd 0 6 6]⟩ 150)] :: [(g.bl, .cells ⟨Uj g ⟨pl, some (j, ref), leads, done⟩⟩ 209)] :: Zks g ⟨pl, some (j, ref), leads, done⟩ :: Zew g.rs g.r.rj g.bR fto ref :: Ql g.r j :: We g.rp pl g.left :: Ul q.1 G.aw G.cw q.2.1 q.2.2 x :: A :: B :: X :: L) ?_)) ?_
       ·exact uL
       rintro v L' ⟨rfl, rfl⟩
       repeat' (first | refine uN ?_ | refine Yc S ?_ | (refine uB ?_; intro b) | (refine uP ?_ ?_ <;> (intro h; ((try simp only [zs, ne_eq, and_true, true_and, eq_self, reduceCtorEq] at h); try exact zx))) | refine da 101 ?_ | fail)
       all_goals refine fo 10 ?_
       all_goals refine gc (kh _ (Rd.up hRx [_, _, _, _, _, _, _, _, _, _, _, _, _, _, _])) ?_
       all_goals rintro v L' ⟨c2, hv', hc', hv2, hH', rfl⟩
       all_goals obtain ⟨a7, cap7, rfl, -, hR7⟩ := hv2.rd Zi
       all_goals have ks := fun L hR => Uv { G with lv := .slice a6 (M.l.eraseIdx k.toNat).length cap6, lc := lc } (M.l.eraseIdx k.toNat) R.2 a7 cap7 L hv hR (by omega)
       all_goals simp only [Vv, hnv] at ks
       all_goals repeat' (first | refine uN ?_ | refine Yc S ?_ | (refine uB ?_; intro b) | (refine uP ?_ ?_ <;> (intro h; ((try simp only [zs, ne_eq, and_true, true_and, eq_self, reduceCtorEq] at h); try exact zx))) | refine da 101 ?_ | fail)
       all_goals refine fo 4 ?_
       all_goals refine fo 4 ?_
       all_goals refine gc (ks _ (hR7 _)) ?_
       all_goals rintro v L' ⟨lv3, lc3, hv3, rfl, rfl⟩
       all_goals repeat' (first | refine uN ?_ | refine Yc S ?_ | (refine uB ?_; intro b) | (refine uP ?_ ?_ <;> (intro h; ((try simp only [zs, ne_eq, and_true, true_and, eq_self, reduceCtorEq] at h); try exact zx))) | refine da 101 ?_ | fail)
       all_goals refine Yi (L' := Ws { G with lv := lv3, lc := lc3 } fto { g with ld := g.ld.set dn (q.1, hv', hc') } ⟨pl, some (j, ref), leads.set dn (some R.1), done⟩ X L) ?_ ⟨rfl, { G with lv := lv3, lc := lc3 }, { M with l := M.l.eraseIdx k.toNat ++ R.2 }, { g with ld := g.ld.set dn (q.1, hv', hc') }, ⟨pl, some (j, ref), leads.set dn (some R.1), done⟩, hW.setL hv3, rfl, rfl, Zkw, hokD hv' hc' hH', rfl, rfl, rfl⟩
       all_goals simp only [Ws, Zd2, Za2, Zdx, Zg4, Zk9, Zlc, Vv, hnv]
       all_goals rw [eBs (q.1, hv', hc'), eVs (q.1, hv', hc') rfl]
       all_goals exact LS.trans ls8 uL
      ·simp only [Ws, Zd2, Za2, Zdx, Zg4, Zk9, Zlc, Vv, hnv]
       rw [eA]
       exact ls8'
    ·rw [if_neg hkd]
     have kh := fun lv lc hv L => Zfz { G with lv := lv, lc := lc } { M with l := M.l.eraseIdx k.toNat } f.to f L (hW1 lv lc hv) hM1 hn0 hn1 (by rw [e8, hsc]; simp)
     have hhl := Zdh { M with l := M.l.eraseIdx k.toNat } f.to f
     have hml : (Yo { M with l := M.l.eraseIdx k.toNat } f.to f).1.l = M.l.eraseIdx k.toNat := rfl
     have hun := hearU_no (M := { M with l := M.l.eraseIdx k.toNat }) (s := f.to) (f := f)
     have hN := hno L
     unfold Za2 at hN
     rw [hsc] at hN
     simp only [Zdx] at hN
     obtain ⟨ffr, fto, fdl, fkd, fatt, fys, fs⟩ := f
     simp only at hbad hto hfr hng hn0 hn1 hN hkd kb hbr' kh hhl hml hun ⊢
     rw [hbr'] at kb
     clear hno hnl hA
     generalize Yo { M with l := M.l.eraseIdx k.toNat } fto ⟨ffr, fto, fdl, fkd, fatt, fys, fs⟩ = R at *
     generalize Zj1 fto (Zd { M with l := M.l.eraseIdx k.toNat } fto) ⟨ffr, fto, fdl, fkd, fatt, fys, fs⟩ = u at *
     simp only [Xy]
     simp only [Xs, Zee, Vv, List.cons_append, List.nil_append, hnv] at hcl ⊢
     refine Za (fun _ _ => Tryz.call93 _ _) Tryz.func93 rfl Tryz.ntmps93 (Nat.le_of_ble_eq_true rfl) ?_; simp only [Zc, Nat.reduceAdd]
     repeat' (first | refine uN ?_ | refine Yc S ?_ | (refine uB ?_; intro b) | (refine uP ?_ ?_ <;> (intro h; ((try simp only [zs, ne_eq, and_true, true_and, eq_self, reduceCtorEq] at h); try exact zx))) | refine da 101 ?_ | fail)
     refine fo 2 ?_
     refine fo 1 ?_
     refine gc (kt _) ?_
     rintro v L' ⟨lv, lc, hv, rfl, rfl⟩
     repeat' (first | refine uN ?_ | refine Yc S ?_ | (refine uB ?_; intro b) | (refine uP ?_ ?_ <;> (intro h; ((try simp only [zs, ne_eq, and_true, true_and, eq_self, reduceCtorEq] at h); try exact zx))) | refine da 101 ?_ | fail)
     refine gc (kb lv lc _ (hIn lv lc hv _ (Q1 G.aw G.cw G.nd M.n 0 :: L) ?_)) ?_
     ·exact uL
     rintro v L' ⟨rfl, rfl⟩
     repeat' (first | refine uN ?_ | refine Yc S ?_ | (refine uB ?_; intro b) | (refine uP ?_ ?_ <;> (intro h; ((try simp only [zs, ne_eq, and_true, true_and, eq_self, reduceCtorEq] at h); try exact zx))) | refine da 101 ?_ | fail)
     refine Us (L' := Xs { G with lv := lv, lc := lc } { M with l := M.l.eraseIdx k.toNat } ++ L) ?_ ?_
     ·refine gc (kh _ _ hv _) ?_
      rintro v L' ⟨c2, ⟨fv, hfv, rfl⟩, G2, eS, hW2, rfl⟩
      obtain ⟨a7, cap7, rfl, -, hR7⟩ := hfv.rd Zi
      have hv2 := hW2.l
      rw [hml] at hv2
      have hcl2 : ∀ lv lc, Zx lv (M.l.eraseIdx k.toNat ++ R.2.1) lc → Zif G { R.1 with l := M.l.eraseIdx k.toNat ++ R.2.1 } L (Xs { G2 with lv := lv, lc := lc } { R.1 with l := M.l.eraseIdx k.toNat ++ R.2.1 } ++ L) := fun lv lc hv => ⟨{ G2 with lv := lv, lc := lc }, ⟨eS.wp, eS.aw, eS.cw, eS.wl, eS.np⟩, hW2.setL hv, rfl⟩
      have ks := fun L hR => Uv G2 _ R.2.1 a7 cap7 L hv2 hR (by omega)
      have ewp : G2.wp = G.wp := eS.wp
      cases u with
      | false =>
       have hnil := hun rfl
       rw [hnil] at hcl2
       have hcl3 := hcl2 G2.lv G2.lc (by rw [List.append_nil]; exact hv2)
       simp only [hnil, Xs, Zee, List.cons_append, List.nil_append, ewp] at hcl3 ⊢
       repeat' (first | refine uN ?_ | refine Yc S ?_ | (refine uB ?_; intro b) | (refine uP ?_ ?_ <;> (intro h; ((try simp only [zs, ne_eq, and_true, true_and, eq_self, reduceCtorEq] at h); try exact zx))) | refine da 101 ?_ | fail)
       exact Yi uL ⟨rfl, hcl3⟩
      | true =>
       simp only [Xs, Zee, List.cons_append, List.nil_append, ewp] at hcl2 ks ⊢
       repeat' (first | refine uN ?_ | refine Yc S ?_ | (refine uB ?_; intro b) | (refine uP ?_ ?_ <;> (intro h; ((try simp only [zs, ne_eq, and_true, true_and, eq_self, reduceCtorEq] at h); try exact zx))) | refine da 101 ?_ | fail)
       refine fo 2 ?_
       refine fo 1 ?_
       refine gc (ks _ ((hR7 []).mono fun x o hb => ?_)) ?_
       ·exact Zf (Zf (Zf (Zf (Yt (by simpa [Has] using hb)))))
       rintro v L' ⟨lv3, lc3, hv3, rfl, rfl⟩
       repeat' (first | refine uN ?_ | refine Yc S ?_ | (refine uB ?_; intro b) | (refine uP ?_ ?_ <;> (intro h; ((try simp only [zs, ne_eq, and_true, true_and, eq_self, reduceCtorEq] at h); try exact zx))) | refine da 101 ?_ | fail)
       exact Yi uL ⟨rfl, hcl2 _ lc3 hv3⟩
     ·simp only [Xs, Zee, Vv, List.cons_append, List.nil_append, hnv]
      exact uL
end Go.HL
end

/-! MwI -/
section
namespace Go.HL
open Go Go.Proofs
set_option linter.unusedVariables false
set_option linter.unusedSimpArgs false
theorem Zpe {G G' : RwG} {M M1 : Wm} {s : Int} {g' : NrG} {m' : Nd} (L : Zb) (hl : G.nd.length = M.n.length) (h0 : 0 ≤ s) (h1 : s < M.n.length) (hW : RwOk G' M1) (e1 : G'.nd = G.nd) (e2 : M1.n = M.n) (e3 : RwS G G') (hN : NrOk g' m') (e4 : g'.np = (Ye G s).np) :
  ∃ L', Zif G (Yp M1 s m') L L' ∧ LS L'.flatten (Ws G' s g' m' (Vc G.aw G.cw G.nd M.n 0 s.toNat) L).flatten := by
 have hnp : g'.np = (Ye G' s).np := by rw [e4]; unfold Ye; rw [e1]
 have eaw := e3.aw
 have ecw := e3.cw
 have hps := Zh9 (G := G') (g := g') h0 (by rw [e1]; omega) hnp
 refine ⟨Xs { G' with nd := G'.nd.set s.toNat g' } (Yp M1 s m') ++ L, ⟨{ G' with nd := G'.nd.set s.toNat g' }, ⟨e3.wp, e3.aw, e3.cw, e3.wl, hps.trans e3.np⟩, hW.put h0 (by rw [e2]; exact h1) hN hnp, rfl⟩, ?_⟩
 simp only [Xs, Yp, e1, e2]
 rw [← eaw, ← ecw]
 exact Zj4 (G := G') (gs := G.nd) (ms := M.n) (s := s) (g := g') (m := m') h0 (by omega) (by omega) L
theorem ls8n {x0 x1 x2 x3 x4 x5 x6 x7 c A B : List Zq} {D : Zb} : LS (x0 :: x1 :: x2 :: x3 :: x4 :: x5 :: x6 :: x7 :: A :: B :: D).flatten (x0 :: x1 :: x2 :: x3 :: x4 :: x5 :: x6 :: x7 :: (A ++ (c ++ B)) :: D).flatten := by
 iterate 8 refine LS.k ?_
 simp only [List.flatten_cons, List.append_assoc]
 exact LS.boths A (LS.skips c (LS.refl _))
theorem rl_put {g : NrG} {m : Nd} {d : Nat} (v : Value) (h : d < (Uj g m).length) : Zt (Uj g m) (0 + (d : Int).toNat) [v] ((Uj g m).set d v) := by
 have e : (Uj g m).set d v = (Uj g m).set (0 + (d : Int).toNat) v := by rw [Nat.zero_add, Int.toNat_natCast]
 rw [e]
 exact W2 (by omega)
theorem Zqk {g : NrG} {m : Nd} (h1 : m.leads.length = 6) (h2 : g.ld.length = 6) : (Uj g m).length = 6 := by simp [Uj, h1, h2]
set_option maxHeartbeats 2000000 attribute [local irreducible] HW HO HQ HD HC QOp Has Upd Zt Gets Yb Z6 Zr Xr Z4 Zm Xx Zy
attribute [local irreducible] Zo Zp Ql We Zew
theorem Zfe (G : RwG) (M : Wm) (s d : Int) (L : Zb) (hW : RwOk G M) (hM : WI M) (hl : M.l.length ≤ 99999000) :
  HC Tryz.prog 81 [pt G.wp 0, iv s, iv d] (Xs G M ++ L) (fun v L' => v = iv (Xy (Xk M s d).2) ∧ Zif G (Xk M s d).1 L L') := by
 unfold Xk
 have hself := Vj hW L
 have hI := Zdc hW L
 have hwn := hM.wn
 have hwl := hM.wl
 obtain ⟨an, capn, hnv, hnr⟩ := hI.ns
 have hw := hI.wp
 unfold Vv at hw
 rw [hnv] at hw
 by_cases h : d < 0 ∨ 6 ≤ d ∨ s < 0 ∨ M.n.length ≤ s
 ·simp only [if_pos h, Xy]
  generalize Xs G M ++ L = H at *
  refine Za (fun _ _ => Tryz.call81 _ _) Tryz.func81 rfl Tryz.ntmps81 (Nat.le_of_ble_eq_true rfl) ?_; simp only [Zc, Nat.reduceAdd]
  repeat' (first | refine uN ?_ | (refine uP ?_ ?_ <;> (intro h; ((try simp only [zs, ne_eq, and_true, true_and, eq_self, reduceCtorEq] at h); try exact zx))) | fail)
  all_goals exact Vy rfl ⟨rfl, hself⟩
 simp only [if_neg h]
 rcases Zas (M := M) (s := s) with ⟨e, he⟩ | ⟨he, hn, h0, h1, j, ref, hs⟩
 ·have ku := Zk3 s hW L
  have h1 := Zid he
  generalize Xs G M ++ L = H at *
  simp only [he, Xy] at ku ⊢
  refine Za (fun _ _ => Tryz.call81 _ _) Tryz.func81 rfl Tryz.ntmps81 (Nat.le_of_ble_eq_true rfl) ?_; simp only [Zc, Nat.reduceAdd]
  repeat' (first | refine uN ?_ | refine uC (ku) ?_ | (refine uP ?_ ?_ <;> (intro h; ((try simp only [zs, ne_eq, and_true, true_and, eq_self, reduceCtorEq] at h); try exact zx))) | fail)
  exact Vy rfl ⟨rfl, hself⟩
 ·simp only [he]
  have ku := Zk3 s hW L
  generalize hH : Xs G M ++ L = H at *
  simp only [he, Xy] at ku
  obtain ⟨dn, rfl⟩ := Int.eq_ofNat_of_zero_le (show 0 ≤ d by omega)
  have hd6 : dn < 6 := by omega
  refine Za (fun _ _ => Tryz.call81 _ _) Tryz.func81 rfl Tryz.ntmps81 (Nat.le_of_ble_eq_true rfl) ?_; simp only [Zc, Nat.reduceAdd]
  repeat' (first | refine uN ?_ | refine uC (ku) ?_ | (refine uP ?_ ?_ <;> (intro h; ((try simp only [zs, ne_eq, and_true, true_and, eq_self, reduceCtorEq] at h); try exact zx))) | fail)
  have hB : ∀ {i : Int} (h0 : 0 ≤ i) (h1 : i < M.n.length) {b : Nat} {o : Obj}, (b, o) ∈ Zf6 G.aw G.cw (Ye G i) i (Zd M i) → Has H b o := fun {i} h0 h1 {b o} hb => by
   subst hH
   exact Zfu hW.ndl h0 h1 hb L
  refine Zn (σ := Nat) (fun i => [(0, pt G.wp 0), (1, iv s), (2, iv dn), (8, iv i)]) (fun _ => H) (fun i => i ≤ M.n.length ∧ ∀ k, k < i → Wo dn (Zd M (k : Int)) = false) (fun i => M.n.length - i) 0 uS (List.Sublist.refl _) ⟨by simp, fun k hk => by omega⟩ ?_
  rintro i ⟨hi, hfree⟩
  by_cases hlt : i < M.n.length
  ·have hBi := fun {b o} => hB (i := (i : Int)) (by omega) (by omega) (b := b) (o := o)
   have hni := Wr hM (s := (i : Int)) (by omega) (by omega)
   have hok := Uu hW (s := (i : Int)) (by omega) (by omega)
   obtain ⟨b9, bi, l, F, fr, cap2, e7, hb, hg2⟩ := Ziq hI hW.ndl (s := (i : Int)) (by omega) (by omega)
   rw [hnv] at e7
   obtain ⟨rfl, -, rfl⟩ := Value.slice.inj e7
   have hNi : Has H (Ye G i).np (Za2 (Ye G i) (Zd M i)) := hBi (by simp [Zf6, Zd2])
   have hLi : Has H (Ye G i).bl (.cells ⟨Uj (Ye G i) (Zd M i)⟩ 209) := hBi (by simp [Zf6, Zg4])
   have kst := Zfc G M i dn H hI hW.ndl (by omega) (by omega) hd6 hni.b512 hNi (fun p hp => hBi (by simp [Zf6, hp]))
   have hm1 : (Zd M i).leads[dn]? = some ((Zd M i).leads.getD dn none) := getD_some (by rw [hni.leads]; exact hd6)
   obtain ⟨q, hq⟩ : ∃ q, (Ye G i).ld[dn]? = some q := ⟨_, List.getElem?_eq_getElem (by rw [hok.ld]; exact hd6)⟩
   have hv := Zip hm1 hq
   have gL : (Uj (Ye G i) (Zd M i))[0 + (dn : Int).toNat]? = some (Zei ((Zd M i).leads.getD dn none) q) := by rw [Nat.zero_add, Int.toNat_natCast]; exact hv
   have hbz : Wo dn (Zd M i) = (decide (Xf (Zd M i).pl dn ≠ Wx) || ((Zd M i).leads.getD dn none).isSome) := rfl
   have hbu := Zqu (M := M) (d := dn) hlt
   unfold Za2 at hNi
   generalize hmi : Zd M i = m at *
   generalize Ye G i = g at *
   generalize Xf m.pl dn = st at *
   obtain ⟨ph, pr, att⟩ := st
   cases hx : m.leads.getD dn none with
   | some x =>
    rw [hx] at gL hbz
    simp only [Zei] at gL
    have hb1 : Wo dn m = true := by rw [hbz]; simp
    rw [if_pos (hbu hb1)]
    simp only [Xy]
    repeat' (first | refine uN ?_ | refine uC (kst) ?_ | (refine uP ?_ ?_ <;> (intro h; ((try simp only [zs, ne_eq, and_true, true_and, eq_self, reduceCtorEq] at h); try exact zx))) | fail)
    all_goals exact Yi (LS.refl _) ⟨rfl, hself⟩
   | none =>
    rw [hx] at gL hbz
    simp only [Zei] at gL
    by_cases hz : ph = 0 ∧ pr = 0 ∧ att = 0
    ·obtain ⟨rfl, rfl, rfl⟩ := hz
     have hb0 : Wo dn m = false := by rw [hbz]; rfl
     repeat' (first | refine uN ?_ | refine uC (kst) ?_ | (refine uP ?_ ?_ <;> (intro h; ((try simp only [zs, ne_eq, and_true, true_and, eq_self, reduceCtorEq] at h); try exact zx))) | fail)
     all_goals refine Zg (i + 1) uS (LS.refl _) ⟨by omega, fun k hk => ?_⟩ (by omega)
     all_goals by_cases e : k = i
     all_goals first | (subst e; rw [hmi]; exact hb0; done) | exact hfree k (by omega)
    ·have hb1 : Wo dn m = true := by
      rw [hbz, decide_eq_true]
      ·rfl
      ·intro e
       cases e
       exact hz ⟨rfl, rfl, rfl⟩
     rw [if_pos (hbu hb1)]
     simp only [Xy]
     repeat' (first | refine uN ?_ | refine uC (kst) ?_ | (refine uP ?_ ?_ <;> (intro h; ((try simp only [zs, ne_eq, and_true, true_and, eq_self, reduceCtorEq] at h); try exact zx))) | fail)
     all_goals first | exact Yi (LS.refl _) ⟨rfl, hself⟩ | (exfalso; simp_all; done)
  ·obtain rfl : i = M.n.length := by omega
   have hany : M.n.any (Wo (dn : Int)) = false := Zmh hfree
   simp only [hany, Bool.false_eq_true, if_false, Xy]
   subst hH
   clear hB
   have hok := Uu hW h0 h1
   have hni := Wr hM h0 h1
   have hwlG := hW.wl
   have hm1 : (Zd M s).leads[dn]? = some ((Zd M s).leads.getD dn none) := getD_some (by rw [hni.leads]; exact hd6)
   obtain ⟨q, hq⟩ : ∃ q, (Ye G s).ld[dn]? = some q := ⟨_, List.getElem?_eq_getElem (by rw [hok.ld]; exact hd6)⟩
   obtain ⟨A, B, eA, eB⟩ := Zgo (aw := G.aw) (cw := G.cw) hm1 hq
   have kb := fun L => Zaf s dn G.aw G.cw M.w 0 L
   rw [show Zit 0 = 2 from rfl] at kb
   have kst := fun lp L => Ze4 lp G.aw G.cw Y3 [] (Zh s dn M.w 0 2) L hwl
   obtain ⟨al, capl, hlv5, -, hlr⟩ := hW.l.rd Zi
   have hvl := hW.l
   have hsl := Zbx (Zh s dn M.w 0 2)
   have hslw : (Zh s dn M.w 0 2).w = M.w := rfl
   rw [hslw] at hsl
   have ks := fun a7 cap7 L hR => Uv G M.l (Xc (Zh s dn M.w 0 2)) a7 cap7 L hW.l hR (by omega)
   have hsh := fun G' M1 g' m' a b c d e f => Zpe (G := G) (G' := G') (M := M) (M1 := M1) (s := s) (g' := g') (m' := m') L hW.ndl h0 h1 a b c d e f
   have hWL := fun {lv lc l} hv => hW.setL (lv := lv) (lc := lc) (l := l) hv
   have hlv := Zqk (g := Ye G s) hni.leads hok.ld
   obtain ⟨nb, ni, nl, nF, nfr, ncap, hnv2, hnb, hng⟩ := Zly hW h0 h1
   have hnba := hnb (G.bc :: Vc G.aw G.cw G.nd M.n 0 s.toNat :: L)
   rw [hnv] at hnv2
   obtain ⟨rfl, -, rfl⟩ := Value.slice.inj hnv2
   have hrel : RelH (Zh s dn M.w 0 2) [] := RelH.new hwl rfl rfl
   have hokD := fun lp => hok.lead (d := dn) (q := (lp, Y3, [])) (hs := []) (x := Zh s dn M.w 0 2) Zu hrel
   refine Wi (L' := Ws G s (Ye G s) (Zd M s) (Vc G.aw G.cw G.nd M.n 0 s.toNat) L) ?_ (Zh4 hW.ndl h0 h1 L)
   generalize Vc G.aw G.cw G.nd M.n 0 s.toNat = X at *
   generalize hmm : Zd M s = m at *
   generalize hgg : Ye G s = g at *
   have eVs := fun q' => Zjo (g := g) (m := m) (o' := some (Zh s dn M.w 0 2)) (q' := q') (g' := { g with ld := g.ld.set dn q' }) (m' := { m with leads := m.leads.set dn (some (Zh s dn M.w 0 2)) }) rfl rfl
   have eBs := fun q' => eB (some (Zh s dn M.w 0 2)) q' { m with leads := m.leads.set dn (some (Zh s dn M.w 0 2)) } { g with ld := g.ld.set dn q' } rfl rfl
   obtain ⟨pl, site, leads, done⟩ := m
   simp only at hs
   subst hs
   simp only [Vv, hnv, hwlG] at ks
   simp only at eVs eBs hokD hlv hm1
   refine Wi (L' := [(G.wp, .cells ⟨[.slice G.aw M.w.length G.cw, sl nb ni M.n.length capn, G.bv, G.lv, G.ev]⟩ 94)] :: G.ec :: [(g.np, .cells ⟨[pt g.rs 0, pt g.rp 0, sl g.bl 0 6 6, sl g.bd 0 6 6]⟩ 150)] :: [(g.bl, .cells ⟨Uj g ⟨pl, some (j, ref), leads, done⟩⟩ 209)] :: Zks g ⟨pl, some (j, ref), leads, done⟩ :: Zew g.rs g.r.rj g.bR s ref :: Ql g.r j :: We g.rp pl g.left :: A :: B :: G.lc :: G.nc :: G.bc :: X :: L) ?_ ?_
   ·repeat' (first | refine uN ?_ | refine uC (ku) ?_ | (refine uP ?_ ?_ <;> (intro h; ((try simp only [zs, ne_eq, and_true, true_and, eq_self, reduceCtorEq] at h); try exact zx))) | fail)
    refine gc (kb _) ?_
    rintro v L' ⟨lp, rfl, rfl⟩
    have gP := rl_put (g := g) (m := ⟨pl, some (j, ref), leads, done⟩) (d := dn) (pt lp 0) (by omega)
    repeat' (first | refine uN ?_ | refine uC (ku) ?_ | (refine uP ?_ ?_ <;> (intro h; ((try simp only [zs, ne_eq, and_true, true_and, eq_self, reduceCtorEq] at h); try exact zx))) | fail)
    refine gc (kst lp _) ?_
    rintro v L' ⟨c2, hv2, rfl⟩
    obtain ⟨a7, cap7, rfl, -, hR7⟩ := hv2.rd Zi
    repeat' (first | refine uN ?_ | refine uC (ku) ?_ | (refine uP ?_ ?_ <;> (intro h; ((try simp only [zs, ne_eq, and_true, true_and, eq_self, reduceCtorEq] at h); try exact zx))) | fail)
    refine fo 12 ?_
    refine fo 3 ?_
    refine gc (ks _ _ _ (hR7 _)) ?_
    rintro v L' ⟨lv3, lc3, hv3, rfl, rfl⟩
    repeat' (first | refine uN ?_ | refine uC (ku) ?_ | (refine uP ?_ ?_ <;> (intro h; ((try simp only [zs, ne_eq, and_true, true_and, eq_self, reduceCtorEq] at h); try exact zx))) | fail)
    obtain ⟨L9, hP, hLS⟩ := hsh { G with lv := lv3, lc := lc3 } { M with l := M.l ++ Xc (Zh s dn M.w 0 2) } { g with ld := g.ld.set dn (lp, Y3, []) } ⟨pl, some (j, ref), leads.set dn (some (Zh s dn M.w 0 2)), done⟩ (hWL hv3) rfl rfl Zkw (hokD lp) rfl
    refine Yi (L' := L9) (LS.trans hLS ?_) ⟨rfl, hP⟩
    simp only [Ws, Zd2, Za2, Zdx, Zg4, Zk9, Zlc, Vv, hnv, hwlG]
    rw [eBs (lp, Y3, []), eVs (lp, Y3, [])]
    exact LS.trans ls8 uL
   ·simp only [Ws, Zd2, Za2, Zdx, Zg4, Zk9, Zlc, Vv, hnv, hwlG]
    rw [eA]
    exact ls8n
end Go.HL
end

/-! MwJ -/
section
namespace Go.HL
open Go Go.Proofs
set_option linter.unusedVariables false
set_option linter.unusedSimpArgs false
theorem try_fine {M : Wm} {s a : Int} {d : Nat} {j : Jn} {ref : Int → Bool} (hM : WI M) (h0 : 0 ≤ s) (h1 : s < M.n.length) (hs : (Zd M s).site = some (j, ref)) (hd : d < 6) (ha0 : 0 ≤ a) (ha : a ≤ 1048576) (hn : (j.l.getD d Zl).n + 1 < 4294967296) :
  Zj1 s (Zd M s) (W6 s d a) = (Yo M s (W6 s d a)).2.2 := by
 have hni := Wr hM h0 h1
 have hj := hni.jn hs
 have hoff := (hni.up j ref hs).2
 have hwn := hM.wn
 have hwl := hM.wl
 have hb : ¬ Xv (W6 s d a) := by
  unfold Xv W6 Wx
  simp only
  omega
 have htu := (Znl (ref := ref) (f := W6 s d a) (st := (j.l.getD d Zl).s) (hj.st d hd) hb).1
 have hfine := Zu4 hj.ji hoff s ref (W6 s d a) hb rfl hn (by
  unfold Zli at htu
  unfold V5
  have : ((W6 s d a).dl).toNat = d := rfl
  rw [this]
  have e : (W6 s d a).dl = (d : Int) := rfl
  rw [e]
  omega)
 unfold Zj1 Yo Y7
 simp only [hs]
 split
 ·rename_i h
  rw [h]; rfl
 ·exact hfine.symm
theorem Zpi {M : Wm} {s d : Int} {st : St} {k : Int} : Zb4 (Zh s d M.w st.pr k) 7 st.ph = Wz M s d st := by
 unfold Zb4 Wz
 have e : ∀ i, Za0 (Zh s d M.w st.pr k) 7 st.ph i = [⟨s, (i : Int), d, 7, st.pr, false, ⟨st.ph, 0, 0⟩⟩] := fun i => if_pos (.inl (by decide))
 rw [show Za0 (Zh s d M.w st.pr k) 7 st.ph = fun i : Nat => [(⟨s, (i : Int), d, 7, st.pr, false, ⟨st.ph, 0, 0⟩⟩ : Fr)] from funext e]
 exact (List.map_eq_flatMap ..).symm
theorem Zpt {A L : Zb} {c : List Zq} : LS (A ++ L).flatten (A ++ (c :: L)).flatten := by
 simp only [List.flatten_append, List.flatten_cons]
 exact LS.boths _ (LS.skips _ (LS.refl _))
set_option maxHeartbeats 2000000 attribute [local irreducible] HW HO HQ HD HC QOp Has Upd Zt Gets Yb Z6 Zr Xr Z4 Zm Xx Zy
attribute [local irreducible] Zo Zp Ql We Zew Zaw
set_option maxHeartbeats 4000000 in
theorem Zcp (G : RwG) (M : Wm) (s : Int) (L : Zb) (hRw : Rd ic 1 L G.aw M.w) (hW : RwOk G M) (hM : WI M) (hl : M.l.length ≤ 99998000)
  (hnum : Zbn M s = none → ∀ k j ref, k < 6 → (Zd (Wa s M k).1 s).site = some (j, ref) → (j.l.getD k Zl).n + 1 < 4294967296) :
  HC Tryz.prog 84 [pt G.wp 0, iv s] (Xs G M ++ L) (fun v L' => v = iv (Xy (Wv M s).2) ∧ Zif G (Wv M s).1 L L') := by
 unfold Wv
 have hself := Vj hW L
 rcases Zas (M := M) (s := s) with ⟨e, he⟩ | ⟨he, hn, h0, h1, j, ref, hs⟩
 ·have ku := Zk3 s hW L
  have h1 := Zid he
  generalize Xs G M ++ L = H at *
  simp only [he, Xy] at ku ⊢
  refine Za (fun _ _ => Tryz.call84 _ _) Tryz.func84 rfl Tryz.ntmps84 (Nat.le_of_ble_eq_true rfl) ?_; simp only [Zc, Nat.reduceAdd]
  repeat' (first | refine uN ?_ | refine Z7 S ?_ | refine uC (ku) ?_ | (refine uB ?_; intro b) | (refine uP ?_ ?_ <;> (intro h; ((try simp only [zs, ne_eq, and_true, true_and, eq_self, reduceCtorEq] at h); try exact zx))) | fail)
  exact Vy rfl ⟨rfl, hself⟩
 ·replace hnum := hnum he
  have ku := Zk3 s hW L
  simp only [he, Xy] at ku ⊢
  have hticks := fun k hk => Zae hM h0 h1 (by rw [hs]; simp) k hk
  change ∀ k, k ≤ 6 → TickOk M (Wa s M k) s k at hticks
  change HC _ _ _ _ (fun v L' => v = iv 0 ∧ Zif G (Wa s M 6).1 L L')
  have hI0 := Zdc hW L
  obtain ⟨nb, ni, nl, nF, nfr, ncap, hnv, hnb, hng⟩ := Ziq hI0 hW.ndl h0 h1
  have hw0 := hI0.wp
  unfold Vv at hw0
  rw [hnv] at hw0
  generalize hH0 : Xs G M ++ L = H0 at *
  refine Za (fun _ _ => Tryz.call84 _ _) Tryz.func84 rfl Tryz.ntmps84 (Nat.le_of_ble_eq_true rfl) ?_; simp only [Zc, Nat.reduceAdd]
  repeat' (first | refine uN ?_ | refine Z7 S ?_ | refine uC (ku) ?_ | (refine uB ?_; intro b) | (refine uP ?_ ?_ <;> (intro h; ((try simp only [zs, ne_eq, and_true, true_and, eq_self, reduceCtorEq] at h); try exact zx))) | fail)
  subst hH0
  refine Zn (σ := Nat × RwG) (fun r => [(0, pt G.wp 0), (1, iv s), (6, pt (Ye G s).np 0), (7, iv r.1)]) (fun r => Xs r.2 (Wa s M r.1).1 ++ L)
   (fun r => r.1 ≤ 6 ∧ (Wa s M r.1).2 = true ∧ RwOk r.2 (Wa s M r.1).1 ∧ RwS G r.2) (fun r => 6 - r.1) (0, G) uS (List.Sublist.refl _) ⟨by simp, rfl, hW, .refl G⟩ ?_
  rintro ⟨d, G1⟩ ⟨hd, hon, hW1, eS⟩
  simp only at hd hon hW1 eS ⊢
  obtain ⟨hM1, hsame, hlen, hsite⟩ := hticks d hd
  have hsite1 := hsite hon
  have hnx := Zez s M d
  by_cases hd6 : d < 6
  ·have hnx2 := hticks (d + 1) (by omega)
   have hstop := fun h => Zel (s := s) (M := M) (k := d + 1) h (5 - d)
   rw [show d + 1 + (5 - d) = 6 by omega] at hstop
   have hnum1 := fun j ref => hnum d j ref hd6
   generalize Wa s M d = q at *
   obtain ⟨M1, b0⟩ := q
   simp only at hon hW1 hM1 hsame hlen hsite1 hnum1 ⊢
   subst hon
   have h1' : s < M1.n.length := by rw [hsame.n]; exact h1
   have hnp2 := Ztz eS h0 (by rw [hW.ndl]; exact h1)
   have hok := Uu hW1 h0 h1'
   have hni := Wr hM1 h0 h1'
   obtain ⟨⟨j1, ref1⟩, hs1⟩ := Option.ne_none_iff_exists'.1 hsite1
   have hnumd := hnum1 j1 ref1 hs1
   have hj := hni.jn hs1
   have hst := hj.st d hd6
   have hB : ∀ {b : Nat} {o : Obj}, (b, o) ∈ Zf6 G1.aw G1.cw (Ye G1 s) s (Zd M1 s) → Has (Xs G1 M1 ++ L) b o := fun {b o} hb => Zfu hW1.ndl h0 h1' hb L
   have hN := Zfo hW1.ndl h0 h1' L
   have hRI : RsIn (Xs G1 M1 ++ L) (Ye G1 s) s j1 := Zn2 (ref := ref1) (fun p hp => hB (by simp [Zf6, hs1, Zk9, hp])) (fun p hp => hB (by simp [Zf6, hs1, Zlc, hp]))
   obtain ⟨⟨bRv, hsi⟩, hrj, hsS⟩ := hRI
   have gS := Znc (r := (Ye G1 s).r) (j := j1) (d := d) (e := j1.l.getD d Zl) (by simp [List.getD, hj.ji.jn.len, hd6])
   have htd : Wa s M (d + 1) = if Yq j1 d = Wx then (M1, true) else if (Yq j1 d).ph = 2 ∨ (Yq j1 d).ph = 3 then ({ M1 with l := M1.l ++ Wz M1 s d (Yq j1 d) }, true) else Zaw M1 s d (Yq j1 d).pr := by
    rw [hnx]
    unfold tickD
    simp only [hs1, Bool.true_eq_false, if_false]
   unfold Za2 at hN
   rw [hs1] at hN
   simp only [Zdx, hnp2] at hN
   unfold Zf4 at hrj
   have hdl := Zct M1 s d (Yq j1 d)
   have hall := fun k => Zpi (M := M1) (s := s) (d := d) (st := Yq j1 d) (k := k)
   change Gets _ _ (sc (Yq j1 d)) at gS
   generalize hstv : Yq j1 d = st at *
   obtain ⟨ph, pr, att⟩ := st
   obtain ⟨q1, q2, q3, q4, q5⟩ := hst
   simp only at q1 q2 q3 q4 q5 hall
   have hwn := hM1.wn
   have hwl := hM1.wl
   have ewp := eS.wp
   have kfin := fun L => Zb0 ph L
   by_cases hz : ph = 0 ∧ pr = 0 ∧ att = 0
   ·obtain ⟨rfl, rfl, rfl⟩ := hz
    rw [if_pos (show (⟨0, 0, 0⟩ : St) = Wx from rfl)] at htd
    clear hB
    generalize hH : Xs G1 M1 ++ L = H at *
    repeat' (first | refine uN ?_ | refine Z7 S ?_ | refine uC (kfin _) ?_ | (refine uB ?_; intro b) | (refine uP ?_ ?_ <;> (intro h; ((try simp only [zs, ne_eq, and_true, true_and, eq_self, reduceCtorEq] at h); try exact zx))) | fail)
    all_goals subst hH
    all_goals refine Zg (d + 1, G1) uS ?_ ⟨by simp only; omega, by simp only [htd], by simp only [htd]; exact hW1, eS⟩ (by simp only; omega)
    all_goals simp only [htd]
    all_goals exact ls_out
   have hz2 : ¬ ((⟨ph, pr, att⟩ : St) = Wx) := fun e => by cases e; exact hz ⟨rfl, rfl, rfl⟩
   rw [if_neg hz2] at htd
   have hwlG := hW1.wl
   have hwp := (Zdc hW1 L).wp
   unfold Vv at hwp
   rw [hwlG, ewp] at hwp
   have hMl : M1.l.length ≤ 99998100 := by omega
   by_cases hf : ph = 2 ∨ ph = 3
   ·rw [if_pos hf] at htd
    have kfin2 := kfin
    rw [decide_eq_true hf] at kfin2
    clear hB
    have kb := fun L => Zaf s d G1.aw G1.cw M1.w pr L
    have ksd := fun lp L => Qg lp G1.aw G1.cw Y3 [] (Zh s d M1.w pr (Zit pr)) 7 ph true L hwl rfl
    rw [hall] at ksd
    have ks := fun a7 cap7 L hR => Uv G1 M1.l (Wz M1 s d ⟨ph, pr, att⟩) a7 cap7 L hW1.l hR (by omega)
    rw [ewp] at ks
    have hcl : ∀ lv lc, Zx lv (M1.l ++ Wz M1 s d ⟨ph, pr, att⟩) lc → RwOk { G1 with lv := lv, lc := lc } { M1 with l := M1.l ++ Wz M1 s d ⟨ph, pr, att⟩ } := fun lv lc hv => hW1.setL hv
    generalize hH : Xs G1 M1 ++ L = H at *
    repeat' (first | refine uN ?_ | refine Yc S ?_ | refine uC (kfin2 _) ?_ | refine Yg (fun _ => kfin2 _) ?_ | refine Yd (fun _ => kfin2 _) ?_ | refine Yf (fun _ => kfin2 _) ?_ | refine Yh (fun _ => kfin2 _) ?_ | (refine uB ?_; intro b) | (refine uP ?_ ?_ <;> (intro h; ((try simp only [zs, ne_eq, and_true, true_and, eq_self, reduceCtorEq] at h); try exact zx))) | refine da 101 ?_ | fail)
    all_goals refine gc (kb _) ?_
    all_goals rintro v L' ⟨lp, rfl, rfl⟩
    all_goals repeat' (first | refine uN ?_ | refine Yc S ?_ | refine uC (kfin2 _) ?_ | refine Yg (fun _ => kfin2 _) ?_ | refine Yd (fun _ => kfin2 _) ?_ | refine Yf (fun _ => kfin2 _) ?_ | refine Yh (fun _ => kfin2 _) ?_ | (refine uB ?_; intro b) | (refine uP ?_ ?_ <;> (intro h; ((try simp only [zs, ne_eq, and_true, true_and, eq_self, reduceCtorEq] at h); try exact zx))) | refine da 101 ?_ | fail)
    all_goals refine gc (ksd lp _) ?_
    all_goals rintro v L' ⟨c2, hv2, rfl⟩
    all_goals obtain ⟨a7, cap7, rfl, -, hR7⟩ := hv2.rd Zi
    all_goals repeat' (first | refine uN ?_ | refine Yc S ?_ | refine uC (kfin2 _) ?_ | refine Yg (fun _ => kfin2 _) ?_ | refine Yd (fun _ => kfin2 _) ?_ | refine Yf (fun _ => kfin2 _) ?_ | refine Yh (fun _ => kfin2 _) ?_ | (refine uB ?_; intro b) | (refine uP ?_ ?_ <;> (intro h; ((try simp only [zs, ne_eq, and_true, true_and, eq_self, reduceCtorEq] at h); try exact zx))) | refine da 101 ?_ | fail)
    all_goals subst hH
    all_goals refine Us (L' := [(G.wp, Vv G1)] :: G1.lc :: c2 :: G1.ec :: G1.nc :: G1.bc :: Q1 G1.aw G1.cw G1.nd M1.n 0 :: L) ?_ (by simp only [Xs, Zee, List.cons_append, List.nil_append, ewp]; exact uL)
    all_goals refine gc (ks a7 cap7 _ (hR7 _)) ?_
    all_goals rintro v L' ⟨lv3, lc3, hv3, rfl, rfl⟩
    all_goals repeat' (first | refine uN ?_ | refine Yc S ?_ | refine uC (kfin2 _) ?_ | refine Yg (fun _ => kfin2 _) ?_ | refine Yd (fun _ => kfin2 _) ?_ | refine Yf (fun _ => kfin2 _) ?_ | refine Yh (fun _ => kfin2 _) ?_ | (refine uB ?_; intro b) | (refine uP ?_ ?_ <;> (intro h; ((try simp only [zs, ne_eq, and_true, true_and, eq_self, reduceCtorEq] at h); try exact zx))) | refine da 101 ?_ | fail)
    all_goals refine Zg (d + 1, { G1 with lv := lv3, lc := lc3 }) uS ?_ ⟨by simp only; omega, by simp only [htd], by simp only [htd]; exact hcl lv3 lc3 hv3, eS.trans Zkw⟩ (by simp only; omega)
    all_goals simp only [htd, Xs, Zee, List.cons_append, List.nil_append, ewp]
    all_goals exact uL
   ·rw [if_neg hf] at htd
    have kfin2 := kfin
    rw [decide_eq_false hf] at kfin2
    have hm1 : (Zd M1 s).leads[d]? = some ((Zd M1 s).leads.getD d none) := getD_some (by rw [hni.leads]; exact hd6)
    obtain ⟨q, hq⟩ : ∃ q, (Ye G1 s).ld[d]? = some q := ⟨_, List.getElem?_eq_getElem (by rw [hok.ld]; exact hd6)⟩
    have hv := Zip hm1 hq
    have gL : (Uj (Ye G1 s) (Zd M1 s))[0 + (d : Int).toNat]? = some (Zei ((Zd M1 s).leads.getD d none) q) := by rw [Nat.zero_add, Int.toNat_natCast]; exact hv
    have hLb : Has (Xs G1 M1 ++ L) (Ye G1 s).bl (.cells ⟨Uj (Ye G1 s) (Zd M1 s)⟩ 209) := hB (by simp [Zf6, Zg4])
    have hseen : ∀ x, (Zd M1 s).leads[d]? = some (some x) → Has (Xs G1 M1 ++ L) q.1 (.cells ⟨Zwr G1.aw G1.cw q.2.1 x⟩ 217) := fun x hx => hB (by
     unfold Zf6
     exact List.mem_append_right _ (List.mem_append_right _ (List.mem_append_right _ (List.mem_append_right _ (List.mem_append_right _ (List.mem_append_right _ (Zqe hx hq (by simp [Ul]))))))))
    have hab : 0 ≤ Yv (Zd M1 s) d pr ∧ Yv (Zd M1 s) d pr ≤ 1048576 := by
     unfold Yv
     split
     ·omega
     ·rename_i x hx
      have := hni.ldi d x (by rw [hm1]; simp only [Int.toNat_natCast] at hx; rw [hx])
      have h1 := this.seen0
      have h2 := this.seen1
      omega
    have hw1 := hM1.w1
    have hr0 := Int.emod_nonneg (s - (Yv (Zd M1 s) d pr + 1)) (by omega : (M1.w.length : Int) ≠ 0)
    have hr1 := Int.emod_lt_of_pos (s - (Yv (Zd M1 s) d pr + 1)) (by omega : (0 : Int) < M1.w.length)
    have htf := fun a ha0 ha => try_fine (a := a) hM1 h0 h1' hs1 hd6 ha0 ha hnumd
    generalize hH : Xs G1 M1 ++ L = H at *
    unfold Zaw Zax at htd
    have habv : Yv (Zd M1 s) d pr = match (Zd M1 s).leads.getD d none with
     | none => pr
     | some x => max pr x.seen := rfl
    generalize hab2 : Yv (Zd M1 s) d pr = ab at *
    apply Zq3 (ι := Int) (fun a => a = ab) (fun a => [(0, pt G.wp 0), (1, iv s), (6, pt (Ye G s).np 0), (7, iv d), (11, iv (a + 1))]) (fun _ => H)
    ·intro key
     cases hx : (Zd M1 s).leads.getD d none with
     | none =>
      rw [hx] at gL habv
      simp only [Zei] at gL habv
      repeat' (first | refine uN ?_ | refine Yc S ?_ | refine uC (kfin2 _) ?_ | refine Yg (fun _ => kfin2 _) ?_ | refine Yd (fun _ => kfin2 _) ?_ | refine Yf (fun _ => kfin2 _) ?_ | refine Yh (fun _ => kfin2 _) ?_ | (refine uB ?_; intro b) | (refine uP ?_ ?_ <;> (intro h; ((try simp only [zs, ne_eq, and_true, true_and, eq_self, reduceCtorEq] at h); try exact zx))) | refine da 101 ?_ | fail)
      exact Wi (Zg1 (key _ habv.symm) uS) (LS.c (LS.refl _))
     | some x =>
      rw [hx] at gL habv hm1
      simp only [Zei] at gL habv
      have hse := hseen x hm1
      unfold Zwr at hse
      repeat' (first | refine uN ?_ | refine Yc S ?_ | refine uC (kfin2 _) ?_ | refine Yg (fun _ => kfin2 _) ?_ | refine Yd (fun _ => kfin2 _) ?_ | refine Yf (fun _ => kfin2 _) ?_ | refine Yh (fun _ => kfin2 _) ?_ | (refine uB ?_; intro b) | (refine uP ?_ ?_ <;> (intro h; ((try simp only [zs, ne_eq, and_true, true_and, eq_self, reduceCtorEq] at h); try exact zx))) | refine da 101 ?_ | fail)
      ·exact Wi (Zg1 (key x.seen (by rw [habv]; omega)) uS) (LS.c (LS.refl _))
      ·exact Wi (Zg1 (key pr (by rw [habv]; omega)) uS) (LS.c (LS.refl _))
    rintro ab' rfl
    refine Zn (σ := Int) (fun x => [(0, pt G.wp 0), (1, iv s), (6, pt (Ye G s).np 0), (7, iv d), (11, iv x)]) (fun _ => H) (fun x => ∃ j : Nat, x = ab' + 1 + j ∧ (j : Int) ≤ (s - (ab' + 1)) % M1.w.length) (fun x => (ab' + 1 + (s - (ab' + 1)) % M1.w.length - x).toNat) (ab' + 1) uS (List.Sublist.refl _) ⟨0, by simp, hr0⟩ ?_
    rintro x ⟨jj, rfl, hjj⟩
    have hst := Zqq (k := M1.w.length) (s := s) (a := ab' + 1) (j := jj) (by omega) h0 (by omega) (by omega) hjj
    by_cases hlt : (jj : Int) = (s - (ab' + 1)) % M1.w.length
    ·rw [← hlt] at htd
     have hst2 := hst.2 hlt
     have ha1 : 1 ≤ ab' + 1 + jj := by omega
     have ha2 : ab' + 1 + jj ≤ 1048590 := by omega
     have ha3 : 0 ≤ ab' + 1 + (jj : Int) := by omega
     have hs7 : s < 7 := by omega
     clear hjj hst hB gL hv
     generalize ab' + 1 + (jj : Int) = a at *
     by_cases hmax : 1048576 < a
     ·rw [if_pos hmax] at htd
      repeat' (first | refine uN ?_ | refine Yc S ?_ | refine uC (kfin2 _) ?_ | refine Yg (fun _ => kfin2 _) ?_ | refine Yd (fun _ => kfin2 _) ?_ | refine Yf (fun _ => kfin2 _) ?_ | refine Yh (fun _ => kfin2 _) ?_ | (refine uB ?_; intro b) | (refine uP ?_ ?_ <;> (intro h; ((try simp only [zs, ne_eq, and_true, true_and, eq_self, reduceCtorEq] at h); try exact zx))) | refine da 101 ?_ | fail)
      all_goals subst hH
      all_goals refine Zg (d + 1, G1) uS ?_ ⟨by simp only; omega, by simp only [htd], by simp only [htd]; exact hW1, eS⟩ (by simp only; omega)
      all_goals simp only [htd]
      all_goals exact LS.refl _
     ·rw [if_neg hmax] at htd
      subst hH
      have kH := Zfz G1 M1 s (W6 s d a) L hW1 hM1 h0 h1' hsite1
      rw [htf a ha3 (by omega), ewp] at kH
      have hRI := hM1.hear (f := W6 s d a) h0 h1' (by show s < _; omega)
      have hRl := Zdh M1 s (W6 s d a)
      have hRw2 : (Yo M1 s (W6 s d a)).1.w = M1.w := rfl
      have hRL : (Yo M1 s (W6 s d a)).1.l = M1.l := rfl
      have hRn : (Yo M1 s (W6 s d a)).1.n.length = M1.n.length := hRI.1.wn.trans ((congrArg List.length hRw2).trans hwn.symm)
      clear htf hseen
      generalize Yo M1 s (W6 s d a) = R at *
      obtain ⟨M2, told, ok⟩ := R
      simp only at kH hRI hRl hRw2 hRL hRn htd
      obtain ⟨hM2, hfo⟩ := hRI
      repeat' (first | refine uN ?_ | refine Yc S ?_ | refine uC (kfin2 _) ?_ | refine Yg (fun _ => kfin2 _) ?_ | refine Yd (fun _ => kfin2 _) ?_ | refine Yf (fun _ => kfin2 _) ?_ | refine Yh (fun _ => kfin2 _) ?_ | (refine uB ?_; intro b) | (refine uP ?_ ?_ <;> (intro h; ((try simp only [zs, ne_eq, and_true, true_and, eq_self, reduceCtorEq] at h); try exact zx))) | refine da 101 ?_ | fail)
      refine gc kH ?_
      rintro v L' ⟨c, ⟨fv, hfv, rfl⟩, G2, eS2, hW2, rfl⟩
      obtain ⟨af, capf, rfl, -, hRf⟩ := hfv.rd Zi
      cases ok with
      | false =>
       rw [if_pos rfl] at htd
       have h6 := hstop (by rw [htd])
       rw [h6, htd]
       repeat' (first | refine uN ?_ | refine Yc S ?_ | refine uC (kfin2 _) ?_ | refine Yg (fun _ => kfin2 _) ?_ | refine Yd (fun _ => kfin2 _) ?_ | refine Yf (fun _ => kfin2 _) ?_ | refine Yh (fun _ => kfin2 _) ?_ | (refine uB ?_; intro b) | (refine uP ?_ ?_ <;> (intro h; ((try simp only [zs, ne_eq, and_true, true_and, eq_self, reduceCtorEq] at h); try exact zx))) | refine da 101 ?_ | fail)
       exact Yi (L' := Xs G2 M2 ++ L) Zpt ⟨rfl, G2, eS.trans eS2, hW2, rfl⟩
      | true =>
       rw [if_neg (by simp)] at htd
       have h1'' : s < M2.n.length := by rw [hRn]; exact h1'
       have hl2 := hW2.ndl
       have hnp3 := Ztz eS2 h0 (by rw [hW1.ndl]; exact h1')
       have hok2 := Uu hW2 h0 h1''
       have hni2 := Wr hM2 h0 h1''
       have ewp2 : G2.wp = G.wp := eS2.wp.trans ewp
       have hwlG2 : G2.wl = M1.w.length := by rw [hW2.wl, hRw2]
       have hm2 : (Zd M2 s).leads[d]? = some ((Zd M2 s).leads.getD d none) := getD_some (by rw [hni2.leads]; exact hd6)
       obtain ⟨q2, Zdz⟩ : ∃ q2, (Ye G2 s).ld[d]? = some q2 := ⟨_, List.getElem?_eq_getElem (by rw [hok2.ld]; exact hd6)⟩
       obtain ⟨A, B, eA, eB⟩ := Zgo (aw := G2.aw) (cw := G2.cw) hm2 Zdz
       have kb := fun L => Zaf s d G2.aw G2.cw M1.w a L
       rw [show Zit a = 4 from if_neg (by omega)] at kb
       have kst := fun lp L => Ze4 lp G2.aw G2.cw Y3 [] (Zh s d M1.w a 4) L hwl
       have hNI : LdI M1.w s.toNat d (Zh s d M1.w a 4) := by
        have := Zh6 (w := M1.w) (s := s.toNat) (d := d) (a := a) (k := 4) (by omega) (by omega)
        rw [show ((s.toNat : Nat) : Int) = s by omega] at this
        exact this
       have hsl := Zbx (Zh s d M1.w a 4)
       have hslw : (Zh s d M1.w a 4).w = M1.w := rfl
       rw [hslw] at hsl
       have hrel0 : RelH (Zh s d M1.w a 4) [] := RelH.new hwl rfl rfl
       have ks := fun lv lc (xs ys : List Fr) a7 cap7 L (hv : Zx lv xs lc) hR hlen => Uv { G2 with lv := lv, lc := lc } xs ys a7 cap7 L hv hR hlen
       have hsh := fun G' M1 g' m' y1 y2 y3 y4 y5 y6 => Zpe (G := G2) (G' := G') (M := M2) (M1 := M1) (s := s) (g' := g') (m' := m') (c :: L) hl2 h0 h1'' y1 y2 y3 y4 y5 y6
       have hlvs := Zqk (g := Ye G2 s) hni2.leads hok2.ld
       have hRwB : Rd ic 1 L G2.aw M1.w := by rw [eS2.aw, eS.aw, hsame.w]; exact hRw
       have hokD := fun lp hv' hc' (x : Ld) (hs : List Fr) (h1 : Zx hv' hs hc') (h2 : RelH x hs) => hok2.lead (d := d) (q := (lp, hv', hc')) h1 h2
       refine Us (L' := Ws G2 s (Ye G2 s) (Zd M2 s) (Vc G2.aw G2.cw G2.nd M2.n 0 s.toNat) (c :: L)) ?_ (Zh4 hl2 h0 h1'' _)
       generalize Vc G2.aw G2.cw G2.nd M2.n 0 s.toNat = X at *
       generalize hmm : Zd M2 s = m at *
       generalize hgg : Ye G2 s = g at *
       have hgnp : g.np = (Ye G s).np := hnp3.trans hnp2
       have eVs := fun x q' => Zjo (g := g) (m := m) (o' := some x) (q' := q') (g' := { g with ld := g.ld.set d q' }) (m' := { m with leads := m.leads.set d (some x) }) rfl rfl
       have eBs := fun x q' => eB (some x) q' { m with leads := m.leads.set d (some x) } { g with ld := g.ld.set d q' } rfl rfl
       simp only [Vv, ewp2, hwlG2] at ks
       refine Us (L' := [(G.wp, .cells ⟨[.slice G2.aw M1.w.length G2.cw, G2.nv, G2.bv, G2.lv, G2.ev]⟩ 94)] :: G2.ec :: [((Ye G s).np, .cells ⟨[Zdx g m.site, pt g.rp 0, sl g.bl 0 6 6, sl g.bd 0 6 6]⟩ 150)] :: [(g.bl, .cells ⟨Uj g m⟩ 209)] :: Zks g m :: Zk9 g s m.site :: Zlc g m.site :: We g.rp m.pl g.left :: A :: B :: G2.lc :: G2.nc :: G2.bc :: X :: c :: L) ?_ ?_
       ·repeat' (first | refine uN ?_ | refine Yc S ?_ | refine uC (kfin2 _) ?_ | refine Yg (fun _ => kfin2 _) ?_ | refine Yd (fun _ => kfin2 _) ?_ | refine Yf (fun _ => kfin2 _) ?_ | refine Yh (fun _ => kfin2 _) ?_ | (refine uB ?_; intro b) | (refine uP ?_ ?_ <;> (intro h; ((try simp only [zs, ne_eq, and_true, true_and, eq_self, reduceCtorEq] at h); try exact zx))) | refine da 101 ?_ | fail)
        refine gc (kb _) ?_
        rintro v L' ⟨lp, rfl, rfl⟩
        have gP := rl_put (g := g) (m := m) (d := d) (pt lp 0) (by omega)
        repeat' (first | refine uN ?_ | refine Yc S ?_ | refine uC (kfin2 _) ?_ | refine Yg (fun _ => kfin2 _) ?_ | refine Yd (fun _ => kfin2 _) ?_ | refine Yf (fun _ => kfin2 _) ?_ | refine Yh (fun _ => kfin2 _) ?_ | (refine uB ?_; intro b) | (refine uP ?_ ?_ <;> (intro h; ((try simp only [zs, ne_eq, and_true, true_and, eq_self, reduceCtorEq] at h); try exact zx))) | refine da 101 ?_ | fail)
        refine gc (kst lp _) ?_
        rintro v L' ⟨c2, hv2, rfl⟩
        obtain ⟨a7, cap7, rfl, -, hR7⟩ := hv2.rd Zi
        repeat' (first | refine uN ?_ | refine Yc S ?_ | refine uC (kfin2 _) ?_ | refine Yg (fun _ => kfin2 _) ?_ | refine Yd (fun _ => kfin2 _) ?_ | refine Yf (fun _ => kfin2 _) ?_ | refine Yh (fun _ => kfin2 _) ?_ | (refine uB ?_; intro b) | (refine uP ?_ ?_ <;> (intro h; ((try simp only [zs, ne_eq, and_true, true_and, eq_self, reduceCtorEq] at h); try exact zx))) | refine da 101 ?_ | fail)
        refine fo 12 ?_
        refine fo 3 ?_
        refine gc (ks _ _ M2.l (Xc (Zh s d M1.w a 4)) _ _ _ hW2.l (hR7 _) (by rw [hRL]; omega)) ?_
        rintro v L' ⟨lv3, lc3, hv3, rfl, rfl⟩
        repeat' (first | refine uN ?_ | refine Yc S ?_ | refine uC (kfin2 _) ?_ | refine Yg (fun _ => kfin2 _) ?_ | refine Yd (fun _ => kfin2 _) ?_ | refine Yf (fun _ => kfin2 _) ?_ | refine Yh (fun _ => kfin2 _) ?_ | (refine uB ?_; intro b) | (refine uP ?_ ?_ <;> (intro h; ((try simp only [zs, ne_eq, and_true, true_and, eq_self, reduceCtorEq] at h); try exact zx))) | refine da 101 ?_ | fail)
        have hho := fun i => Zdq (w := M1.w) (s := s.toNat) (d := d) (by omega) hwl hd6 (told.take i) (Zh s d M1.w a 4) [] hNI (fun f hf => hfo f (List.mem_of_mem_take hf)) (fun f hf => by cases hf)
        change ∀ i, LdI M1.w s.toNat d (Z2 (Zh s d M1.w a 4) (told.take i)).1 ∧ ∀ f ∈ (Z2 (Zh s d M1.w a 4) (told.take i)).2, Zih M1.w.length f at hho
        refine Wi (L' := Ul lp G2.aw G2.cw Y3 [] (Zh s d M1.w a 4) :: [(G.wp, .cells ⟨[.slice G2.aw M1.w.length G2.cw, G2.nv, G2.bv, lv3, G2.ev]⟩ 94)] :: lc3 :: G2.ec :: [((Ye G s).np, .cells ⟨[Zdx g m.site, pt g.rp 0, sl g.bl 0 6 6, sl g.bd 0 6 6]⟩ 150)] :: [(g.bl, .cells ⟨(Uj g m).set d (pt lp 0)⟩ 209)] :: Zks g m :: Zk9 g s m.site :: Zlc g m.site :: We g.rp m.pl g.left :: A :: B :: G2.nc :: G2.bc :: X :: c :: L) ?_ uL
        refine Zn (σ := Nat × Value × List Zq × Value × List Zq) (fun r => [(0, pt G.wp 0), (1, iv s), (6, pt (Ye G s).np 0), (7, iv d), (12, .slice af told.length capf), (14, pt lp 0), (15, iv r.1)])
         (fun r => Ul lp G2.aw G2.cw r.2.2.2.1 r.2.2.2.2 (Z2 (Zh s d M1.w a 4) (told.take r.1)).1 :: [(G.wp, .cells ⟨[.slice G2.aw M1.w.length G2.cw, G2.nv, G2.bv, r.2.1, G2.ev]⟩ 94)] :: r.2.2.1 :: G2.ec :: [((Ye G s).np, .cells ⟨[Zdx g m.site, pt g.rp 0, sl g.bl 0 6 6, sl g.bd 0 6 6]⟩ 150)] :: [(g.bl, .cells ⟨(Uj g m).set d (pt lp 0)⟩ 209)] :: Zks g m :: Zk9 g s m.site :: Zlc g m.site :: We g.rp m.pl g.left :: A :: B :: G2.nc :: G2.bc :: X :: c :: L)
         (fun r => r.1 ≤ told.length ∧ (Z2 (Zh s d M1.w a 4) (told.take r.1)).2.length ≤ 7 * r.1 ∧ Zx r.2.1 (M2.l ++ Xc (Zh s d M1.w a 4) ++ (Z2 (Zh s d M1.w a 4) (told.take r.1)).2) r.2.2.1 ∧ ∃ hs, Zx r.2.2.2.1 hs r.2.2.2.2 ∧ RelH (Z2 (Zh s d M1.w a 4) (told.take r.1)).1 hs) (fun r => told.length - r.1) (0, lv3, lc3, Y3, []) uS (List.Sublist.refl _)
         ⟨by simp, by simp [Z2], by simp only [List.take_zero, Z2, List.foldl_nil, List.append_nil]; exact hv3, [], Zu, hrel0⟩ ?_
        rintro ⟨i, lv4, lc4, hv4, hc4⟩ ⟨hi, hlen4, hvl4, hs4, hH4, hrel4⟩
        simp only at hi hlen4 hvl4 hH4 hrel4 ⊢
        obtain ⟨hI4, hF4⟩ := hho i
        have hlast : i = told.length → Z2 (Zh s d M1.w a 4) (told.take i) = Z2 (Zh s d M1.w a 4) told := fun e => by rw [e, List.take_length]
        have hsucc := fun h => Zho (Zh s d M1.w a 4) told i h
        by_cases hit : i < told.length
        ·specialize hsucc hit
         have hl3 := Q6 (Z2 (Zh s d M1.w a 4) (told.take i)).1 told[i]
         rw [hI4.ww] at hl3
         have hck : Yw (Z2 (Zh s d M1.w a 4) (told.take i)).1.w = none := by rw [hI4.ww]; exact hM1.w0
         have hRx : Rd ic 1 L G2.aw (Z2 (Zh s d M1.w a 4) (told.take i)).1.w := by rw [hI4.ww]; exact hRwB
         have hrel5 := hrel4.hear told[i]
         have kh := fun L hR => Zhy lp G2.aw G2.cw hv4 hc4 (Z2 (Zh s d M1.w a 4) (told.take i)).1 hs4 told[i] L hR hck hH4 hrel4
         obtain ⟨b5, i5, l5, F5, fr5, e6, hb5, hg5⟩ := (hRf L).at (j := (i : Int)) (by omega) (by omega)
         subst e6
         have hgi : told[(i : Int).toNat]'(by omega) = told[i] := rfl
         rw [hgi] at hg5
         clear hlast hI4 hF4 hho
         generalize Z2 (Zh s d M1.w a 4) (told.take i) = Q at *
         obtain ⟨x3, fs3⟩ := Q
         simp only at hlen4 hvl4 hH4 hrel4 hl3 hck hRx hrel5 kh hsucc ⊢
         generalize told[i] = f at *
         obtain ⟨ffr, fto, fdl, fkd, fatt, fys, fs⟩ := f
         repeat' (first | refine uN ?_ | refine Yc S ?_ | refine uC (kfin2 _) ?_ | refine Yg (fun _ => kfin2 _) ?_ | refine Yd (fun _ => kfin2 _) ?_ | refine Yf (fun _ => kfin2 _) ?_ | refine Yh (fun _ => kfin2 _) ?_ | (refine uB ?_; intro b) | (refine uP ?_ ?_ <;> (intro h; ((try simp only [zs, ne_eq, and_true, true_and, eq_self, reduceCtorEq] at h); try exact zx))) | refine da 101 ?_ | fail)
         refine gc (kh _ (Rd.up hRx [_, _, _, _, _, _, _, _, _, _, _, _, _, _, _])) ?_
         rintro v L' ⟨c4, hv5, hc5, hv6, hH5, rfl⟩
         obtain ⟨a9, cap9, rfl, -, hR9⟩ := hv6.rd Zi
         repeat' (first | refine uN ?_ | refine Yc S ?_ | refine uC (kfin2 _) ?_ | refine Yg (fun _ => kfin2 _) ?_ | refine Yd (fun _ => kfin2 _) ?_ | refine Yf (fun _ => kfin2 _) ?_ | refine Yh (fun _ => kfin2 _) ?_ | (refine uB ?_; intro b) | (refine uP ?_ ?_ <;> (intro h; ((try simp only [zs, ne_eq, and_true, true_and, eq_self, reduceCtorEq] at h); try exact zx))) | refine da 101 ?_ | fail)
         refine fo 3 ?_
         refine fo 3 ?_
         refine gc (ks _ _ _ (Zs x3 ⟨ffr, fto, fdl, fkd, fatt, fys, fs⟩).2 _ _ _ hvl4 (hR9 _) (by simp only [List.length_append, hRL]; omega)) ?_
         rintro v L' ⟨lv7, lc7, hv7, rfl, rfl⟩
         repeat' (first | refine uN ?_ | refine Yc S ?_ | refine uC (kfin2 _) ?_ | refine Yg (fun _ => kfin2 _) ?_ | refine Yd (fun _ => kfin2 _) ?_ | refine Yf (fun _ => kfin2 _) ?_ | refine Yh (fun _ => kfin2 _) ?_ | (refine uB ?_; intro b) | (refine uP ?_ ?_ <;> (intro h; ((try simp only [zs, ne_eq, and_true, true_and, eq_self, reduceCtorEq] at h); try exact zx))) | refine da 101 ?_ | fail)
         refine Zg (i + 1, lv7, lc7, hv5, hc5) uS ?_ ⟨by simp only; omega, ?_, ?_, Uz x3 hs4 ⟨ffr, fto, fdl, fkd, fatt, fys, fs⟩, hH5, ?_⟩ (by simp only; omega)
         ·simp only [hsucc]
          exact uL
         ·simp only [hsucc, List.length_append]
          omega
         ·simp only [hsucc]
          rw [← List.append_assoc]
          exact hv7
         ·simp only [hsucc]
          exact hrel5
        ·obtain rfl : i = told.length := by omega
         rw [hlast rfl] at hvl4 hrel4 ⊢
         repeat' (first | refine uN ?_ | refine Yc S ?_ | refine uC (kfin2 _) ?_ | refine Yg (fun _ => kfin2 _) ?_ | refine Yd (fun _ => kfin2 _) ?_ | refine Yf (fun _ => kfin2 _) ?_ | refine Yh (fun _ => kfin2 _) ?_ | (refine uB ?_; intro b) | (refine uP ?_ ?_ <;> (intro h; ((try simp only [zs, ne_eq, and_true, true_and, eq_self, reduceCtorEq] at h); try exact zx))) | refine da 101 ?_ | fail)
         obtain ⟨L9, hP, hLS⟩ := hsh { G2 with lv := lv4, lc := lc4 } { M2 with l := M2.l ++ Xc (Zh s d M1.w a 4) ++ (Z2 (Zh s d M1.w a 4) told).2 } { g with ld := g.ld.set d (lp, hv4, hc4) } { m with leads := m.leads.set d (some (Z2 (Zh s d M1.w a 4) told).1) } (hW2.setL hvl4) rfl rfl Zkw (hokD lp hv4 hc4 _ hs4 hH4 hrel4) rfl
         obtain ⟨G3, eS3, hW3, rfl⟩ := hP
         simp only [Int.toNat_natCast] at htd
         refine Zg (d + 1, G3) uS ?_ ⟨by simp only; omega, by simp only [htd], by simp only [htd]; exact hW3, (eS.trans eS2).trans eS3⟩ (by simp only; omega)
         simp only [htd]
         refine LS.trans Zpt (LS.trans hLS ?_)
         rw [← hgnp]
         simp only [Ws, Zd2, Za2, Zg4, Vv, ewp2, hwlG2]
         rw [eBs _ (lp, hv4, hc4), eVs _ (lp, hv4, hc4)]
         exact LS.trans ls8 uL
       ·simp only [Ws, Zd2, Za2, Zg4, Vv, ewp2, hwlG2, hgnp]
        rw [eA]
        exact ls8n
    ·have hst2 : ¬ (ab' + 1 + jj) % M1.w.length = s := fun h => hlt (hst.1 h)
     repeat' (first | refine uN ?_ | refine Yc S ?_ | refine uC (kfin2 _) ?_ | refine Yg (fun _ => kfin2 _) ?_ | refine Yd (fun _ => kfin2 _) ?_ | refine Yf (fun _ => kfin2 _) ?_ | refine Yh (fun _ => kfin2 _) ?_ | (refine uB ?_; intro b) | (refine uP ?_ ?_ <;> (intro h; ((try simp only [zs, ne_eq, and_true, true_and, eq_self, reduceCtorEq] at h); try exact zx))) | refine da 101 ?_ | fail)
     refine Zg (ab' + 1 + (jj : Int) + 1) uS (LS.refl _) ⟨jj + 1, by push_cast; omega, by push_cast; omega⟩ (by omega)
  ·obtain rfl : d = 6 := by omega
   repeat' (first | refine uN ?_ | refine Z7 S ?_ | (refine uB ?_; intro b) | (refine uP ?_ ?_ <;> (intro h; ((try simp only [zs, ne_eq, and_true, true_and, eq_self, reduceCtorEq] at h); try exact zx))) | fail)
   exact Yi (LS.refl _) ⟨rfl, G1, eS, hW1, rfl⟩
end Go.HL
end
