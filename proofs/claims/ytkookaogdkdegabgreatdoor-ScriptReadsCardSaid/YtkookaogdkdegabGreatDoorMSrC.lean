/- Texts laid into one, without what the claim does not use. Conditions: none. -/
import Derived.Test.YtkookaogdkdegabGreatDoorMSrB
/-! StC -/
section
namespace Go.HL
open Go Go.Proofs
set_option linter.unusedVariables false
set_option linter.unusedSimpArgs false
def Z3 (id : Int) (ref : Int → Bool) (m : Pl) (j : Jn) (f : Fr) : Pl × Jn × List Fr × Option Nat :=
 if Ws f then (m, j, [], some 2) else if f.to ≠ id then (m, j, [], some 3) else
 match (Wt m j f.dl (Yr ref f (j.l.getD f.dl.toNat Zm).s).1).2.2 with
 | some e => ((Wt m j f.dl (Yr ref f (j.l.getD f.dl.toNat Zm).s).1).1, (Wt m j f.dl (Yr ref f (j.l.getD f.dl.toNat Zm).s).1).2.1, [], some e)
 | none => ((Wt m j f.dl (Yr ref f (j.l.getD f.dl.toNat Zm).s).1).1, (Wt m j f.dl (Yr ref f (j.l.getD f.dl.toNat Zm).s).1).2.1,
  if (Yr ref f (j.l.getD f.dl.toNat Zm).s).2.1 = 0 then [] else [⟨id, f.fr, f.dl, (Yr ref f (j.l.getD f.dl.toNat Zm).s).2.1, f.att, (Yr ref f (j.l.getD f.dl.toNat Zm).s).2.2, (Yr ref f (j.l.getD f.dl.toNat Zm).s).1⟩], none)
theorem vec_one {α : Type} {E sz : Nat} {enc : α → List Value} {b : Nat} (x : α) (hsz : (enc x).length = sz) : Vec E sz enc (sl b 0 1 1) [x] [(b, .cells ⟨enc x⟩ E)] :=
 .inr ⟨b, 1, [], rfl, by simp, by simp [hsz], by simp, by simp [hsz]⟩
set_option maxHeartbeats 2000000 attribute [local irreducible] HW HO HQ HD HC QOp Has Upd Zp Gets Yf Z8 Zr X3 Z9 Zj Wa Zy
attribute [local irreducible] Zz Yo Wt Yr
set_option maxHeartbeats 1000000 in
theorem Zkp (T : Nat) (E : Nat → Addr) (sp bj mb bp ba : Nat) (id : Int) (es : List MapEntry) (ck : Nat) (ref : Int → Bool) (m : Pl) (j : Jn) (f : Fr) (L : Zb) (hG : Er T E [2, 3, 5, 6] L) (hF : Zy iv es ref) (hm : PlOk m) (hj : JnOk j) :
  HC Tryz.prog 143 [pt sp 0, .agg ⟨fc f⟩] (Zed sp bj mb id :: Zej mb es ck :: Yo bp ba m :: jC bj bp j :: L) (fun v L' => ∃ fv c, v = .tuple ⟨[fv, eV T E (Z3 id ref m j f).2.2.2]⟩ ∧ Xq fv (Z3 id ref m j f).2.2.1 c ∧
   L' = Zed sp bj mb id :: Zej mb es ck :: Yo bp ba (Z3 id ref m j f).1 :: jC bj bp (Z3 id ref m j f).2.1 :: c :: L) := by
 have hG4 := (((hG.cons (jC bj bp j)).cons (Yo bp ba m)).cons (Zej mb es ck)).cons (Zed sp bj mb id)
 have kc := fun L hG => Zi0 T E f L hG
 unfold Z3 Zmw at *
 by_cases hb : Ws f
 ·simp only [if_pos hb] at kc ⊢
  refine Za (fun _ _ => Tryz.call143 _ _) Tryz.func143 rfl Tryz.ntmps143 (Nat.le_of_ble_eq_true rfl) ?_; simp only [Ze, Nat.reduceAdd]
  repeat' (first | refine uN ?_ | refine Yb S ?_ | refine Yv S ?_ | refine Vk (qC (kc _ (hG4.sub.cons _))) ?_ | refine Zdf (qC (kc _ (hG4.sub.cons _))) ?_ | refine Yx (fun _ => kc _ (hG4.sub.cons _)) ?_ | refine Y0 (fun _ => kc _ (hG4.sub.cons _)) ?_ | refine Yz (fun _ => kc _ (hG4.sub.cons _)) ?_ | refine Yy (fun _ => kc _ (hG4.sub.cons _)) ?_ | (refine uB ?_; intro b) | refine dg S 100 (fun _ _ => ?_) | (refine uP ?_ ?_ <;> (intro h; ((try simp only [zs, ne_eq, and_true, true_and, eq_self, reduceCtorEq] at h); try exact zx))) | refine da 101 ?_ | fail)
  exact Ve (L' := Zed sp bj mb id :: Zej mb es ck :: Yo bp ba m :: jC bj bp j :: [] :: L) (LS.skip _ (LS.refl _)) ⟨_, [], rfl, Yh, rfl⟩
 simp only [if_neg hb] at kc ⊢
 by_cases hto : f.to = id
 ·simp only [ne_eq, hto, not_true_eq_false, if_false]
  unfold Ws at hb
  obtain ⟨fr0, to0, dl0, kd0, at0, ys0, fs0⟩ := f
  simp only at hb hto ⊢
  subst hto
  obtain ⟨d, rfl⟩ := Int.eq_ofNat_of_zero_le (show 0 ≤ dl0 by omega)
  have hd6 : d < 6 := by omega
  clear hb
  simp only [Int.toNat_natCast]
  have kg := fun L h => Zd1 bj bp j d L h hj.len hd6
  generalize hst : (j.l.getD d Zm).s = st at *
  have kt := fun L => Znd sp bj mb to0 es ck ref ⟨fr0, to0, d, kd0, at0, ys0, fs0⟩ st L hF
  generalize htr : Yr ref ⟨fr0, to0, d, kd0, at0, ys0, fs0⟩ st = tr at *
  have kp := Zqd T E bj bp ba m j d tr.1
  generalize hpr : Wt m j d tr.1 = pr at *
  refine Za (fun _ _ => Tryz.call143 _ _) Tryz.func143 rfl Tryz.ntmps143 (Nat.le_of_ble_eq_true rfl) ?_; simp only [Ze, Nat.reduceAdd]
  repeat' (first | refine uN ?_ | refine Yb S ?_ | refine Yv S ?_ | refine Vk (qC (kc _ (hG4.sub.cons _))) ?_ | refine Zdf (qC (kc _ (hG4.sub.cons _))) ?_ | refine Yx (fun _ => kc _ (hG4.sub.cons _)) ?_ | refine Y0 (fun _ => kc _ (hG4.sub.cons _)) ?_ | refine Yz (fun _ => kc _ (hG4.sub.cons _)) ?_ | refine Yy (fun _ => kc _ (hG4.sub.cons _)) ?_ | (refine uB ?_; intro b) | refine dg S 100 (fun _ _ => ?_) | (refine uP ?_ ?_ <;> (intro h; ((try simp only [zs, ne_eq, and_true, true_and, eq_self, reduceCtorEq] at h); try exact zx))) | refine da 101 ?_ | fail)
  refine dcF 0 [(bj, .cells ⟨Zz bp j⟩ 197)] (fun L hL => kg L (hL _ (List.mem_singleton.2 rfl))) (fun p hp => by
   rw [List.mem_singleton.1 hp]
   exact Zc (Zc (Zc (Zc Zh)))) ?_
  simp only [List.map_cons, List.map_nil, List.cons_append, List.nil_append]
  repeat' (first | refine uN ?_ | refine Yb S ?_ | refine Yv S ?_ | refine Vk (qC (kc _ (hG4.sub.cons _))) ?_ | refine Zdf (qC (kc _ (hG4.sub.cons _))) ?_ | refine Yx (fun _ => kc _ (hG4.sub.cons _)) ?_ | refine Y0 (fun _ => kc _ (hG4.sub.cons _)) ?_ | refine Yz (fun _ => kc _ (hG4.sub.cons _)) ?_ | refine Yy (fun _ => kc _ (hG4.sub.cons _)) ?_ | (refine uB ?_; intro b) | refine dg S 100 (fun _ _ => ?_) | (refine uP ?_ ?_ <;> (intro h; ((try simp only [zs, ne_eq, and_true, true_and, eq_self, reduceCtorEq] at h); try exact zx))) | refine da 101 ?_ | fail)
  repeat' (first | refine uN ?_ | refine Z0 S ?_ | refine Vk (qC (hq2 kt 2 2)) ?_ | refine Yx (fun _ => hq2 kt 2 2) ?_ | refine Y0 (fun _ => hq2 kt 2 2) ?_ | refine Yz (fun _ => hq2 kt 2 2) ?_ | refine Yy (fun _ => hq2 kt 2 2) ?_ | (refine uB ?_; intro b) | refine dg S 100 (fun _ _ => ?_) | (refine uP ?_ ?_ <;> (intro h; ((try simp only [zs, ne_eq, and_true, true_and, eq_self, reduceCtorEq] at h); try exact zx))) | refine da 101 ?_ | fail)
  refine fo 6 ?_
  refine fo 6 ?_
  refine gc (kp _ (((((hG.cons _).cons _).cons _).cons _).cons _).sub hm hj) ?_
  rintro v L' ⟨rfl, rfl⟩
  cases he : pr.2.2 with
  | some e =>
   simp only
   repeat' (first | refine uN ?_ | refine Z0 S ?_ | (refine uB ?_; intro b) | refine dg S 100 (fun _ _ => ?_) | (refine uP ?_ ?_ <;> (intro h; ((try simp only [zs, ne_eq, and_true, true_and, eq_self, reduceCtorEq] at h); try exact zx))) | refine da 101 ?_ | fail)
   exact Ve (L' := Zed sp bj mb to0 :: Zej mb es ck :: Yo bp ba pr.1 :: jC bj bp pr.2.1 :: [] :: L) uL ⟨_, [], rfl, Yh, rfl⟩
  | none =>
   simp only
   by_cases hk : tr.2.1 = 0
   ·simp only [if_pos hk]
    repeat' (first | refine uN ?_ | refine Z0 S ?_ | (refine uB ?_; intro b) | refine dg S 100 (fun _ _ => ?_) | (refine uP ?_ ?_ <;> (intro h; ((try simp only [zs, ne_eq, and_true, true_and, eq_self, reduceCtorEq] at h); try exact zx))) | refine da 101 ?_ | fail)
    exact Ve (L' := Zed sp bj mb to0 :: Zej mb es ck :: Yo bp ba pr.1 :: jC bj bp pr.2.1 :: [] :: L) uL ⟨_, [], rfl, Yh, rfl⟩
   ·simp only [if_neg hk]
    repeat' (first | refine uN ?_ | refine Z0 S ?_ | (refine uB ?_; intro b) | refine dg S 100 (fun _ _ => ?_) | (refine uP ?_ ?_ <;> (intro h; ((try simp only [zs, ne_eq, and_true, true_and, eq_self, reduceCtorEq] at h); try exact zx))) | refine da 101 ?_ | fail)
    exact Ve (L' := Zed sp bj mb to0 :: Zej mb es ck :: Yo bp ba pr.1 :: jC bj bp pr.2.1 :: [(b, .cells ⟨fc ⟨to0, fr0, d, tr.2.1, at0, tr.2.2, tr.1⟩⟩ 158)] :: L) (LS.p6 (LS.p6 (LS.p1 (LS.p1 (LS.p0 (LS.c (LS.c (LS.c (LS.refl _))))))))) ⟨_, _, rfl, vec_one _ rfl, rfl⟩
 ·simp only [ne_eq, hto, not_false_eq_true, if_true]
  refine Za (fun _ _ => Tryz.call143 _ _) Tryz.func143 rfl Tryz.ntmps143 (Nat.le_of_ble_eq_true rfl) ?_; simp only [Ze, Nat.reduceAdd]
  repeat' (first | refine uN ?_ | refine Yb S ?_ | refine Yv S ?_ | refine Vk (qC (kc _ (hG4.sub.cons _))) ?_ | refine Zdf (qC (kc _ (hG4.sub.cons _))) ?_ | refine Yx (fun _ => kc _ (hG4.sub.cons _)) ?_ | refine Y0 (fun _ => kc _ (hG4.sub.cons _)) ?_ | refine Yz (fun _ => kc _ (hG4.sub.cons _)) ?_ | refine Yy (fun _ => kc _ (hG4.sub.cons _)) ?_ | (refine uB ?_; intro b) | refine dg S 100 (fun _ _ => ?_) | (refine uP ?_ ?_ <;> (intro h; ((try simp only [zs, ne_eq, and_true, true_and, eq_self, reduceCtorEq] at h); try exact zx))) | refine da 101 ?_ | fail)
  exact Ve (L' := Zed sp bj mb id :: Zej mb es ck :: Yo bp ba m :: jC bj bp j :: [] :: L) (LS.skip _ (LS.refl _)) ⟨_, [], rfl, Yh, rfl⟩
end Go.HL
end

/-! JnN -/
section
namespace Go.HL
open Go Go.Proofs
set_option linter.unusedVariables false
set_option linter.unusedSimpArgs false
theorem Zsa (s : List UInt8) (a : Nat) : s.foldl (fun n b => n * 256 + b.toNat) a = a * 256 ^ s.length + U0 s := by
 induction s generalizing a with
 | nil => simp [U0]
 | cons b s ih =>
  rw [U0, List.foldl_cons, List.foldl_cons, ih, ih]
  simp only [List.length_cons, Nat.pow_succ]
  have e : a * 256 * 256 ^ s.length = a * (256 ^ s.length * 256) := by rw [Nat.mul_assoc, Nat.mul_comm 256]
  rw [Nat.add_mul, e, Nat.zero_mul, Nat.zero_add]
  omega
theorem rdN_cons (b : UInt8) (s : List UInt8) : U0 (b :: s) = b.toNat * 256 ^ s.length + U0 s := by
 rw [U0, List.foldl_cons, Zsa]; simp
theorem bt_nat (n k : Nat) : (bt (n : Int) k).toNat = n / 256 ^ k % 256 := by
 have h := bt_val (n : Int) k
 have e : (n : Int) / 2 ^ (8 * k) % 256 = ((n / 256 ^ k % 256 : Nat) : Int) := by
  rw [Int.pow_mul]
  simp
 rw [e] at h
 exact Int.ofNat.inj h
theorem rdN_numB (n k : Nat) : U0 (We (n : Int) k) = n % 256 ^ k := by
 induction k with
 | zero => simp [We, U0, Nat.mod_one]
 | succ k ih =>
  rw [We, rdN_cons, ih, bt_nat, Xb, Nat.pow_succ, Nat.mod_mul]
  rw [Nat.mul_comm, Nat.add_comm]
theorem Zjb {n : Int} {k : Nat} (h0 : 0 ≤ n) (h1 : n < 256 ^ k) : ((U0 (We n k) : Nat) : Int) = n := by
 obtain ⟨n, rfl⟩ := Int.eq_ofNat_of_zero_le h0
 rw [rdN_numB, Nat.mod_eq_of_lt]
 exact Int.ofNat_lt.1 (by simpa using h1)
end Go.HL
end

/-! JnG -/
section
namespace Go.HL
open Go Go.Proofs
set_option linter.unusedVariables false
set_option linter.unusedSimpArgs false

structure EntOk (e : Ent) : Prop where
 n0 : 1 ≤ e.n
 n1 : e.n < 4294967296
 p0 : 0 ≤ e.s.ph
 p1 : e.s.ph ≤ 255
 r0 : 0 ≤ e.s.pr
 r1 : e.s.pr ≤ 1048576
 a0 : 0 ≤ e.s.att
 a1 : e.s.att ≤ 1048576
theorem Zng {e : Ent} (h : EntOk e) (r : List UInt8) : Zbt (Yl e ++ r) = e := by
 obtain ⟨n, ⟨p, q, a⟩⟩ := e
 have l1 := Xb n 4
 have l2 := Xb p 1
 have l3 := Xb q 4
 have l4 := Xb a 4
 have h1 := h.n0; have h2 := h.n1; have h3 := h.p0; have h4 := h.p1; have h5 := h.r0; have h6 := h.r1; have h7 := h.a0; have h8 := h.a1
 simp only at h1 h2 h3 h4 h5 h6 h7 h8
 have e1 : Yl ⟨n, p, q, a⟩ ++ r = We n 4 ++ (We p 1 ++ (We q 4 ++ (We a 4 ++ (We (crc (head ⟨n, p, q, a⟩)) 4 ++ r)))) := by simp [Yl, head]
 have t1 : (Yl ⟨n, p, q, a⟩ ++ r).take 4 = We n 4 := by rw [e1, List.take_left' l1]
 have t2 : ((Yl ⟨n, p, q, a⟩ ++ r).take 5).drop 4 = We p 1 := by
  rw [e1, ← List.append_assoc, List.take_left' (by simp [l1, l2]), List.drop_left' l1]
 have t3 : ((Yl ⟨n, p, q, a⟩ ++ r).take 9).drop 5 = We q 4 := by
  rw [e1, ← List.append_assoc, ← List.append_assoc, List.take_left' (by simp [l1, l2, l3]), List.drop_left' (by simp [l1, l2])]
 have t4 : ((Yl ⟨n, p, q, a⟩ ++ r).take 13).drop 9 = We a 4 := by
  rw [e1, ← List.append_assoc, ← List.append_assoc, ← List.append_assoc, List.take_left' (by simp [l1, l2, l3, l4]), List.drop_left' (by simp [l1, l2, l3])]
 unfold Zbt
 rw [t1, t2, t3, t4, Zjb (by omega) (by omega), Zjb (by omega) (by omega), Zjb (by omega) (by omega), Zjb (by omega) (by omega)]
theorem Zqz {e : Ent} (h : EntOk e) : Yw (e.n % 2) (Yl e ++ Yj) = e := by
 rw [U9, Zng h]
 rw [if_neg]
 have := h.n0
 simp
 omega
theorem Zjt (k : Int) (s : List UInt8) (hs : 4 ≤ s.length) : 0 ≤ (Yw k s).n ∧ (Yw k s).n < 4294967296 := by
 rw [U9]
 split
 ·simp
 ·have := Zmv (s.take 4)
  rw [show (s.take 4).length = 4 by simp; omega] at this
  show 0 ≤ ((U0 (s.take 4) : Nat) : Int) ∧ ((U0 (s.take 4) : Nat) : Int) < 4294967296
  omega
theorem Zan (a b : Ent) : (Va a b).n = max a.n b.n := by
 unfold Va
 split <;> omega
theorem Zic (Pr X R : List UInt8) (i : Nat) (hP : Pr.length = i * 18) (hX : X.length = 18) : Yu (Pr ++ X ++ R) i = X := by
 unfold Yu
 rw [List.append_assoc, List.drop_left' hP, List.take_left' hX]
theorem Zie (Pr X Y R : List UInt8) (i i' : Nat) (hP : Pr.length = i * 18) (hX : X.length = 18) (hY : Y.length = 18) (h : i' ≠ i) : Yu (Pr ++ X ++ R) i' = Yu (Pr ++ Y ++ R) i' := by
 unfold Yu
 rcases Nat.lt_or_gt_of_ne h with h | h
 ·have e : ∀ Z : List UInt8, ((Pr ++ Z ++ R).drop (i' * 18)).take 18 = (Pr.drop (i' * 18)).take 18 := fun Z => by
   rw [List.append_assoc, List.drop_append_of_le_length (by omega), List.take_append_of_le_length (by simp; omega)]
  rw [e, e]
 ·have e : ∀ Z : List UInt8, Z.length = 18 → ((Pr ++ Z ++ R).drop (i' * 18)).take 18 = (R.drop (i' * 18 - (i * 18 + 18))).take 18 := fun Z hZ => by
   have hl : (Pr ++ Z).length = i * 18 + 18 := by simp [hP, hZ]
   rw [List.drop_append, hl, List.drop_of_length_le (by omega), List.nil_append]
  rw [e X hX, e Y hY]
theorem Znv (Pr S X R : List UInt8) (h : X.length = S.length) : X0 (Pr ++ S ++ R) Pr.length X = Pr ++ X ++ R := by
 unfold X0
 have e1 : (Pr ++ S ++ R).take Pr.length = Pr := by rw [List.append_assoc, List.take_left' rfl]
 have e2 : (Pr ++ S ++ R).drop (Pr.length + X.length) = R := by rw [List.drop_left' (by simp [h])]
 rw [e1, e2]
end Go.HL
end

/-! JnH -/
section
namespace Go.HL
open Go Go.Proofs
set_option linter.unusedVariables false
set_option linter.unusedSimpArgs false

theorem cut_slot (b : List UInt8) (i : Nat) (h : i * 18 + 18 ≤ b.length) : ∃ Pr S c R, b = Pr ++ (S ++ [c]) ++ R ∧ Pr.length = i * 18 ∧ S.length = 17 := by
 have hd : i * 18 + 17 < b.length := by omega
 refine ⟨b.take (i * 18), (b.drop (i * 18)).take 17, b[i * 18 + 17], b.drop (i * 18 + 18), ?_, by simp; omega, by simp; omega⟩
 have e1 : b.drop (i * 18) = (b.drop (i * 18)).take 17 ++ b.drop (i * 18 + 17) := by
  have := (List.take_append_drop 17 (b.drop (i * 18))).symm
  rwa [List.drop_drop] at this
 have e2 : b.drop (i * 18 + 17) = b[i * 18 + 17] :: b.drop (i * 18 + 18) := List.drop_eq_getElem_cons hd
 have e3 := (List.take_append_drop (i * 18) b).symm
 rw [e1, e2] at e3
 simpa using e3
theorem Zax {Pr S X R : List UInt8} {n : Nat} (hn : n = Pr.length) (h : X.length = S.length) : X0 (Pr ++ S ++ R) n X = Pr ++ X ++ R := by
 subst hn; exact Znv Pr S X R h
theorem Zpn {b : List UInt8} {d : Nat} (hd : d < 6) (hl : 216 ≤ b.length) (k : Nat) (hk : k ≤ 2) : 0 ≤ (X6 b d k).n ∧ (X6 b d k).n < 4294967296 := by
 induction k with
 | zero => simp [X6, Zm]
 | succ k ih =>
  have h1 := ih (by omega)
  have h2 := Zjt k (Yu b (2 * d + k)) (by rw [Zcv _ _ (by omega) hl]; omega)
  rw [X6, Zan]
  omega
theorem deal_new {b b' : List UInt8} {d : Nat} {e : Ent} (hl : 216 ≤ b.length) (hd : d < 6) (he : EntOk e) (hn : e.n = (Y3 b d).n + 1) {Pr S R : List UInt8} (hb : b = Pr ++ S ++ R) (hb' : b' = Pr ++ (Yl e ++ Yj) ++ R) (hP : Pr.length = (2 * d + (e.n % 2).toNat) * 18) (hS : S.length = 18) :
  Zv b' = (Zv b).set d e := by
 have hX : (Yl e ++ Yj).length = 18 := by simp [Zay, Yj]
 have hk : e.n % 2 = 0 ∨ e.n % 2 = 1 := by omega
 have here : Yu b' (2 * d + (e.n % 2).toNat) = Yl e ++ Yj := by rw [hb']; exact Zic _ _ _ _ hP hX
 have els : ∀ i, i ≠ 2 * d + (e.n % 2).toNat → Yu b' i = Yu b i := fun i hi => by rw [hb, hb']; exact Zie _ _ _ _ _ _ hP hX hS hi
 have hh := Zqz he
 have h0 := he.n0
 have hd2 : Y3 b' d = e := by
  have q1 : Y3 b d = Va (Va Zm (Yw 0 (Yu b (2 * d + 0)))) (Yw 1 (Yu b (2 * d + 1))) := rfl
  have q2 : Y3 b' d = Va (Va Zm (Yw 0 (Yu b' (2 * d + 0)))) (Yw 1 (Yu b' (2 * d + 1))) := rfl
  have m1 : (Y3 b d).n = max (max 0 (Yw 0 (Yu b (2 * d + 0))).n) (Yw 1 (Yu b (2 * d + 1))).n := by rw [q1, Zan, Zan]; rfl
  rcases hk with hk | hk
  ·rw [hk] at here hh els
   rw [q2, show Yu b' (2 * d + 0) = Yl e ++ Yj from here, hh, els (2 * d + 1) (by simp)]
   have u1 : Va Zm e = e := by unfold Va; rw [if_pos (by show (0 : Int) < e.n; omega)]
   rw [u1]
   unfold Va
   rw [if_neg (by omega)]
  ·rw [hk] at here hh els
   rw [q2, show Yu b' (2 * d + 1) = Yl e ++ Yj from here, hh, els (2 * d + 0) (by simp)]
   have u1 : (Va Zm (Yw 0 (Yu b (2 * d + 0)))).n = max 0 (Yw 0 (Yu b (2 * d + 0))).n := by rw [Zan]; rfl
   generalize Va Zm (Yw 0 (Yu b (2 * d + 0))) = u at *
   unfold Va
   rw [if_pos (by omega)]
 have hdo : ∀ i, i ≠ d → Y3 b' i = Y3 b i := fun i hi => by
  unfold Y3 X6 X6 X6
  rw [els (2 * i + 0) (by omega), els (2 * i + 1) (by omega)]
 apply List.ext_getElem?
 intro i
 rw [List.getElem?_set]
 by_cases hi : d = i
 ·subst hi
  simp [Zv, hd, hd2]
 ·simp only [hi, if_false, Zv, List.getElem?_map]
  by_cases h6 : i < 6
  ·simp [h6, hdo i (fun h => hi h.symm)]
  ·simp [h6]
structure Good (m : Pl) (j : Jn) : Prop where
 off : m.off = false
 cut : m.cut = -1
 lo : 216 ≤ m.b.length
 hi : m.b.length ≤ 1000000
 dead : j.dead = false
 l : j.l = Zv m.b
theorem Zh0 {b : List UInt8} {d : Nat} (hd : d < 6) : (Zv b).getD d Zm = Y3 b d := by simp [Zv, hd]
theorem Zo8 {b : List UInt8} (hl : 216 ≤ b.length) : JnOk ⟨Zv b, false⟩ := by
 have key : ∀ d, 0 ≤ ((Zv b).getD d Zm).n ∧ ((Zv b).getD d Zm).n < 4294967296 := fun d => by
  by_cases hd : d < 6
  ·rw [Zh0 hd]; exact Zpn hd hl 2 (by omega)
  ·simp [Zv, hd, Zm]
 exact ⟨by simp [Zv], fun d => (key d).1, fun d => by have := (key d).2; show ((Zv b).getD d Zm).n ≤ _; omega⟩
theorem Good.ok {m : Pl} {j : Jn} (h : Good m j) : PlOk m ∧ JnOk j := by
 obtain ⟨jl, jd⟩ := j
 have h1 := h.dead
 have h2 := h.l
 simp only at h1 h2
 subst h1; subst h2
 exact ⟨⟨h.hi, by rw [h.cut]; decide, by rw [h.cut]; decide⟩, Zo8 h.lo⟩
theorem Zn4 {n : Nat} (h : 216 ≤ n) : Zv (Z2 n) = List.replicate 6 Zm := by
 have hs : ∀ i, i < 12 → Yu (Z2 n) i = Z2 18 := fun i hi => by
  unfold Yu Z2
  rw [List.drop_replicate, List.take_replicate, Nat.min_eq_left (by omega)]
 have hh : ∀ k, Yw k (Z2 18) = Zm := fun k => by
  rw [U9, if_pos (.inl (by decide))]; rfl
 have hd : ∀ d, d < 6 → Y3 (Z2 n) d = Zm := fun d hd => by
  unfold Y3 X6 X6 X6
  rw [hs _ (by omega), hs _ (by omega), hh, hh]
  rfl
 apply List.ext_getElem?
 intro i
 by_cases h : i < 6
 ·rw [List.getElem?_replicate, if_pos h]; simp [Zv, h, hd i h]
 ·simp [Zv, h]
theorem Zqh (n : Nat) : (Z2 n).length = n := by simp [Z2]
end Go.HL
end

/-! JnK -/
section
namespace Go.HL
open Go Go.Proofs
set_option linter.unusedVariables false
set_option linter.unusedSimpArgs false
def U7 (c : Int) (n : Nat) : Int := if c = -1 then -1 else c - n
theorem Zoj {b : List UInt8} {c a : Int} {s : List UInt8} (h0 : 0 ≤ a) (h1 : a + s.length ≤ b.length) :
  Xc ⟨b, false, c⟩ a s = Zdk ⟨b, false, c⟩ a.toNat s := by
 unfold Xc Vt
 simp only [Bool.false_eq_true, if_false]
 rw [if_neg (by omega)]
theorem Zfb {b : List UInt8} {c : Int} {a : Nat} {s : List UInt8} (h : c = -1 ∨ s.length ≤ c.toNat) : Zdk ⟨b, false, c⟩ a s = (⟨X0 b a s, false, U7 c s.length⟩, none) := by
 have hk : kM ⟨b, false, c⟩ s.length = s.length := by
  unfold kM; split
  ·rfl
  ·rcases h with h | h
   ·contradiction
   ·simp only; omega
 simp [Zdk, hk, U7]
theorem Zda {b : List UInt8} {c : Int} {a : Nat} {s : List UInt8} (h0 : 0 ≤ c) (h : c.toNat < s.length) : Zdk ⟨b, false, c⟩ a s = (⟨X0 b a (s.take c.toNat), true, 0⟩, some 6) := by
 have hk : kM ⟨b, false, c⟩ s.length = c.toNat := by
  unfold kM; rw [if_neg (by simp only; omega)]; simp only; omega
 simp only [Zdk, hk]
 rw [if_neg (by omega), if_pos h]
 simp [h]
 omega
theorem read_C {b : List UInt8} {c a : Int} {n : Int} (h0 : 0 ≤ a) (h2 : 0 ≤ n) (h1 : a + n ≤ b.length) : Un ⟨b, false, c⟩ a n = ((b.drop a.toNat).take n.toNat, none) := by
 unfold Un Vt
 simp only [Bool.false_eq_true, if_false]
 rw [if_neg (by omega)]
def JW (b : List UInt8) (Pr R : List UInt8) (e : Ent) (r : Pl × Option Nat) : Prop :=
 (r.2 = none ∧ r.1.off = false ∧ r.1.b = Pr ++ (Yl e ++ Yj) ++ R ∧ -1 ≤ r.1.cut) ∨
 (r.2 = some 6 ∧ r.1.off = true ∧ r.1.cut = 0 ∧ (r.1.b = b ∨ ∃ X, X.length = 17 ∧ r.1.b = Pr ++ (X ++ [0]) ++ R))
theorem jw_cut {b : List UInt8} {ct : Int} {d : Nat} {e : Ent} (hct : -1 ≤ ct) (hl : 216 ≤ b.length) (hd : d < 6) (he : 0 ≤ e.n) : ∃ Pr S c R, b = Pr ++ (S ++ [c]) ++ R ∧ Pr.length = (2 * d + (e.n % 2).toNat) * 18 ∧ S.length = 17 ∧
  JW b Pr R e (Zdy ⟨b, false, ct⟩ d e) := by
 have hk : 0 ≤ e.n % 2 ∧ e.n % 2 < 2 := by omega
 obtain ⟨Pr, S, c, R, hb, hP, hS⟩ := cut_slot b (2 * d + (e.n % 2).toNat) (by omega)
 refine ⟨Pr, S, c, R, hb, hP, hS, ?_⟩
 have hlen : b.length = (2 * d + (e.n % 2).toNat) * 18 + 18 + R.length := by rw [hb]; simp [hP, hS]; omega
 have ha : Zc1 d e = ((Pr.length : Nat) : Int) := by unfold Zc1; omega
 have lb := Zay e
 have r1 : Un ⟨b, false, ct⟩ (Zc1 d e + 18 - 1) 1 = ([c], none) := by
  rw [read_C (by omega) (by omega) (by omega)]
  have e1 : (Zc1 (d : Int) e + 18 - 1).toNat = (Pr ++ S).length := by simp [hS]; omega
  rw [e1, hb, ← List.append_assoc, List.append_assoc (Pr ++ S), List.drop_left' rfl]
  rfl
 have w1 : (∃ c1, -1 ≤ c1 ∧ Zh9 ⟨b, false, ct⟩ d e = (⟨Pr ++ (S ++ [0]) ++ R, false, c1⟩, none)) ∨ Zh9 ⟨b, false, ct⟩ d e = (⟨b, true, 0⟩, some 6) := by
  unfold Zh9
  rw [r1]
  simp only
  split
  ·rename_i h
   refine .inl ⟨ct, hct, ?_⟩
   rw [hb, show c = 0 by simpa using h]
  ·have hz : Pr ++ (S ++ [c]) ++ R = (Pr ++ S) ++ [c] ++ R := by simp
   rw [Zoj (by omega) (by simp; omega)]
   by_cases hc : ct = -1 ∨ 1 ≤ ct.toNat
   ·refine .inl ⟨U7 ct 1, by unfold U7; split <;> omega, ?_⟩
    rw [Zfb (by simpa using hc), hb, hz, Zax (S := [c]) (X := [0]) (by simp [hS]; omega) rfl]
    simp
   ·refine .inr ?_
    rw [Zda (by omega) (by simp; omega), show ct.toNat = 0 by omega]
    simp [Zb0]
 unfold JW Zdy Zgs
 rcases w1 with ⟨c1, hc1, w1⟩ | w1
 ·rw [w1]
  simp only
  have hl1 : (Pr ++ (S ++ [0]) ++ R).length = b.length := by rw [hb]; simp
  have hz : Pr ++ (S ++ [0]) ++ R = Pr ++ S ++ ([0] ++ R) := by simp
  rw [Zoj (by omega) (by rw [hl1]; omega)]
  by_cases hc : c1 = -1 ∨ 17 ≤ c1.toNat
  ·rw [Zfb (by rw [lb]; exact hc), hz, Zax (by omega) (by omega)]
   simp only
   have hl2 : (Pr ++ Yl e ++ ([0] ++ R)).length = b.length := by rw [hb]; simp [lb, hS]
   have hz2 : Pr ++ Yl e ++ ([0] ++ R) = (Pr ++ Yl e) ++ [0] ++ R := by simp
   have hc2 : -1 ≤ U7 c1 17 := by unfold U7; split <;> omega
   rw [lb, Zoj (by omega) (by rw [hl2]; simp [Yj]; omega)]
   by_cases hc3 : U7 c1 17 = -1 ∨ 1 ≤ (U7 c1 17).toNat
   ·left
    rw [Zfb (by simpa [Yj] using hc3), hz2, Zax (S := [0]) (X := Yj) (by simp [lb]; omega) rfl]
    refine ⟨rfl, rfl, by simp, ?_⟩
    show -1 ≤ U7 (U7 c1 17) 1
    generalize U7 c1 17 = q at *
    unfold U7; split <;> omega
   ·right
    rw [Zda (by omega) (by simp [Yj]; omega), show (U7 c1 17).toNat = 0 by omega]
    refine ⟨rfl, rfl, rfl, .inr ⟨Yl e, lb, ?_⟩⟩
    simp [Zb0]
  ·right
   rw [Zda (by omega) (by omega), hz]
   refine ⟨rfl, rfl, rfl, .inr ⟨(Yl e).take c1.toNat ++ S.drop c1.toNat, by simp [lb, hS]; omega, ?_⟩⟩
   have hS2 : S = S.take c1.toNat ++ S.drop c1.toNat := (List.take_append_drop _ _).symm
   have : Pr ++ S ++ ([0] ++ R) = Pr ++ S.take c1.toNat ++ (S.drop c1.toNat ++ ([0] ++ R)) := by
    rw [← List.append_assoc (Pr ++ S.take c1.toNat), List.append_assoc Pr (S.take c1.toNat), ← hS2]
   show X0 (Pr ++ S ++ ([0] ++ R)) _ _ = _
   rw [this, Zax (by omega) (by simp [lb, hS])]
   simp
 ·right
  rw [w1]
  exact ⟨rfl, rfl, rfl, .inl rfl⟩
theorem Zhb {k : Int} {X : List UInt8} : Yw k (X ++ [0]) = Zm := by
 rw [U9]
 split
 ·rfl
 ·rename_i h
  exfalso
  apply h
  right; right
  intro e
  have := congrArg List.getLast? e
  simp [Yj] at this
theorem Zjz {k : Int} {s : List UInt8} (h : (Yw k s).n ≠ 0) : (Yw k s).n % 2 = k := by
 rw [U9] at *
 split at h
 ·exact absurd rfl h
 ·rename_i hc
  rw [if_neg hc]
  by_cases e : (Zbt s).n % 2 = k
  ·exact e
  ·exact absurd (.inr (.inl e)) hc
theorem deal_zap {b b' : List UInt8} {d : Nat} (hl : 216 ≤ b.length) (hd : d < 6) {Pr S R X : List UInt8} {st : Int} (hst : st = ((Y3 b d).n + 1) % 2) (hb : b = Pr ++ S ++ R) (hb' : b' = Pr ++ (X ++ [0]) ++ R) (hP : Pr.length = (2 * d + st.toNat) * 18) (hS : S.length = 18) (hX : X.length = 17) :
  Zv b' = Zv b := by
 have hX' : (X ++ [0]).length = 18 := by simp [hX]
 have hk : st = 0 ∨ st = 1 := by omega
 have here : Yu b' (2 * d + st.toNat) = X ++ [0] := by rw [hb']; exact Zic _ _ _ _ hP hX'
 have els : ∀ i, i ≠ 2 * d + st.toNat → Yu b' i = Yu b i := fun i hi => by rw [hb, hb']; exact Zie _ _ _ _ _ _ hP hX' hS hi
 have q1 : Y3 b d = Va (Va Zm (Yw 0 (Yu b (2 * d + 0)))) (Yw 1 (Yu b (2 * d + 1))) := rfl
 have q2 : Y3 b' d = Va (Va Zm (Yw 0 (Yu b' (2 * d + 0)))) (Yw 1 (Yu b' (2 * d + 1))) := rfl
 have m1 : (Y3 b d).n = max (max 0 (Yw 0 (Yu b (2 * d + 0))).n) (Yw 1 (Yu b (2 * d + 1))).n := by rw [q1, Zan, Zan]; rfl
 have l0 := Zcv b (2 * d + 0) (by omega) hl
 have l1 := Zcv b (2 * d + 1) (by omega) hl
 have n0 := Zjt 0 (Yu b (2 * d + 0)) (by omega)
 have n1 := Zjt 1 (Yu b (2 * d + 1)) (by omega)
 have p0 := Zjz (k := 0) (s := Yu b (2 * d + 0))
 have p1 := Zjz (k := 1) (s := Yu b (2 * d + 1))
 have hz : ∀ e : Ent, e.n = 0 → Va Zm e = Zm := fun e h => by unfold Va; rw [if_neg (by show ¬ (0 : Int) < e.n; omega)]
 have hd2 : Y3 b' d = Y3 b d := by
  rcases hk with rfl | rfl
  ·rw [q2, show Yu b' (2 * d + 0) = X ++ [0] from here, Zhb, els (2 * d + 1) (by simp), q1]
   generalize Yw 0 (Yu b (2 * d + 0)) = u at *
   generalize Yw 1 (Yu b (2 * d + 1)) = v at *
   have hzz : Va Zm Zm = Zm := by unfold Va; rw [if_neg (by show ¬ (0 : Int) < 0; omega)]
   rw [hzz]
   have hun : (Va Zm u).n = max 0 u.n := by rw [Zan]; rfl
   generalize hw : Va Zm u = w at *
   have hlt : w.n < v.n := by
    by_cases hu0 : u.n = 0
    ·omega
    ·have := p0 hu0
     omega
   unfold Va
   rw [if_pos (by show (0 : Int) < v.n; omega), if_pos hlt]
  ·rw [q2, show Yu b' (2 * d + 1) = X ++ [0] from here, Zhb, els (2 * d + 0) (by simp), q1]
   generalize Yw 0 (Yu b (2 * d + 0)) = u at *
   generalize Yw 1 (Yu b (2 * d + 1)) = v at *
   have hun : (Va Zm u).n = max 0 u.n := by rw [Zan]; rfl
   generalize Va Zm u = w at *
   have hle : v.n ≤ w.n := by
    by_cases hv0 : v.n = 0
    ·omega
    ·have := p1 hv0
     omega
   unfold Va
   rw [if_neg (by show ¬ w.n < (0 : Int); omega), if_neg (by omega)]
 have hdo : ∀ i, i ≠ d → Y3 b' i = Y3 b i := fun i hi => by
  unfold Y3 X6 X6 X6
  rw [els (2 * i + 0) (by omega), els (2 * i + 1) (by omega)]
 unfold Zv
 apply List.map_congr_left
 intro i hi
 by_cases e : i = d
 ·subst e; exact hd2
 ·exact hdo i e
structure JI (m : Pl) (j : Jn) : Prop where
 lo : 216 ≤ m.b.length
 hi : m.b.length ≤ 1000000
 c0 : -1 ≤ m.cut
 c1 : m.cut ≤ 9223372036854775807
 off : j.dead = m.off
 l : j.l = Zv m.b
theorem JI.pl {m : Pl} {j : Jn} (h : JI m j) : PlOk m := ⟨h.hi, h.c0, h.c1⟩
theorem JI.jn {m : Pl} {j : Jn} (h : JI m j) : JnOk j := by
 have := Zo8 h.lo
 exact ⟨by rw [h.l]; exact this.len, by rw [h.l]; exact this.n0, by rw [h.l]; exact this.n1⟩
theorem put_any {m : Pl} {j : Jn} (h : JI m j) (deal : Int) (s : St) : JI (Wt m j deal s).1 (Wt m j deal s).2.1 ∧ (Wt m j deal s).1.b.length = m.b.length ∧
    (((Wt m j deal s).2.1.l = j.l ∧ (((Wt m j deal s).2.2 = some 6 ∧ (Wt m j deal s).1.off = true) ∨ (Wt m j deal s).2.2 = some 2 ∧ Uv deal s ∨ (Wt m j deal s).2.2 = some 5 ∧ 4294967296 ≤ (j.l.getD deal.toNat Zm).n + 1)) ∨
     (¬ Uv deal s ∧ (Wt m j deal s).2.2 = none ∧ m.off = false ∧ (Wt m j deal s).1.off = false ∧ (((j.l.getD deal.toNat Zm).s = s ∧ (Wt m j deal s).2.1.l = j.l ∧ (Wt m j deal s).1 = m) ∨
        (j.l.getD deal.toNat Zm).s ≠ s ∧ (Wt m j deal s).2.1.l = j.l.set deal.toNat ⟨(j.l.getD deal.toNat Zm).n + 1, s⟩))) := by
  obtain ⟨b, off, cut⟩ := m
  obtain ⟨jl, dead⟩ := j
  have hJ := h
  obtain ⟨h1, h2, h3, h4, h5, h6⟩ := h
  simp only at h1 h2 h3 h4 h5 h6
  subst h5; subst h6
  unfold Wt
  by_cases hdd : dead = true
  · subst hdd
    simp only [if_true]
    exact ⟨hJ, by trivial, .inl ⟨by trivial, .inl ⟨by trivial, by trivial⟩⟩⟩
  have hdd' : dead = false := by simpa using hdd
  subst hdd'
  simp only [Bool.false_eq_true, if_false]
  by_cases hb : Uv deal s
  · rw [if_pos hb]
    exact ⟨hJ, by trivial, .inl ⟨by trivial, .inr (.inl ⟨by trivial, hb⟩)⟩⟩
  rw [if_neg hb]
  have hb2 := hb
  unfold Uv at hb2
  obtain ⟨d, rfl⟩ := Int.eq_ofNat_of_zero_le (show 0 ≤ deal by omega)
  have hd : d < 6 := by omega
  simp only [Int.toNat_natCast, Zh0 hd]
  by_cases he : (Y3 b d).s = s
  · rw [if_pos he]
    exact ⟨hJ, rfl, .inr ⟨hb, by trivial, by trivial, by trivial, .inl ⟨he, by trivial, by trivial⟩⟩⟩
  rw [if_neg he]
  by_cases hf : 4294967296 ≤ (Y3 b d).n + 1
  · rw [if_pos hf]
    exact ⟨hJ, rfl, .inl ⟨rfl, .inr (.inr ⟨by trivial, hf⟩)⟩⟩
  rw [if_neg hf]
  have hn := Zpn hd h1 2 (by omega)
  have hn' : 0 ≤ (Y3 b d).n ∧ (Y3 b d).n < 4294967296 := hn
  obtain ⟨Pr, S, c, R, e1, e2, e3, hjw⟩ := jw_cut (b := b) (d := d) (ct := cut) (e := ⟨(Y3 b d).n + 1, s⟩) h3 h1 hd (by simp only; omega)
  have hpl := jwM_ok hJ.pl d ⟨(Y3 b d).n + 1, s⟩
  generalize Zdy ⟨b, false, cut⟩ d ⟨(Y3 b d).n + 1, s⟩ = r at *
  obtain ⟨⟨b', off', cut'⟩, er⟩ := r
  simp only [JW] at hjw
  rcases hjw with ⟨rfl, rfl, rfl, hc⟩ | ⟨rfl, rfl, rfl, hc⟩
  · have hok : EntOk ⟨(Y3 b d).n + 1, s⟩ := ⟨by simp only; omega, by simp only; omega, by simp only; omega, by simp only; omega, by simp only; omega, by simp only; omega, by simp only; omega, by simp only; omega⟩
    have hnew := deal_new (b' := Pr ++ (Yl ⟨(Y3 b d).n + 1, s⟩ ++ Yj) ++ R) h1 hd hok rfl e1 rfl e2 (by simp [e3])
    have hL : (Pr ++ (Yl ⟨(Y3 b d).n + 1, s⟩ ++ Yj) ++ R).length = b.length := by rw [e1]; simp [Zay, Yj, e3]
    refine ⟨⟨by rw [hL]; exact h1, by rw [hL]; exact h2, hc, hpl.hi, rfl, hnew.symm⟩, hL, .inr ⟨hb, by trivial, by trivial, by trivial, .inr ⟨he, by trivial⟩⟩⟩
  · have hopen : Zv b' = Zv b := by
      rcases hc with hc | ⟨X, hX, hc⟩
      · rw [hc]
      · exact deal_zap h1 hd rfl e1 hc e2 (by simp [e3]) hX
    have hL : b'.length = b.length := by
      rcases hc with hc | ⟨X, hX, hc⟩
      · rw [hc]
      · rw [hc, e1]; simp [hX, e3]
    refine ⟨⟨by rw [hL]; exact h1, by rw [hL]; exact h2, by simp, by simp, rfl, hopen.symm⟩, hL, .inl ⟨by trivial, .inl ⟨by trivial, by trivial⟩⟩⟩
theorem JI.cut {m : Pl} {j : Jn} (h : JI m j) {n : Int} (h0 : 0 ≤ n) (h1 : n ≤ 9223372036854775807) : JI { m with cut := n } j := ⟨h.lo, h.hi, by simp only; omega, h1, h.off, h.l⟩
theorem JI.boot {m : Pl} {j : Jn} (h : JI m j) : JI { m with off := false, cut := -1 } ⟨Zv m.b, false⟩ := ⟨h.lo, h.hi, by simp, by simp, rfl, rfl⟩
end Go.HL
end

/-! StD -/
section
namespace Go.HL
open Go Go.Proofs
set_option linter.unusedVariables false
set_option linter.unusedSimpArgs false
def Zge (s : St) : Prop := 0 ≤ s.ph ∧ s.ph ≤ 5 ∧ 0 ≤ s.att ∧ s.att ≤ s.pr ∧ s.pr ≤ 1048576
def stLe (a b : St) : Prop := a.pr ≤ b.pr ∧ a.att ≤ b.att ∧ mayS a.ph b.ph = true
theorem V1 {a : St} (h : Zge a) : stLe a a := by
 obtain ⟨h1, h2, -⟩ := h
 exact ⟨Int.le_refl _, Int.le_refl _, decide_eq_true (by omega)⟩
def Y2 (j : Jn) (d : Nat) : St := (j.l.getD d Zm).s
theorem afterS_pos {p : Int} : Vs p ≠ 0 ↔ p = 4 ∨ p = 5 := by unfold Vs; split <;> (try split) <;> omega
theorem Zp8 {ref : Int → Bool} {f : Fr} {st : St} (h : Zge st) (hf : ¬ Ws f) : Zge (Yr ref f st).1 ∧ stLe st (Yr ref f st).1 := by
 obtain ⟨h1, h2, h3, h4, h5⟩ := h
 unfold Ws at hf
 unfold Yr
 split
 ·unfold askM
  split
  ·split
   ·exact ⟨⟨by simp, by simp, h3, h4, h5⟩, by simp, by simp, decide_eq_true (by simp only; omega)⟩
   ·exact ⟨⟨by simp, by simp, h3, h4, h5⟩, by simp, by simp, decide_eq_true (by simp only; omega)⟩
  ·exact ⟨⟨h1, h2, h3, h4, h5⟩, V1 ⟨h1, h2, h3, h4, h5⟩⟩
 split
 ·have e1 : st.pr ≤ max st.pr f.att := Int.le_max_left _ _
  have e2 : max st.pr f.att ≤ 1048576 := by omega
  exact ⟨⟨h1, h2, h3, Int.le_trans h4 e1, e2⟩, e1, Int.le_refl _, decide_eq_true (by show _ ∧ (st.ph = st.ph ∨ _); exact ⟨⟨h1, h2, h1, h2⟩, .inl rfl⟩)⟩
 split
 ·split
  ·exact ⟨⟨h1, h2, h3, h4, h5⟩, V1 ⟨h1, h2, h3, h4, h5⟩⟩
  ·rename_i ha
   have ha' := afterS_pos.1 ha
   split
   ·rename_i ho
    have ho' : st.ph ≠ 2 ∧ st.ph ≠ 3 := by simpa [Zfv] using ho.1
    exact ⟨⟨by simp only; omega, by simp only; omega, by simp only; omega, by simp, by simp only; omega⟩, by simp only; omega, by simp only; omega, decide_eq_true (by simp only; omega)⟩
   ·exact ⟨⟨h1, h2, h3, h4, h5⟩, V1 ⟨h1, h2, h3, h4, h5⟩⟩
 split
 ·split
  ·rename_i ho
   have ho' : st.ph ≠ 2 ∧ st.ph ≠ 3 := by simpa [Zfv] using ho.1
   exact ⟨⟨by simp only; omega, by simp only; omega, h3, h4, h5⟩, by simp, by simp, decide_eq_true (by simp only; omega)⟩
  ·exact ⟨⟨h1, h2, h3, h4, h5⟩, V1 ⟨h1, h2, h3, h4, h5⟩⟩
 ·exact ⟨⟨h1, h2, h3, h4, h5⟩, V1 ⟨h1, h2, h3, h4, h5⟩⟩
structure SI (m : Pl) (j : Jn) : Prop where
 ji : JI m j
 st : ∀ d, d < 6 → Zge (Y2 j d)
theorem SI.boot {m : Pl} {j : Jn} (h : SI m j) : SI { m with off := false, cut := -1 } ⟨Zv m.b, false⟩ := ⟨h.ji.boot, fun d hd => by have := h.st d hd; unfold Y2 at *; rw [h.ji.l] at this; exact this⟩
theorem SI.cut {m : Pl} {j : Jn} (h : SI m j) {n : Int} (h0 : 0 ≤ n) (h1 : n ≤ 9223372036854775807) : SI { m with cut := n } j := ⟨h.ji.cut h0 h1, h.st⟩
theorem Zkx {id : Int} {ref : Int → Bool} {m : Pl} {j : Jn} (h : SI m j) (f : Fr) : SI (Z3 id ref m j f).1 (Z3 id ref m j f).2.1 ∧ (Z3 id ref m j f).1.b.length = m.b.length ∧ (∀ d, d < 6 → stLe (Y2 j d) (Y2 (Z3 id ref m j f).2.1 d)) ∧
  (((Z3 id ref m j f).2.2.1 = []) ∨ (¬ Ws f ∧ f.to = id ∧ (Z3 id ref m j f).2.2.2 = none ∧ (Yr ref f (Y2 j f.dl.toNat)).2.1 ≠ 0 ∧ Y2 (Z3 id ref m j f).2.1 f.dl.toNat = (Yr ref f (Y2 j f.dl.toNat)).1 ∧
   (∀ d, d < 6 → d ≠ f.dl.toNat → Y2 (Z3 id ref m j f).2.1 d = Y2 j d) ∧
   (Z3 id ref m j f).2.2.1 = [⟨id, f.fr, f.dl, (Yr ref f (Y2 j f.dl.toNat)).2.1, f.att, (Yr ref f (Y2 j f.dl.toNat)).2.2, (Yr ref f (Y2 j f.dl.toNat)).1⟩])) := by
 unfold Z3
 have same : ∀ d, d < 6 → stLe (Y2 j d) (Y2 j d) := fun d hd => V1 (h.st d hd)
 by_cases hb : Ws f
 ·simp only [if_pos hb]
  exact ⟨h, by trivial, same, .inl (by trivial)⟩
 simp only [if_neg hb]
 by_cases hto : f.to = id
 ·simp only [ne_eq, hto, not_true_eq_false, if_false]
  have hb2 := hb
  unfold Ws at hb2
  obtain ⟨d, hd⟩ := Int.eq_ofNat_of_zero_le (show 0 ≤ f.dl by omega)
  have hd6 : d < 6 := by omega
  rw [hd]
  simp only [Int.toNat_natCast]
  show _ ∧ _ ∧ _ ∧ _
  have ht := Zp8 (ref := ref) (h.st d hd6) hb
  change Zge (Yr ref f (j.l.getD d Zm).s).1 ∧ stLe (Y2 j d) (Yr ref f (j.l.getD d Zm).s).1 at ht
  have est : Y2 j d = (j.l.getD d Zm).s := rfl
  rw [est]
  generalize htr : Yr ref f (j.l.getD d Zm).s = tr at *
  have hp := put_any h.ji d tr.1
  generalize Wt m j d tr.1 = r at *
  obtain ⟨m', j', er⟩ := r
  simp only at hp ⊢
  obtain ⟨hJ, hL, hp⟩ := hp
  rcases hp with ⟨hl, he⟩ | ⟨hnb, he, ho, ho', hp⟩
  ·have hsame : ∀ q, Y2 j' q = Y2 j q := fun q => by unfold Y2; rw [hl]
   have hS : SI m' j' := ⟨hJ, fun q hq => by rw [hsame]; exact h.st q hq⟩
   have he2 : ∃ x, er = some x := by
    rcases he with ⟨he, -⟩ | ⟨he, -⟩ | ⟨he, -⟩ <;> exact ⟨_, he⟩
   obtain ⟨x, rfl⟩ := he2
   exact ⟨hS, hL, fun q hq => by rw [hsame]; exact same q hq, .inl rfl⟩
  ·subst he
   simp only [Int.toNat_natCast] at hp
   have hlen : j.l.length = 6 := h.ji.jn.len
   have hst' : Y2 j' d = tr.1 ∧ ∀ q, q ≠ d → Y2 j' q = Y2 j q := by
    rcases hp with ⟨h1, h2, -⟩ | ⟨h1, h2⟩
    ·refine ⟨by unfold Y2; rw [h2, h1], fun q _ => by unfold Y2; rw [h2]⟩
    ·refine ⟨by unfold Y2; rw [h2]; simp [List.getD, hlen, hd6], fun q hq => by unfold Y2; rw [h2]; simp [List.getD, List.getElem?_set, Ne.symm hq]⟩
   have hS : SI m' j' := ⟨hJ, fun q hq => by
    by_cases e : q = d
    ·rw [e, hst'.1]; exact ht.1
    ·rw [hst'.2 q e]; exact h.st q hq⟩
   refine ⟨hS, hL, fun q hq => ?_, ?_⟩
   ·by_cases e : q = d
    ·rw [e, hst'.1]; exact ht.2
    ·rw [hst'.2 q e]; exact same q hq
   ·by_cases hk : tr.2.1 = 0
    ·exact .inl (if_pos hk)
    ·exact .inr ⟨hb, by trivial, rfl, hk, hst'.1, fun q _ hq => hst'.2 q hq, if_neg hk⟩
 ·simp only [ne_eq, hto, not_false_eq_true, if_true]
  exact ⟨h, by trivial, same, .inl (by trivial)⟩
end Go.HL
end

/-! TabB -/
section
namespace Go.HL
open Go Go.Proofs
set_option linter.unusedVariables false
set_option linter.unusedSimpArgs false
set_option maxHeartbeats 2000000 attribute [local irreducible] HW HO HQ HD HC QOp Has Upd Zp Gets Yf Z8 Zr X3 Z9 Zj Wa Zy

theorem Zof (s : St) (b : Nat) (p : Int) (L : Zb) {F : Nat} {fr : Nat × Nat} (hb : Has L b (.cells ⟨[iv p]⟩ F fr)) :
  HC Tryz.prog 164 [.agg ⟨sc s⟩, pt b 0] L (fun v L' => v = .bool (decide (s.ph = p)) ∧ L' = L) := by
 refine Za (fun _ _ => Tryz.call164 _ _) Tryz.func164 rfl Tryz.ntmps164 (Nat.le_of_ble_eq_true rfl) ?_; simp only [Ze, Nat.reduceAdd]
 repeat' (first | refine uN ?_ | (refine uB ?_; intro b) | fail)
 (refine Ys rfl rfl ?_ ⟨?_, rfl⟩; (next => (repeat (first | exact List.Sublist.refl _ | apply List.Sublist.cons))))
 rfl
theorem Zi7 {xs : List St} {f : St → Bool} {j : Int} (h0 : 0 ≤ j) (hlt : j < xs.length) (hn : (xs.take j.toNat).any f = false) (h : f (xs[j.toNat]'(by omega)) = true) : xs.any f = true ∧ (xs.findIdx f : Int) = j := by
 have hj : j.toNat < xs.length := by omega
 refine ⟨List.any_eq_true.2 ⟨_, List.getElem_mem hj, h⟩, ?_⟩
 have : xs.findIdx f = j.toNat := by
  rw [List.findIdx_eq hj]
  refine ⟨h, fun k hk => ?_⟩
  rw [List.any_eq_false] at hn
  have hk' : k < (xs.take j.toNat).length := by simp; omega
  have := hn _ (List.getElem_mem hk')
  rw [List.getElem_take] at this
  simpa using this
 omega
theorem Zjy (a : Option Addr) (cap : Nat) (xs : List St) (F : Nat) (cs : List Value) (f : St → Bool) (L : Zb) (hR : Rd sc 3 L a xs) (hl : xs.length ≤ 1000000)
  (hf : ∀ s, HC Tryz.prog F (.agg ⟨sc s⟩ :: cs) L (fun v L' => v = .bool (f s) ∧ L' = L)) :
  HC Tryz.prog 181 [.slice a xs.length cap, .func (.func F) #[] ⟨cs⟩] L (fun v L' => v = iv (if xs.any f then (xs.findIdx f : Int) else -1) ∧ L' = L) := by
 refine Za (fun _ _ => Tryz.call181 _ _) Tryz.func181 rfl Tryz.ntmps181 (Nat.le_of_ble_eq_true rfl) ?_; simp only [Ze, Nat.reduceAdd]
 repeat' (first | refine uN ?_ | (refine uP ?_ ?_ <;> (intro h; ((try simp only [zs, ne_eq, and_true, true_and, eq_self, reduceCtorEq] at h); try exact zx))) | fail)
 refine Zx (σ := Int) (fun j => [(0, .slice a xs.length cap), (1, .func (.func F) #[] ⟨cs⟩), (6, .slice a xs.length cap), (7, iv xs.length), (8, iv j)]) (fun _ => L) (fun j => 0 ≤ j ∧ j ≤ xs.length ∧ (xs.take j.toNat).any f = false) (fun j => (xs.length - j).toNat) 0 uS (List.Sublist.refl _) ⟨by omega, by omega, by simp⟩ ?_
 rintro j ⟨h0, h1, h2⟩
 by_cases hlt : j < xs.length
 ·obtain ⟨b, i, l, E, fr, rfl, hb, hg⟩ := hR.at h0 hlt
  repeat' (first | refine uN ?_ | refine uC (hf _) ?_ | (refine uP ?_ ?_ <;> (intro h; ((try simp only [zs, ne_eq, and_true, true_and, eq_self, reduceCtorEq] at h); try exact zx))) | fail)
  ·(refine Ys rfl rfl ?_ ⟨?_, rfl⟩; (next => (repeat (first | exact List.Sublist.refl _ | apply List.Sublist.cons))))
   obtain ⟨e1, e2⟩ := Zi7 h0 hlt h2 (by assumption)
   rw [if_pos e1, e2]
  ·exact Zl (j + 1) uS (List.Sublist.refl _) ⟨by omega, by omega, by rw [Qa h0 hlt, List.any_append, h2]; simp [*]⟩ (by omega)
 ·repeat' (first | refine uN ?_ | (refine uP ?_ ?_ <;> (intro h; ((try simp only [zs, ne_eq, and_true, true_and, eq_self, reduceCtorEq] at h); try exact zx))) | fail)
  (refine Ys rfl rfl ?_ ⟨?_, rfl⟩; (next => (repeat (first | exact List.Sublist.refl _ | apply List.Sublist.cons))))
  rw [Zae hlt] at h2
  rw [if_neg (by simp [h2])]
theorem Zfk (a : Option Addr) (cap : Nat) (xs : List St) (F : Nat) (cs : List Value) (f : St → Bool) (L : Zb) (hR : Rd sc 3 L a xs) (hl : xs.length ≤ 1000000)
  (hf : ∀ s, HC Tryz.prog F (.agg ⟨sc s⟩ :: cs) L (fun v L' => v = .bool (f s) ∧ L' = L)) :
  HC Tryz.prog 163 [.slice a xs.length cap, .func (.func F) #[] ⟨cs⟩] L (fun v L' => v = .bool (xs.any f) ∧ L' = L) := by
 refine Za (fun _ _ => Tryz.call163 _ _) Tryz.func163 rfl Tryz.ntmps163 (Nat.le_of_ble_eq_true rfl) ?_; simp only [Ze, Nat.reduceAdd]
 repeat' (first | refine uN ?_ | refine uC (Zjy _ _ _ _ _ f _ hR hl hf) ?_ | fail)
 (refine Ys rfl rfl ?_ ⟨?_, rfl⟩; (next => (repeat (first | exact List.Sublist.refl _ | apply List.Sublist.cons))))
 refine congrArg Value.bool ?_
 cases hx : xs.any f <;> simp
theorem Zht (p : Int) (a : Option Addr) (cap : Nat) (xs : List St) (L : Zb) (b E : Nat) (fr : Nat × Nat) (hb : Has L b (.cells ⟨[.slice a xs.length cap]⟩ E fr)) (hR : Rd sc 3 L a xs) (hl : xs.length ≤ 1000000) :
  HC Tryz.prog 162 [iv p, pt b 0] L (fun v L' => v = .bool (Zj7 xs p) ∧ L' = L) := by
 refine Za (fun _ _ => Tryz.call162 _ _) Tryz.func162 rfl Tryz.ntmps162 (Nat.le_of_ble_eq_true rfl) ?_; simp only [Ze, Nat.reduceAdd]
 repeat' (first | refine uN ?_ | refine Vk (qC (Zfk _ _ _ _ _ (fun s => decide (s.ph = p)) _ (hR.cons _) hl (fun s => Zof s _ p _ Zh))) ?_ | (refine uB ?_; intro b) | fail)
 (refine Ys rfl rfl ?_ ⟨?_, rfl⟩; (next => (repeat (first | exact List.Sublist.refl _ | apply List.Sublist.cons))))
 rfl
def Zhl (m s : St) : St := if prep s then (if m.ph = 0 ∨ m.att < s.att ∨ (s.att = m.att ∧ s.ph = 4) then s else m) else m
def Vv (xs : List St) : St := xs.foldl Zhl ⟨0, 0, 0⟩
theorem Ze3 (xs : List St) (s : St) : Vv (xs ++ [s]) = Zhl (Vv xs) s := by simp [Vv]
def BI (xs : List St) (m : St) (b : Int × Bool) : Prop :=
 (m = ⟨0, 0, 0⟩ ∧ b = (0, true) ∧ ∀ s ∈ xs, prep s = false) ∨
 (b = (m.att, false) ∧ (m.ph = 4 ∧ (∃ s ∈ xs, s.ph = 4 ∧ s.att = m.att) ∨ m.ph = 5 ∧ ∀ s ∈ xs, ¬ (s.ph = 4 ∧ s.att = m.att)) ∧ ∀ s ∈ xs, prep s = true → s.att ≤ m.att)
theorem bi_step (xs : List St) (m s : St) (b : Int × Bool) (h : BI xs m b) : BI (xs ++ [s]) (Zhl m s) (Vw [s] b.1 b.2) := by
 unfold BI at *
 simp only [Vw, Zhl, List.mem_append, List.mem_singleton]
 by_cases hp : prep s = true
 ·have hp' : s.ph = 4 ∨ s.ph = 5 := by simpa [prep] using hp
  rw [if_pos hp, if_pos hp]
  right
  rcases h with ⟨rfl, rfl, hall⟩ | ⟨rfl, hm, hle⟩
  ·simp only [Bool.true_or, if_true, true_or]
   refine ⟨trivial, ?_, ?_⟩
   ·rcases hp' with h4 | h5
    ·exact .inl ⟨h4, s, .inr rfl, h4, rfl⟩
    ·refine .inr ⟨h5, fun x hx h => ?_⟩
     rcases hx with hx | rfl
     ·have := hall x hx; simp [prep, h.1] at this
     ·omega
   ·intro x hx hpx
    rcases hx with hx | rfl
    ·rw [hall x hx] at hpx; cases hpx
    ·omega
  ·have hm0 : m.ph ≠ 0 := by rcases hm with h | h <;> omega
   simp only [Bool.false_or, decide_eq_true_eq]
   by_cases hlt : m.att < s.att
   ·rw [if_pos hlt, if_pos (.inr (.inl hlt))]
    refine ⟨rfl, ?_, ?_⟩
    ·rcases hp' with h4 | h5
     ·exact .inl ⟨h4, s, .inr rfl, h4, rfl⟩
     ·refine .inr ⟨h5, fun x hx h => ?_⟩
      rcases hx with hx | rfl
      ·have := hle x hx (by simp [prep, h.1]); omega
      ·omega
    ·intro x hx hpx
     rcases hx with hx | rfl
     ·have := hle x hx hpx; omega
     ·omega
   ·rw [if_neg hlt]
    by_cases he : s.att = m.att ∧ s.ph = 4
    ·rw [if_pos (.inr (.inr he))]
     refine ⟨by rw [he.1], .inl ⟨he.2, s, .inr rfl, he.2, rfl⟩, ?_⟩
     intro x hx hpx
     rcases hx with hx | rfl
     ·have := hle x hx hpx; omega
     ·omega
    ·rw [if_neg (by simp [hm0, hlt]; omega)]
     refine ⟨rfl, ?_, ?_⟩
     ·rcases hm with ⟨h4, x, hx, hx2⟩ | ⟨h5, hno⟩
      ·exact .inl ⟨h4, x, .inl hx, hx2⟩
      ·refine .inr ⟨h5, fun x hx h => ?_⟩
       rcases hx with hx | rfl
       ·exact hno x hx h
       ·exact he ⟨h.2, h.1⟩
     ·intro x hx hpx
      rcases hx with hx | rfl
      ·exact hle x hx hpx
      ·omega
 ·have hp' : prep s = false := by simpa using hp
  have h4 : s.ph ≠ 4 := fun e => by simp [prep, e] at hp
  rw [if_neg hp, if_neg hp]
  rcases h with ⟨rfl, rfl, hall⟩ | ⟨rfl, hm, hle⟩
  ·refine .inl ⟨rfl, rfl, fun x hx => ?_⟩
   rcases hx with hx | rfl
   ·exact hall x hx
   ·exact hp'
  ·refine .inr ⟨rfl, ?_, fun x hx hpx => ?_⟩
   ·rcases hm with ⟨h4', x, hx, hx2⟩ | ⟨h5, hno⟩
    ·exact .inl ⟨h4', x, .inl hx, hx2⟩
    ·refine .inr ⟨h5, fun x hx h => ?_⟩
     rcases hx with hx | rfl
     ·exact hno x hx h
     ·exact h4 h.1
   ·rcases hx with hx | rfl
    ·exact hle x hx hpx
    ·rw [hp'] at hpx; cases hpx
theorem bi_all (xs : List St) : BI xs (Vv xs) (Vw xs 0 true) := by
 have key : ∀ ys : List St, BI ys.reverse (Vv ys.reverse) (Vw ys.reverse 0 true) := by
  intro ys
  induction ys with
  | nil => exact .inl ⟨rfl, rfl, by simp⟩
  | cons s ys ih =>
   rw [List.reverse_cons, Ze3, Vy]
   exact bi_step _ _ s _ ih
 simpa using key xs.reverse
theorem best_inv (xs : List St) :
  (Vv xs = ⟨0, 0, 0⟩ ∧ (Vw xs 0 true) = (0, true) ∧ xs.all (fun s => !prep s) = true) ∨
  ((Vv xs).ph = 4 ∧ Vw xs 0 true = ((Vv xs).att, false) ∧ xs.any (fun s => decide (s.ph = 4 ∧ s.att = (Vv xs).att)) = true) ∨
  ((Vv xs).ph = 5 ∧ Vw xs 0 true = ((Vv xs).att, false) ∧ xs.any (fun s => decide (s.ph = 4 ∧ s.att = (Vv xs).att)) = false) := by
 rcases bi_all xs with ⟨h1, h2, h3⟩ | ⟨h1, h2 | h2, h3⟩
 ·exact .inl ⟨h1, h2, by simpa using h3⟩
 ·refine .inr (.inl ⟨h2.1, h1, ?_⟩)
  simp only [List.any_eq_true, decide_eq_true_eq]
  exact h2.2
 ·refine .inr (.inr ⟨h2.1, h1, ?_⟩)
  rw [List.any_eq_false]
  intro x hx
  simpa using h2.2 x hx
theorem Zit (a : Option Addr) (cap : Nat) (xs : List St) (L : Zb) (hR : Rd sc 3 L a xs) (hl : xs.length ≤ 1000000) : HC Tryz.prog 141 [.slice a xs.length cap] L (fun v L' => v = .tuple ⟨[iv (Y8 xs).1, .bool (Y8 xs).2]⟩ ∧ L' = L) := by
 refine Za (fun _ _ => Tryz.call141 _ _) Tryz.func141 rfl Tryz.ntmps141 (Nat.le_of_ble_eq_true rfl) ?_; simp only [Ze, Nat.reduceAdd]
 repeat' (first | refine uN ?_ | (refine uB ?_; intro b) | (refine uP ?_ ?_ <;> (intro h; ((try simp only [zs, ne_eq, and_true, true_and, eq_self, reduceCtorEq] at h); try exact zx))) | fail)
 rename_i b1
 refine Zx (σ := Int) (fun j => [(1, pt b1 0), (4, .func (.func 162) #[] ⟨[pt b1 0]⟩), (11, sl b 0 2 2), (12, iv 2), (13, iv j)]) (fun _ => [(b, .cells ⟨[iv 2, iv 3]⟩ 3)] :: [(b1, .cells ⟨[.slice a xs.length cap]⟩ 210)] :: L)
  (fun j => 0 ≤ j ∧ j ≤ 2 ∧ (1 ≤ j → Zj7 xs 2 = false) ∧ (2 ≤ j → Zj7 xs 3 = false)) (fun j => (2 - j).toNat) 0 uS (List.Sublist.refl _) ⟨by omega, by omega, by omega, by omega⟩ ?_
 rintro j ⟨h0, h1, h2, h3⟩
 have hj : j = 0 ∨ j = 1 ∨ j = 2 := by omega
 rcases hj with rfl | rfl | rfl
 ·repeat' (first | refine uN ?_ | refine Vk (qC (Zht _ _ _ _ _ _ _ _ (Zc Zh) ((hR.cons _).cons _) hl)) ?_ | (refine uB ?_; intro b) | (refine uP ?_ ?_ <;> (intro h; ((try simp only [zs, ne_eq, and_true, true_and, eq_self, reduceCtorEq] at h); try exact zx))) | fail)
  ·(refine X4 rfl rfl rfl ?_ ⟨?_, rfl⟩; (next => (repeat (first | exact List.Sublist.refl _ | apply List.Sublist.cons))))
   simp [Y8, *]
  ·exact Zl 1 uS (List.Sublist.refl _) ⟨by omega, by omega, fun _ => by assumption, by omega⟩ (by decide)
 ·repeat' (first | refine uN ?_ | refine Vk (qC (Zht _ _ _ _ _ _ _ _ (Zc Zh) ((hR.cons _).cons _) hl)) ?_ | (refine uB ?_; intro b) | (refine uP ?_ ?_ <;> (intro h; ((try simp only [zs, ne_eq, and_true, true_and, eq_self, reduceCtorEq] at h); try exact zx))) | fail)
  ·(refine X4 rfl rfl rfl ?_ ⟨?_, rfl⟩; (next => (repeat (first | exact List.Sublist.refl _ | apply List.Sublist.cons))))
   have e := h2 (by omega)
   simp [Y8, *]
  ·exact Zl 2 uS (List.Sublist.refl _) ⟨by omega, by omega, fun _ => h2 (by omega), fun _ => by assumption⟩ (by decide)
 ·have e2 := h2 (by omega)
  have e3 := h3 (by omega)
  repeat' (first | refine uN ?_ | (refine uB ?_; intro b) | (refine uP ?_ ?_ <;> (intro h; ((try simp only [zs, ne_eq, and_true, true_and, eq_self, reduceCtorEq] at h); try exact zx))) | fail)
  clear h0 h1 h2 h3
  refine Zx (σ := Int × St) (fun s => [(7, pt b 0), (22, .slice a xs.length cap), (23, iv xs.length), (24, iv s.1)]) (fun s => [(b, .cells ⟨sc s.2⟩ 106)] :: L)
   (fun s => 0 ≤ s.1 ∧ s.1 ≤ xs.length ∧ Vv (xs.take s.1.toNat) = s.2) (fun s => (xs.length - s.1).toNat) (0, ⟨0, 0, 0⟩) uS (by exact .cons_cons _ (.cons _ (.cons _ (.refl _)))) ⟨by simp, by simp, by simp [Vv]⟩ ?_
  rintro ⟨j, m⟩ ⟨j0, j1, hm⟩
  simp only at j0 j1 hm
  by_cases hlt : j < xs.length
  ·obtain ⟨bb, i, l, E, fr, rfl, hb, hg⟩ := hR.at j0 hlt
   have e := Ze3 (xs.take j.toNat) (xs[j.toNat]'(by omega))
   rw [← Qa j0 hlt, hm] at e
   clear hm
   repeat' (first | refine uN ?_ | (refine uB ?_; intro b) | (refine uP ?_ ?_ <;> (intro h; ((try simp only [zs, ne_eq, and_true, true_and, eq_self, reduceCtorEq] at h); try exact zx))) | fail)
   all_goals first
    | ((refine Zl (j + 1, xs[j.toNat]'(by omega)) ?_ ?_ ?_ ?_; (next => (repeat (first | exact trivial | refine ⟨rfl, ?_⟩))); (next => (repeat (first | exact List.Sublist.refl _ | apply List.Sublist.cons)))); (next => refine ⟨?_, ?_, ?_⟩; (next => show 0 ≤ j + 1; omega); (next => show j + 1 ≤ (xs.length : Int); omega); (next => show Vv (List.take (j + 1).toNat xs) = _; rw [e]; simp [Zhl, prep, *]; done)); (next => show (xs.length - (j + 1)).toNat < (xs.length - j).toNat; omega))
    | ((refine Zl (j + 1, m) ?_ ?_ ?_ ?_; (next => (repeat (first | exact trivial | refine ⟨rfl, ?_⟩))); (next => (repeat (first | exact List.Sublist.refl _ | apply List.Sublist.cons)))); (next => refine ⟨?_, ?_, ?_⟩; (next => show 0 ≤ j + 1; omega); (next => show j + 1 ≤ (xs.length : Int); omega); (next => show Vv (List.take (j + 1).toNat xs) = _; rw [e]; simp [Zhl, prep, *]; done)); (next => show (xs.length - (j + 1)).toNat < (xs.length - j).toNat; omega))
  ·rw [Zae hlt] at hm
   have hinv := best_inv xs
   rw [hm] at hinv
   repeat' (first | refine uN ?_ | (refine uB ?_; intro b) | (refine uP ?_ ?_ <;> (intro h; ((try simp only [zs, ne_eq, and_true, true_and, eq_self, reduceCtorEq] at h); try exact zx))) | fail)
   ·(refine X4 rfl rfl rfl ?_ ⟨?_, rfl⟩; (next => (repeat (first | exact List.Sublist.refl _ | apply List.Sublist.cons))))
    have e4 : Y8 xs = (5, false) := by
     unfold Y8
     rw [if_neg (by simp [*]), if_neg (by simp [*])]
     rcases hinv with ⟨rfl, h5, h6⟩ | ⟨h4, -, -⟩ | ⟨h4, -, -⟩
     ·rw [if_neg]
      simp only [List.any_eq_true, not_exists, not_and, decide_eq_true_eq]
      intro x hx h4
      have := List.all_eq_true.1 h6 x hx
      simp [prep, h4] at this
     ·simp_all
     ·simp_all
    rw [e4]
   ·(refine X4 rfl rfl rfl ?_ ⟨?_, rfl⟩; (next => (repeat (first | exact List.Sublist.refl _ | apply List.Sublist.cons))))
    have e4 : Y8 xs = (m.ph, false) := by
     unfold Y8
     rw [if_neg (by simp [*]), if_neg (by simp [*])]
     rcases hinv with ⟨rfl, h5, h6⟩ | ⟨h4, h5, h6⟩ | ⟨h4, h5, h6⟩
     ·simp_all
     ·rw [h5, if_pos h6, h4]
     ·rw [h5, if_neg (by rw [h6]; simp), h4]
    rw [e4]
end Go.HL
end

/-! WgA -/
section
namespace Go.HL
open Go Go.Proofs
set_option linter.unusedVariables false
set_option linter.unusedSimpArgs false

def Vx (n : Nat) : Nat := if n = 0 then 0 else Nat.log2 n + 1
theorem blen_le {n k : Nat} : Vx n ≤ k ↔ n < 2 ^ k := by
 unfold Vx
 split
 ·rename_i h
  subst h
  simp [Nat.two_pow_pos]
 ·rename_i h
  rw [← Nat.log2_lt h]
  omega
theorem Zgf {n k : Nat} (h : 2 ^ k ≤ n) : Vx n = Vx (n / 2 ^ k) + k := by
 have key : ∀ j, Vx n ≤ j ↔ Vx (n / 2 ^ k) + k ≤ j := fun j => by
  constructor
  ·intro h1
   have h2 := blen_le.1 h1
   have h3 : k < j := by
    rcases Nat.lt_or_ge k j with h3 | h3
    ·exact h3
    ·have := Nat.pow_le_pow_right (n := 2) (by decide) h3
     omega
   have h4 : Vx (n / 2 ^ k) ≤ j - k := blen_le.2 (by
    rw [Nat.div_lt_iff_lt_mul (Nat.two_pow_pos k), ← Nat.pow_add, Nat.sub_add_cancel (by omega)]
    exact h2)
   omega
  ·intro h1
   have h4 : Vx (n / 2 ^ k) ≤ j - k := by omega
   have h5 := blen_le.1 h4
   rw [Nat.div_lt_iff_lt_mul (Nat.two_pow_pos k), ← Nat.pow_add, Nat.sub_add_cancel (by omega)] at h5
   exact blen_le.2 h5
 have h1 := (key (Vx n)).1 (Nat.le_refl _)
 have h2 := (key (Vx (n / 2 ^ k) + k)).2 (Nat.le_refl _)
 omega
theorem tab_ok {l : List UInt8} (h : ((List.range 256).all fun i => Nat.beq (l.getD i 0).toNat (Vx i)) = true) {i : Nat} (hi : i < 256) : (l.getD i 0).toNat = Vx i :=
 Nat.eq_of_beq_eq_true (List.all_eq_true.1 h i (List.mem_range.2 hi))
theorem ho_len8 {P : Program} (S : Tab P) {n : Nat} {ops : List Oper} {Q : Exit → Zq → Zb → Prop} {rest : List Oper} {ρ : Zq} {L : Zb} {ty : TypeId} {pos : String} {af : Array Edge} {d t : Nat} {l : List UInt8} {k : IntKind} {j : Int} {ti : TyI} {y : Operand} {c : Value}
  (hc : c = bs l) (hy : ev ρ y = some (.int k j)) (ht : Zt S.ty t = some ti) (hk : Nat.beq ti.kind 3 = true) (hn : Nat.blt d n = true) (hl : Nat.beq l.length 256 = true) (htab : ((List.range 256).all fun i => Nat.beq (l.getD i 0).toNat (Vx i)) = true) (hj : 0 ≤ j ∧ j < 256)
  (h : ∀ m : Nat, m = Vx j.toNat → m ≤ 8 → HO P n ops Q rest ((d, .int .u8 (m : Int)) :: ρ) L) : HO P n ops Q (⟨some d, .index t (.const c) y, ty, pos, af, none⟩ :: rest) ρ L := by
 have h1 := h _ rfl (blen_le.2 (by omega))
 rw [← tab_ok htab (i := j.toNat) (by omega)] at h1
 exact ho_go rfl hn (q_ixT S hc hy ht hk hl hj) h1
set_option maxHeartbeats 2000000 attribute [local irreducible] HW HO HQ HD HC QOp Has Upd Zp Gets Yf Z8 Zr X3 Z9 Zj Wa Zy
set_option maxRecDepth 100000 in
theorem Zky (n : Nat) (hn : n < 18446744073709551616) (L : Zb) : HC Tryz.prog 185 [.int .u64 n] L (fun v L' => v = iv (Vx n) ∧ L' = L) := by
 refine Za (fun _ _ => Tryz.call185 _ _) Tryz.func185 rfl Tryz.ntmps185 (Nat.le_of_ble_eq_true rfl) ?_; simp only [Ze, Nat.reduceAdd]
 repeat' (first | refine uN ?_ | (refine uP ?_ ?_ <;> (intro h; ((try simp only [zs, ne_eq, and_true, true_and, eq_self, reduceCtorEq] at h); try exact zx))) | fail)
 all_goals try simp only [Int.reduceToNat, Int.reducePow] at *
 all_goals (apply ho_len8 S; (case hc => exact rfl); (case hy => exact rfl); (case ht => exact rfl); (case hk => exact rfl); (case hn => exact rfl); (case hl => exact rfl); (case htab => decide +kernel); (case hj => omega); (case' h => intro m hm hm8))
 all_goals repeat' (first | refine uN ?_ | (refine uP ?_ ?_ <;> (intro h; ((try simp only [zs, ne_eq, and_true, true_and, eq_self, reduceCtorEq] at h); try exact zx))) | fail)
 all_goals (refine Ys rfl rfl ?_ ⟨?_, rfl⟩; (next => (repeat (first | exact List.Sublist.refl _ | apply List.Sublist.cons))))
 all_goals refine congrArg iv ?_
 all_goals (have e1 : ∀ x, 4294967296 ≤ x → Vx x = Vx (x / 4294967296) + 32 := fun x hx => Zgf (k := 32) hx)
 all_goals (have e2 : ∀ x, 65536 ≤ x → Vx x = Vx (x / 65536) + 16 := fun x hx => Zgf (k := 16) hx)
 all_goals (have e3 : ∀ x, 256 ≤ x → Vx x = Vx (x / 256) + 8 := fun x hx => Zgf (k := 8) hx)
 all_goals first
  | (have g0 := e1 (n) (by omega); have g1 := e2 (n / 4294967296) (by omega); have g2 := e3 (n / 4294967296 / 65536) (by omega); have g9 : ((n : Int) / 4294967296 / 65536 / 256).toNat = n / 4294967296 / 65536 / 256 := (by omega); rw [g9] at hm; omega)
  | (have g0 := e1 (n) (by omega); have g1 := e2 (n / 4294967296) (by omega); have g9 : ((n : Int) / 4294967296 / 65536).toNat = n / 4294967296 / 65536 := (by omega); rw [g9] at hm; omega)
  | (have g0 := e1 (n) (by omega); have g1 := e3 (n / 4294967296) (by omega); have g9 : ((n : Int) / 4294967296 / 256).toNat = n / 4294967296 / 256 := (by omega); rw [g9] at hm; omega)
  | (have g0 := e1 (n) (by omega); have g9 : ((n : Int) / 4294967296).toNat = n / 4294967296 := (by omega); rw [g9] at hm; omega)
  | (have g0 := e2 (n) (by omega); have g1 := e3 (n / 65536) (by omega); have g9 : ((n : Int) / 65536 / 256).toNat = n / 65536 / 256 := (by omega); rw [g9] at hm; omega)
  | (have g0 := e2 (n) (by omega); have g9 : ((n : Int) / 65536).toNat = n / 65536 := (by omega); rw [g9] at hm; omega)
  | (have g0 := e3 (n) (by omega); have g9 : ((n : Int) / 256).toNat = n / 256 := (by omega); rw [g9] at hm; omega)
  | (have g9 : ((n : Int)).toNat = n := (by omega); rw [g9] at hm; omega)
theorem Zrz (n : Nat) (hn : n < 18446744073709551616) (L : Zb) : HC Tryz.prog 180 [.int .u64 n] L (fun v L' => v = iv (Vx n) ∧ L' = L) := by
 refine Za (fun _ _ => Tryz.call180 _ _) Tryz.func180 rfl Tryz.ntmps180 (Nat.le_of_ble_eq_true rfl) ?_; simp only [Ze, Nat.reduceAdd]
 repeat' (first | refine uN ?_ | refine uC (Zky _ hn _) ?_ | (refine uP ?_ ?_ <;> (intro h; ((try simp only [zs, ne_eq, and_true, true_and, eq_self, reduceCtorEq] at h); try exact zx))) | fail)
 all_goals (refine Ys rfl rfl ?_ ⟨?_, rfl⟩; (next => (repeat (first | exact List.Sublist.refl _ | apply List.Sublist.cons))))
 all_goals rfl
def mx : List Int → Int
 | [] => 0
 | x :: r => r.foldl max x
theorem mx_snoc {l : List Int} {y : Int} (h : l ≠ []) : mx (l ++ [y]) = max (mx l) y := by
 cases l with
 | nil => exact absurd rfl h
 | cons x r => simp [mx]
theorem Zrf (a : Option Addr) (cap : Nat) (xs : List Int) (L : Zb) (hR : Rd ic 1 L a xs) (h1 : 1 ≤ xs.length) (hl : xs.length ≤ 1000000) :
  HC Tryz.prog 90 [.slice a xs.length cap] L (fun v L' => v = iv (mx xs) ∧ L' = L) := by
 refine Za (fun _ _ => Tryz.call90 _ _) Tryz.func90 rfl Tryz.ntmps90 (Nat.le_of_ble_eq_true rfl) ?_; simp only [Ze, Nat.reduceAdd]
 obtain ⟨b, i, l, E, fr, rfl, hb, hg⟩ := hR.at1 (j := 0) (by omega) (by omega)
 repeat' (first | refine uN ?_ | (refine uP ?_ ?_ <;> (intro h; ((try simp only [zs, ne_eq, and_true, true_and, eq_self, reduceCtorEq] at h); try exact zx))) | fail)
 refine Zx (σ := Int × Int) (fun s => [(0, .slice (some ⟨b, i, none⟩) xs.length cap), (3, iv s.2), (4, iv s.1)]) (fun _ => L) (fun s => 1 ≤ s.1 ∧ s.1 ≤ xs.length ∧ mx (xs.take s.1.toNat) = s.2) (fun s => (xs.length - s.1).toNat) (1, xs[Int.toNat 0]) uS (List.Sublist.refl _) ⟨by simp, by simp; omega, ?_⟩ ?_
 ·cases xs with
  | nil => simp at h1
  | cons x r => rfl
 clear hb hg
 rintro ⟨j, m⟩ ⟨h0, h2, hm⟩
 simp only at h0 h2 hm
 by_cases hlt : j < xs.length
 ·obtain ⟨b', i', l', E', fr', e, hb', hg'⟩ := hR.at1 (j := j) (by omega) hlt
  cases e
  repeat' (first | refine uN ?_ | (refine uP ?_ ?_ <;> (intro h; ((try simp only [zs, ne_eq, and_true, true_and, eq_self, reduceCtorEq] at h); try exact zx))) | fail)
  refine Zl (j + 1, _) uS (List.Sublist.refl _) ⟨by show 1 ≤ j + 1; omega, by show j + 1 ≤ (xs.length : Int); omega, ?_⟩ (by show (xs.length - (j + 1)).toNat < (xs.length - j).toNat; omega)
  show mx (xs.take (j + 1).toNat) = _
  rw [Qa (by omega) hlt, mx_snoc (by intro e; have h5 : (xs.take j.toNat).length = 0 := (by rw [e]; rfl); rw [List.length_take] at h5; omega), hm]
 ·repeat' (first | refine uN ?_ | (refine uP ?_ ?_ <;> (intro h; ((try simp only [zs, ne_eq, and_true, true_and, eq_self, reduceCtorEq] at h); try exact zx))) | fail)
  (refine Ys rfl rfl ?_ ⟨?_, rfl⟩; (next => (repeat (first | exact List.Sublist.refl _ | apply List.Sublist.cons))))
  rw [Zae hlt] at hm
  rw [hm]
theorem Zrj (x : Int) (L : Zb) : HC Tryz.prog 89 [iv x] L (fun v L' => v = .bool (decide (x < 0 ∨ 1000 < x)) ∧ L' = L) := by
 refine Za (fun _ _ => Tryz.call89 _ _) Tryz.func89 rfl Tryz.ntmps89 (Nat.le_of_ble_eq_true rfl) ?_; simp only [Ze, Nat.reduceAdd]
 repeat' (first | refine uN ?_ | (refine uP ?_ ?_ <;> (intro h; ((try simp only [zs, ne_eq, and_true, true_and, eq_self, reduceCtorEq] at h); try exact zx))) | fail)
 all_goals (refine Ys rfl rfl ?_ ⟨?_, rfl⟩; (next => (repeat (first | exact List.Sublist.refl _ | apply List.Sublist.cons))))
 all_goals (refine congrArg Value.bool ?_; first | (refine Eq.symm (decide_eq_true ?_); omega) | (refine Eq.symm (decide_eq_false ?_); omega) | (refine decide_eq_decide.2 ?_; omega))
theorem Zg6 {α : Type} {xs : List α} {f : α → Bool} {j : Int} (h0 : 0 ≤ j) (hlt : j < xs.length) (hn : (xs.take j.toNat).any f = false) (h : f (xs[j.toNat]'(by omega)) = true) : xs.any f = true ∧ (xs.findIdx f : Int) = j := by
 have hj : j.toNat < xs.length := by omega
 refine ⟨List.any_eq_true.2 ⟨_, List.getElem_mem hj, h⟩, ?_⟩
 have : xs.findIdx f = j.toNat := by
  rw [List.findIdx_eq hj]
  refine ⟨h, fun k hk => ?_⟩
  rw [List.any_eq_false] at hn
  have hk' : k < (xs.take j.toNat).length := by simp; omega
  have := hn _ (List.getElem_mem hk')
  rw [List.getElem_take] at this
  simpa using this
 omega
theorem Zin (a : Option Addr) (cap : Nat) (xs : List Int) (F : Nat) (cs : List Value) (f : Int → Bool) (L : Zb) (hR : Rd ic 1 L a xs) (hl : xs.length ≤ 1000000)
  (hf : ∀ s, HC Tryz.prog F (iv s :: cs) L (fun v L' => v = .bool (f s) ∧ L' = L)) :
  HC Tryz.prog 127 [.slice a xs.length cap, .func (.func F) #[] ⟨cs⟩] L (fun v L' => v = iv (if xs.any f then (xs.findIdx f : Int) else -1) ∧ L' = L) := by
 refine Za (fun _ _ => Tryz.call127 _ _) Tryz.func127 rfl Tryz.ntmps127 (Nat.le_of_ble_eq_true rfl) ?_; simp only [Ze, Nat.reduceAdd]
 repeat' (first | refine uN ?_ | (refine uP ?_ ?_ <;> (intro h; ((try simp only [zs, ne_eq, and_true, true_and, eq_self, reduceCtorEq] at h); try exact zx))) | fail)
 refine Zx (σ := Int) (fun j => [(0, .slice a xs.length cap), (1, .func (.func F) #[] ⟨cs⟩), (6, .slice a xs.length cap), (7, iv xs.length), (8, iv j)]) (fun _ => L) (fun j => 0 ≤ j ∧ j ≤ xs.length ∧ (xs.take j.toNat).any f = false) (fun j => (xs.length - j).toNat) 0 uS (List.Sublist.refl _) ⟨by omega, by omega, by simp⟩ ?_
 rintro j ⟨h0, h1, h2⟩
 by_cases hlt : j < xs.length
 ·obtain ⟨b, i, l, E, fr, rfl, hb, hg⟩ := hR.at1 h0 hlt
  repeat' (first | refine uN ?_ | refine uC (hf _) ?_ | (refine uP ?_ ?_ <;> (intro h; ((try simp only [zs, ne_eq, and_true, true_and, eq_self, reduceCtorEq] at h); try exact zx))) | fail)
  ·(refine Ys rfl rfl ?_ ⟨?_, rfl⟩; (next => (repeat (first | exact List.Sublist.refl _ | apply List.Sublist.cons))))
   obtain ⟨e1, e2⟩ := Zg6 h0 hlt h2 (by assumption)
   rw [if_pos e1, e2]
  ·exact Zl (j + 1) uS (List.Sublist.refl _) ⟨by omega, by omega, by rw [Qa h0 hlt, List.any_append, h2]; simp [*]⟩ (by omega)
 ·repeat' (first | refine uN ?_ | (refine uP ?_ ?_ <;> (intro h; ((try simp only [zs, ne_eq, and_true, true_and, eq_self, reduceCtorEq] at h); try exact zx))) | fail)
  (refine Ys rfl rfl ?_ ⟨?_, rfl⟩; (next => (repeat (first | exact List.Sublist.refl _ | apply List.Sublist.cons))))
  rw [Zae hlt] at h2
  rw [if_neg (by simp [h2])]
theorem Zef (a : Option Addr) (cap : Nat) (xs : List Int) (F : Nat) (cs : List Value) (f : Int → Bool) (L : Zb) (hR : Rd ic 1 L a xs) (hl : xs.length ≤ 1000000)
  (hf : ∀ s, HC Tryz.prog F (iv s :: cs) L (fun v L' => v = .bool (f s) ∧ L' = L)) :
  HC Tryz.prog 88 [.slice a xs.length cap, .func (.func F) #[] ⟨cs⟩] L (fun v L' => v = .bool (xs.any f) ∧ L' = L) := by
 refine Za (fun _ _ => Tryz.call88 _ _) Tryz.func88 rfl Tryz.ntmps88 (Nat.le_of_ble_eq_true rfl) ?_; simp only [Ze, Nat.reduceAdd]
 repeat' (first | refine uN ?_ | refine uC (Zin _ _ _ _ _ f _ hR hl hf) ?_ | fail)
 (refine Ys rfl rfl ?_ ⟨?_, rfl⟩; (next => (repeat (first | exact List.Sublist.refl _ | apply List.Sublist.cons))))
 refine congrArg Value.bool ?_
 cases hx : xs.any f <;> simp
 done
def badW (x : Int) : Bool := decide (x < 0 ∨ 1000 < x)
def X1 (ws : List Int) : Option Nat := if ws.length < 1 ∨ 7 < ws.length then some 3 else if ws.any badW then some 2 else if mx ws = 0 then some 4 else none
theorem Zah (T : Nat) (E : Nat → Addr) (a : Option Addr) (cap : Nat) (xs : List Int) (L : Zb) (hG : Er T E [2, 3, 4] L) (hR : Rd ic 1 L a xs) (hl : xs.length ≤ 1000000) :
  HC Tryz.prog 30 [.slice a xs.length cap] L (fun v L' => v = eV T E (X1 xs) ∧ L' = L) := by
 refine Za (fun _ _ => Tryz.call30 _ _) Tryz.func30 rfl Tryz.ntmps30 (Nat.le_of_ble_eq_true rfl) ?_; simp only [Ze, Nat.reduceAdd]
 repeat' (first | refine uN ?_ | refine Vk (qC (Zef _ _ _ _ _ badW _ hR hl (fun s => Zrj s _))) ?_ | refine Vk (qC (Zrf _ _ _ _ hR (by omega) hl)) ?_ | (refine uP ?_ ?_ <;> (intro h; ((try simp only [zs, ne_eq, and_true, true_and, eq_self, reduceCtorEq] at h); try exact zx))) | fail)
 all_goals (refine Ys rfl rfl ?_ ⟨?_, rfl⟩; (next => (repeat (first | exact List.Sublist.refl _ | apply List.Sublist.cons))))
 all_goals (unfold X1)
 all_goals first
  | (rw [if_pos (by omega)]; rfl)
  | (rw [if_neg (by omega), if_pos (by assumption)]; rfl)
  | (rw [if_neg (by omega), if_neg (by simp [*]), if_pos (by assumption)]; rfl)
  | (rw [if_neg (by omega), if_neg (by simp [*]), if_neg (by assumption)]; rfl)
end Go.HL
end

/-! WgB -/
section
namespace Go.HL
open Go Go.Proofs
set_option linter.unusedVariables false
set_option linter.unusedSimpArgs false
set_option maxHeartbeats 2000000 attribute [local irreducible] HW HO HQ HD HC QOp Has Upd Zp Gets Yf Z8 Zr X3 Z9 Zj Wa Zy

def Za8 : List Int → Nat → Int
 | [], _ => 0
 | x :: r, s => (if s % 2 = 1 then x else 0) + Za8 r (s / 2)
theorem Zh6 (y : Int) : ∀ (l : List Int) (s : Nat), Za8 (l ++ [y]) s = Za8 l s + (if s / 2 ^ l.length % 2 = 1 then y else 0)
 | [], s => by simp [Za8]
 | x :: r, s => by
  simp only [List.cons_append, Za8, Zh6 y r (s / 2), List.length_cons, Nat.div_div_eq_div_mul, Nat.pow_succ, Nat.mul_comm 2]
  omega
theorem Ziw : ∀ (l : List Int) (s : Nat), (∀ x ∈ l, 0 ≤ x ∧ x ≤ 1000) → 0 ≤ Za8 l s ∧ Za8 l s ≤ 1000 * l.length
 | [], s, _ => by simp [Za8]
 | x :: r, s, h => by
  have h1 := Ziw r (s / 2) (fun y hy => h y (by simp [hy]))
  have h2 := h x (by simp)
  simp only [Za8, List.length_cons]
  split <;> omega
def Zbe (ws : List Int) (set : Int) : Int × Option Nat :=
 match X1 ws with
 | some e => (0, some e)
 | none => if set < 0 ∨ ws.length < Vx set.toNat then (0, some 2) else (Za8 ws set.toNat, none)
theorem Ub {ws : List Int} (h : X1 ws = none) : 1 ≤ ws.length ∧ ws.length ≤ 7 ∧ (∀ x ∈ ws, 0 ≤ x ∧ x ≤ 1000) ∧ mx ws ≠ 0 := by
 unfold X1 at h
 split at h
 ·cases h
 ·split at h
  ·cases h
  ·split at h
   ·cases h
   ·rename_i h1 h2 h3
    refine ⟨by omega, by omega, fun x hx => ?_, h3⟩
    simp only [Bool.not_eq_true, List.any_eq_false, badW, decide_eq_true_eq] at h2
    have := h2 x hx
    omega
theorem Zpc (n k : Nat) : (((((n : Int) / 2 ^ k).toNat &&& Int.toNat 1 : Nat) : Int) = 1) ↔ n / 2 ^ k % 2 = 1 := by
 have e : ((n : Int) / 2 ^ k).toNat = n / 2 ^ k := by
  have : ((n : Int) / 2 ^ k) = ((n / 2 ^ k : Nat) : Int) := by simp
  rw [this]; rfl
 rw [e, show Int.toNat 1 = 1 from rfl, Nat.and_one_is_mod]
 omega
theorem Zn3 (n k : Nat) (h : (n : Int) ≤ 9223372036854775807) : 0 ≤ (n : Int) / 2 ^ k ∧ (n : Int) / 2 ^ k ≤ Zac .i64 ∧ (0 : Int) ≤ 1 ∧ (1 : Int) ≤ Zac .i64 := by
 have : ((n : Int) / 2 ^ k) = ((n / 2 ^ k : Nat) : Int) := by simp
 have h2 : n / 2 ^ k ≤ n := Nat.div_le_self _ _
 rw [this]
 clear this
 generalize n / 2 ^ k = q at h2 ⊢
 simp only [Zac]
 omega
theorem Zg9 (T : Nat) (E : Nat → Addr) (a : Option Addr) (cap : Nat) (xs : List Int) (set : Int) (L : Zb) (hG : Er T E [2, 3, 4] L) (hR : Rd ic 1 L a xs) (hl : xs.length ≤ 1000000) (hs : set ≤ 9223372036854775807) :
  HC Tryz.prog 161 [.slice a xs.length cap, iv set] L (fun v L' => v = .tuple ⟨[iv (Zbe xs set).1, eV T E (Zbe xs set).2]⟩ ∧ L' = L) := by
 refine Za (fun _ _ => Tryz.call161 _ _) Tryz.func161 rfl Tryz.ntmps161 (Nat.le_of_ble_eq_true rfl) ?_; simp only [Ze, Nat.reduceAdd]
 have hk := Zah T E a cap xs L hG hR hl
 cases hc : X1 xs with
 | some e =>
  rw [hc] at hk
  repeat' (first | refine uN ?_ | refine Yb S ?_ | refine uC (hk) ?_ | (refine uP ?_ ?_ <;> (intro h; ((try simp only [zs, ne_eq, and_true, true_and, eq_self, reduceCtorEq] at h); try exact zx))) | fail)
  (refine X4 rfl rfl rfl ?_ ⟨?_, rfl⟩; (next => (repeat (first | exact List.Sublist.refl _ | apply List.Sublist.cons))))
  simp [Zbe, hc]
 | none =>
  rw [hc] at hk
  obtain ⟨c1, c2, c3, c4⟩ := Ub hc
  by_cases h0 : 0 ≤ set
  ·obtain ⟨n, rfl⟩ := Int.eq_ofNat_of_zero_le h0
   have hb := Zrz n (by omega) L
   repeat' (first | refine uN ?_ | refine Yb S ?_ | refine uC (hk) ?_ | refine uC (hb) ?_ | (refine uP ?_ ?_ <;> (intro h; ((try simp only [zs, ne_eq, and_true, true_and, eq_self, reduceCtorEq] at h); try exact zx))) | fail)
   ·(refine X4 rfl rfl rfl ?_ ⟨?_, rfl⟩; (next => (repeat (first | exact List.Sublist.refl _ | apply List.Sublist.cons))))
    simp only [Zbe, hc]
    rw [if_pos (by simp; omega)]
    rfl
   ·refine Zx (σ := Int × Int) (fun s => [(1, iv n), (7, iv s.2), (26, .slice a xs.length cap), (27, iv xs.length), (28, iv s.1)]) (fun _ => L) (fun s => 0 ≤ s.1 ∧ s.1 ≤ xs.length ∧ Za8 (xs.take s.1.toNat) n = s.2) (fun s => (xs.length - s.1).toNat) (0, 0) uS (List.Sublist.refl _) ⟨by simp, by simp, by simp [Za8]⟩ ?_
    rintro ⟨j, m⟩ ⟨j0, j1, hm⟩
    simp only at j0 j1 hm
    by_cases hlt : j < xs.length
    ·obtain ⟨b, i, l, E', fr, rfl, hb', hg'⟩ := hR.at1 j0 hlt
     have hm2 := Ziw (xs.take j.toNat) n (fun x hx => c3 x (List.mem_of_mem_take hx))
     have hx := c3 (xs[j.toNat]'(by omega)) (List.getElem_mem _)
     have hn := Zh6 (xs[j.toNat]'(by omega)) (xs.take j.toNat) n
     rw [← Qa j0 hlt] at hn
     rw [hm] at hm2 hn
     rw [List.length_take] at hm2 hn
     rw [Nat.min_eq_left (by omega)] at hn
     have hb1 := Zn3 n j.toNat hs
     have hb2 := Zpc n j.toNat
     repeat' (first | refine uN ?_ | refine Yb S ?_ | (refine uP ?_ ?_ <;> (intro h; ((try simp only [zs, ne_eq, and_true, true_and, eq_self, reduceCtorEq] at h); try exact zx))) | fail)
     all_goals (refine Zl (j + 1, _) uS (List.Sublist.refl _) ⟨by show 0 ≤ j + 1; omega, by show j + 1 ≤ (xs.length : Int); omega, ?_⟩ (by show (xs.length - (j + 1)).toNat < (xs.length - j).toNat; omega))
     all_goals (show Za8 (xs.take (j + 1).toNat) n = _; rw [hn])
     ·rw [if_pos (hb2.1 (by assumption))]
     ·rw [if_neg (fun e => by have := hb2.2 e; contradiction)]; omega
    ·repeat' (first | refine uN ?_ | refine Yb S ?_ | (refine uP ?_ ?_ <;> (intro h; ((try simp only [zs, ne_eq, and_true, true_and, eq_self, reduceCtorEq] at h); try exact zx))) | fail)
     (refine X4 rfl rfl rfl ?_ ⟨?_, rfl⟩; (next => (repeat (first | exact List.Sublist.refl _ | apply List.Sublist.cons))))
     rw [Zae hlt] at hm
     simp only [Zbe, hc]
     rw [if_neg (by simp; omega), ← hm]
     rfl
  ·repeat' (first | refine uN ?_ | refine Yb S ?_ | refine uC (hk) ?_ | (refine uP ?_ ?_ <;> (intro h; ((try simp only [zs, ne_eq, and_true, true_and, eq_self, reduceCtorEq] at h); try exact zx))) | fail)
   (refine X4 rfl rfl rfl ?_ ⟨?_, rfl⟩; (next => (repeat (first | exact List.Sublist.refl _ | apply List.Sublist.cons))))
   simp only [Zbe, hc]
   rw [if_pos (by omega)]
   rfl
theorem Zem {k : Nat} (h : k ≤ 30) : 0 ≤ (k : Int) ∧ (k : Int) ≤ 64 ∧ -9223372036854775808 ≤ (1 : Int) * 2 ^ (k : Int).toNat ∧ (1 : Int) * 2 ^ (k : Int).toNat ≤ 9223372036854775807 := by
 have h1 : (2 : Nat) ^ k ≤ 2 ^ 30 := Nat.pow_le_pow_right (by decide) h
 have e : (1 : Int) * 2 ^ (k : Int).toNat = ((2 ^ k : Nat) : Int) := by simp
 rw [e]
 have h2 := Nat.two_pow_pos k
 generalize (2 : Nat) ^ k = q at *
 omega
def Xt (ws : List Int) (set : Int) : Bool × Option Nat :=
 match Zbe ws set with
 | (_, some e) => (false, some e)
 | (n, none) => (decide ((Zbe ws (2 ^ ws.length - 1)).1 < 2 * n), (Zbe ws (2 ^ ws.length - 1)).2)
theorem Zqr {ws : List Int} {set : Int} (h : (Zbe ws set).2 = none) : X1 ws = none ∧ 0 ≤ set ∧ Vx set.toNat ≤ ws.length ∧ (Zbe ws set).1 = Za8 ws set.toNat := by
 unfold Zbe at *
 cases hc : X1 ws with
 | some e => rw [hc] at h; cases h
 | none =>
  rw [hc] at h
  simp only at *
  split at h
  ·cases h
  ·rename_i h1
   rw [if_neg h1]
   refine ⟨trivial, ?_, ?_, rfl⟩ <;> omega
theorem Zco (T : Nat) (E : Nat → Addr) (a : Option Addr) (cap : Nat) (xs : List Int) (set : Int) (L : Zb) (hG : Er T E [2, 3, 4] L) (hR : Rd ic 1 L a xs) (hl : xs.length ≤ 1000000) (hs : set ≤ 9223372036854775807) :
  HC Tryz.prog 137 [.slice a xs.length cap, iv set] L (fun v L' => v = .tuple ⟨[.bool (Xt xs set).1, eV T E (Xt xs set).2]⟩ ∧ L' = L) := by
 refine Za (fun _ _ => Tryz.call137 _ _) Tryz.func137 rfl Tryz.ntmps137 (Nat.le_of_ble_eq_true rfl) ?_; simp only [Ze, Nat.reduceAdd]
 have hk := Zg9 T E a cap xs set L hG hR hl hs
 cases hc : (Zbe xs set).2 with
 | some e =>
  rw [hc] at hk
  repeat' (first | refine uN ?_ | refine uC (hk) ?_ | (refine uP ?_ ?_ <;> (intro h; ((try simp only [zs, ne_eq, and_true, true_and, eq_self, reduceCtorEq] at h); try exact zx))) | fail)
  (refine X4 rfl rfl rfl ?_ ⟨?_, rfl⟩; (next => (repeat (first | exact List.Sublist.refl _ | apply List.Sublist.cons))))
  have : Xt xs set = (false, some e) := by
   unfold Xt
   split
   ·rename_i h; rw [h] at hc; cases hc; rfl
   ·rename_i h; rw [h] at hc; cases hc
  rw [this]
 | none =>
  rw [hc] at hk
  obtain ⟨h1, h2, h3, h4⟩ := Zqr hc
  obtain ⟨c1, c2, c3, c4⟩ := Ub h1
  have hsh := Zem (k := xs.length) (by omega)
  have e2 : (1 : Int) * 2 ^ (xs.length : Int).toNat = 2 ^ xs.length := by simp
  have hp : 1 ≤ (1 : Int) * 2 ^ (xs.length : Int).toNat := by
   rw [e2]
   have e3 : (2 : Int) ^ xs.length = ((2 ^ xs.length : Nat) : Int) := by simp
   rw [e3]
   have := Nat.two_pow_pos xs.length
   generalize (2 : Nat) ^ xs.length = q at *
   omega
  have hk2 := Zg9 T E a cap xs (1 * 2 ^ (xs.length : Int).toNat - 1) L hG hR hl (by omega)
  have hb := Ziw xs set.toNat c3
  rw [← h4] at hb
  repeat' (first | refine uN ?_ | refine uC (hk) ?_ | refine uC (hk2) ?_ | (refine uP ?_ ?_ <;> (intro h; ((try simp only [zs, ne_eq, and_true, true_and, eq_self, reduceCtorEq] at h); try exact zx))) | fail)
  (refine X4 rfl rfl rfl ?_ ⟨?_, rfl⟩; (next => (repeat (first | exact List.Sublist.refl _ | apply List.Sublist.cons))))
  rw [e2]
  have : Xt xs set = (decide ((Zbe xs (2 ^ xs.length - 1)).1 < 2 * (Zbe xs set).1), (Zbe xs (2 ^ xs.length - 1)).2) := by
   unfold Xt
   split
   ·rename_i h; rw [h] at hc; cases hc
   ·rename_i h; rw [h]
  rw [this]
end Go.HL
end

/-! LdB -/
section
namespace Go.HL
open Go Go.Proofs
set_option linter.unusedVariables false
set_option linter.unusedSimpArgs false
theorem Rd.inn {α : Type} {enc : α → List Value} {sz : Nat} {L : Zb} {c : List Zn} {a : Option Addr} {xs : List α} (e : Zn) (h : Rd enc sz (c :: L) a xs) : Rd enc sz ((e :: c) :: L) a xs := by
 rcases h with h | ⟨b, i, l, E, fr, h1, h2, h3⟩
 ·exact .inl h
 ·exact .inr ⟨b, i, l, E, fr, h1, Xn h2, h3⟩
theorem bit_iff0 (n k : Nat) : (((((n : Int) / 2 ^ k).toNat &&& Int.toNat 1 : Nat) : Int) = 0) ↔ n / 2 ^ k % 2 = 0 := by
 have e : ((n : Int) / 2 ^ k).toNat = n / 2 ^ k := by
  have : ((n : Int) / 2 ^ k) = ((n / 2 ^ k : Nat) : Int) := by simp
  rw [this]; rfl
 rw [e, show Int.toNat 1 = 1 from rfl, Nat.and_one_is_mod]
 omega
def Vo (m : Ld) (f : Fr) : Prop := f.kd = m.wait ∧ f.dl = m.deal ∧ f.att = m.att ∧ f.to = m.id ∧ 0 ≤ f.fr ∧ f.fr < m.w.length ∧ m.heard / 2 ^ f.fr.toNat % 2 = 0
instance (m : Ld) (f : Fr) : Decidable (Vo m f) := by unfold Vo; infer_instance
def Zir (m : Ld) (i : Nat) : List St := if m.heard / 2 ^ i % 2 = 1 then [m.told.getD i W3] else []
def W8 (m : Ld) : List St := (List.range m.w.length).flatMap (Zir m)
def Zfn (m : Ld) (f : Fr) : Ld := if f.kd = 2 then m else { m with seen := max m.seen f.s.pr }
def Ze8 (m : Ld) (f : Fr) : Ld := { Zfn m f with heard := m.heard ||| 2 ^ f.fr.toNat, told := m.told.set f.fr.toNat f.s }
def Zf0 (m : Ld) (p : Int) : Ld × List Fr := (Um m, Zd9 (Um m) 7 p)
def Zoc (m : Ld) (p : Int) : Ld × List Fr := (Zbh m p, Zd9 (Zbh m p) 5 p)
def Xj (m : Ld) : Ld × List Fr :=
 if m.wait = 2 ∧ m.heard = 2 ^ m.w.length - 1 then Zoc m 4 else
 if m.wait = 2 ∨ (Xt m.w m.heard).1 = false then (m, []) else
 if m.wait = 6 then Zf0 m (Vs m.phase) else
 if (Y8 (W8 m)).2 then Zf0 m (Y8 (W8 m)).1 else Zoc m (Y8 (W8 m)).1
def Yc (m : Ld) (f : Fr) : Ld × List Fr :=
 if m.wait = 0 ∨ ¬ Vo m f then (m, []) else
 if f.yes = false then noM (Zfn m f) else Xj (Ze8 m f)
theorem Zal (f : Nat → List St) (i : Nat) : (List.range (i + 1)).flatMap f = (List.range i).flatMap f ++ f i := by
 rw [List.range_succ, List.flatMap_append]; simp
theorem Qf (f : Nat → List St) (hf : ∀ i, (f i).length ≤ 1) : ∀ i, ((List.range i).flatMap f).length ≤ i
 | 0 => by simp
 | i + 1 => by rw [Zal, List.length_append]; have := Qf f hf i; have := hf i; omega
theorem Zps (m : Ld) (i : Nat) : (Zir m i).length ≤ 1 := by unfold Zir; split <;> simp
theorem Zf5 {a : Nat} {k n : Nat} (h : a < 2 ^ n) (hk : k < n) : a ||| 2 ^ k < 2 ^ n := Nat.or_lt_two_pow h (Nat.pow_lt_pow_right (by decide) hk)
set_option maxHeartbeats 2000000 attribute [local irreducible] HW HO HQ HD HC QOp Has Upd Zp Gets Yf Z8 Zr X3 Z9 Zj Wa Zy
attribute [local irreducible] Y5
theorem Zig (lp : Nat) (wv : Value) (wc : List Zn) (m : Ld) (L : Zb) (hm : LdOk wv wc m) (hh : m.heard < 128) : HC Tryz.prog 142 [pt lp 0] (Vr lp wv wc m :: L)
  (fun v L' => ∃ c, Vec 106 3 sc v (W8 m) c ∧ L' = c :: Vr lp wv wc m :: L) := by
 obtain ⟨a, cap, rfl, hcap, hR⟩ := hm.vec.rd Xl
 have hlen := hm.len
 have htl := hm.told
 generalize hwv : Value.slice a m.w.length cap = wv at *
 have g3 : (Y5 wv m)[0 + 3]? = some (.slice a m.w.length cap) := by rw [hwv]; exact Yt rfl
 have g6 : (Y5 wv m)[0 + 6]? = some (iv m.heard) := Yt rfl
 refine Za (fun _ _ => Tryz.call142 _ _) Tryz.func142 rfl Tryz.ntmps142 (Nat.le_of_ble_eq_true rfl) ?_; simp only [Ze, Nat.reduceAdd]
 repeat' (first | refine uN ?_ | (refine uB ?_; intro b) | (refine uP ?_ ?_ <;> (intro h; ((try simp only [zs, ne_eq, and_true, true_and, eq_self, reduceCtorEq] at h); try exact zx))) | fail)
 refine Zpu ?_
 refine Zx (σ := Nat × Value × List Zn) (fun q => [(0, pt lp 0), (3, q.2.1), (9, iv m.w.length), (10, iv q.1)]) (fun q => q.2.2 :: Vr lp wv wc m :: L) (fun q => q.1 ≤ m.w.length ∧ Vec 106 3 sc q.2.1 ((List.range q.1).flatMap (Zir m)) q.2.2) (fun q => m.w.length - q.1) (0, Wo, []) uS (List.Sublist.refl _) ⟨by simp, Yh⟩ ?_
 rintro ⟨i, v, c⟩ ⟨hi, hv⟩
 simp only at hi hv ⊢
 have hle := Qf (Zir m) (Zps m) i
 by_cases hlt : i < m.w.length
 ·have hb1 := Zn3 m.heard (i : Int).toNat (by omega)
  have hb2 := Zpc m.heard (i : Int).toNat
  have ht : m.told[i]? = some (m.told.getD i W3) := by rw [List.getD, List.getElem?_eq_getElem (by omega)]; rfl
  have gt := ld_told (wv := wv) ht
  by_cases hbit : m.heard / 2 ^ i % 2 = 1
  ·have e : Zir m i = [m.told.getD i W3] := if_pos hbit
   have hb3 := hb2.2 hbit
   repeat' (first | refine uN ?_ | refine Z0 S ?_ | (refine uB ?_; intro b) | (refine uP ?_ ?_ <;> (intro h; ((try simp only [zs, ne_eq, and_true, true_and, eq_self, reduceCtorEq] at h); try exact zx))) | refine da 101 ?_ | fail)
   refine fo 1 ?_
   refine wp1 S (m.told.getD i W3) hv Zdh sc_one ?_
   intro v' c' hv'
   repeat' (first | refine uN ?_ | refine Z0 S ?_ | (refine uB ?_; intro b) | (refine uP ?_ ?_ <;> (intro h; ((try simp only [zs, ne_eq, and_true, true_and, eq_self, reduceCtorEq] at h); try exact zx))) | refine da 101 ?_ | fail)
   refine Zl (i + 1, v', c') uS (.cons_cons _ (.cons _ (.refl _))) ⟨by simp only; omega, ?_⟩ (by simp only; omega)
   simp only
   rw [Zal, e]
   exact hv'
  ·have e : Zir m i = [] := if_neg hbit
   have hb3 : ¬ _ := fun h => hbit (hb2.1 h)
   repeat' (first | refine uN ?_ | refine Z0 S ?_ | (refine uB ?_; intro b) | (refine uP ?_ ?_ <;> (intro h; ((try simp only [zs, ne_eq, and_true, true_and, eq_self, reduceCtorEq] at h); try exact zx))) | refine da 101 ?_ | fail)
   refine Zl (i + 1, v, c) uS (List.Sublist.refl _) ⟨by simp only; omega, ?_⟩ (by simp only; omega)
   simp only
   rw [Zal, e, List.append_nil]
   exact hv
 ·repeat' (first | refine uN ?_ | refine Z0 S ?_ | (refine uB ?_; intro b) | (refine uP ?_ ?_ <;> (intro h; ((try simp only [zs, ne_eq, and_true, true_and, eq_self, reduceCtorEq] at h); try exact zx))) | refine da 101 ?_ | fail)
  have hi2 : i = m.w.length := by omega
  subst hi2
  exact Xm (LS.refl _) ⟨c, hv, rfl⟩
theorem Zbv (lp : Nat) (wv : Value) (wc : List Zn) (m : Ld) (f : Fr) (L : Zb) (hm : LdOk wv wc m) (hh : m.heard < 128) : HC Tryz.prog 135 [pt lp 0, .agg ⟨fc f⟩] (Vr lp wv wc m :: L)
  (fun v L' => v = .bool (decide (Vo m f)) ∧ L' = Vr lp wv wc m :: L) := by
 obtain ⟨a, cap, rfl, hcap, hR⟩ := hm.vec.rd Xl
 have hlen := hm.len
 generalize hwv : Value.slice a m.w.length cap = wv at *
 have g0 : (Y5 wv m)[0 + 0]? = some (iv m.id) := Yt rfl
 have g1 : (Y5 wv m)[0 + 1]? = some (iv m.deal) := Yt rfl
 have g2 : (Y5 wv m)[0 + 2]? = some (iv m.att) := Yt rfl
 have g3 : (Y5 wv m)[0 + 3]? = some (.slice a m.w.length cap) := by rw [hwv]; exact Yt rfl
 have g5 : (Y5 wv m)[0 + 5]? = some (iv m.wait) := Yt rfl
 have g6 : (Y5 wv m)[0 + 6]? = some (iv m.heard) := Yt rfl
 have hb1 := Zn3 m.heard f.fr.toNat (by omega)
 have hb2 := bit_iff0 m.heard f.fr.toNat
 refine Za (fun _ _ => Tryz.call135 _ _) Tryz.func135 rfl Tryz.ntmps135 (Nat.le_of_ble_eq_true rfl) ?_; simp only [Ze, Nat.reduceAdd]
 repeat' (first | refine uN ?_ | refine Yb S ?_ | (refine uB ?_; intro b) | (refine uP ?_ ?_ <;> (intro h; ((try simp only [zs, ne_eq, and_true, true_and, eq_self, reduceCtorEq] at h); try exact zx))) | fail)
 all_goals refine Xm (LS.skip _ (LS.refl _)) ⟨congrArg Value.bool ?_, rfl⟩
 all_goals first
  | (refine (decide_eq_false (fun h => ?_)).symm; obtain ⟨h1, h2, h3, h4, h5, h6, h7⟩ := h; omega)
  | (refine decide_eq_decide.2 ⟨fun h => ⟨?_, ?_, ?_, ?_, ?_, ?_, hb2.1 h⟩, fun h => hb2.2 h.2.2.2.2.2.2⟩ <;> assumption)
theorem Zqe {m : Ld} {f : Fr} (h : m.wait = 0 ∨ ¬ Vo m f) : Yc m f = (m, []) := if_pos h
theorem LdOk.m1 {wv : Value} {wc : List Zn} {m : Ld} (h : LdOk wv wc m) (f : Fr) : LdOk wv wc (Zfn m f) := by
 unfold Zfn; split
 ·exact h
 ·exact h.of rfl rfl
theorem LdOk.m2 {wv : Value} {wc : List Zn} {m : Ld} (h : LdOk wv wc m) (f : Fr) : LdOk wv wc (Ze8 m f) := by
 refine h.of ?_ ?_
 ·unfold Ze8 Zfn; split <;> rfl
 ·simp [Ze8]
theorem Zd3 {m : Ld} {f : Fr} (h : Vo m f) : 0 ≤ f.fr ∧ f.fr < m.w.length ∧ f.kd = m.wait := ⟨h.2.2.2.2.1, h.2.2.2.2.2.1, h.1⟩
theorem or_int (a k : Nat) : (((a : Int).toNat ||| ((1 : Int) * 2 ^ (k : Int).toNat).toNat : Nat) : Int) = ((a ||| 2 ^ k : Nat) : Int) := by
 have : ((1 : Int) * 2 ^ (k : Int).toNat) = ((2 ^ k : Nat) : Int) := by simp
 rw [this]; rfl
theorem or_ok {a k : Nat} (ha : a < 128) (hk : k < 7) : 0 ≤ (a : Int) ∧ (a : Int) ≤ Zac .i64 ∧ 0 ≤ (1 : Int) * 2 ^ (k : Int).toNat ∧ (1 : Int) * 2 ^ (k : Int).toNat ≤ Zac .i64 := by
 have e : ((1 : Int) * 2 ^ (k : Int).toNat) = ((2 ^ k : Nat) : Int) := by simp
 have : 2 ^ k < 2 ^ 7 := Nat.pow_lt_pow_right (by decide) hk
 rw [e]
 simp only [Zac]
 generalize 2 ^ k = q at *
 omega
theorem full_int (n : Nat) : ((1 : Int) * 2 ^ (n : Int).toNat - 1) = ((2 ^ n - 1 : Nat) : Int) := by
 have e : ((1 : Int) * 2 ^ (n : Int).toNat) = ((2 ^ n : Nat) : Int) := by simp
 have := Nat.two_pow_pos n
 rw [e]; generalize 2 ^ n = q at *; omega
theorem shl_le {n : Nat} (h : n ≤ 7) : 1 ≤ (1 : Int) * 2 ^ (n : Int).toNat ∧ (1 : Int) * 2 ^ (n : Int).toNat ≤ 128 := by
 have e : ((1 : Int) * 2 ^ (n : Int).toNat) = ((2 ^ n : Nat) : Int) := by simp
 have := Nat.two_pow_pos n
 have : 2 ^ n ≤ 2 ^ 7 := Nat.pow_le_pow_right (by decide) h
 rw [e]; generalize 2 ^ n = q at *; omega
end Go.HL
end

/-! LdC -/
section
namespace Go.HL
open Go Go.Proofs
set_option linter.unusedVariables false
set_option linter.unusedSimpArgs false
set_option maxHeartbeats 2000000 attribute [local irreducible] HW HO HQ HD HC QOp Has Upd Zp Gets Yf Z8 Zr X3 Z9 Zj Wa Zy
attribute [local irreducible] Y5
theorem Zji (T : Nat) (E : Nat → Addr) (lp : Nat) (wv : Value) (wc : List Zn) (m : Ld) (f : Fr) (L : Zb) (hG : Er T E [2, 3, 4] L) (hm : LdOk wv wc m) (hh : m.heard < 2 ^ m.w.length) (hw : m.wait ≠ 0) (hfit : Vo m f) (hy : f.yes = true) (hkd : f.kd = 2) :
  HC Tryz.prog 101 [pt lp 0, .agg ⟨fc f⟩] (Vr lp wv wc m :: L) (fun v L' => ∃ c, Xq v (Xj (Ze8 m f)).2 c ∧ L' = c :: Vr lp wv wc (Xj (Ze8 m f)).1 :: L) := by
 have hm2 := hm.m2 f
 have hlen := hm.len
 have htl := hm.told
 have hh7 : m.heard < 128 := Nat.lt_of_lt_of_le hh (Nat.pow_le_pow_right (by decide) hlen)
 have kf : ∀ L, _ := fun L => Zbv lp wv wc m f L hm hh7
 obtain ⟨a, cap, rfl, hcap, hR⟩ := hm.vec.rd Xl
 generalize hwv : Value.slice a m.w.length cap = wv at *
 obtain ⟨hfr, hfr2, hk0⟩ := Zd3 hfit
 rw [decide_eq_true hfit] at kf
 clear hfit
 obtain ⟨fr, to, dl0, kd, att, yes, s⟩ := f
 simp only at hy hfr hfr2 hkd hk0
 subst hy hkd
 obtain ⟨k, rfl⟩ := Int.eq_ofNat_of_zero_le hfr
 have hk7 : k < m.w.length := by omega
 generalize hM : Ze8 m ⟨k, to, dl0, 2, att, true, s⟩ = M at *
 have eM : M = { m with heard := m.heard ||| 2 ^ k, told := m.told.set k s } := by rw [← hM]; rfl
 have e1 : M.w = m.w := by rw [eM]
 have e2 : M.wait = 2 := by rw [eM]; exact hk0.symm
 have e3 : M.heard < 128 := by rw [eM]; exact Zf5 (n := 7) hh7 (by omega)
 have g3 : (Y5 wv M)[0 + 3]? = some (.slice a m.w.length cap) := by rw [hwv]; exact Yt rfl
 have g5 : (Y5 wv m)[0 + 5]? = some (iv m.wait) := Yt rfl
 have g5' : (Y5 wv M)[0 + 5]? = some (iv 2) := by rw [← e2]; exact Yt rfl
 have g6 : (Y5 wv m)[0 + 6]? = some (iv m.heard) := Yt rfl
 have g6' : (Y5 wv M)[0 + 6]? = some (iv M.heard) := Yt rfl
 have p6 : Zp (Y5 wv m) (0 + 6) [iv (((m.heard : Int).toNat ||| ((1 : Int) * 2 ^ (k : Int).toNat).toNat : Nat) : Int)] (Y5 wv { m with heard := m.heard ||| 2 ^ k }) := by
  rw [or_int]; exact Vz rfl (by decide) rfl rfl rfl
 have pT : Zp (Y5 wv { m with heard := m.heard ||| 2 ^ k }) (0 + 7 + (k : Int).toNat * 3) (sc s) (Y5 wv M) := by
  rw [eM]; exact Zpw (m := { m with heard := m.heard ||| 2 ^ k }) s (by show k < m.told.length; omega)
 have hsh := Zem (k := k) (by omega)
 have hor := or_ok hh7 (show k < 7 by omega)
 have hsh2 := Zem (k := m.w.length) (by omega)
 have hsh3 := shl_le hlen
 have hfull := full_int m.w.length
 have ke : ∀ b o, HC Tryz.prog 137 [.slice a m.w.length cap, iv M.heard] ([(b, o)] :: Vr lp wv wc M :: L) (fun v L' => v = .tuple ⟨[.bool (Xt m.w M.heard).1, eV T E (Xt m.w M.heard).2]⟩ ∧ L' = [(b, o)] :: Vr lp wv wc M :: L) := fun b o =>
  Zco T E a cap m.w M.heard _ ((hG.cons _).cons _) (((hR L).inn _).cons _) (by omega) (by omega)
 have kp := Zbs lp wv wc M 4
 have hc1 : M.heard = 2 ^ M.w.length - 1 → Xj M = Zoc M 4 := fun h => if_pos ⟨e2, h⟩
 have hc2 : ¬ M.heard = 2 ^ M.w.length - 1 → Xj M = (M, []) := fun h => by unfold Xj; rw [if_neg (fun h2 => h h2.2), if_pos (.inl e2)]
 clear eM hM
 refine Za (fun _ _ => Tryz.call101 _ _) Tryz.func101 rfl Tryz.ntmps101 (Nat.le_of_ble_eq_true rfl) ?_; simp only [Ze, Nat.reduceAdd]
 repeat' (first | refine uN ?_ | refine Yb S ?_ | refine Yv S ?_ | refine Vk (qC (V2 kf 1)) ?_ | refine Zdf (qC (V2 kf 1)) ?_ | refine uC (ke _ _) ?_ | refine Yx (fun _ => V2 kf 1) ?_ | refine Y0 (fun _ => V2 kf 1) ?_ | refine Yz (fun _ => V2 kf 1) ?_ | refine Yy (fun _ => V2 kf 1) ?_ | refine Yx (fun _ => ke _ _) ?_ | refine Y0 (fun _ => ke _ _) ?_ | refine Yz (fun _ => ke _ _) ?_ | refine Yy (fun _ => ke _ _) ?_ | (refine uB ?_; intro b) | (refine uP ?_ ?_ <;> (intro h; ((try simp only [zs, ne_eq, and_true, true_and, eq_self, reduceCtorEq] at h); try exact zx))) | refine da 101 ?_ | fail)
 ·rw [hc1 (by rw [e1]; omega)]
  refine fo 1 ?_
  refine gc (kp _ hm2) ?_
  rintro v L' ⟨c, hv, rfl⟩
  repeat' (first | refine uN ?_ | refine Yb S ?_ | refine Yv S ?_ | (refine uB ?_; intro b) | (refine uP ?_ ?_ <;> (intro h; ((try simp only [zs, ne_eq, and_true, true_and, eq_self, reduceCtorEq] at h); try exact zx))) | refine da 101 ?_ | fail)
  exact Xm uZ ⟨c, hv, rfl⟩
 ·rw [hc2 (by rw [e1]; omega)]
  exact Xm (L' := [] :: Vr lp wv wc M :: L) (LS.skip _ (LS.refl _)) ⟨[], Yh, rfl⟩
theorem Zjj (T : Nat) (E : Nat → Addr) (lp : Nat) (wv : Value) (wc : List Zn) (m : Ld) (f : Fr) (L : Zb) (hG : Er T E [2, 3, 4] L) (hm : LdOk wv wc m) (hh : m.heard < 2 ^ m.w.length) (hw : m.wait ≠ 0) (hfit : Vo m f) (hy : f.yes = true) (hkd : f.kd ≠ 2) :
  HC Tryz.prog 101 [pt lp 0, .agg ⟨fc f⟩] (Vr lp wv wc m :: L) (fun v L' => ∃ c, Xq v (Xj (Ze8 m f)).2 c ∧ L' = c :: Vr lp wv wc (Xj (Ze8 m f)).1 :: L) := by
 have hm2 := hm.m2 f
 have hlen := hm.len
 have htl := hm.told
 have hh7 : m.heard < 128 := Nat.lt_of_lt_of_le hh (Nat.pow_le_pow_right (by decide) hlen)
 have kf : ∀ L, _ := fun L => Zbv lp wv wc m f L hm hh7
 obtain ⟨a, cap, rfl, hcap, hR⟩ := hm.vec.rd Xl
 generalize hwv : Value.slice a m.w.length cap = wv at *
 obtain ⟨hfr, hfr2, hk0⟩ := Zd3 hfit
 rw [decide_eq_true hfit] at kf
 clear hfit
 obtain ⟨fr, to, dl0, kd, att, yes, s⟩ := f
 simp only at hy hfr hfr2 hkd hk0
 subst hy
 obtain ⟨k, rfl⟩ := Int.eq_ofNat_of_zero_le hfr
 have hk7 : k < m.w.length := by omega
 generalize hM : Ze8 m ⟨k, to, dl0, kd, att, true, s⟩ = M at *
 have eM : M = { m with seen := max m.seen s.pr, heard := m.heard ||| 2 ^ k, told := m.told.set k s } := by rw [← hM]; simp only [Ze8, Zfn, if_neg hkd]; rfl
 have e1 : M.w = m.w := by rw [eM]
 have e2 : M.wait = kd := by rw [eM]; exact hk0.symm
 have e3 : M.heard < 128 := by rw [eM]; exact Zf5 (n := 7) hh7 (by omega)
 have g3 : (Y5 wv M)[0 + 3]? = some (.slice a m.w.length cap) := by rw [hwv]; exact Yt rfl
 have g5 : (Y5 wv m)[0 + 5]? = some (iv m.wait) := Yt rfl
 have g5' : (Y5 wv M)[0 + 5]? = some (iv kd) := by rw [← e2]; exact Yt rfl
 have g6 : (Y5 wv { m with seen := max m.seen s.pr })[0 + 6]? = some (iv m.heard) := Yt rfl
 have g6' : (Y5 wv M)[0 + 6]? = some (iv M.heard) := Yt rfl
 have g8' : (Y5 wv M)[0 + 28]? = some (iv M.phase) := ld_phase hm2.told
 have g9 : (Y5 wv m)[0 + 29]? = some (iv m.seen) := Zif htl
 have p9 : Zp (Y5 wv m) (0 + 29) [iv (max m.seen s.pr)] (Y5 wv { m with seen := max m.seen s.pr }) := Zj4 htl _
 have p6 : Zp (Y5 wv { m with seen := max m.seen s.pr }) (0 + 6) [iv (((m.heard : Int).toNat ||| ((1 : Int) * 2 ^ (k : Int).toNat).toNat : Nat) : Int)] (Y5 wv { m with seen := max m.seen s.pr, heard := m.heard ||| 2 ^ k }) := by
  rw [or_int]; exact Vz rfl (by decide) rfl rfl rfl
 have pT : Zp (Y5 wv { m with seen := max m.seen s.pr, heard := m.heard ||| 2 ^ k }) (0 + 7 + (k : Int).toNat * 3) (sc s) (Y5 wv M) := by
  rw [eM]; exact Zpw (m := { m with seen := max m.seen s.pr, heard := m.heard ||| 2 ^ k }) s (by show k < m.told.length; omega)
 have hsh := Zem (k := k) (by omega)
 have hor := or_ok hh7 (show k < 7 by omega)
 have ke : ∀ b o, HC Tryz.prog 137 [.slice a m.w.length cap, iv M.heard] ([(b, o)] :: Vr lp wv wc M :: L) (fun v L' => v = .tuple ⟨[.bool (Xt m.w M.heard).1, eV T E (Xt m.w M.heard).2]⟩ ∧ L' = [(b, o)] :: Vr lp wv wc M :: L) := fun b o =>
  Zco T E a cap m.w M.heard _ ((hG.cons _).cons _) (((hR L).inn _).cons _) (by omega) (by omega)
 have kd1 := Qs lp wv wc M (Vs M.phase)
 have kd2 := Qs lp wv wc M (Y8 (W8 M)).1
 have kp := Zbs lp wv wc M (Y8 (W8 M)).1
 have ks := fun L => Zig lp wv wc M L hm2 e3
 have hst : (W8 M).length ≤ 7 := by
  have := Qf (Zir M) (Zps M) M.w.length
  have e9 : M.w.length = m.w.length := by rw [e1]
  show ((List.range M.w.length).flatMap (Zir M)).length ≤ 7
  omega
 have hc0 : ¬ (M.wait = 2 ∧ M.heard = 2 ^ M.w.length - 1) := by rw [e2]; exact fun h => hkd h.1
 have hc1 : (Xt m.w M.heard).1 = false → Xj M = (M, []) := fun h => by unfold Xj; rw [if_neg hc0, e1, if_pos (.inr h)]
 have hc2 : (Xt m.w M.heard).1 = true → kd = 6 → Xj M = Zf0 M (Vs M.phase) := fun h h6 => by unfold Xj; rw [if_neg hc0, e1, if_neg (by rw [h, e2]; simp [hkd]), e2, if_pos h6]
 have hc3 : (Xt m.w M.heard).1 = true → kd ≠ 6 → Xj M = if (Y8 (W8 M)).2 then Zf0 M (Y8 (W8 M)).1 else Zoc M (Y8 (W8 M)).1 := fun h h6 => by unfold Xj; rw [if_neg hc0, e1, if_neg (by rw [h, e2]; simp [hkd]), e2, if_neg h6]
 generalize (Xt m.w M.heard).1 = en at *
 clear eM hM hc0
 refine Za (fun _ _ => Tryz.call101 _ _) Tryz.func101 rfl Tryz.ntmps101 (Nat.le_of_ble_eq_true rfl) ?_; simp only [Ze, Nat.reduceAdd]
 repeat' (first | refine uN ?_ | refine Yb S ?_ | refine Yv S ?_ | refine Vk (qC (V2 kf 1)) ?_ | refine Zdf (qC (V2 kf 1)) ?_ | refine uC (ke _ _) ?_ | refine uC (Yd _ _) ?_ | refine Yx (fun _ => V2 kf 1) ?_ | refine Y0 (fun _ => V2 kf 1) ?_ | refine Yz (fun _ => V2 kf 1) ?_ | refine Yy (fun _ => V2 kf 1) ?_ | refine Yx (fun _ => ke _ _) ?_ | refine Y0 (fun _ => ke _ _) ?_ | refine Yz (fun _ => ke _ _) ?_ | refine Yy (fun _ => ke _ _) ?_ | refine Yx (fun _ => Yd _ _) ?_ | refine Y0 (fun _ => Yd _ _) ?_ | refine Yz (fun _ => Yd _ _) ?_ | refine Yy (fun _ => Yd _ _) ?_ | (refine uB ?_; intro b) | (refine uP ?_ ?_ <;> (intro h; ((try simp only [zs, ne_eq, and_true, true_and, eq_self, reduceCtorEq] at h); try exact zx))) | refine da 101 ?_ | fail)
 ·rw [hc1 h]
  exact Xm (L' := [] :: Vr lp wv wc M :: L) (LS.skip _ (LS.refl _)) ⟨[], Yh, rfl⟩
 ·rename_i hen
  rw [hc2 hen h]
  refine fo 1 ?_
  refine gc (kd1 _ hm2) ?_
  rintro v L' ⟨c, hv, rfl⟩
  repeat' (first | refine uN ?_ | refine Yb S ?_ | refine Yv S ?_ | (refine uB ?_; intro b) | (refine uP ?_ ?_ <;> (intro h; ((try simp only [zs, ne_eq, and_true, true_and, eq_self, reduceCtorEq] at h); try exact zx))) | refine da 101 ?_ | fail)
  exact Xm uZ ⟨c, hv, rfl⟩
 ·rename_i hen
  rw [hc3 hen h]
  refine fo 1 ?_
  refine gc (ks _) ?_
  rintro v L' ⟨c, hv, rfl⟩
  obtain ⟨a2, cap2, rfl, hcap2, hR2⟩ := hv.rd Zdh
  have kc := fun L => Zit a2 cap2 (W8 M) (c :: L) (hR2 L) (by omega)
  repeat' (first | refine uN ?_ | refine Yb S ?_ | refine Yv S ?_ | refine uC (kc _) ?_ | refine Yx (fun _ => kc _) ?_ | refine Y0 (fun _ => kc _) ?_ | refine Yz (fun _ => kc _) ?_ | refine Yy (fun _ => kc _) ?_ | (refine uB ?_; intro b) | (refine uP ?_ ?_ <;> (intro h; ((try simp only [zs, ne_eq, and_true, true_and, eq_self, reduceCtorEq] at h); try exact zx))) | refine da 101 ?_ | fail)
  ·rename_i hfin
   rw [if_pos h]
   refine fo 1 ?_
   refine gc (kd2 _ hm2) ?_
   rintro v L' ⟨c3, hv3, rfl⟩
   repeat' (first | refine uN ?_ | refine Yb S ?_ | refine Yv S ?_ | (refine uB ?_; intro b) | (refine uP ?_ ?_ <;> (intro h; ((try simp only [zs, ne_eq, and_true, true_and, eq_self, reduceCtorEq] at h); try exact zx))) | refine da 101 ?_ | fail)
   exact Xm uZ ⟨c3, hv3, rfl⟩
  ·rename_i hfin
   rw [if_neg (by simp [h])]
   refine fo 1 ?_
   refine gc (kp _ hm2) ?_
   rintro v L' ⟨c3, hv3, rfl⟩
   repeat' (first | refine uN ?_ | refine Yb S ?_ | refine Yv S ?_ | (refine uB ?_; intro b) | (refine uP ?_ ?_ <;> (intro h; ((try simp only [zs, ne_eq, and_true, true_and, eq_self, reduceCtorEq] at h); try exact zx))) | refine da 101 ?_ | fail)
   exact Xm uZ ⟨c3, hv3, rfl⟩
theorem Zfi (T : Nat) (E : Nat → Addr) (lp : Nat) (wv : Value) (wc : List Zn) (m : Ld) (f : Fr) (L : Zb) (hG : Er T E [2, 3, 4] L) (hm : LdOk wv wc m) (hh : m.heard < 2 ^ m.w.length) :
  HC Tryz.prog 101 [pt lp 0, .agg ⟨fc f⟩] (Vr lp wv wc m :: L) (fun v L' => ∃ c, Xq v (Yc m f).2 c ∧ L' = c :: Vr lp wv wc (Yc m f).1 :: L) := by
 have hh7 : m.heard < 128 := Nat.lt_of_lt_of_le hh (Nat.pow_le_pow_right (by decide) hm.len)
 have kf : ∀ L, _ := fun L => Zbv lp wv wc m f L hm hh7
 have g5 : (Y5 wv m)[0 + 5]? = some (iv m.wait) := Yt rfl
 by_cases hw : m.wait = 0 ∨ ¬ Vo m f
 ·rw [Zqe hw]
  by_cases h0 : m.wait = 0
  ·refine Za (fun _ _ => Tryz.call101 _ _) Tryz.func101 rfl Tryz.ntmps101 (Nat.le_of_ble_eq_true rfl) ?_; simp only [Ze, Nat.reduceAdd]
   repeat' (first | refine uN ?_ | refine Yb S ?_ | refine Yv S ?_ | (refine uB ?_; intro b) | (refine uP ?_ ?_ <;> (intro h; ((try simp only [zs, ne_eq, and_true, true_and, eq_self, reduceCtorEq] at h); try exact zx))) | refine da 101 ?_ | fail)
   exact Xm (L' := [] :: Vr lp wv wc m :: L) (LS.skip _ (LS.refl _)) ⟨[], Yh, rfl⟩
  ·rw [decide_eq_false (by rcases hw with h | h; exact absurd h h0; exact h)] at kf
   refine Za (fun _ _ => Tryz.call101 _ _) Tryz.func101 rfl Tryz.ntmps101 (Nat.le_of_ble_eq_true rfl) ?_; simp only [Ze, Nat.reduceAdd]
   repeat' (first | refine uN ?_ | refine Yb S ?_ | refine Yv S ?_ | refine Vk (qC (V2 kf 1)) ?_ | refine Zdf (qC (V2 kf 1)) ?_ | refine Yx (fun _ => V2 kf 1) ?_ | refine Y0 (fun _ => V2 kf 1) ?_ | refine Yz (fun _ => V2 kf 1) ?_ | refine Yy (fun _ => V2 kf 1) ?_ | (refine uB ?_; intro b) | (refine uP ?_ ?_ <;> (intro h; ((try simp only [zs, ne_eq, and_true, true_and, eq_self, reduceCtorEq] at h); try exact zx))) | refine da 101 ?_ | fail)
   exact Xm (L' := [] :: Vr lp wv wc m :: L) (LS.skip _ (LS.refl _)) ⟨[], Yh, rfl⟩
 ·have hfit : Vo m f := by
   by_cases h : Vo m f
   ·exact h
   ·exact absurd (.inr h) hw
  have hw0 : m.wait ≠ 0 := fun h => hw (.inl h)
  by_cases hy : f.yes = true
  ·have e : Yc m f = Xj (Ze8 m f) := by unfold Yc; rw [if_neg hw, if_neg (by simp [hy])]
   rw [e]
   by_cases hkd : f.kd = 2
   ·exact Zji T E lp wv wc m f L hG hm hh hw0 hfit hy hkd
   ·exact Zjj T E lp wv wc m f L hG hm hh hw0 hfit hy hkd
  ·have hy' : f.yes = false := by simpa using hy
   have e : Yc m f = noM (Zfn m f) := by unfold Yc; rw [if_neg hw, if_pos hy']
   rw [e]
   rw [decide_eq_true hfit] at kf
   clear hw hfit e
   have kn := no_calls lp wv wc (Zfn m f)
   have hm1 := hm.m1 f
   have g9 : (Y5 wv m)[0 + 29]? = some (iv m.seen) := Zif hm.told
   by_cases hkd : f.kd = 2
   ·have e1 : Zfn m f = m := if_pos hkd
    rw [e1] at kn hm1 ⊢
    refine Za (fun _ _ => Tryz.call101 _ _) Tryz.func101 rfl Tryz.ntmps101 (Nat.le_of_ble_eq_true rfl) ?_; simp only [Ze, Nat.reduceAdd]
    repeat' (first | refine uN ?_ | refine Yb S ?_ | refine Yv S ?_ | refine Vk (qC (V2 kf 1)) ?_ | refine Zdf (qC (V2 kf 1)) ?_ | refine Yx (fun _ => V2 kf 1) ?_ | refine Y0 (fun _ => V2 kf 1) ?_ | refine Yz (fun _ => V2 kf 1) ?_ | refine Yy (fun _ => V2 kf 1) ?_ | (refine uB ?_; intro b) | (refine uP ?_ ?_ <;> (intro h; ((try simp only [zs, ne_eq, and_true, true_and, eq_self, reduceCtorEq] at h); try exact zx))) | refine da 101 ?_ | fail)
    refine fo 1 ?_
    refine gc (kn _ hm1) ?_
    rintro v L' ⟨c, hv, rfl⟩
    repeat' (first | refine uN ?_ | refine Yb S ?_ | refine Yv S ?_ | (refine uB ?_; intro b) | (refine uP ?_ ?_ <;> (intro h; ((try simp only [zs, ne_eq, and_true, true_and, eq_self, reduceCtorEq] at h); try exact zx))) | refine da 101 ?_ | fail)
    exact Xm uZ ⟨c, hv, rfl⟩
   ·have p9 : Zp (Y5 wv m) (0 + 29) [iv (max m.seen f.s.pr)] (Y5 wv (Zfn m f)) := by
     unfold Zfn; rw [if_neg hkd]; exact Zj4 hm.told _
    refine Za (fun _ _ => Tryz.call101 _ _) Tryz.func101 rfl Tryz.ntmps101 (Nat.le_of_ble_eq_true rfl) ?_; simp only [Ze, Nat.reduceAdd]
    repeat' (first | refine uN ?_ | refine Yb S ?_ | refine Yv S ?_ | refine Vk (qC (V2 kf 1)) ?_ | refine Zdf (qC (V2 kf 1)) ?_ | refine Yx (fun _ => V2 kf 1) ?_ | refine Y0 (fun _ => V2 kf 1) ?_ | refine Yz (fun _ => V2 kf 1) ?_ | refine Yy (fun _ => V2 kf 1) ?_ | (refine uB ?_; intro b) | (refine uP ?_ ?_ <;> (intro h; ((try simp only [zs, ne_eq, and_true, true_and, eq_self, reduceCtorEq] at h); try exact zx))) | refine da 101 ?_ | fail)
    refine fo 1 ?_
    refine gc (kn _ hm1) ?_
    rintro v L' ⟨c, hv, rfl⟩
    repeat' (first | refine uN ?_ | refine Yb S ?_ | refine Yv S ?_ | (refine uB ?_; intro b) | (refine uP ?_ ?_ <;> (intro h; ((try simp only [zs, ne_eq, and_true, true_and, eq_self, reduceCtorEq] at h); try exact zx))) | refine da 101 ?_ | fail)
    exact Xm uZ ⟨c, hv, rfl⟩
end Go.HL
end

/-! WgC -/
section
namespace Go.HL
open Go Go.Proofs
set_option linter.unusedVariables false
set_option linter.unusedSimpArgs false
set_option maxHeartbeats 2000000 attribute [local irreducible] HW HO HQ HD HC QOp Has Upd Zp Gets Yf Z8 Zr X3 Z9 Zj Wa Zy

end Go.HL
end

/-! LdD -/
section
namespace Go.HL
open Go Go.Proofs
set_option linter.unusedVariables false
set_option linter.unusedSimpArgs false
def Zk (id deal : Int) (w : List Int) (att wait : Int) : Ld := ⟨id, deal, att, w, sAsking, wait, 0, List.replicate 7 W3, 0, 0⟩
def Zaq (id deal : Int) (w : List Int) (att : Int) : Option Nat := match X1 w with
 | some e => some e
 | none => if id < 0 ∨ w.length ≤ id ∨ deal < 0 ∨ 6 ≤ deal ∨ 1048576 < att then some 2 else none
def LdRes (T : Nat) (E : Nat → Addr) (e : Option Nat) (m : Ld) (L : Zb) (v : Value) (L' : Zb) : Prop := match e with
 | some x => v = .tuple ⟨[.pointer none, eV T E (some x)]⟩ ∧ L' = L
 | none => ∃ lp wv wc, v = .tuple ⟨[pt lp 0, .nilIface]⟩ ∧ LdOk wv wc m ∧ L' = Vr lp wv wc m :: L
def tryE (id deal : Int) (w : List Int) (att : Int) : Option Nat := match Zaq id deal w att with
 | some e => some e
 | none => if att < 1 then some 2 else none
set_option maxHeartbeats 2000000 attribute [local irreducible] HW HO HQ HD HC QOp Has Upd Zp Gets Yf Z8 Zr X3 Z9 Zj Wa Zy
theorem Zfw (T : Nat) (E : Nat → Addr) (id deal : Int) (a : Option Addr) (cap : Nat) (w : List Int) (att wait : Int) (L : Zb) (hG : Er T E [2, 3, 4] L) (hR : Rd ic 1 L a w) (hl : w.length ≤ 1000000) :
  HC Tryz.prog 131 [iv id, iv deal, .slice a w.length cap, iv att, iv wait] L (LdRes T E (Zaq id deal w att) (Zk id deal w att wait) L) := by
 have kc := Zah T E a cap w L hG hR hl
 cases hc : X1 w with
 | some e =>
  rw [hc] at kc
  rw [show Zaq id deal w att = some e by unfold Zaq; rw [hc]]
  refine Za (fun _ _ => Tryz.call131 _ _) Tryz.func131 rfl Tryz.ntmps131 (Nat.le_of_ble_eq_true rfl) ?_; simp only [Ze, Nat.reduceAdd]
  repeat' (first | refine uN ?_ | refine Z0 S ?_ | refine uC (kc) ?_ | refine Yx (fun _ => kc) ?_ | refine Y0 (fun _ => kc) ?_ | refine Yz (fun _ => kc) ?_ | refine Yy (fun _ => kc) ?_ | (refine uB ?_; intro b) | refine dg S 100 (fun _ _ => ?_) | (refine uP ?_ ?_ <;> (intro h; ((try simp only [zs, ne_eq, and_true, true_and, eq_self, reduceCtorEq] at h); try exact zx))) | refine da 101 ?_ | fail)
  exact Ve (LS.refl _) ⟨rfl, rfl⟩
 | none =>
  rw [hc] at kc
  obtain ⟨c1, c2, c3, c4⟩ := Ub hc
  have hle : Zaq id deal w att = if id < 0 ∨ w.length ≤ id ∨ deal < 0 ∨ 6 ≤ deal ∨ 1048576 < att then some 2 else none := by unfold Zaq; rw [hc]
  refine Za (fun _ _ => Tryz.call131 _ _) Tryz.func131 rfl Tryz.ntmps131 (Nat.le_of_ble_eq_true rfl) ?_; simp only [Ze, Nat.reduceAdd]
  repeat' (first | refine uN ?_ | refine Z0 S ?_ | refine uC (kc) ?_ | refine Yx (fun _ => kc) ?_ | refine Y0 (fun _ => kc) ?_ | refine Yz (fun _ => kc) ?_ | refine Yy (fun _ => kc) ?_ | (refine uB ?_; intro b) | refine dg S 100 (fun _ _ => ?_) | (refine uP ?_ ?_ <;> (intro h; ((try simp only [zs, ne_eq, and_true, true_and, eq_self, reduceCtorEq] at h); try exact zx))) | refine da 101 ?_ | fail)
  all_goals first | (rw [hle, if_pos (by omega)]; exact Ve (LS.refl _) ⟨rfl, rfl⟩; done) | skip
  rw [hle, if_neg (by omega)]
  refine ho_nilc ?_
  refine wpA S (enc := ic) (xs := []) (ys := w) Yh ((hR.cons _).cons _) Xl Zoa ?_ (by rfl) (by rfl) (by rfl) (by rfl) (by rfl) (by rfl) (by rfl) (by rfl) (by rfl) (by simp only [List.length_nil]; omega) (by simp only [List.length_nil]; omega)
  intro v' c' hv
  rw [List.nil_append] at hv
  obtain ⟨a', cap', rfl, -⟩ := hv.rd Xl
  repeat' (first | refine uN ?_ | refine Z0 S ?_ | refine uC (kc) ?_ | refine Yx (fun _ => kc) ?_ | refine Y0 (fun _ => kc) ?_ | refine Yz (fun _ => kc) ?_ | refine Yy (fun _ => kc) ?_ | (refine uB ?_; intro b) | refine dg S 100 (fun _ _ => ?_) | (refine uP ?_ ?_ <;> (intro h; ((try simp only [zs, ne_eq, and_true, true_and, eq_self, reduceCtorEq] at h); try exact zx))) | refine da 101 ?_ | fail)
  refine Ve (L' := Vr b (.slice a' w.length cap') c' (Zk id deal w att wait) :: L) ?_ ⟨_, _, _, rfl, ⟨hv, rfl, c2⟩, rfl⟩
  refine LS.of_perm ?_
  simp only [Vr, List.flatten_cons, List.cons_append, List.nil_append]
  exact List.perm_middle.symm
theorem Zmk (T : Nat) (E : Nat → Addr) (id deal : Int) (a : Option Addr) (cap : Nat) (w : List Int) (L : Zb) (hG : Er T E [2, 3, 4] L) (hR : Rd ic 1 L a w) (hl : w.length ≤ 1000000) :
  HC Tryz.prog 94 [iv id, iv deal, .slice a w.length cap] L (LdRes T E (Zaq id deal w 0) (Zk id deal w 0 2) L) := by
 have kc := Zfw T E id deal a cap w 0 2 L hG hR hl
 cases hc : Zaq id deal w 0 with
 | some e =>
  rw [hc] at kc
  refine Za (fun _ _ => Tryz.call94 _ _) Tryz.func94 rfl Tryz.ntmps94 (Nat.le_of_ble_eq_true rfl) ?_; simp only [Ze, Nat.reduceAdd]
  repeat' (first | refine uN ?_)
  refine gc kc ?_
  rintro v L' ⟨rfl, rfl⟩
  repeat' (first | refine uN ?_)
  exact Ve (LS.refl _) ⟨rfl, rfl⟩
 | none =>
  rw [hc] at kc
  refine Za (fun _ _ => Tryz.call94 _ _) Tryz.func94 rfl Tryz.ntmps94 (Nat.le_of_ble_eq_true rfl) ?_; simp only [Ze, Nat.reduceAdd]
  repeat' (first | refine uN ?_)
  refine gc kc ?_
  rintro v L' ⟨lp, wv, wc, rfl, hv, rfl⟩
  repeat' (first | refine uN ?_)
  exact Ve (LS.refl _) ⟨_, _, _, rfl, hv, rfl⟩
theorem Zrx (T : Nat) (E : Nat → Addr) (id deal : Int) (a : Option Addr) (cap : Nat) (w : List Int) (att : Int) (L : Zb) (hG : Er T E [2, 3, 4] L) (hR : Rd ic 1 L a w) (hl : w.length ≤ 1000000) :
  HC Tryz.prog 134 [iv id, iv deal, .slice a w.length cap, iv att] L (LdRes T E (tryE id deal w att) (Zk id deal w att 4) L) := by
 have kc := Zfw T E id deal a cap w att 4 L hG hR hl
 unfold tryE
 cases hc : Zaq id deal w att with
 | some e =>
  rw [hc] at kc
  refine Za (fun _ _ => Tryz.call134 _ _) Tryz.func134 rfl Tryz.ntmps134 (Nat.le_of_ble_eq_true rfl) ?_; simp only [Ze, Nat.reduceAdd]
  repeat' (first | refine uN ?_ | refine Yb S ?_ | (refine uP ?_ ?_ <;> (intro h; ((try simp only [zs, ne_eq, and_true, true_and, eq_self, reduceCtorEq] at h); try exact zx))) | fail)
  refine gc kc ?_
  rintro v L' ⟨rfl, rfl⟩
  repeat' (first | refine uN ?_ | refine Z0 S ?_ | refine dg S 100 (fun _ _ => ?_) | (refine uP ?_ ?_ <;> (intro h; ((try simp only [zs, ne_eq, and_true, true_and, eq_self, reduceCtorEq] at h); try exact zx))) | refine da 101 ?_ | fail)
  exact Ve (LS.refl _) ⟨rfl, rfl⟩
 | none =>
  rw [hc] at kc
  refine Za (fun _ _ => Tryz.call134 _ _) Tryz.func134 rfl Tryz.ntmps134 (Nat.le_of_ble_eq_true rfl) ?_; simp only [Ze, Nat.reduceAdd]
  repeat' (first | refine uN ?_ | refine Yb S ?_ | (refine uP ?_ ?_ <;> (intro h; ((try simp only [zs, ne_eq, and_true, true_and, eq_self, reduceCtorEq] at h); try exact zx))) | fail)
  refine gc kc ?_
  rintro v L' ⟨lp, wv, wc, rfl, hv, rfl⟩
  have hG2 := hG.cons (Vr lp wv wc (Zk id deal w att 4))
  repeat' (first | refine uN ?_ | refine Z0 S ?_ | refine dg S 100 (fun _ _ => ?_) | (refine uP ?_ ?_ <;> (intro h; ((try simp only [zs, ne_eq, and_true, true_and, eq_self, reduceCtorEq] at h); try exact zx))) | refine da 101 ?_ | fail)
  ·rw [if_pos h]
   exact Ve (LS.skips _ (LS.refl _)) ⟨rfl, rfl⟩
  ·rw [if_neg h]
   exact Ve (LS.refl _) ⟨_, _, _, rfl, hv, rfl⟩
end Go.HL
end

/-! WoC -/
section
namespace Go.HL
open Go Go.Proofs
set_option linter.unusedVariables false
set_option linter.unusedSimpArgs false
structure Nd where
 pl : Pl
 site : Option (Jn × (Int → Bool))
 leads : List (Option Ld)
 done : List Bool
structure Wm where
 w : List Int
 n : List Nd
 br : Int × Int → Bool
 l : List Fr
 ev : List Evt
structure NdG where
 np : Nat
 bp : Nat
 ba : Nat
 sp : Nat
 bj : Nat
 mb : Nat
 es : List MapEntry
 ck : Nat
 ld : List (Nat × Value × List Zn)
def Zp1 : Option Ld → Nat × Value × List Zn → Value
 | none, _ => .pointer none
 | some _, g => pt g.1 0
def ldB : Option Ld → Nat × Value × List Zn → List Zn
 | none, _ => []
 | some m, g => Vr g.1 g.2.1 g.2.2 m
def Zdr (g : NdG) : Option (Jn × (Int → Bool)) → Value
 | none => .pointer none
 | some _ => pt g.sp 0
def siB (g : NdG) (i : Int) : Option (Jn × (Int → Bool)) → List Zn
 | none => []
 | some (j, _) => Zed g.sp g.bj g.mb i ++ Zej g.mb g.es g.ck ++ jC g.bj g.bp j
def X2 (sv : Value) (bp : Nat) (lv : List Value) (dn : List Bool) : List Value := [sv, pt bp 0] ++ lv ++ dn.map Value.bool
def Yk (g : NdG) (m : Nd) : List Value := List.zipWith Zp1 m.leads g.ld
def Qe (g : NdG) (m : Nd) : List Zn := (List.zipWith ldB m.leads g.ld).flatten
def Qc (g : NdG) (m : Nd) : Obj := .cells ⟨X2 (Zdr g m.site) g.bp (Yk g m) m.done⟩ 99
def Zab (g : NdG) (m : Nd) : List Zn := [(g.np, Qc g m)]
def Zfm (g : NdG) (i : Int) (m : Nd) : List Zn := Zab g m ++ Yo g.bp g.ba m.pl ++ siB g i m.site ++ Qe g m
def Vi : List NdG → List Nd → Nat → List Zn
 | g :: gs, m :: ms, i => Zfm g i m ++ Vi gs ms (i + 1)
 | _, _, _ => []
def X5 : List NdG → List Nd → Nat → Nat → List Zn
 | g :: gs, m :: ms, i, 0 => Vi gs ms (i + 1)
 | g :: gs, m :: ms, i, s + 1 => Zfm g i m ++ X5 gs ms (i + 1) s
 | _, _, _, _ => []
theorem Zfj : ∀ {gs : List NdG} {ms : List Nd} {i s : Nat} {g : NdG} {m : Nd}, gs[s]? = some g → ms[s]? = some m → List.Perm (Vi gs ms i) (Zfm g ((i + s : Nat) : Int) m ++ X5 gs ms i s)
 | [], _, _, _, _, _, h, _ => by simp at h
 | _ :: _, [], _, _, _, _, _, h => by simp at h
 | g0 :: gs, m0 :: ms, i, 0, g, m, h, h2 => by
  simp at h h2; subst h; subst h2
  exact .refl _
 | g0 :: gs, m0 :: ms, i, s + 1, g, m, h, h2 => by
  have ih := Zfj (gs := gs) (ms := ms) (i := i + 1) (s := s) (g := g) (m := m) (by simpa using h) (by simpa using h2)
  simp only [Vi, X5]
  rw [show i + (s + 1) = i + 1 + s by omega]
  refine (ih.append_left _).trans ?_
  rw [← List.append_assoc, ← List.append_assoc]
  exact List.perm_append_comm.append_right _
theorem Zo2 : ∀ {gs : List NdG} {ms : List Nd} {i s : Nat} {g : NdG} {m : Nd}, X5 (gs.set s g) (ms.set s m) i s = X5 gs ms i s
 | [], _, _, _, _, _ => by simp [X5]
 | _ :: _, [], _, s, _, _ => by cases s <;> simp [X5]
 | g0 :: gs, m0 :: ms, i, 0, g, m => rfl
 | g0 :: gs, m0 :: ms, i, s + 1, g, m => by
  simp only [List.set_cons_succ, X5]
  rw [Zo2]
structure WdG where
 wp : Nat
 wv : Value
 wc : List Zn
 nv : Value
 nc : List Zn
 mb : Nat
 es : List MapEntry
 ck : Nat
 lv : Value
 lc : List Zn
 ev : Value
 ec : List Zn
 nd : List NdG
def Ut (G : WdG) : Obj := .cells ⟨[G.wv, G.nv, .map (some G.mb), G.lv, G.ev]⟩ 87
def pc (p : Nat) : List Value := [pt p 0]
theorem Ze7 (p : Nat) : (pc p).length = 1 := rfl
theorem pc_one (p : Nat) : (pc p).all Value.oneCell' = true := rfl
def Zcc (G : WdG) : Zb := [[(G.wp, Ut G)], G.wc, G.nc, [(G.mb, .map ⟨G.es⟩ G.ck)], G.lc, G.ec]
def Ym (G : WdG) (M : Wm) : Zb := Zcc G ++ [Vi G.nd M.n 0]
structure LdI (w : List Int) (s d : Nat) (x : Ld) : Prop where
 ww : x.w = w
 id : x.id = s
 deal : x.deal = d
 att0 : 0 ≤ x.att
 att1 : x.att ≤ 1048576
 told : x.told.length = 7
 tok : ∀ t ∈ x.told, 0 ≤ t.ph ∧ t.ph ≤ 5
 heard : x.heard < 2 ^ w.length
 ph0 : 0 ≤ x.phase
 ph1 : x.phase ≤ 5
 seen0 : 0 ≤ x.seen
 seen1 : x.seen ≤ 1048576
structure NdI (w : List Int) (s : Nat) (m : Nd) : Prop where
 leads : m.leads.length = 6
 done : m.done.length = 6
 b512 : m.pl.b.length = 512
 si : SI m.pl ⟨Zv m.pl.b, m.pl.off⟩
 up : ∀ j ref, m.site = some (j, ref) → j = ⟨Zv m.pl.b, false⟩ ∧ m.pl.off = false
 dn : m.site = none → m.pl.off = true
 ldi : ∀ (d : Nat) x, m.leads[d]? = some (some x) → LdI w s d x
structure NdOk (g : NdG) (m : Nd) : Prop where
 ld : g.ld.length = 6
 lok : ∀ (d : Nat) x, m.leads[d]? = some (some x) → ∀ q, g.ld[d]? = some q → LdOk q.2.1 q.2.2 x
 map : ∀ j ref, m.site = some (j, ref) → Zy iv g.es ref
theorem NdI.pl {w : List Int} {s : Nat} {m : Nd} (h : NdI w s m) : PlOk m.pl := h.si.ji.pl
theorem NdI.jn {w : List Int} {s : Nat} {m : Nd} (h : NdI w s m) {j : Jn} {ref : Int → Bool} (hs : m.site = some (j, ref)) : SI m.pl j := by
 obtain ⟨e1, e2⟩ := h.up j ref hs
 have := h.si
 rw [e2] at this
 rw [e1]
 exact this
structure WI (M : Wm) : Prop where
 w0 : X1 M.w = none
 wl : M.w.length ≤ 7
 w1 : 1 ≤ M.w.length
 wn : M.n.length = M.w.length
 fr : ∀ f ∈ M.l, ¬ Ws f ∧ f.to < M.w.length ∧ f.fr < M.w.length
 evl : M.ev.length ≤ 500
 nd : ∀ (s : Nat) m, M.n[s]? = some m → NdI M.w s m
structure WdOk (G : WdG) (M : Wm) : Prop where
 w : Vec 3 1 ic G.wv M.w G.wc
 nodes : Vec 94 1 pc G.nv (G.nd.map (·.np)) G.nc
 ndl : G.nd.length = M.n.length
 br : Zy pk G.es M.br
 l : Xq G.lv M.l G.lc
 ev : Vec 114 3 ec G.ev M.ev G.ec
 nd : ∀ (s : Nat) g m, G.nd[s]? = some g → M.n[s]? = some m → NdOk g m
end Go.HL
end

/-! WoD -/
section
namespace Go.HL
open Go Go.Proofs
set_option linter.unusedVariables false
set_option linter.unusedSimpArgs false
structure WdIn (L : Zb) (G : WdG) (M : Wm) : Prop where
 wp : Has L G.wp (Ut G)
 ns : ∃ a cap, G.nv = .slice a M.n.length cap ∧ Rd pc 1 L a (G.nd.map (·.np))
 ws : ∃ a cap, G.wv = .slice a M.w.length cap ∧ Rd ic 1 L a M.w
 ls : ∃ a cap, G.lv = .slice a M.l.length cap ∧ Rd fc 9 L a M.l
 es : ∃ a cap, G.ev = .slice a M.ev.length cap
theorem Rd.mono {α : Type} {enc : α → List Value} {sz : Nat} {L L' : Zb} {a : Option Addr} {xs : List α} (h : Rd enc sz L a xs) (hl : ∀ b o, Has L b o → Has L' b o) : Rd enc sz L' a xs := by
 rcases h with h | ⟨b, i, l, E, fr, h1, hb, hg⟩
 ·exact .inl h
 ·exact .inr ⟨b, i, l, E, fr, h1, hl _ _ hb, hg⟩
theorem wdIn {L : Zb} {G : WdG} {M : Wm} (h : WdOk G M) (hl : ∀ b o, Has (Zcc G) b o → Has L b o) : WdIn L G M := by
 refine ⟨hl _ _ Zh, ?_, ?_, ?_, ?_⟩
 ·obtain ⟨a, cap, e, -, hR⟩ := h.nodes.rd Ze7
  refine ⟨a, cap, by rw [e, List.length_map, h.ndl], (hR []).mono fun b o hb => hl b o ?_⟩
  simp only [Has, List.flatten_cons, List.flatten_nil, List.append_nil, Zcc] at hb ⊢
  simp [hb]
 ·obtain ⟨a, cap, e, -, hR⟩ := h.w.rd Xl
  refine ⟨a, cap, e, (hR []).mono fun b o hb => hl b o ?_⟩
  simp only [Has, List.flatten_cons, List.flatten_nil, List.append_nil, Zcc] at hb ⊢
  simp [hb]
 ·obtain ⟨a, cap, e, -, hR⟩ := h.l.rd Zs
  refine ⟨a, cap, e, (hR []).mono fun b o hb => hl b o ?_⟩
  simp only [Has, List.flatten_cons, List.flatten_nil, List.append_nil, Zcc] at hb ⊢
  simp [hb]
 ·obtain ⟨a, cap, e, -, hR⟩ := h.ev.rd Qy
  exact ⟨a, cap, e⟩
def Xz (M : Wm) (s : Int) : Option Nat := if s < 0 ∨ M.n.length ≤ s then some 2 else none
def Zf (M : Wm) (s : Int) : Nd := M.n.getD s.toNat ⟨⟨[], false, 0⟩, none, [], []⟩
def Zgu (M : Wm) (s : Int) : Option Nat := match Xz M s with
 | some e => some e
 | none => if (Zf M s).site.isNone then some 6 else none
def Zg (G : WdG) (s : Int) : NdG := G.nd.getD s.toNat ⟨0, 0, 0, 0, 0, 0, [], 0, []⟩
theorem Yp {M : Wm} {s : Int} (h : Xz M s = none) : 0 ≤ s ∧ s < M.n.length := by
 unfold Xz at h
 split at h
 ·cases h
 ·omega
theorem nodeE_ok {M : Wm} {s : Int} (h0 : 0 ≤ s) (h1 : s < M.n.length) : Xz M s = none := if_neg (by omega)
theorem getD_some {α : Type} {l : List α} {i : Nat} {x : α} (h : i < l.length) : l[i]? = some (l.getD i x) := by simp [List.getD, h]
theorem wd_np {L : Zb} {G : WdG} {M : Wm} {s : Int} (hI : WdIn L G M) (hl : G.nd.length = M.n.length) (h0 : 0 ≤ s) (h1 : s < M.n.length) : ∃ b i l F fr cap, G.nv = sl b i M.n.length cap ∧ Has L b (.cells ⟨l⟩ F fr) ∧ l[i + s.toNat]? = some (pt (Zg G s).np 0) := by
 obtain ⟨a, cap, hnv, hR⟩ := hI.ns
 obtain ⟨b, i, l, F, fr, rfl, hb, hg⟩ := hR.at1 (j := s) h0 (by simp; omega)
 refine ⟨b, i, l, F, fr, cap, hnv, hb, ?_⟩
 have e : (G.nd.map (·.np))[s.toNat]'(by simp; omega) = (Zg G s).np := by
  rw [List.getElem_map]
  unfold Zg
  rw [List.getD, List.getElem?_eq_getElem (by omega)]
  rfl
 rw [e] at hg
 exact hg 0 _ rfl
theorem Xd {sv : Value} {bp : Nat} {lv : List Value} {dn : List Bool} {k : Nat} {v : Value} (h : [sv, pt bp 0][k]? = some v) : (X2 sv bp lv dn)[0 + k]? = some v := by
 have hlt : k < [sv, pt bp 0].length := (List.getElem?_eq_some_iff.1 h).1
 rw [Nat.zero_add, X2, List.append_assoc, List.getElem?_append_left hlt, h]
theorem Ww {M : Wm} (s : Int) : (Xz M s = some 2) ∨ (Xz M s = none ∧ 0 ≤ s ∧ s < M.n.length) := by
 by_cases h : s < 0 ∨ M.n.length ≤ s
 ·exact .inl (if_pos h)
 ·exact .inr ⟨if_neg h, by omega, by omega⟩
set_option maxHeartbeats 2000000 attribute [local irreducible] HW HO HQ HD HC QOp Has Upd Zp Gets Yf Z8 Zr X3 Z9 Zj Wa Zy
attribute [local irreducible] X2
theorem X9 (T : Nat) (E : Nat → Addr) (G : WdG) (M : Wm) (s : Int) (L : Zb) (hG : Er T E [2] L) (hI : WdIn L G M) (hl : G.nd.length = M.n.length) : HC Tryz.prog 107 [pt G.wp 0, iv s] L (fun v L' => v = (match Xz M s with
  | some e => .tuple ⟨[.pointer none, eV T E (some e)]⟩
  | none => .tuple ⟨[pt (Zg G s).np 0, .nilIface]⟩) ∧ L' = L) := by
 have hw := hI.wp
 unfold Ut at hw
 by_cases h : s < 0 ∨ M.n.length ≤ s
 ·have e : Xz M s = some 2 := if_pos h
  obtain ⟨a, cap, hnv, hR⟩ := hI.ns
  rw [hnv] at hw
  simp only [e]
  by_cases h0 : s < 0
  ·refine Za (fun _ _ => Tryz.call107 _ _) Tryz.func107 rfl Tryz.ntmps107 (Nat.le_of_ble_eq_true rfl) ?_; simp only [Ze, Nat.reduceAdd]
   repeat' (first | refine uN ?_ | refine Yb S ?_ | (refine uP ?_ ?_ <;> (intro h; ((try simp only [zs, ne_eq, and_true, true_and, eq_self, reduceCtorEq] at h); try exact zx))) | fail)
   exact Zbm rfl ⟨rfl, rfl⟩
  ·refine Za (fun _ _ => Tryz.call107 _ _) Tryz.func107 rfl Tryz.ntmps107 (Nat.le_of_ble_eq_true rfl) ?_; simp only [Ze, Nat.reduceAdd]
   repeat' (first | refine uN ?_ | refine Yb S ?_ | (refine uP ?_ ?_ <;> (intro h; ((try simp only [zs, ne_eq, and_true, true_and, eq_self, reduceCtorEq] at h); try exact zx))) | fail)
   exact Zbm rfl ⟨rfl, rfl⟩
 ·have e : Xz M s = none := if_neg h
  simp only [e]
  obtain ⟨b, i, l, F, fr, cap, hnv, hb, hg⟩ := wd_np hI hl (s := s) (by omega) (by omega)
  rw [hnv] at hw
  refine Za (fun _ _ => Tryz.call107 _ _) Tryz.func107 rfl Tryz.ntmps107 (Nat.le_of_ble_eq_true rfl) ?_; simp only [Ze, Nat.reduceAdd]
  repeat' (first | refine uN ?_ | refine Yb S ?_ | (refine uP ?_ ?_ <;> (intro h; ((try simp only [zs, ne_eq, and_true, true_and, eq_self, reduceCtorEq] at h); try exact zx))) | fail)
  exact Zbm rfl ⟨rfl, rfl⟩
theorem Zrg (T : Nat) (E : Nat → Addr) (G : WdG) (M : Wm) (s : Int) (L : Zb) (hG : Er T E [2, 6] L) (hI : WdIn L G M) (hl : G.nd.length = M.n.length) (hN : Xz M s = none → Has L (Zg G s).np (Qc (Zg G s) (Zf M s))) : HC Tryz.prog 93 [pt G.wp 0, iv s] L (fun v L' => v = (match Xz M s with
  | some e => .tuple ⟨[.pointer none, eV T E (some e)]⟩
  | none => .tuple ⟨[pt (Zg G s).np 0, eV T E (Zgu M s)]⟩) ∧ L' = L) := by
 have kn := X9 T E G M s L hG.sub hI hl
 rcases Ww (M := M) s with he | ⟨he, h0, h1⟩
 ·simp only [he] at kn ⊢
  refine Za (fun _ _ => Tryz.call93 _ _) Tryz.func93 rfl Tryz.ntmps93 (Nat.le_of_ble_eq_true rfl) ?_; simp only [Ze, Nat.reduceAdd]
  repeat' (first | refine uN ?_ | refine uC (kn) ?_ | (refine uP ?_ ?_ <;> (intro h; ((try simp only [zs, ne_eq, and_true, true_and, eq_self, reduceCtorEq] at h); try exact zx))) | fail)
  exact Zbm rfl ⟨rfl, rfl⟩
 ·have hN' := hN he
  have hu : Zgu M s = if (Zf M s).site.isNone then some 6 else none := by unfold Zgu; rw [he]
  simp only [he] at kn ⊢
  unfold Qc at hN'
  cases hs : (Zf M s).site with
  | none =>
   rw [hs] at hN' hu
   rw [hu]
   have g0 : (X2 (.pointer none) (Zg G s).bp (Yk (Zg G s) (Zf M s)) (Zf M s).done)[0 + 0]? = some (.pointer none) := Xd rfl
   refine Za (fun _ _ => Tryz.call93 _ _) Tryz.func93 rfl Tryz.ntmps93 (Nat.le_of_ble_eq_true rfl) ?_; simp only [Ze, Nat.reduceAdd]
   repeat' (first | refine uN ?_ | refine uC (kn) ?_ | (refine uP ?_ ?_ <;> (intro h; ((try simp only [zs, ne_eq, and_true, true_and, eq_self, reduceCtorEq] at h); try exact zx))) | fail)
   exact Zbm rfl ⟨rfl, rfl⟩
  | some q =>
   rw [hs] at hN' hu
   rw [hu]
   have g0 : (X2 (pt (Zg G s).sp 0) (Zg G s).bp (Yk (Zg G s) (Zf M s)) (Zf M s).done)[0 + 0]? = some (pt (Zg G s).sp 0) := Xd rfl
   obtain ⟨q1, q2⟩ := q
   refine Za (fun _ _ => Tryz.call93 _ _) Tryz.func93 rfl Tryz.ntmps93 (Nat.le_of_ble_eq_true rfl) ?_; simp only [Ze, Nat.reduceAdd]
   repeat' (first | refine uN ?_ | refine uC (kn) ?_ | (refine uP ?_ ?_ <;> (intro h; ((try simp only [zs, ne_eq, and_true, true_and, eq_self, reduceCtorEq] at h); try exact zx))) | fail)
   exact Zbm rfl ⟨rfl, rfl⟩
def Zqv (M : Wm) (k : Int) : Option Nat := if k < 0 ∨ M.l.length ≤ k then some 4 else none
theorem Za6 (T : Nat) (E : Nat → Addr) (G : WdG) (M : Wm) (k : Int) (L : Zb) (hG : Er T E [4] L) (hI : WdIn L G M) : HC Tryz.prog 99 [pt G.wp 0, iv k] L (fun v L' => v = eV T E (Zqv M k) ∧ L' = L) := by
 have hw := hI.wp
 unfold Ut at hw
 obtain ⟨a, cap, hlv, -⟩ := hI.ls
 rw [hlv] at hw
 unfold Zqv
 by_cases h0 : k < 0
 ·rw [if_pos (.inl h0)]
  refine Za (fun _ _ => Tryz.call99 _ _) Tryz.func99 rfl Tryz.ntmps99 (Nat.le_of_ble_eq_true rfl) ?_; simp only [Ze, Nat.reduceAdd]
  repeat' (first | refine uN ?_ | (refine uP ?_ ?_ <;> (intro h; ((try simp only [zs, ne_eq, and_true, true_and, eq_self, reduceCtorEq] at h); try exact zx))) | fail)
  exact Qd rfl ⟨rfl, rfl⟩
 ·by_cases h1 : M.l.length ≤ k
  ·rw [if_pos (.inr h1)]
   refine Za (fun _ _ => Tryz.call99 _ _) Tryz.func99 rfl Tryz.ntmps99 (Nat.le_of_ble_eq_true rfl) ?_; simp only [Ze, Nat.reduceAdd]
   repeat' (first | refine uN ?_ | (refine uP ?_ ?_ <;> (intro h; ((try simp only [zs, ne_eq, and_true, true_and, eq_self, reduceCtorEq] at h); try exact zx))) | fail)
   exact Qd rfl ⟨rfl, rfl⟩
  ·rw [if_neg (by omega)]
   refine Za (fun _ _ => Tryz.call99 _ _) Tryz.func99 rfl Tryz.ntmps99 (Nat.le_of_ble_eq_true rfl) ?_; simp only [Ze, Nat.reduceAdd]
   repeat' (first | refine uN ?_ | (refine uP ?_ ?_ <;> (intro h; ((try simp only [zs, ne_eq, and_true, true_and, eq_self, reduceCtorEq] at h); try exact zx))) | fail)
   exact Qd rfl ⟨rfl, rfl⟩
end Go.HL
end

/-! WoE -/
section
namespace Go.HL
open Go Go.Proofs
set_option linter.unusedVariables false
set_option linter.unusedSimpArgs false
def Wp (s : Int) (ph : Nat → Int) (q : List Bool × List Evt) (d : Nat) : List Bool × List Evt :=
 if q.1.getD d true = true ∨ (ph d ≠ 2 ∧ ph d ≠ 3) then q else (q.1.set d true, if q.2.length < 500 then q.2 ++ [⟨s, d, ph d⟩] else q.2)
def Ud (s : Int) (ph : Nat → Int) (q : List Bool × List Evt) (k : Nat) : List Bool × List Evt := (List.range k).foldl (Wp s ph) q
def U1 (j : Jn) (d : Nat) : Int := (j.l.getD d Zm).s.ph
def Xi (s : Int) (m : Nd) (ev : List Evt) : List Bool × List Evt := match m.site with
 | none => (m.done, ev)
 | some (j, _) => Ud s (U1 j) (m.done, ev) 6
theorem Uf (s : Int) (ph : Nat → Int) (q : List Bool × List Evt) (k : Nat) : Ud s ph q (k + 1) = Wp s ph (Ud s ph q k) k := by
 unfold Ud
 rw [List.range_succ, List.foldl_append]
 rfl
theorem Zrp {s : Int} {ph : Nat → Int} {q : List Bool × List Evt} {d : Nat} : (Wp s ph q d).1.length = q.1.length := by
 unfold Wp; split <;> simp
theorem noteD_ev {s : Int} {ph : Nat → Int} {q : List Bool × List Evt} {d : Nat} (h : q.2.length ≤ 500) : (Wp s ph q d).2.length ≤ 500 := by
 unfold Wp
 split
 ·exact h
 ·simp only
  split
  ·simp; omega
  ·exact h
theorem Zaz {s : Int} {ph : Nat → Int} {q : List Bool × List Evt} : ∀ k, (Ud s ph q k).1.length = q.1.length
 | 0 => rfl
 | k + 1 => by rw [Uf, Zrp, Zaz k]
theorem Zfz {s : Int} {ph : Nat → Int} {q : List Bool × List Evt} (h : q.2.length ≤ 500) : ∀ k, (Ud s ph q k).2.length ≤ 500
 | 0 => h
 | k + 1 => by rw [Uf]; exact noteD_ev (Zfz h k)
theorem Zca {sv : Value} {bp : Nat} {lv : List Value} {dn : List Bool} (h : lv.length = 6) : ([sv, pt bp 0] ++ lv).length = 8 := by simp [h]
theorem ndL_done {sv : Value} {bp : Nat} {lv : List Value} {dn : List Bool} {d : Nat} {b : Bool} (hl : lv.length = 6) (h : dn[d]? = some b) : (X2 sv bp lv dn)[0 + 8 + (d : Int).toNat * 1]? = some (.bool b) := by
 rw [X2, List.getElem?_append_right (by rw [Zca (dn := dn) (bp := bp) (sv := sv) hl]; omega), Zca (dn := dn) (bp := bp) (sv := sv) hl]
 rw [show 0 + 8 + (d : Int).toNat * 1 - 8 = d by omega, List.getElem?_map, h]
 rfl
theorem ndL_putD {sv : Value} {bp : Nat} {lv : List Value} {dn : List Bool} {d : Nat} (b : Bool) (hl : lv.length = 6) (h : d < dn.length) : Zp (X2 sv bp lv dn) (0 + 8 + (d : Int).toNat * 1) [.bool b] (X2 sv bp lv (dn.set d b)) := by
 have e : X2 sv bp lv (dn.set d b) = (X2 sv bp lv dn).set (0 + 8 + (d : Int).toNat * 1) (.bool b) := by
  rw [X2, X2, List.set_append_right _ _ (by rw [Zca (dn := dn) (bp := bp) (sv := sv) hl]; omega), Zca (dn := dn) (bp := bp) (sv := sv) hl, List.map_set]
  rw [show 0 + 8 + (d : Int).toNat * 1 - 8 = d by omega]
 rw [e]
 refine W4 ?_
 rw [X2, List.length_append, Zca (dn := dn) (bp := bp) (sv := sv) hl, List.length_map]
 omega
set_option maxHeartbeats 2000000 attribute [local irreducible] HW HO HQ HD HC QOp Has Upd Zp Gets Yf Z8 Zr X3 Z9 Zj Wa Zy
attribute [local irreducible] X2 Zz Wp
theorem Zbn (sp bj mb bp : Nat) (id : Int) (j : Jn) (d : Nat) (L : Zb) (h1 : Has L sp (.cells ⟨[pt bj 0, iv id, .map (some mb)]⟩ 150)) (h2 : Has L bj (.cells ⟨Zz bp j⟩ 197)) (hl : j.l.length = 6) (hd : d < 6) :
  HC Tryz.prog 97 [pt sp 0, iv d] L (fun v L' => v = .tuple ⟨[.agg ⟨sc (j.l.getD d Zm).s⟩, .nilIface]⟩ ∧ L' = L) := by
 have kg : ∀ c : List Zn, HC _ _ _ (c :: L) _ := fun c => Zd1 bj bp j d (c :: L) (Zc h2) hl hd
 refine Za (fun _ _ => Tryz.call97 _ _) Tryz.func97 rfl Tryz.ntmps97 (Nat.le_of_ble_eq_true rfl) ?_; simp only [Ze, Nat.reduceAdd]
 repeat' (first | refine uN ?_ | refine uC (kg _) ?_ | (refine uB ?_; intro b) | fail)
 exact Ve (LS.c (LS.refl _)) ⟨rfl, rfl⟩ (hx := Vu S (hg := Zd rfl (Zd rfl (Zd rfl Zw))))
structure SiIn (L : Zb) (g : NdG) (id : Int) (j : Jn) : Prop where
 si : Has L g.sp (.cells ⟨[pt g.bj 0, iv id, .map (some g.mb)]⟩ 150)
 jn : Has L g.bj (.cells ⟨Zz g.bp j⟩ 197)
structure NpIn (L : Zb) (nv : Value) (n : Nat) (s : Int) (np : Nat) : Prop where
 at_ : ∃ b i l F fr cap, nv = sl b i n cap ∧ Has L b (.cells ⟨l⟩ F fr) ∧ l[i + s.toNat]? = some (pt np 0)
 lo : 0 ≤ s
 hi : s < n
theorem Zd7 (G : WdG) (s : Int) (g : NdG) (m : Nd) (ev : List Evt) (n : Nat) (L : Zb) (hv : Vec 114 3 ec G.ev ev G.ec) (hl : ev.length ≤ 500) (hp : NpIn L G.nv n s g.np) (hd : m.done.length = 6) (hlv : (Yk g m).length = 6)
  (hs : ∀ j ref, m.site = some (j, ref) → SiIn L g s j ∧ j.l.length = 6) : HC Tryz.prog 109 [pt G.wp 0, iv s] ([(G.wp, Ut G)] :: G.ec :: Zab g m :: L)
  (fun v L' => ∃ evv c, Vec 114 3 ec evv (Xi s m ev).2 c ∧ v = .tuple ⟨[]⟩ ∧ L' = [(G.wp, Ut { G with ev := evv, ec := c })] :: c :: Zab g { m with done := (Xi s m ev).1 } :: L) := by
 obtain ⟨wp, wv, wc, nv, nc, mb, es, ck, lv, lc, evv, evc, nd⟩ := G
 simp only at hv hp
 obtain ⟨⟨b, i, l, F, fr, cap, rfl, hb, hg⟩, h0, h1⟩ := hp
 obtain ⟨pl, site, leads, done⟩ := m
 simp only at hd hs
 simp only [Ut, Zab, Qc]
 cases site with
 | none =>
  have g0 : (X2 (.pointer none) g.bp (Yk g ⟨pl, none, leads, done⟩) done)[0 + 0]? = some (.pointer none) := Xd rfl
  simp only [Xi, Zdr]
  refine Za (fun _ _ => Tryz.call109 _ _) Tryz.func109 rfl Tryz.ntmps109 (Nat.le_of_ble_eq_true rfl) ?_; simp only [Ze, Nat.reduceAdd]
  repeat' (first | refine uN ?_ | refine Yb S ?_ | refine Yv S ?_ | (refine uB ?_; intro b) | (refine uP ?_ ?_ <;> (intro h; ((try simp only [zs, ne_eq, and_true, true_and, eq_self, reduceCtorEq] at h); try exact zx))) | refine da 101 ?_ | fail)
  exact er0 rfl ⟨_, _, hv, rfl, rfl⟩
 | some q =>
  obtain ⟨j, ref⟩ := q
  obtain ⟨⟨hsi, hjn⟩, hjl⟩ := hs j ref rfl
  have g0 : ∀ dn, (X2 (pt g.sp 0) g.bp (Yk g ⟨pl, some (j, ref), leads, done⟩) dn)[0 + 0]? = some (pt g.sp 0) := fun dn => Xd rfl
  have hlv2 : ∀ dn, (Yk g ⟨pl, some (j, ref), leads, dn⟩) = (Yk g ⟨pl, some (j, ref), leads, done⟩) := fun dn => rfl
  generalize hLV : Yk g ⟨pl, some (j, ref), leads, done⟩ = LV at g0 hlv hlv2
  simp only [Xi, Zdr]
  have g00 := g0 done
  refine Za (fun _ _ => Tryz.call109 _ _) Tryz.func109 rfl Tryz.ntmps109 (Nat.le_of_ble_eq_true rfl) ?_; simp only [Ze, Nat.reduceAdd]
  repeat' (first | refine uN ?_ | refine Yb S ?_ | refine Yv S ?_ | (refine uB ?_; intro b) | (refine uP ?_ ?_ <;> (intro h; ((try simp only [zs, ne_eq, and_true, true_and, eq_self, reduceCtorEq] at h); try exact zx))) | refine da 101 ?_ | fail)
  refine Zx (σ := Nat × (Value × List Zn)) (fun q => [(0, pt wp 0), (1, iv s), (4, pt g.np 0), (20, iv q.1)])
   (fun q => [(wp, .cells ⟨[wv, sl b i n cap, .map (some mb), lv, q.2.1]⟩ 87)] :: q.2.2 :: [(g.np, .cells ⟨X2 (pt g.sp 0) g.bp LV (Ud s (U1 j) (done, ev) q.1).1⟩ 99)] :: L)
   (fun q => q.1 ≤ 6 ∧ Vec 114 3 ec q.2.1 (Ud s (U1 j) (done, ev) q.1).2 q.2.2) (fun q => 6 - q.1) (0, evv, evc) uS (List.Sublist.refl _) ⟨by simp, hv⟩ ?_
  rintro ⟨d, ev1, c1⟩ ⟨hd6, hv1⟩
  simp only at hd6 hv1 ⊢
  have hdl := Zaz (s := s) (ph := U1 j) (q := (done, ev)) d
  have hel := Zfz (s := s) (ph := U1 j) (q := (done, ev)) hl d
  have hsucc := Uf s (U1 j) (done, ev) d
  generalize hRR : Ud s (U1 j) (done, ev) d = R at *
  obtain ⟨dn, es1⟩ := R
  simp only at hdl hel hv1 ⊢
  by_cases hlt : d < 6
  ·have ks : ∀ c1 c2 c3 : List Zn, HC _ _ _ (c1 :: c2 :: c3 :: L) _ := fun c1 c2 c3 => Zbn g.sp g.bj g.mb g.bp s j d (c1 :: c2 :: c3 :: L) (Zc (Zc (Zc hsi))) (Zc (Zc (Zc hjn))) hjl hlt
   have g00 := g0 dn
   have hdn : dn[d]? = some (dn.getD d true) := getD_some (by omega)
   have gD := ndL_done (sv := pt g.sp 0) (bp := g.bp) (lv := LV) hlv hdn
   have gP := ndL_putD (sv := pt g.sp 0) (bp := g.bp) (lv := LV) (dn := dn) (d := d) true hlv (by omega)
   obtain ⟨a5, cap5, he5, -, -⟩ := hv1.rd Qy
   subst he5
   have hnx : Ud s (U1 j) (done, ev) (d + 1) = Wp s (U1 j) (dn, es1) d := hsucc
   by_cases hdone : dn.getD d true = true
   ·rw [hdone] at gD
    have e2 : Wp s (U1 j) (dn, es1) d = (dn, es1) := by unfold Wp; rw [if_pos (.inl hdone)]
    rw [e2] at hnx
    repeat' (first | refine uN ?_ | refine Yb S ?_ | refine Yv S ?_ | refine uC (ks _ _ _) ?_ | refine Yx (fun _ => ks _ _ _) ?_ | refine Y0 (fun _ => ks _ _ _) ?_ | refine Yz (fun _ => ks _ _ _) ?_ | refine Yy (fun _ => ks _ _ _) ?_ | (refine uB ?_; intro b) | (refine uP ?_ ?_ <;> (intro h; ((try simp only [zs, ne_eq, and_true, true_and, eq_self, reduceCtorEq] at h); try exact zx))) | refine da 101 ?_ | fail)
    refine Z5 (d + 1, .slice a5 es1.length cap5, c1) uS ?_ ⟨by simp only; omega, ?_⟩ (by simp only; omega)
    ·rw [hnx]; exact LS.c (LS.refl _)
    ·rw [hnx]; exact hv1
   ·have hdf : dn.getD d true = false := by simpa using hdone
    rw [hdf] at gD
    by_cases hph : U1 j d ≠ 2 ∧ U1 j d ≠ 3
    ·have e2 : Wp s (U1 j) (dn, es1) d = (dn, es1) := by unfold Wp; rw [if_pos (.inr hph)]
     rw [e2] at hnx
     unfold U1 at hph
     repeat' (first | refine uN ?_ | refine Yb S ?_ | refine Yv S ?_ | refine uC (ks _ _ _) ?_ | refine Yx (fun _ => ks _ _ _) ?_ | refine Y0 (fun _ => ks _ _ _) ?_ | refine Yz (fun _ => ks _ _ _) ?_ | refine Yy (fun _ => ks _ _ _) ?_ | (refine uB ?_; intro b) | (refine uP ?_ ?_ <;> (intro h; ((try simp only [zs, ne_eq, and_true, true_and, eq_self, reduceCtorEq] at h); try exact zx))) | refine da 101 ?_ | fail)
     all_goals refine Z5 (d + 1, .slice a5 es1.length cap5, c1) uS ?_ ⟨by simp only; omega, ?_⟩ (by simp only; omega)
     all_goals rw [hnx]
     all_goals first | exact hv1 | exact LS.c (LS.refl _)
    ·have e2 : Wp s (U1 j) (dn, es1) d = (dn.set d true, if es1.length < 500 then es1 ++ [⟨s, d, U1 j d⟩] else es1) := by unfold Wp; rw [if_neg (by simp only [hdf]; intro h; rcases h with h | h; cases h; exact hph h)]
     rw [e2] at hnx
     have hph' := hph
     unfold U1 at hph'
     by_cases h500 : es1.length < 500
     ·rw [if_pos h500] at hnx
      repeat' (first | refine uN ?_ | refine Yb S ?_ | refine Yv S ?_ | refine uC (ks _ _ _) ?_ | refine Yx (fun _ => ks _ _ _) ?_ | refine Y0 (fun _ => ks _ _ _) ?_ | refine Yz (fun _ => ks _ _ _) ?_ | refine Yy (fun _ => ks _ _ _) ?_ | (refine uB ?_; intro b) | (refine uP ?_ ?_ <;> (intro h; ((try simp only [zs, ne_eq, and_true, true_and, eq_self, reduceCtorEq] at h); try exact zx))) | refine da 101 ?_ | fail)
      all_goals refine fo 3 ?_
      all_goals refine wp1 S ⟨s, d, U1 j d⟩ hv1 Qy ec_one ?_
      all_goals intro v' c' hv'
      all_goals obtain ⟨a6, cap6, he6, -, -⟩ := hv'.rd Qy
      all_goals subst he6
      all_goals repeat' (first | refine uN ?_ | refine Yb S ?_ | refine Yv S ?_ | refine uC (ks _ _ _) ?_ | refine Yx (fun _ => ks _ _ _) ?_ | refine Y0 (fun _ => ks _ _ _) ?_ | refine Yz (fun _ => ks _ _ _) ?_ | refine Yy (fun _ => ks _ _ _) ?_ | (refine uB ?_; intro b) | (refine uP ?_ ?_ <;> (intro h; ((try simp only [zs, ne_eq, and_true, true_and, eq_self, reduceCtorEq] at h); try exact zx))) | refine da 101 ?_ | fail)
      all_goals refine Z5 (d + 1, .slice a6 (es1 ++ [⟨s, d, U1 j d⟩] : List Evt).length cap6, c') uS ?_ ⟨by simp only; omega, ?_⟩ (by simp only; omega)
      all_goals rw [hnx]
      all_goals first | exact hv' | exact uL
     ·rw [if_neg h500] at hnx
      repeat' (first | refine uN ?_ | refine Yb S ?_ | refine Yv S ?_ | refine uC (ks _ _ _) ?_ | refine Yx (fun _ => ks _ _ _) ?_ | refine Y0 (fun _ => ks _ _ _) ?_ | refine Yz (fun _ => ks _ _ _) ?_ | refine Yy (fun _ => ks _ _ _) ?_ | (refine uB ?_; intro b) | (refine uP ?_ ?_ <;> (intro h; ((try simp only [zs, ne_eq, and_true, true_and, eq_self, reduceCtorEq] at h); try exact zx))) | refine da 101 ?_ | fail)
      all_goals refine Z5 (d + 1, .slice a5 es1.length cap5, c1) uS ?_ ⟨by simp only; omega, ?_⟩ (by simp only; omega)
      all_goals rw [hnx]
      all_goals first | exact hv1 | exact LS.c (LS.refl _)
  ·obtain rfl : d = 6 := by omega
   have hR6 : Ud s (U1 j) (done, ev) 6 = (dn, es1) := hRR
   rw [hR6]
   repeat' (first | refine uN ?_ | refine Yb S ?_ | refine Yv S ?_ | (refine uB ?_; intro b) | (refine uP ?_ ?_ <;> (intro h; ((try simp only [zs, ne_eq, and_true, true_and, eq_self, reduceCtorEq] at h); try exact zx))) | refine da 101 ?_ | fail)
   exact ee0 rfl ⟨_, _, hv1, rfl, by rw [hlv2 dn]⟩
end Go.HL
end

/-! WoF -/
section
namespace Go.HL
open Go Go.Proofs
set_option linter.unusedVariables false
set_option linter.unusedSimpArgs false
def Yn : List (Option Ld) := List.replicate 6 none
def nil6 : List Value := List.replicate 6 (.pointer none)
theorem Zns : ∀ (ld : List (Nat × Value × List Zn)), ld.length = 6 → List.zipWith Zp1 Yn ld = nil6
 | [_, _, _, _, _, _], _ => rfl
theorem Zlc {sv sv' : Value} {bp : Nat} {lv : List Value} {dn : List Bool} : Zp (X2 sv bp lv dn) (0 + 0) [sv'] (X2 sv' bp lv dn) := by
 have : X2 sv' bp lv dn = (X2 sv bp lv dn).set (0 + 0) sv' := rfl
 rw [this]
 exact W4 (by simp [X2])
theorem ndL_putL {sv : Value} {bp : Nat} {lv lv' : List Value} {dn : List Bool} (h : lv'.length = lv.length) : Zp (X2 sv bp lv dn) (0 + 2) lv' (X2 sv bp lv' dn) := by
 have key := Zff (l := X2 sv bp lv dn) (i := 0 + 2) (vs := lv') (by rw [X2, h]; simp; omega)
 have e : (X2 sv bp lv dn).take (0 + 2) ++ lv' ++ (X2 sv bp lv dn).drop (0 + 2 + lv'.length) = X2 sv bp lv' dn := by
  rw [h]
  have e1 : (X2 sv bp lv dn).drop (0 + 2 + lv.length) = dn.map Value.bool := by
   rw [X2]
   have : 0 + 2 + lv.length = ([sv, pt bp 0] ++ lv).length := by simp; omega
   rw [this, List.drop_left]
  rw [e1]
  simp [X2]
 rw [e] at key
 exact key
theorem Zam {sv : Value} {bp : Nat} {lv : List Value} {dn : List Bool} {d : Nat} {v : Value} (h : lv[d]? = some v) : (X2 sv bp lv dn)[0 + 2 + (d : Int).toNat * 1]? = some v := by
 have hlt : d < lv.length := (List.getElem?_eq_some_iff.1 h).1
 rw [X2, List.append_assoc, List.getElem?_append_right (by simp <;> omega), List.getElem?_append_left (by simp <;> omega)]
 rw [show 0 + 2 + (d : Int).toNat * 1 - [sv, pt bp 0].length = d by simp <;> omega]
 exact h
theorem Zks {sv : Value} {bp : Nat} {lv : List Value} {dn : List Bool} {d : Nat} (v : Value) (h : d < lv.length) : Zp (X2 sv bp lv dn) (0 + 2 + (d : Int).toNat * 1) [v] (X2 sv bp (lv.set d v) dn) := by
 have e : X2 sv bp (lv.set d v) dn = (X2 sv bp lv dn).set (0 + 2 + (d : Int).toNat * 1) v := by
  rw [X2, X2, List.append_assoc, List.append_assoc, List.set_append_right _ _ (by simp <;> omega), List.set_append_left _ _ (by simp <;> omega)]
  rw [show 0 + 2 + (d : Int).toNat * 1 - [sv, pt bp 0].length = d by simp <;> omega]
 rw [e]
 refine W4 ?_
 simp [X2]
 omega
set_option maxHeartbeats 2000000 attribute [local irreducible] HW HO HQ HD HC QOp Has Upd Zp Gets Yf Z8 Zr X3 Z9 Zj Wa Zy
attribute [local irreducible] X2 Zz Yo Z3
theorem Zd6 (g : NdG) (m : Nd) (L : Zb) (hl : (Yk g m).length = 6) (hd : g.ld.length = 6) : HC Tryz.prog 106 [pt g.np 0] (Zab g m :: L) (fun v L' => v = .tuple ⟨[]⟩ ∧ L' = Zab g { m with site := none, leads := Yn } :: L) := by
 have e : Yk g { m with site := none, leads := Yn } = nil6 := Zns _ hd
 simp only [Zab, Qc, e, Zdr]
 have p0 := Zlc (sv := Zdr g m.site) (sv' := .pointer none) (bp := g.bp) (lv := Yk g m) (dn := m.done)
 have p1 := ndL_putL (sv := .pointer none) (bp := g.bp) (lv := Yk g m) (lv' := nil6) (dn := m.done) (by rw [hl]; rfl)
 refine Za (fun _ _ => Tryz.call106 _ _) Tryz.func106 rfl Tryz.ntmps106 (Nat.le_of_ble_eq_true rfl) ?_; simp only [Ze, Nat.reduceAdd]
 repeat' (first | refine uN ?_)
 exact ee0 rfl ⟨rfl, rfl⟩
def Xr (s : Int) (m : Nd) (ev : List Evt) (f : Fr) : Nd × List Evt × List Fr × Bool := match m.site with
 | none => (m, ev, [], false)
 | some (j, ref) => if (Z3 s ref m.pl j f).1.off then (⟨(Z3 s ref m.pl j f).1, none, Yn, m.done⟩, ev, [], false)
  else (⟨(Z3 s ref m.pl j f).1, some ((Z3 s ref m.pl j f).2.1, ref), m.leads, (Xi s ⟨(Z3 s ref m.pl j f).1, some ((Z3 s ref m.pl j f).2.1, ref), m.leads, m.done⟩ ev).1⟩,
   (Xi s ⟨(Z3 s ref m.pl j f).1, some ((Z3 s ref m.pl j f).2.1, ref), m.leads, m.done⟩ ev).2, (Z3 s ref m.pl j f).2.2.1, (Z3 s ref m.pl j f).2.2.2.isNone)
theorem NpIn.cons {L : Zb} {nv : Value} {n : Nat} {s : Int} {np : Nat} (h : NpIn L nv n s np) (c : List Zn) : NpIn (c :: L) nv n s np := by
 obtain ⟨⟨b, i, l, F, fr, cap, h1, h2, h3⟩, h4, h5⟩ := h
 exact ⟨⟨b, i, l, F, fr, cap, h1, Zc h2, h3⟩, h4, h5⟩
def HearQ (G : WdG) (s : Int) (g : NdG) (m : Nd) (ref : Int → Bool) (ev : List Evt) (r : Pl × Jn × List Fr × Option Nat) (L : Zb) (v : Value) (L' : Zb) : Prop :=
 if r.1.off then v = .tuple ⟨[Wo, .bool false]⟩ ∧ L' = [(G.wp, Ut G)] :: G.ec :: Zab g ⟨r.1, none, Yn, m.done⟩ :: Yo g.bp g.ba r.1 :: L
 else ∃ fv c evv c2, Xq fv r.2.2.1 c ∧ Vec 114 3 ec evv (Xi s ⟨r.1, some (r.2.1, ref), m.leads, m.done⟩ ev).2 c2 ∧ v = .tuple ⟨[fv, .bool r.2.2.2.isNone]⟩ ∧
  L' = [(G.wp, Ut { G with ev := evv, ec := c2 })] :: c2 :: Zab g ⟨r.1, some (r.2.1, ref), m.leads, (Xi s ⟨r.1, some (r.2.1, ref), m.leads, m.done⟩ ev).1⟩ :: Zed g.sp g.bj g.mb s :: Zej g.mb g.es g.ck :: Yo g.bp g.ba r.1 :: jC g.bj g.bp r.2.1 :: c :: L
theorem Zlz (T : Nat) (E : Nat → Addr) (G : WdG) (s : Int) (g : NdG) (m : Nd) (f : Fr) (ev : List Evt) (n : Nat) (j : Jn) (ref : Int → Bool) (L : Zb) (hG : Er T E [2, 3, 5, 6] L) (hp : NpIn L G.nv n s g.np) (hv : Vec 114 3 ec G.ev ev G.ec) (hl : ev.length ≤ 500)
  (hN : NdOk g m) (w : List Int) (sn : Nat) (hI : NdI w sn m) (hs : m.site = some (j, ref)) (hj' : (Z3 s ref m.pl j f).2.1.l.length = 6) : HC Tryz.prog 102 [pt G.wp 0, iv s, .agg ⟨fc f⟩] ([(G.wp, Ut G)] :: G.ec :: Zab g m :: Zed g.sp g.bj g.mb s :: Zej g.mb g.es g.ck :: Yo g.bp g.ba m.pl :: jC g.bj g.bp j :: L)
  (HearQ G s g m ref ev (Z3 s ref m.pl j f) L) := by
 have hF := hN.map j ref hs
 have hj := (hI.jn hs).ji.jn
 have kh := fun L hG => Zkp T E g.sp g.bj g.mb g.bp g.ba s g.es g.ck ref m.pl j f L hG hF hI.pl hj
 generalize Z3 s ref m.pl j f = r at kh hj' ⊢
 obtain ⟨pl', j', fs, er⟩ := r
 simp only at kh hj' ⊢
 have hlvs : ∀ x, (Yk g ⟨pl', x, m.leads, m.done⟩).length = 6 := fun x => by simp [Yk, hI.leads, hN.ld]
 have hlvs0 : (Yk g m).length = 6 := by simp [Yk, hI.leads, hN.ld]
 have hpw := Zdp g.bp g.ba pl'
 have kf := fun L => Zd6 g m L hlvs0 hN.ld
 unfold HearQ
 obtain ⟨pl, site, leads, done⟩ := m
 simp only at hs kh kf hlvs ⊢
 subst hs
 obtain ⟨wp, wv, wc, nv, nc, mb, es, ck, lv, lc, evv, evc, nd⟩ := G
 simp only at hv hp ⊢
 have hp0 := hp
 obtain ⟨⟨nb, i, l, F, fr, cap, rfl, hb, hg⟩, h0, h1⟩ := hp
 have g0 : (X2 (pt g.sp 0) g.bp (Yk g ⟨pl, some (j, ref), leads, done⟩) done)[0 + 0]? = some (pt g.sp 0) := Xd rfl
 have g1 : (X2 (pt g.sp 0) g.bp (Yk g ⟨pl, some (j, ref), leads, done⟩) done)[0 + 1]? = some (pt g.bp 0) := Xd rfl
 simp only [Ut, Zab, Qc, Zdr] at kf ⊢
 cases hoff : pl'.off with
 | true =>
  simp only [if_true]
  rw [hoff] at hpw
  refine Za (fun _ _ => Tryz.call102 _ _) Tryz.func102 rfl Tryz.ntmps102 (Nat.le_of_ble_eq_true rfl) ?_; simp only [Ze, Nat.reduceAdd]
  repeat' (first | refine uN ?_ | refine Z0 S ?_ | (refine uB ?_; intro b) | (refine uP ?_ ?_ <;> (intro h; ((try simp only [zs, ne_eq, and_true, true_and, eq_self, reduceCtorEq] at h); try exact zx))) | refine da 101 ?_ | fail)
  refine fo 7 ?_
  refine fo 7 ?_
  refine fo 7 ?_
  refine fo 7 ?_
  refine gc (kh _ ?_) ?_
  ·exact ((((hG.cons _).cons _).cons _).cons _)
  rintro v L' ⟨fv, c, rfl, hfv, rfl⟩
  repeat' (first | refine uN ?_ | refine Z0 S ?_ | refine Vk (qC (V2 (hpw) 2)) ?_ | refine Yx (fun _ => V2 (hpw) 2) ?_ | refine Y0 (fun _ => V2 (hpw) 2) ?_ | refine Yz (fun _ => V2 (hpw) 2) ?_ | refine Yy (fun _ => V2 (hpw) 2) ?_ | (refine uB ?_; intro b) | (refine uP ?_ ?_ <;> (intro h; ((try simp only [zs, ne_eq, and_true, true_and, eq_self, reduceCtorEq] at h); try exact zx))) | refine da 101 ?_ | fail)
  refine fo 8 ?_
  refine gc (kf _) ?_
  rintro v L' ⟨rfl, rfl⟩
  repeat' (first | refine uN ?_ | refine Z0 S ?_ | (refine uB ?_; intro b) | (refine uP ?_ ?_ <;> (intro h; ((try simp only [zs, ne_eq, and_true, true_and, eq_self, reduceCtorEq] at h); try exact zx))) | refine da 101 ?_ | fail)
  exact Ve (L' := [(wp, .cells ⟨[wv, sl nb i n cap, .map (some mb), lv, evv]⟩ 87)] :: evc :: Zab g ⟨pl', none, Yn, done⟩ :: Yo g.bp g.ba pl' :: L) (by simp only [Zab, Qc]; exact uL) ⟨rfl, rfl⟩
 | false =>
  simp only [Bool.false_eq_true, if_false]
  rw [hoff] at hpw
  have hkn := fun (M1 : Nd) (hM : M1 = ⟨pl', some (j', ref), leads, done⟩) (G1 : WdG) (hG1 : G1 = ⟨wp, wv, wc, sl nb i n cap, nc, mb, es, ck, lv, lc, evv, evc, nd⟩) L (hq : NpIn L (sl nb i n cap) n s g.np) (hsi : SiIn L g s j') => Zd7 G1 s g M1 ev n L (by subst hG1; exact hv) hl (by subst hG1; exact hq) (by subst hM; exact hI.done) (by subst hM; exact hlvs _) (by subst hM; intro j2 r2 h2; cases h2; exact ⟨hsi, hj'⟩)
  have hkn := fun L hq hsi => hkn _ rfl _ rfl L hq hsi
  simp only [Ut, Zab, Qc, Zdr] at hkn
  refine Za (fun _ _ => Tryz.call102 _ _) Tryz.func102 rfl Tryz.ntmps102 (Nat.le_of_ble_eq_true rfl) ?_; simp only [Ze, Nat.reduceAdd]
  repeat' (first | refine uN ?_ | refine Z0 S ?_ | (refine uB ?_; intro b) | (refine uP ?_ ?_ <;> (intro h; ((try simp only [zs, ne_eq, and_true, true_and, eq_self, reduceCtorEq] at h); try exact zx))) | refine da 101 ?_ | fail)
  refine fo 7 ?_
  refine fo 7 ?_
  refine fo 7 ?_
  refine fo 7 ?_
  refine gc (kh _ ?_) ?_
  ·exact ((((hG.cons _).cons _).cons _).cons _)
  rintro v L' ⟨fv, c, rfl, hfv, rfl⟩
  repeat' (first | refine uN ?_ | refine Z0 S ?_ | refine Vk (qC (V2 (hpw) 2)) ?_ | refine Yx (fun _ => V2 (hpw) 2) ?_ | refine Y0 (fun _ => V2 (hpw) 2) ?_ | refine Yz (fun _ => V2 (hpw) 2) ?_ | refine Yy (fun _ => V2 (hpw) 2) ?_ | (refine uB ?_; intro b) | (refine uP ?_ ?_ <;> (intro h; ((try simp only [zs, ne_eq, and_true, true_and, eq_self, reduceCtorEq] at h); try exact zx))) | refine da 101 ?_ | fail)
  refine fo 8 ?_
  refine fo 8 ?_
  refine fo 8 ?_
  refine gc (hkn _ ?_ ?_) ?_
  ·exact (((((((⟨⟨nb, i, l, F, fr, cap, rfl, hb, hg⟩, h0, h1⟩ : NpIn L (sl nb i n cap) n s g.np).cons _).cons _).cons _).cons _).cons _).cons _)
  ·exact ⟨Zh, Zc (Zc (Zc Zh))⟩
  rintro v L' ⟨evv', c2, hv2, rfl, rfl⟩
  obtain ⟨af, capf, rfl, -, -⟩ := hfv.rd Zs
  cases er with
  | none =>
   repeat' (first | refine uN ?_ | refine Z0 S ?_ | (refine uB ?_; intro b) | (refine uP ?_ ?_ <;> (intro h; ((try simp only [zs, ne_eq, and_true, true_and, eq_self, reduceCtorEq] at h); try exact zx))) | refine da 101 ?_ | fail)
   exact Ve uL ⟨_, _, _, _, hfv, hv2, rfl, rfl⟩
  | some x =>
   repeat' (first | refine uN ?_ | refine Z0 S ?_ | (refine uB ?_; intro b) | (refine uP ?_ ?_ <;> (intro h; ((try simp only [zs, ne_eq, and_true, true_and, eq_self, reduceCtorEq] at h); try exact zx))) | refine da 101 ?_ | fail)
   exact Ve uL ⟨_, _, _, _, hfv, hv2, rfl, rfl⟩
end Go.HL
end

/-! PlR -/
section
namespace Go.HL
open Go Go.Proofs
set_option linter.unusedVariables false
set_option linter.unusedSimpArgs false
set_option maxHeartbeats 2000000 attribute [local irreducible] HW HO HQ HD HC QOp Has Upd Zp Gets Yf Z8 Zr X3 Z9 Zj Wa Zy
end Go.HL
end

/-! ErD1 -/
section
namespace Go.HL
open Go Go.Proofs
set_option linter.unusedVariables false
set_option linter.unusedSimpArgs false
set_option maxHeartbeats 2000000 attribute [local irreducible] HW HO HQ HD HC QOp Has Upd Zp Gets Yf Z8 Zr X3 Z9 Zj Wa Zy
end Go.HL
end

/-! PlC -/
section
namespace Go.HL
open Go Go.Proofs
set_option linter.unusedVariables false
set_option linter.unusedSimpArgs false
theorem hcHas2 {P : Program} {F : Nat} {args : List Value} {b c : Nat} {o q : Obj} {V : Value} (h : ∀ L, HC P F args ([(b, o), (c, q)] :: L) (fun v L' => v = V ∧ L' = [(b, o), (c, q)] :: L)) (hne : (c, q) ≠ (b, o)) {L : Zb} (hb : Has L b o) (hc : Has L c q) : HC P F args L (fun v L' => v = V ∧ L' = L) := by
 obtain ⟨l1, l2, e⟩ := List.append_of_mem hb
 have hm : (c, q) ∈ l1 ++ l2 := by
  have : (c, q) ∈ l1 ++ (b, o) :: l2 := e ▸ hc
  simp only [List.mem_append, List.mem_cons] at this ⊢
  rcases this with h | h | h
  ·exact .inl h
  ·exact absurd h hne
  ·exact .inr h
 obtain ⟨m1, m2, e2⟩ := List.append_of_mem hm
 have hp : List.Perm L.flatten ([(b, o), (c, q)] :: [m1 ++ m2]).flatten := by
  rw [e]
  simp only [List.flatten_cons, List.flatten_nil, List.append_nil, List.cons_append, List.nil_append]
  refine List.perm_middle.trans (.cons _ ?_)
  rw [e2]
  exact List.perm_middle
 exact ⟨(h []).1, fun k w hs => ((h [m1 ++ m2]).2 k w (hs.sp (LS.of_perm hp.symm))).mono fun e w' ⟨v, L', he, hs', hv, hL⟩ => ⟨v, L, he, (hL ▸ hs').sp (LS.of_perm hp), hv, rfl⟩⟩
def plB (bp ba : Nat) (m : Pl) : Zn := (bp, .cells ⟨[sl ba 0 m.b.length m.b.length, .bool m.off, iv m.cut]⟩ 144)
def plD (ba : Nat) (m : Pl) : Zn := (ba, .cells ⟨m.b.map u8⟩ 5)
theorem Zrv (bp ba : Nat) (m : Pl) (L : Zb) (h : ∀ p ∈ [plB bp ba m, plD ba m], Has L p.1 p.2) : HC Tryz.prog 112 [pt bp 0] L (fun v L' => v = bs m.b ∧ L' = L) :=
 hcHas2 (Zdm bp ba m) (by simp) (h (plB bp ba m) (by simp)) (h (plD ba m) (by simp))
section dt
variable {P : Program} (S : Tab P) {n : Nat} {ops : List Oper} {Q : Exit → Zq → Zb → Prop} {Ss : List (Nat × Zn)} {rem rem' : List (Nat × Oper)} {ρ : Zq} {L : Zb} {ty : TypeId} {pos : String} {af : Array Edge} {g : Option (Nat × Bool)} {d i : Nat}
end dt
set_option maxHeartbeats 2000000 attribute [local irreducible] HW HO HQ HD HC QOp Has Upd Zp Gets Yf Z8 Zr X3 Z9 Zj Wa Zy
attribute [local irreducible] Yo Z2 plB plD
end Go.HL
end

/-! WoG -/
section
namespace Go.HL
open Go Go.Proofs
set_option linter.unusedVariables false
set_option linter.unusedSimpArgs false
def Zcr (m : Pl) (d : Int) : St := ((Zv m.b).getD d.toNat Zm).s
def Wl (M : Wm) (s d : Int) : Option Nat := match Xz M s with
 | some e => some e
 | none => if d < 0 ∨ 6 ≤ d then some 2 else none
def Uc (M : Wm) (s d : Int) : St := match Wl M s d with
 | some _ => W3
 | none => Zcr (Zf M s).pl d
theorem Zhi (b : List UInt8) : (Zv b).length = 6 := by simp [Zv]
theorem WdIn.cons {L : Zb} {G : WdG} {M : Wm} (h : WdIn L G M) (c : List Zn) : WdIn (c :: L) G M := by
 obtain ⟨h1, ⟨a2, c2, e2, r2⟩, ⟨a3, c3, e3, r3⟩, ⟨a4, c4, e4, r4⟩, h5⟩ := h
 exact ⟨Zc h1, ⟨a2, c2, e2, r2.cons c⟩, ⟨a3, c3, e3, r3.cons c⟩, ⟨a4, c4, e4, r4.cons c⟩, h5⟩
set_option maxHeartbeats 2000000 attribute [local irreducible] HW HO HQ HD HC QOp Has Upd Zp Gets Yf Z8 Zr X3 Z9 Zj Wa Zy
attribute [local irreducible] X2 Zz Yo Zv
theorem Zc0 (T : Nat) (E : Nat → Addr) (G : WdG) (M : Wm) (s d : Int) (L : Zb) (hG : Er T E [2, 6] L) (hI : WdIn L G M) (hl : G.nd.length = M.n.length) (hN : Xz M s = none → Has L (Zg G s).np (Qc (Zg G s) (Zf M s)))
  (hP : Xz M s = none → 216 ≤ (Zf M s).pl.b.length ∧ (Zf M s).pl.b.length ≤ 512 ∧ ∀ p ∈ [plB (Zg G s).bp (Zg G s).ba (Zf M s).pl, plD (Zg G s).ba (Zf M s).pl], Has L p.1 p.2) :
  HC Tryz.prog 61 [pt G.wp 0, iv s, iv d] L (fun v L' => v = .tuple ⟨[.agg ⟨sc (Uc M s d)⟩, eV T E (Wl M s d)]⟩ ∧ L' = L) := by
 have kn := fun L hG hI => X9 T E G M s L hG hI hl
 unfold Uc Wl
 rcases Ww (M := M) s with he | ⟨he, h0, h1⟩
 ·simp only [he] at kn ⊢
  refine Za (fun _ _ => Tryz.call61 _ _) Tryz.func61 rfl Tryz.ntmps61 (Nat.le_of_ble_eq_true rfl) ?_; simp only [Ze, Nat.reduceAdd]
  repeat' (first | refine uN ?_ | refine Vk (qC (kn _ (hG.sub.cons _) (hI.cons _))) ?_ | (refine uB ?_; intro b) | (refine uP ?_ ?_ <;> (intro h; ((try simp only [zs, ne_eq, and_true, true_and, eq_self, reduceCtorEq] at h); try exact zx))) | fail)
  exact Ve (LS.c (LS.refl _)) ⟨rfl, rfl⟩ (hx := Vu S (hg := Zd rfl (Zd rfl (Zd rfl Zw))))
 ·have hN' := hN he
  obtain ⟨hp1, hp2, hp3⟩ := hP he
  simp only [he] at kn ⊢
  generalize Zf M s = m at hN' hp1 hp2 hp3 ⊢
  generalize hg : Zg G s = g at hN' hp3 kn
  have hbh : ∀ c : List Zn, ∀ p ∈ [plB g.bp g.ba m.pl, plD g.ba m.pl], Has (c :: L) p.1 p.2 := fun c p hp => Zc (hp3 p hp)
  unfold Qc at hN'
  have g1 : (X2 (Zdr g m.site) g.bp (Yk g m) m.done)[0 + 1]? = some (pt g.bp 0) := Xd rfl
  refine Za (fun _ _ => Tryz.call61 _ _) Tryz.func61 rfl Tryz.ntmps61 (Nat.le_of_ble_eq_true rfl) ?_; simp only [Ze, Nat.reduceAdd]
  repeat' (first | refine uN ?_ | refine Vk (qC (kn _ (hG.sub.cons _) (hI.cons _))) ?_ | refine Vk (qC (Zrv g.bp g.ba m.pl _ (hbh _))) ?_ | (refine uB ?_; intro b) | (refine uP ?_ ?_ <;> (intro h; ((try simp only [zs, ne_eq, and_true, true_and, eq_self, reduceCtorEq] at h); try exact zx))) | fail)
  refine gc (Zoh T E m.pl.b _ (hG.sub.cons _) (by omega)) ?_
  simp only [if_pos hp2]
  rintro v L' ⟨bp, ba, rfl, rfl⟩
  repeat' (first | refine uN ?_ | refine Vk (qC (kn _ (hG.sub.cons _) (hI.cons _))) ?_ | (refine uB ?_; intro b) | (refine uP ?_ ?_ <;> (intro h; ((try simp only [zs, ne_eq, and_true, true_and, eq_self, reduceCtorEq] at h); try exact zx))) | fail)
  refine gc (Zgl T E bp ba _ _ (hG.cons _) (by simp only; omega)) ?_
  have hnl : ¬ (m.pl.b.length < 216) := by omega
  simp only [if_neg hnl, Bool.false_eq_true, if_false]
  rintro v L' ⟨bj, rfl, rfl⟩
  repeat' (first | refine uN ?_ | refine Vk (qC (kn _ (hG.sub.cons _) (hI.cons _))) ?_ | (refine uB ?_; intro b) | (refine uP ?_ ?_ <;> (intro h; ((try simp only [zs, ne_eq, and_true, true_and, eq_self, reduceCtorEq] at h); try exact zx))) | fail)
  refine gc (Zh8 T E bj bp _ d _ ((hG.sub.cons _).cons _) (Zhi _)) ?_
  by_cases hd : d < 0 ∨ 6 ≤ d
  ·simp only [if_pos hd]
   rintro v L' ⟨rfl, rfl⟩
   repeat' (first | refine uN ?_ | refine Vk (qC (kn _ (hG.sub.cons _) (hI.cons _))) ?_ | (refine uB ?_; intro b) | (refine uP ?_ ?_ <;> (intro h; ((try simp only [zs, ne_eq, and_true, true_and, eq_self, reduceCtorEq] at h); try exact zx))) | fail)
   exact Ve (LS.c (LS.c (LS.c (LS.refl _)))) ⟨rfl, rfl⟩ (hx := Vu S (hg := Zd rfl (Zd rfl (Zd rfl Zw))))
  ·simp only [if_neg hd]
   rintro v L' ⟨rfl, rfl⟩
   repeat' (first | refine uN ?_ | refine Vk (qC (kn _ (hG.sub.cons _) (hI.cons _))) ?_ | (refine uB ?_; intro b) | (refine uP ?_ ?_ <;> (intro h; ((try simp only [zs, ne_eq, and_true, true_and, eq_self, reduceCtorEq] at h); try exact zx))) | fail)
   exact Ve (LS.c (LS.c (LS.c (LS.refl _)))) ⟨rfl, rfl⟩ (hx := Vu S (hg := Zd rfl (Zd rfl (Zd rfl Zw))))
end Go.HL
end

/-! WoM -/
section
namespace Go.HL
open Go Go.Proofs
set_option linter.unusedVariables false
set_option linter.unusedSimpArgs false
def Xa (M : Wm) (s : Int) (m : Nd) : Wm := { M with n := M.n.set s.toNat m }
def V8 (d : Int) (m : Nd) : Bool := decide (Zcr m.pl d ≠ W3) || (m.leads.getD d.toNat none).isSome
def Vc (M : Wm) (s d : Int) : Wm × Option Nat :=
 if d < 0 ∨ 6 ≤ d ∨ s < 0 ∨ M.n.length ≤ s then (M, some 2) else
 match Zgu M s with
 | some e => (M, some e)
 | none => if M.n.any (V8 d) then (M, some 8) else
  ({ Xa M s { Zf M s with leads := (Zf M s).leads.set d.toNat (some (Zk s d M.w 0 2)) } with l := M.l ++ Xs (Zk s d M.w 0 2) }, none)
def Qz (m : Nd) (d : Int) : Nd := match m.site with
 | none => m
 | some (j, ref) => { m with site := some (j, fun x => if x = d then true else ref x) }
def Wq (M : Wm) (s d : Int) : Wm × Option Nat :=
 if d < 0 ∨ 6 ≤ d then (M, some 2) else
 match Zgu M s with
 | some e => (M, some e)
 | none => (Xa M s (Qz (Zf M s) d), none)
def Y4 (M : Wm) (s : Int) (f : Fr) : Wm × List Fr × Bool :=
 ({ Xa M s (Xr s (Zf M s) M.ev f).1 with ev := (Xr s (Zf M s) M.ev f).2.1 }, (Xr s (Zf M s) M.ev f).2.2)
def Z7 (m : Ld) (l : List Fr) : Ld × List Fr := l.foldl (fun q f => ((Yc q.1 f).1, q.2 ++ (Yc q.1 f).2)) (m, [])
def Y1 (m : Nd) (d promise : Int) : Int := match m.leads.getD d.toNat none with
 | none => promise
 | some x => max promise x.seen
def Zby (k s a : Int) : Int := a + (s - a) % k
def Zai (s d a : Int) : Fr := ⟨s, s, d, 3, a, false, W3⟩
def Zbg (M : Wm) (s d promise : Int) : Wm × Bool :=
 let a := Zby M.w.length s (Y1 (Zf M s) d promise + 1)
 if 1048576 < a then (M, true) else
 let r := Y4 M s (Zai s d a)
 if r.2.2 = false then (r.1, false) else
 let q := Z7 (Zk s d M.w a 4) r.2.1
 ({ Xa r.1 s { Zf r.1 s with leads := (Zf r.1 s).leads.set d.toNat (some q.1) } with l := r.1.l ++ Xs (Zk s d M.w a 4) ++ q.2 }, true)
def Uu (M : Wm) (s : Int) (d : Int) (st : St) : List Fr := (List.range M.w.length).map fun (i : Nat) => (⟨s, (i : Int), d, 7, st.pr, false, ⟨st.ph, 0, 0⟩⟩ : Fr)
def Uq (s : Int) (q : Wm × Bool) (d : Nat) : Wm × Bool :=
 if q.2 = false then q else
 match (Zf q.1 s).site with
 | none => (q.1, false)
 | some (j, _) =>
  if Y2 j d = W3 then q else
  if (Y2 j d).ph = 2 ∨ (Y2 j d).ph = 3 then ({ q.1 with l := q.1.l ++ Uu q.1 s d (Y2 j d) }, true) else
  Zbg q.1 s d (Y2 j d).pr
def Us (M : Wm) (s : Int) : Wm × Option Nat := match Zgu M s with
 | some e => (M, some e)
 | none => (((List.range 6).foldl (Uq s) (M, true)).1, none)
def Zp9 (f : Fr) : Int × Int := (min f.fr f.to, max f.fr f.to)
def Z4 (M : Wm) (k : Int) : Wm × Option Nat := match Zqv M k with
 | some e => (M, some e)
 | none =>
  let f := M.l.getD k.toNat Wn
  let M1 : Wm := { M with l := M.l.eraseIdx k.toNat }
  if (Zf M1 f.to).site.isNone ∨ M.br (Zp9 f) = true then (M1, none) else
  if f.kd = 2 ∨ f.kd = 4 ∨ f.kd = 6 then
   match (Zf M1 f.to).leads.getD f.dl.toNat none with
   | none => (M1, none)
   | some x => ({ Xa M1 f.to { Zf M1 f.to with leads := (Zf M1 f.to).leads.set f.dl.toNat (some (Yc x f).1) } with l := M1.l ++ (Yc x f).2 }, none)
  else ({ (Y4 M1 f.to f).1 with l := M1.l ++ (Y4 M1 f.to f).2.1 }, none)
def Q3 (M : Wm) (k : Int) : Wm × Option Nat := match Zqv M k with
 | some e => (M, some e)
 | none => ({ M with l := M.l.eraseIdx k.toNat }, none)
def Vq (M : Wm) (k : Int) : Wm × Option Nat := match Zqv M k with
 | some e => (M, some e)
 | none => ({ M with l := M.l.take (k + 1).toNat ++ M.l.getD k.toNat Wn :: M.l.drop (k + 1).toNat }, none)
def Ue (M : Wm) (a b : Int) (whole : Bool) : Wm × Option Nat :=
 if a < 0 ∨ M.n.length ≤ a ∨ b < 0 ∨ M.n.length ≤ b then (M, some 2) else
 ({ M with br := fun x => if x = (min a b, max a b) then (!whole && decide (a ≠ b)) else M.br x }, none)
def Zec (M : Wm) (s n : Int) : Wm × Option Nat :=
 if n < 0 then (M, some 2) else
 match Zgu M s with
 | some e => (M, some e)
 | none => (Xa M s { Zf M s with pl := { (Zf M s).pl with cut := n } }, none)
def Zpy (m : Nd) : Nd := ⟨{ m.pl with off := true }, none, Yn, m.done⟩
def Q5 (M : Wm) (s : Int) : Wm × Option Nat := match Zgu M s with
 | some e => (M, some e)
 | none => (Xa M s (Zpy (Zf M s)), none)
def U5 (m : Nd) : Nd := ⟨{ m.pl with off := false, cut := -1 }, some (⟨Zv m.pl.b, false⟩, fun _ => false), m.leads, m.done⟩
def Zr9 (M : Wm) (s : Int) : Wm × Option Nat := match Xz M s with
 | some e => (M, some e)
 | none => if (Zf M s).site.isSome then (M, some 8) else
  ({ Xa M s { U5 (Zf M s) with done := (Xi s (U5 (Zf M s)) M.ev).1 } with ev := (Xi s (U5 (Zf M s)) M.ev).2 }, none)
def Zor (M : Wm) (s : Int) : Bool × Option Nat := match Xz M s with
 | some e => (false, some e)
 | none => ((Zf M s).site.isSome, none)
def Zak (M : Wm) (s d : Int) : List UInt8 × Option Nat :=
 if s < 0 ∨ M.n.length ≤ s ∨ d < 0 ∨ 6 ≤ d then ([], some 2) else
 match (Zf M s).leads.getD d.toNat none with
 | none => ([110, 111, 110, 101], none)
 | some x => (x.state, none)
def newNd : Nd := ⟨⟨Z2 512, false, -1⟩, some (⟨Zv (Z2 512), false⟩, fun _ => false), Yn, List.replicate 6 false⟩
def Zaa (w : List Int) : Wm := ⟨w, List.replicate w.length newNd, fun _ => false, [], []⟩
end Go.HL
end

/-! WoN -/
section
namespace Go.HL
open Go Go.Proofs
set_option linter.unusedVariables false
set_option linter.unusedSimpArgs false
def Zhc (g : NdG) (i : Int) : Option (Jn × (Int → Bool)) → List Zn
 | none => []
 | some _ => Zed g.sp g.bj g.mb i
def Zhj (g : NdG) : Option (Jn × (Int → Bool)) → List Zn
 | none => []
 | some _ => Zej g.mb g.es g.ck
def Zhq (g : NdG) : Option (Jn × (Int → Bool)) → List Zn
 | none => []
 | some (j, _) => jC g.bj g.bp j
theorem siB_cut (g : NdG) (i : Int) (s : Option (Jn × (Int → Bool))) : siB g i s = Zhc g i s ++ (Zhj g s ++ Zhq g s) := by
 rcases s with _ | ⟨j, r⟩
 ·rfl
 ·simp [siB, Zhc, Zhj, Zhq]
def Xh (G : WdG) (s : Int) (g : NdG) (m : Nd) (X : List Zn) (L : Zb) : Zb :=
 [(G.wp, Ut G)] :: G.ec :: Zab g m :: Zhc g s m.site :: Zhj g m.site :: Yo g.bp g.ba m.pl :: Zhq g m.site :: Qe g m :: G.lc :: G.wc :: G.nc :: [(G.mb, .map ⟨G.es⟩ G.ck)] :: X :: L
theorem Zmc (G : WdG) (s : Int) (g : NdG) (m : Nd) (X : List Zn) (L : Zb) : (Zcc G ++ [Zfm g s m ++ X] ++ L).flatten = ([(G.wp, Ut G)] :: G.wc :: G.nc :: [(G.mb, .map ⟨G.es⟩ G.ck)] :: G.lc :: G.ec :: Zab g m :: Yo g.bp g.ba m.pl :: Zhc g s m.site :: Zhj g m.site :: Zhq g m.site :: Qe g m :: X :: L).flatten := by
 simp only [Zcc, Zfm, siB_cut, List.flatten_cons, List.flatten_append, List.cons_append, List.nil_append, List.append_assoc, List.flatten_nil, List.append_nil]
theorem wdOp_ls (G : WdG) (s : Int) (g : NdG) (m : Nd) (X : List Zn) (L : Zb) : LS (Xh G s g m X L).flatten (Zcc G ++ [Zfm g s m ++ X] ++ L).flatten := by
 rw [Zmc, Xh]
 exact uL
theorem Zoq (G : WdG) (s : Int) (g : NdG) (m : Nd) (X : List Zn) (L : Zb) : LS (Zcc G ++ [Zfm g s m ++ X] ++ L).flatten (Xh G s g m X L).flatten := by
 rw [Zmc, Xh]
 exact uL
theorem Zap {s : Int} (h : 0 ≤ s) : ((0 + s.toNat : Nat) : Int) = s := by omega
theorem Zkd {gs : List NdG} {ms : List Nd} {s : Int} {g : NdG} {m : Nd} (h0 : 0 ≤ s) (hg : gs[s.toNat]? = some g) (hm : ms[s.toNat]? = some m) (T : Zb) (L : Zb) : List.Perm (T ++ [Vi gs ms 0] ++ L).flatten (T ++ [Zfm g s m ++ X5 gs ms 0 s.toNat] ++ L).flatten := by
 have := Zfj (i := 0) hg hm
 rw [Zap h0] at this
 simp only [List.flatten_append, List.flatten_cons, List.flatten_nil, List.append_nil]
 exact (this.append_left _).append_right _
theorem Zep {G : WdG} {M : Wm} {s : Int} (hl : G.nd.length = M.n.length) (h0 : 0 ≤ s) (h1 : s < M.n.length) (L : Zb) : LS (Xh G s (Zg G s) (Zf M s) (X5 G.nd M.n 0 s.toNat) L).flatten (Ym G M ++ L).flatten := by
 have hg : G.nd[s.toNat]? = some (Zg G s) := getD_some (by omega)
 have hm : M.n[s.toNat]? = some (Zf M s) := getD_some (by omega)
 refine LS.trans (wdOp_ls _ _ _ _ _ _) (LS.of_perm ?_)
 exact (Zkd h0 hg hm (Zcc G) L).symm
theorem Ze6 {G : WdG} {gs : List NdG} {ms : List Nd} {s : Int} {g : NdG} {m : Nd} (h0 : 0 ≤ s) (h1 : s.toNat < gs.length) (h2 : s.toNat < ms.length) (L : Zb) : LS (Zcc G ++ [Vi (gs.set s.toNat g) (ms.set s.toNat m) 0] ++ L).flatten (Xh G s g m (X5 gs ms 0 s.toNat) L).flatten := by
 have hg : (gs.set s.toNat g)[s.toNat]? = some g := by simp [h1]
 have hm : (ms.set s.toNat m)[s.toNat]? = some m := by simp [h2]
 refine LS.trans (LS.of_perm (Zkd h0 hg hm (Zcc G) L)) ?_
 rw [Zo2]
 exact Zoq _ _ _ _ _ _
theorem Zdj {G : WdG} {M : Wm} {s : Int} (hl : G.nd.length = M.n.length) (h0 : 0 ≤ s) (h1 : s < M.n.length) {b : Nat} {o : Obj} (hb : (b, o) ∈ Zfm (Zg G s) s (Zf M s)) (L : Zb) : Has (Vi G.nd M.n 0 :: L) b o := by
 have hg : G.nd[s.toNat]? = some (Zg G s) := getD_some (by omega)
 have hm : M.n[s.toNat]? = some (Zf M s) := getD_some (by omega)
 have := Zfj (i := 0) hg hm
 rw [Zap h0] at this
 unfold Has
 rw [List.flatten_cons]
 exact List.mem_append_left _ (this.mem_iff.2 (List.mem_append_left _ hb))
theorem Zpi {G : WdG} {M : Wm} {s : Int} (hl : G.nd.length = M.n.length) (h0 : 0 ≤ s) (h1 : s < M.n.length) (L : Zb) : Has (Vi G.nd M.n 0 :: L) (Zg G s).np (Qc (Zg G s) (Zf M s)) :=
 Zdj hl h0 h1 (by simp [Zfm, Zab]) L
theorem Wr {G : WdG} {M : Wm} (h : WdOk G M) {s : Int} (h0 : 0 ≤ s) (h1 : s < M.n.length) : NdOk (Zg G s) (Zf M s) := by
 have hl := h.ndl
 exact h.nd s.toNat _ _ (getD_some (by omega)) (getD_some (by omega))
theorem U6 {M : Wm} (h : WI M) {s : Int} (h0 : 0 ≤ s) (h1 : s < M.n.length) : NdI M.w s.toNat (Zf M s) := h.nd s.toNat _ (getD_some (by omega))
theorem WdOk.setL {G : WdG} {M : Wm} (h : WdOk G M) {lv : Value} {lc : List Zn} {l : List Fr} (hv : Xq lv l lc) : WdOk { G with lv := lv, lc := lc } { M with l := l } := ⟨h.w, h.nodes, h.ndl, h.br, hv, h.ev, h.nd⟩
theorem WdOk.setE {G : WdG} {M : Wm} (h : WdOk G M) {ev : Value} {c : List Zn} {l : List Evt} (hv : Vec 114 3 ec ev l c) : WdOk { G with ev := ev, ec := c } { M with ev := l } := ⟨h.w, h.nodes, h.ndl, h.br, h.l, hv, h.nd⟩
theorem WdOk.setB {G : WdG} {M : Wm} (h : WdOk G M) {es : List MapEntry} {ck : Nat} {f : Int × Int → Bool} (hv : Zy pk es f) : WdOk { G with es := es, ck := ck } { M with br := f } := ⟨h.w, h.nodes, h.ndl, hv, h.l, h.ev, h.nd⟩
theorem WdOk.put {G : WdG} {M : Wm} (h : WdOk G M) {s : Int} {g : NdG} {m : Nd} (h0 : 0 ≤ s) (h1 : s < M.n.length) (hn : NdOk g m) (hp : g.np = (Zg G s).np) : WdOk { G with nd := G.nd.set s.toNat g } (Xa M s m) := by
 have hl := h.ndl
 have e : (G.nd.set s.toNat g).map (·.np) = G.nd.map (·.np) := by
  rw [List.map_set, hp]
  have hg : G.nd[s.toNat]? = some (Zg G s) := getD_some (by omega)
  refine List.ext_getElem? fun i => ?_
  rw [List.getElem?_set]
  split
  ·rename_i hi
   subst hi
   rw [if_pos (by simp; omega), List.getElem?_map, hg]
   rfl
  ·rfl
 refine ⟨h.w, by simp only [e]; exact h.nodes, by simp [Xa, hl], h.br, h.l, h.ev, fun q g1 m1 V2 hq2 => ?_⟩
 simp only [Xa, List.getElem?_set] at V2 hq2
 by_cases hq : s.toNat = q
 ·rw [if_pos hq] at V2 hq2
  split at V2
  ·split at hq2
   ·cases V2; cases hq2; exact hn
   ·cases hq2
  ·cases V2
 ·rw [if_neg hq] at V2 hq2
  exact h.nd q g1 m1 V2 hq2
theorem Zix {G : WdG} {s : Int} {g : NdG} (h0 : 0 ≤ s) (h1 : s < G.nd.length) (hp : g.np = (Zg G s).np) : (G.nd.set s.toNat g).map (·.np) = G.nd.map (·.np) := by
 rw [List.map_set, hp]
 have hg : G.nd[s.toNat]? = some (Zg G s) := getD_some (by omega)
 refine List.ext_getElem? fun i => ?_
 rw [List.getElem?_set]
 split
 ·rename_i hi
  subst hi
  rw [if_pos (by simp; omega), List.getElem?_map, hg]
  rfl
 ·rfl
def Zdl (G : WdG) (M' : Wm) (L L' : Zb) : Prop := ∃ G', G'.wp = G.wp ∧ G'.nd.map (·.np) = G.nd.map (·.np) ∧ WdOk G' M' ∧ L' = Ym G' M' ++ L
theorem Wb {G : WdG} {M : Wm} (h : WdOk G M) (L : Zb) : Zdl G M L (Ym G M ++ L) := ⟨G, rfl, rfl, h, rfl⟩
theorem Zpx {G G' : WdG} (h : G'.nd.map (·.np) = G.nd.map (·.np)) {s : Int} (h0 : 0 ≤ s) (h1 : s < G.nd.length) : (Zg G' s).np = (Zg G s).np := by
 have hl : G'.nd.length = G.nd.length := by simpa using congrArg List.length h
 have e1 : G'.nd[s.toNat]? = some (Zg G' s) := getD_some (by omega)
 have e2 : G.nd[s.toNat]? = some (Zg G s) := getD_some (by omega)
 have := congrArg (fun l => l[s.toNat]?) h
 simp only [List.getElem?_map, e1, e2, Option.map_some, Option.some.injEq] at this
 exact this
theorem HC.node {F : Nat} {args : List Value} {G : WdG} {M M' : Wm} {s : Int} {L : Zb} {V : Value → Prop} (h : WdOk G M) (h0 : 0 ≤ s) (h1 : s < M.n.length)
  (k : HC Tryz.prog F args (Xh G s (Zg G s) (Zf M s) (X5 G.nd M.n 0 s.toNat) L) (fun v L' => V v ∧ ∃ G' M1 g' m', WdOk G' M1 ∧ G'.nd = G.nd ∧ M1.n = M.n ∧ G'.wp = G.wp ∧ NdOk g' m' ∧ g'.np = (Zg G s).np ∧ M' = Xa M1 s m' ∧ L' = Xh G' s g' m' (X5 G.nd M.n 0 s.toNat) L)) :
  HC Tryz.prog F args (Ym G M ++ L) (fun v L' => V v ∧ Zdl G M' L L') := by
 have hl := h.ndl
 refine HC.post (HC.sp k (Zep hl h0 h1 L)) ?_
 rintro v L' ⟨hv, G', M1, g', m', hW, e1, e2, e3, hN, e4, rfl, rfl⟩
 have hnp : g'.np = (Zg G' s).np := by rw [e4]; unfold Zg; rw [e1]
 refine ⟨Ym { G' with nd := G'.nd.set s.toNat g' } (Xa M1 s m') ++ L, ?_, hv, { G' with nd := G'.nd.set s.toNat g' }, e3, ?_, hW.put h0 (by rw [e2]; exact h1) hN hnp, rfl⟩
 ·simp only [Ym, Xa, e1, e2]
  exact Ze6 (G := G') h0 (by omega) (by omega) L
 ·simp only
  rw [← e1]
  exact Zix h0 (by rw [e1]; omega) hnp
theorem HC.nodeC {F : Nat} {args : List Value} {G : WdG} {M M' : Wm} {s : Int} {L : Zb} {V : Value → List Zn → Prop} (h : WdOk G M) (h0 : 0 ≤ s) (h1 : s < M.n.length)
  (k : HC Tryz.prog F args (Xh G s (Zg G s) (Zf M s) (X5 G.nd M.n 0 s.toNat) L) (fun v L' => ∃ c, V v c ∧ ∃ G' M1 g' m', WdOk G' M1 ∧ G'.nd = G.nd ∧ M1.n = M.n ∧ G'.wp = G.wp ∧ NdOk g' m' ∧ g'.np = (Zg G s).np ∧ M' = Xa M1 s m' ∧ L' = Xh G' s g' m' (X5 G.nd M.n 0 s.toNat) (c :: L))) :
  HC Tryz.prog F args (Ym G M ++ L) (fun v L' => ∃ c, V v c ∧ Zdl G M' (c :: L) L') := by
 have hl := h.ndl
 refine HC.post (HC.sp k (Zep hl h0 h1 L)) ?_
 rintro v L' ⟨c, hv, G', M1, g', m', hW, e1, e2, e3, hN, e4, rfl, rfl⟩
 have hnp : g'.np = (Zg G' s).np := by rw [e4]; unfold Zg; rw [e1]
 refine ⟨Ym { G' with nd := G'.nd.set s.toNat g' } (Xa M1 s m') ++ (c :: L), ?_, c, hv, { G' with nd := G'.nd.set s.toNat g' }, e3, ?_, hW.put h0 (by rw [e2]; exact h1) hN hnp, rfl⟩
 ·simp only [Ym, Xa, e1, e2]
  exact Ze6 (G := G') h0 (by omega) (by omega) _
 ·simp only
  rw [← e1]
  exact Zix h0 (by rw [e1]; omega) hnp
theorem NdOk.fall {g : NdG} {m : Nd} (h : NdOk g m) (pl : Pl) (dn : List Bool) : NdOk g ⟨pl, none, Yn, dn⟩ := by
 refine ⟨h.ld, fun d x hx => ?_, fun j ref hs => by cases hs⟩
 simp only [Yn, List.getElem?_replicate] at hx
 split at hx <;> cases hx
theorem NdOk.same {g : NdG} {m : Nd} (h : NdOk g m) {j : Jn} {ref : Int → Bool} (hs : m.site = some (j, ref)) (pl : Pl) (j' : Jn) (dn : List Bool) : NdOk g ⟨pl, some (j', ref), m.leads, dn⟩ :=
 ⟨h.ld, h.lok, fun j2 r2 e => by cases e; exact h.map j ref hs⟩
theorem Zch {G : WdG} {M : Wm} (h : WdOk G M) {s : Int} (h0 : 0 ≤ s) (h1 : s < M.n.length) {H : Zb} (hH : ∀ b o, (b, o) ∈ G.nc → Has H b o) : NpIn H G.nv M.n.length s (Zg G s).np := by
 have hl := h.ndl
 obtain ⟨a, cap, hnv, -, hR⟩ := h.nodes.rd Ze7
 have hR2 := (hR []).mono (L' := H) fun b o hb => hH b o (by simpa [Has] using hb)
 obtain ⟨b, i, l, F, fr, rfl, hb, hg⟩ := hR2.at1 (j := s) h0 (by simp; omega)
 refine ⟨⟨b, i, l, F, fr, cap, by rw [hnv, List.length_map, hl], hb, ?_⟩, h0, h1⟩
 have e : (G.nd.map (·.np))[s.toNat]'(by simp; omega) = (Zg G s).np := by
  rw [List.getElem_map]
  unfold Zg
  rw [List.getD, List.getElem?_eq_getElem (by omega)]
  rfl
 rw [e] at hg
 exact hg 0 _ rfl
set_option maxHeartbeats 2000000 attribute [local irreducible] HW HO HQ HD HC QOp Has Upd Zp Gets Yf Z8 Zr X3 Z9 Zj Wa Zy
attribute [local irreducible] X2 Zz Yo Z3
theorem Zce (T : Nat) (E : Nat → Addr) (G : WdG) (M : Wm) (s : Int) (f : Fr) (L : Zb) (hG : Er T E [2, 3, 5, 6] L) (h : WdOk G M) (hI : WI M) (h0 : 0 ≤ s) (h1 : s < M.n.length) (hs : (Zf M s).site ≠ none) :
  HC Tryz.prog 102 [pt G.wp 0, iv s, .agg ⟨fc f⟩] (Ym G M ++ L) (fun v L' => ∃ c, (∃ fv, Xq fv (Y4 M s f).2.1 c ∧ v = .tuple ⟨[fv, .bool (Y4 M s f).2.2]⟩) ∧ Zdl G (Y4 M s f).1 (c :: L) L') := by
 refine HC.nodeC h h0 h1 ?_
 have hN := Wr h h0 h1
 have hi := U6 hI h0 h1
 have hn := hI.wn
 have hnp := Zch h h0 h1 (H := Qe (Zg G s) (Zf M s) :: G.lc :: G.wc :: G.nc :: [(G.mb, .map ⟨G.es⟩ G.ck)] :: X5 G.nd M.n 0 s.toNat :: L) fun b o hb => Zc (Zc (Zc (Yi hb)))
 unfold Y4 Xr
 generalize hm : Zf M s = m at *
 cases hsi : m.site with
 | none => exact absurd hsi hs
 | some q =>
  obtain ⟨j, ref⟩ := q
  have hsj := Zkx (id := s) (ref := ref) (hi.jn hsi) f
  have hj6 : (Z3 s ref m.pl j f).2.1.l.length = 6 := hsj.1.ji.jn.len
  have kh := Zlz T E G s (Zg G s) m f M.ev M.n.length j ref (Qe (Zg G s) m :: G.lc :: G.wc :: G.nc :: [(G.mb, .map ⟨G.es⟩ G.ck)] :: X5 G.nd M.n 0 s.toNat :: L) ((((((hG.cons _).cons _).cons _).cons _).cons _).cons _) hnp h.ev hI.evl hN M.w s.toNat hi hsi hj6
  have ew : Xh G s (Zg G s) m (X5 G.nd M.n 0 s.toNat) L = [(G.wp, Ut G)] :: G.ec :: Zab (Zg G s) m :: Zed (Zg G s).sp (Zg G s).bj (Zg G s).mb s :: Zej (Zg G s).mb (Zg G s).es (Zg G s).ck :: Yo (Zg G s).bp (Zg G s).ba m.pl :: jC (Zg G s).bj (Zg G s).bp j :: (Qe (Zg G s) m :: G.lc :: G.wc :: G.nc :: [(G.mb, .map ⟨G.es⟩ G.ck)] :: X5 G.nd M.n 0 s.toNat :: L) := by
   unfold Xh; rw [hsi]; rfl
  rw [ew]
  refine HC.post kh ?_
  intro v L' hq
  unfold HearQ at hq
  simp only
  split at hq
  ·rename_i hoff
   obtain ⟨rfl, rfl⟩ := hq
   refine ⟨Xh G s (Zg G s) ⟨(Z3 s ref m.pl j f).1, none, Yn, m.done⟩ (X5 G.nd M.n 0 s.toNat) ([] :: L), ?_, [], ?_, G, M, Zg G s, _, h, rfl, rfl, rfl, hN.fall _ _, rfl, ?_, rfl⟩
   ·simp only [Xh, Zhc, Zhj, Zhq]
    have : Qe (Zg G s) ⟨(Z3 s ref m.pl j f).1, none, Yn, m.done⟩ = [] := by
     unfold Qe Yn
     have := hN.ld
     obtain ⟨a, b, c, d, e, f, hh⟩ : ∃ a b c d e f, (Zg G s).ld = [a, b, c, d, e, f] := by
      match (Zg G s).ld, this with
      | [a, b, c, d, e, f], _ => exact ⟨_, _, _, _, _, _, rfl⟩
     rw [hh]; rfl
    rw [this]
    exact uL
   ·rw [if_pos hoff]
    exact ⟨_, Yh, rfl⟩
   ·rw [if_pos hoff]; rfl
  ·rename_i hoff
   obtain ⟨fv, c, evv, c2, hfv, hev, rfl, rfl⟩ := hq
   refine ⟨Xh { G with ev := evv, ec := c2 } s (Zg G s) ⟨(Z3 s ref m.pl j f).1, some ((Z3 s ref m.pl j f).2.1, ref), m.leads, (Xi s ⟨(Z3 s ref m.pl j f).1, some ((Z3 s ref m.pl j f).2.1, ref), m.leads, m.done⟩ M.ev).1⟩ (X5 G.nd M.n 0 s.toNat) (c :: L), ?_, c, ?_, { G with ev := evv, ec := c2 }, _, Zg G s, _, h.setE hev, rfl, rfl, rfl, hN.same hsi _ _ _, rfl, ?_, rfl⟩
   ·simp only [Xh, Zhc, Zhj, Zhq]
    exact uL
   ·rw [if_neg hoff]
    exact ⟨_, hfv, rfl⟩
   ·rw [if_neg hoff]; rfl
end Go.HL
end

/-! WoO -/
section
namespace Go.HL
open Go Go.Proofs
set_option linter.unusedVariables false
set_option linter.unusedSimpArgs false
theorem LS.mem {a b : List Zn} (h : LS a b) {x : Zn} (hx : x ∈ a) : x ∈ b := by
 obtain ⟨l, h1, h2⟩ := h
 exact h2.subset (h1.mem_iff.2 hx)
theorem V6 {G : WdG} {M : Wm} (h : WdOk G M) (L : Zb) : WdIn (Ym G M ++ L) G M := wdIn h fun b o hb => by
 unfold Has Ym at *
 rw [List.append_assoc, List.flatten_append]
 exact List.mem_append_left _ hb
theorem Zio {G : WdG} {M : Wm} (h : WdOk G M) (s : Int) (g : NdG) (m : Nd) (X : List Zn) (L : Zb) : WdIn (Xh G s g m X L) G M := wdIn h fun b o hb => by
 unfold Has at *
 refine (Zoq G s g m X L).mem ?_
 rw [List.append_assoc, List.flatten_append]
 exact List.mem_append_left _ hb
theorem Ql {G : WdG} {M : Wm} {s : Int} (hl : G.nd.length = M.n.length) (h0 : 0 ≤ s) (h1 : s < M.n.length) (L : Zb) : Has (Ym G M ++ L) (Zg G s).np (Qc (Zg G s) (Zf M s)) := by
 have := Zpi hl h0 h1 L
 unfold Has Ym at *
 rw [List.append_assoc, List.flatten_append]
 exact List.mem_append_right _ this
theorem wdOp_has {G : WdG} {s : Int} {g : NdG} {m : Nd} {X : List Zn} {L : Zb} : Has (Xh G s g m X L) g.np (Qc g m) := by
 unfold Xh Zab
 exact Zc (Zc Zh)
def upV (G : WdG) (M : Wm) (s : Int) : Value := match Xz M s with
 | some _ => .pointer none
 | none => pt (Zg G s).np 0
theorem Zp0 {M : Wm} {s : Int} (h : Zgu M s = none) : Xz M s = none ∧ 0 ≤ s ∧ s < M.n.length ∧ ∃ j ref, (Zf M s).site = some (j, ref) := by
 unfold Zgu at h
 rcases Ww (M := M) s with he | ⟨he, h0, h1⟩
 ·rw [he] at h; cases h
 ·rw [he] at h
  refine ⟨he, h0, h1, ?_⟩
  cases hs : (Zf M s).site with
  | none => rw [hs] at h; cases h
  | some q => exact ⟨q.1, q.2, rfl⟩
theorem Zn1 {G : WdG} {M : Wm} {s : Int} (h : Xz M s = none) : upV G M s = pt (Zg G s).np 0 := by unfold upV; rw [h]
theorem Za5 {g : NdG} {m : Nd} {d : Nat} {o : Option Ld} {q : Nat × Value × List Zn} (h1 : m.leads[d]? = some o) (h2 : g.ld[d]? = some q) : (Yk g m)[d]? = some (Zp1 o q) := by
 unfold Yk
 rw [List.getElem?_zipWith, h1, h2]
theorem Zj2 {g : NdG} {m : Nd} {d : Nat} {x : Ld} {q : Nat × Value × List Zn} (h1 : m.leads[d]? = some (some x)) (h2 : g.ld[d]? = some q) {y : Zn} (hy : y ∈ Vr q.1 q.2.1 q.2.2 x) : y ∈ Qe g m := by
 unfold Qe
 refine List.mem_flatten.2 ⟨Vr q.1 q.2.1 q.2.2 x, ?_, hy⟩
 refine List.mem_iff_getElem?.2 ⟨d, ?_⟩
 rw [List.getElem?_zipWith, h1, h2]
 rfl
set_option maxHeartbeats 2000000 attribute [local irreducible] HW HO HQ HD HC QOp Has Upd Zp Gets Yf Z8 Zr X3 Z9 Zj Wa Zy
attribute [local irreducible] X2 Zz Yo Z3 Y5
theorem lstateH (lp : Nat) (wv : Value) (m : Ld) (L : Zb) (h : Has L lp (.cells ⟨Y5 wv m⟩ 202)) : HC Tryz.prog 114 [pt lp 0] L (fun v L' => v = bs m.state ∧ L' = L) := hcHas (fun L => Zjo lp wv [] m L) h
theorem lseenH (lp : Nat) (wv : Value) (m : Ld) (L : Zb) (ht : m.told.length = 7) (h : Has L lp (.cells ⟨Y5 wv m⟩ 202)) : HC Tryz.prog 133 [pt lp 0] L (fun v L' => v = iv m.seen ∧ L' = L) := hcHas (fun L => Zli lp wv [] m L ht) h
theorem Zfp (T : Nat) (E : Nat → Addr) (G : WdG) (M : Wm) (s : Int) (L : Zb) (hG : Er T E [2, 6] L) (hI : WdIn L G M) (hl : G.nd.length = M.n.length) (hN : Xz M s = none → Has L (Zg G s).np (Qc (Zg G s) (Zf M s))) :
  HC Tryz.prog 93 [pt G.wp 0, iv s] L (fun v L' => v = .tuple ⟨[upV G M s, eV T E (Zgu M s)]⟩ ∧ L' = L) := by
 have k := Zrg T E G M s L hG hI hl hN
 unfold upV
 rcases Ww (M := M) s with he | ⟨he, h0, h1⟩
 ·have : Zgu M s = some 2 := by unfold Zgu; rw [he]
  simp only [he, this] at k ⊢
  exact k
 ·simp only [he] at k ⊢
  exact k
theorem Zr3 (T : Nat) (E : Nat → Addr) (G : WdG) (M : Wm) (s : Int) (L : Zb) (hG : Er T E [2] L) (hI : WdIn L G M) (hl : G.nd.length = M.n.length) (hN : Xz M s = none → Has L (Zg G s).np (Qc (Zg G s) (Zf M s))) :
  HC Tryz.prog 66 [pt G.wp 0, iv s] L (fun v L' => v = .tuple ⟨[.bool (Zor M s).1, eV T E (Zor M s).2]⟩ ∧ L' = L) := by
 have kn := X9 T E G M s L hG.sub hI hl
 unfold Zor
 rcases Ww (M := M) s with he | ⟨he, h0, h1⟩
 ·simp only [he] at kn ⊢
  refine Za (fun _ _ => Tryz.call66 _ _) Tryz.func66 rfl Tryz.ntmps66 (Nat.le_of_ble_eq_true rfl) ?_; simp only [Ze, Nat.reduceAdd]
  repeat' (first | refine uN ?_ | refine uC (kn) ?_ | (refine uP ?_ ?_ <;> (intro h; ((try simp only [zs, ne_eq, and_true, true_and, eq_self, reduceCtorEq] at h); try exact zx))) | fail)
  exact Zbm rfl ⟨rfl, rfl⟩
 ·have hN' := hN he
  simp only [he] at kn ⊢
  unfold Qc at hN'
  cases hs : (Zf M s).site with
  | none =>
   rw [hs] at hN'
   have g0 : (X2 (.pointer none) (Zg G s).bp (Yk (Zg G s) (Zf M s)) (Zf M s).done)[0 + 0]? = some (.pointer none) := Xd rfl
   refine Za (fun _ _ => Tryz.call66 _ _) Tryz.func66 rfl Tryz.ntmps66 (Nat.le_of_ble_eq_true rfl) ?_; simp only [Ze, Nat.reduceAdd]
   repeat' (first | refine uN ?_ | refine uC (kn) ?_ | (refine uP ?_ ?_ <;> (intro h; ((try simp only [zs, ne_eq, and_true, true_and, eq_self, reduceCtorEq] at h); try exact zx))) | fail)
   exact Zbm rfl ⟨rfl, rfl⟩
  | some q =>
   rw [hs] at hN'
   obtain ⟨q1, q2⟩ := q
   have g0 : (X2 (pt (Zg G s).sp 0) (Zg G s).bp (Yk (Zg G s) (Zf M s)) (Zf M s).done)[0 + 0]? = some (pt (Zg G s).sp 0) := Xd rfl
   refine Za (fun _ _ => Tryz.call66 _ _) Tryz.func66 rfl Tryz.ntmps66 (Nat.le_of_ble_eq_true rfl) ?_; simp only [Ze, Nat.reduceAdd]
   repeat' (first | refine uN ?_ | refine uC (kn) ?_ | (refine uP ?_ ?_ <;> (intro h; ((try simp only [zs, ne_eq, and_true, true_and, eq_self, reduceCtorEq] at h); try exact zx))) | fail)
   exact Zbm rfl ⟨rfl, rfl⟩
theorem Zkh (T : Nat) (E : Nat → Addr) (G : WdG) (M : Wm) (s d : Int) (L : Zb) (hG : Er T E [2] L) (hW : WdOk G M) (hM : WI M) :
  HC Tryz.prog 64 [pt G.wp 0, iv s, iv d] (Ym G M ++ L) (fun v L' => v = .tuple ⟨[bs (Zak M s d).1, eV T E (Zak M s d).2]⟩ ∧ L' = Ym G M ++ L) := by
 have hl := hW.ndl
 have hI := V6 hW L
 have hG' : Er T E [2] (Ym G M ++ L) := by
  unfold Ym Zcc
  exact ((((((hG.cons _).cons _).cons _).cons _).cons _).cons _).cons _
 have kn := X9 T E G M s _ hG' hI hl
 have hAt : ∀ (h0 : 0 ≤ s) (h1 : s < M.n.length), Has (Ym G M ++ L) (Zg G s).np (Qc (Zg G s) (Zf M s)) := fun h0 h1 => Ql hl h0 h1 L
 have hB : ∀ (h0 : 0 ≤ s) (h1 : s < M.n.length) {b : Nat} {o : Obj}, (b, o) ∈ Zfm (Zg G s) s (Zf M s) → Has (Ym G M ++ L) b o := fun h0 h1 {b o} hb => by
  have := Zdj hl h0 h1 hb L
  unfold Has Ym at *
  rw [List.append_assoc, List.flatten_append]
  exact List.mem_append_right _ this
 generalize Ym G M ++ L = H at *
 unfold Zak
 rcases Ww (M := M) s with he | ⟨he, h0, h1⟩
 ·have h2 : s < 0 ∨ ↑M.n.length ≤ s ∨ d < 0 ∨ 6 ≤ d := by
   unfold Xz at he
   split at he
   ·omega
   ·cases he
  simp only [if_pos h2, he] at kn ⊢
  refine Za (fun _ _ => Tryz.call64 _ _) Tryz.func64 rfl Tryz.ntmps64 (Nat.le_of_ble_eq_true rfl) ?_; simp only [Ze, Nat.reduceAdd]
  repeat' (first | refine uN ?_ | refine Yb S ?_ | refine uC (kn) ?_ | (refine uP ?_ ?_ <;> (intro h; ((try simp only [zs, ne_eq, and_true, true_and, eq_self, reduceCtorEq] at h); try exact zx))) | fail)
  exact Zbm rfl ⟨rfl, rfl⟩
 ·simp only [he] at kn
  by_cases hd : d < 0 ∨ 6 ≤ d
  ·have h2 : s < 0 ∨ ↑M.n.length ≤ s ∨ d < 0 ∨ 6 ≤ d := .inr (.inr hd)
   simp only [if_pos h2]
   refine Za (fun _ _ => Tryz.call64 _ _) Tryz.func64 rfl Tryz.ntmps64 (Nat.le_of_ble_eq_true rfl) ?_; simp only [Ze, Nat.reduceAdd]
   repeat' (first | refine uN ?_ | refine Yb S ?_ | refine uC (kn) ?_ | (refine uP ?_ ?_ <;> (intro h; ((try simp only [zs, ne_eq, and_true, true_and, eq_self, reduceCtorEq] at h); try exact zx))) | fail)
   all_goals exact Zbm rfl ⟨rfl, rfl⟩
  ·have h2 : ¬ (s < 0 ∨ ↑M.n.length ≤ s ∨ d < 0 ∨ 6 ≤ d) := by omega
   simp only [if_neg h2]
   have hN := hAt h0 h1
   have hok := Wr hW h0 h1
   have hni := U6 hM h0 h1
   have hBB := fun {b o} => hB h0 h1 (b := b) (o := o)
   generalize Zf M s = m at *
   generalize hg : Zg G s = g at *
   obtain ⟨dn, rfl⟩ := Int.eq_ofNat_of_zero_le (show 0 ≤ d by omega)
   have hd6 : dn < 6 := by omega
   simp only [Int.toNat_natCast]
   have hm1 : m.leads[dn]? = some (m.leads.getD dn none) := getD_some (by rw [hni.leads]; exact hd6)
   obtain ⟨q, hq⟩ : ∃ q, g.ld[dn]? = some q := ⟨_, List.getElem?_eq_getElem (by rw [hok.ld]; exact hd6)⟩
   have hv := Za5 hm1 hq
   unfold Qc at hN
   have gL := Zam (sv := Zdr g m.site) (bp := g.bp) (dn := m.done) hv
   cases hx : m.leads.getD dn none with
   | none =>
    rw [hx] at gL
    simp only [Zp1] at gL
    refine Za (fun _ _ => Tryz.call64 _ _) Tryz.func64 rfl Tryz.ntmps64 (Nat.le_of_ble_eq_true rfl) ?_; simp only [Ze, Nat.reduceAdd]
    repeat' (first | refine uN ?_ | refine Yb S ?_ | refine uC (kn) ?_ | (refine uP ?_ ?_ <;> (intro h; ((try simp only [zs, ne_eq, and_true, true_and, eq_self, reduceCtorEq] at h); try exact zx))) | fail)
    exact Zbm rfl ⟨rfl, rfl⟩
   | some x =>
    rw [hx] at gL hm1
    simp only [Zp1] at gL
    have hLd : Has H q.1 (.cells ⟨Y5 q.2.1 x⟩ 202) := hBB (by
     unfold Zfm
     exact List.mem_append_right _ (Zj2 hm1 hq (by simp [Vr])))
    refine Za (fun _ _ => Tryz.call64 _ _) Tryz.func64 rfl Tryz.ntmps64 (Nat.le_of_ble_eq_true rfl) ?_; simp only [Ze, Nat.reduceAdd]
    repeat' (first | refine uN ?_ | refine Yb S ?_ | refine uC (kn) ?_ | refine uC (lstateH q.1 q.2.1 x _ hLd) ?_ | (refine uP ?_ ?_ <;> (intro h; ((try simp only [zs, ne_eq, and_true, true_and, eq_self, reduceCtorEq] at h); try exact zx))) | fail)
    exact Zbm rfl ⟨rfl, rfl⟩
end Go.HL
end

/-! WoP -/
section
namespace Go.HL
open Go Go.Proofs
set_option linter.unusedVariables false
set_option linter.unusedSimpArgs false
theorem Zip {T : Nat} {E : Nat → Addr} {ns : List Nat} {L : Zb} (h : Er T E ns L) (G : WdG) (s : Int) (g : NdG) (m : Nd) (X : List Zn) : Er T E ns (Xh G s g m X L) :=
 ((((((((((((h.cons _).cons _).cons _).cons _).cons _).cons _).cons _).cons _).cons _).cons _).cons _).cons _).cons _
theorem Xp {T : Nat} {E : Nat → Addr} {ns : List Nat} {L : Zb} (h : Er T E ns L) (G : WdG) (M : Wm) : Er T E ns (Ym G M ++ L) :=
 ((((((h.cons _).cons _).cons _).cons _).cons _).cons _).cons _
theorem Zgm {M : Wm} {s : Int} : (∃ e, Zgu M s = some e) ∨ (Zgu M s = none ∧ Xz M s = none ∧ 0 ≤ s ∧ s < M.n.length ∧ ∃ j ref, (Zf M s).site = some (j, ref)) := by
 cases h : Zgu M s with
 | some e => exact .inl ⟨e, rfl⟩
 | none => exact .inr ⟨rfl, Zp0 h⟩
set_option maxHeartbeats 2000000 attribute [local irreducible] HW HO HQ HD HC QOp Has Upd Zp Gets Yf Z8 Zr X3 Z9 Zj Wa Zy
attribute [local irreducible] X2 Zz Yo Z3 Y5
theorem Zey {T : Nat} {E : Nat → Addr} {G : WdG} {M : Wm} (s : Int) {L : Zb} (hG : Er T E [2, 6] L) (hW : WdOk G M) : HC Tryz.prog 93 [pt G.wp 0, iv s] (Ym G M ++ L) (fun v L' => v = .tuple ⟨[upV G M s, eV T E (Zgu M s)]⟩ ∧ L' = Ym G M ++ L) :=
 Zfp T E G M s _ (Xp hG G M) (V6 hW L) hW.ndl (fun hn => by
  obtain ⟨h0, h1⟩ := Yp hn
  exact Ql hW.ndl h0 h1 L)
theorem Zn8 {T : Nat} {E : Nat → Addr} {G : WdG} {M : Wm} {s : Int} {L : Zb} (hG : Er T E [2, 6] L) (hW : WdOk G M) (hu : Zgu M s = none) (X : List Zn) : HC Tryz.prog 93 [pt G.wp 0, iv s] (Xh G s (Zg G s) (Zf M s) X L) (fun v L' => v = .tuple ⟨[pt (Zg G s).np 0, .nilIface]⟩ ∧ L' = Xh G s (Zg G s) (Zf M s) X L) := by
 have := Zfp T E G M s _ (Zip hG G s (Zg G s) (Zf M s) X) (Zio hW s _ _ X L) hW.ndl (fun hn => wdOp_has)
 rw [hu, Zn1 (Zp0 hu).1] at this
 exact this
theorem Zgy (T : Nat) (E : Nat → Addr) (G : WdG) (M : Wm) (s d : Int) (L : Zb) (hG : Er T E [2, 6] L) (hW : WdOk G M) (hM : WI M) :
  HC Tryz.prog 38 [pt G.wp 0, iv s, iv d] (Ym G M ++ L) (fun v L' => v = eV T E (Wq M s d).2 ∧ Zdl G (Wq M s d).1 L L') := by
 unfold Wq
 have hself := Wb hW L
 by_cases hd : d < 0 ∨ 6 ≤ d
 ·simp only [if_pos hd]
  have hG' := Xp hG G M
  generalize Ym G M ++ L = H at *
  refine Za (fun _ _ => Tryz.call38 _ _) Tryz.func38 rfl Tryz.ntmps38 (Nat.le_of_ble_eq_true rfl) ?_; simp only [Ze, Nat.reduceAdd]
  repeat' (first | refine uN ?_ | (refine uP ?_ ?_ <;> (intro h; ((try simp only [zs, ne_eq, and_true, true_and, eq_self, reduceCtorEq] at h); try exact zx))) | fail)
  all_goals exact Qd rfl ⟨rfl, hself⟩
 simp only [if_neg hd]
 rcases Zgm (M := M) (s := s) with ⟨e, he⟩ | ⟨he, hn, h0, h1, j, ref, hs⟩
 ·have ku := Zey s hG hW
  have hG' := Xp hG G M
  generalize Ym G M ++ L = H at *
  simp only [he] at ku ⊢
  refine Za (fun _ _ => Tryz.call38 _ _) Tryz.func38 rfl Tryz.ntmps38 (Nat.le_of_ble_eq_true rfl) ?_; simp only [Ze, Nat.reduceAdd]
  repeat' (first | refine uN ?_ | refine uC (ku) ?_ | (refine uP ?_ ?_ <;> (intro h; ((try simp only [zs, ne_eq, and_true, true_and, eq_self, reduceCtorEq] at h); try exact zx))) | fail)
  exact Qd rfl ⟨rfl, hself⟩
 ·simp only [he]
  refine HC.node hW h0 h1 ?_
  have ku := Zn8 (X := X5 G.nd M.n 0 s.toNat) hG hW he
  have hok := Wr hW h0 h1
  have hni := U6 hM h0 h1
  generalize X5 G.nd M.n 0 s.toNat = X at *
  generalize Zf M s = m at *
  generalize Zg G s = g at *
  obtain ⟨pl, site, leads, done⟩ := m
  simp only at hs
  subst hs
  have hF := hok.map j ref rfl
  have hj := (hni.jn rfl).ji.jn
  have g0 : (X2 (pt g.sp 0) g.bp (Yk g ⟨pl, some (j, ref), leads, done⟩) done)[0 + 0]? = some (pt g.sp 0) := Xd rfl
  have kr := fun L hG => Zi8 T E g.sp g.bj g.mb g.bp s g.es g.ck ref j d L hG hj.len hF
  simp only [if_neg hd] at kr
  simp only [Xh, Zab, Qc, Zdr, Zhc, Zhj, Zhq] at ku ⊢
  refine Za (fun _ _ => Tryz.call38 _ _) Tryz.func38 rfl Tryz.ntmps38 (Nat.le_of_ble_eq_true rfl) ?_; simp only [Ze, Nat.reduceAdd]
  repeat' (first | refine uN ?_ | refine uC (ku) ?_ | (refine uP ?_ ?_ <;> (intro h; ((try simp only [zs, ne_eq, and_true, true_and, eq_self, reduceCtorEq] at h); try exact zx))) | fail)
  refine fo 6 ?_
  refine fo 5 ?_
  refine fo 5 ?_
  refine gc (kr _ ?_) ?_
  ·exact (((((((((hG.sub.cons _).cons _).cons _).cons _).cons _).cons _).cons _).cons _).cons _).cons _
  rintro v L' ⟨es', ck', hF', rfl, rfl⟩
  repeat' (first | refine uN ?_ | refine uC (ku) ?_ | (refine uP ?_ ?_ <;> (intro h; ((try simp only [zs, ne_eq, and_true, true_and, eq_self, reduceCtorEq] at h); try exact zx))) | fail)
  refine Xm (L' := Xh G s { g with es := es', ck := ck' } (Qz ⟨pl, some (j, ref), leads, done⟩ d) X L) ?_ ⟨rfl, G, M, { g with es := es', ck := ck' }, Qz ⟨pl, some (j, ref), leads, done⟩ d, hW, rfl, rfl, rfl, ⟨hok.ld, hok.lok, fun j2 r2 e => by cases e; exact hF'⟩, rfl, rfl, rfl⟩
  simp only [Xh, Zab, Qc, Zdr, Zhc, Zhj, Zhq, Qz]
  exact uL
theorem Zod (T : Nat) (E : Nat → Addr) (G : WdG) (M : Wm) (s n : Int) (L : Zb) (hG : Er T E [2, 6] L) (hW : WdOk G M) (hM : WI M) :
  HC Tryz.prog 51 [pt G.wp 0, iv s, iv n] (Ym G M ++ L) (fun v L' => v = eV T E (Zec M s n).2 ∧ Zdl G (Zec M s n).1 L L') := by
 unfold Zec
 have hself := Wb hW L
 by_cases hd : n < 0
 ·simp only [if_pos hd]
  have hG' := Xp hG G M
  generalize Ym G M ++ L = H at *
  refine Za (fun _ _ => Tryz.call51 _ _) Tryz.func51 rfl Tryz.ntmps51 (Nat.le_of_ble_eq_true rfl) ?_; simp only [Ze, Nat.reduceAdd]
  repeat' (first | refine uN ?_ | (refine uP ?_ ?_ <;> (intro h; ((try simp only [zs, ne_eq, and_true, true_and, eq_self, reduceCtorEq] at h); try exact zx))) | fail)
  all_goals exact Qd rfl ⟨rfl, hself⟩
 simp only [if_neg hd]
 rcases Zgm (M := M) (s := s) with ⟨e, he⟩ | ⟨he, hn, h0, h1, j, ref, hs⟩
 ·have ku := Zey s hG hW
  have hG' := Xp hG G M
  generalize Ym G M ++ L = H at *
  simp only [he] at ku ⊢
  refine Za (fun _ _ => Tryz.call51 _ _) Tryz.func51 rfl Tryz.ntmps51 (Nat.le_of_ble_eq_true rfl) ?_; simp only [Ze, Nat.reduceAdd]
  repeat' (first | refine uN ?_ | refine uC (ku) ?_ | (refine uP ?_ ?_ <;> (intro h; ((try simp only [zs, ne_eq, and_true, true_and, eq_self, reduceCtorEq] at h); try exact zx))) | fail)
  exact Qd rfl ⟨rfl, hself⟩
 ·simp only [he]
  refine HC.node hW h0 h1 ?_
  have ku := Zn8 (X := X5 G.nd M.n 0 s.toNat) hG hW he
  have hok := Wr hW h0 h1
  have hni := U6 hM h0 h1
  generalize X5 G.nd M.n 0 s.toNat = X at *
  generalize hmm : Zf M s = m at *
  generalize Zg G s = g at *
  obtain ⟨pl, site, leads, done⟩ := m
  simp only at hs
  subst hs
  have hoff : pl.off = false := (hni.up j ref rfl).2
  have g1 : (X2 (pt g.sp 0) g.bp (Yk g ⟨pl, some (j, ref), leads, done⟩) done)[0 + 1]? = some (pt g.bp 0) := Xd rfl
  have kr := fun L hG => Zq7 T E g.bp g.ba pl n L hG
  simp only [if_neg hd, hoff, Bool.false_eq_true, if_false] at kr
  simp only [Xh, Zab, Qc, Zdr, Zhc, Zhj, Zhq] at ku ⊢
  refine Za (fun _ _ => Tryz.call51 _ _) Tryz.func51 rfl Tryz.ntmps51 (Nat.le_of_ble_eq_true rfl) ?_; simp only [Ze, Nat.reduceAdd]
  repeat' (first | refine uN ?_ | refine uC (ku) ?_ | (refine uP ?_ ?_ <;> (intro h; ((try simp only [zs, ne_eq, and_true, true_and, eq_self, reduceCtorEq] at h); try exact zx))) | fail)
  refine fo 5 ?_
  refine gc (kr _ ?_) ?_
  ·exact ((((((((((((hG.sub.cons _).cons _).cons _).cons _).cons _).cons _).cons _).cons _).cons _).cons _).cons _).cons _)
  rintro v L' ⟨rfl, rfl⟩
  repeat' (first | refine uN ?_ | refine uC (ku) ?_ | (refine uP ?_ ?_ <;> (intro h; ((try simp only [zs, ne_eq, and_true, true_and, eq_self, reduceCtorEq] at h); try exact zx))) | fail)
  refine Xm (L' := Xh G s g ⟨{ pl with cut := n }, some (j, ref), leads, done⟩ X L) ?_ ⟨rfl, G, M, g, ⟨{ pl with cut := n }, some (j, ref), leads, done⟩, hW, rfl, rfl, rfl, hok.same rfl _ _ _, rfl, rfl, rfl⟩
  have e1 : Qe g ⟨{ pl with cut := n }, some (j, ref), leads, done⟩ = Qe g ⟨pl, some (j, ref), leads, done⟩ := rfl
  have e2 : Yk g ⟨{ pl with cut := n }, some (j, ref), leads, done⟩ = Yk g ⟨pl, some (j, ref), leads, done⟩ := rfl
  simp only [Xh, Zab, Qc, Zdr, Zhc, Zhj, Zhq]
  rw [e1, e2]
  simp only [hoff]
  exact uL
theorem Zlx (T : Nat) (E : Nat → Addr) (G : WdG) (M : Wm) (s : Int) (L : Zb) (hG : Er T E [2, 6] L) (hW : WdOk G M) (hM : WI M) :
  HC Tryz.prog 53 [pt G.wp 0, iv s] (Ym G M ++ L) (fun v L' => v = eV T E (Q5 M s).2 ∧ Zdl G (Q5 M s).1 L L') := by
 unfold Q5
 have hself := Wb hW L
 rcases Zgm (M := M) (s := s) with ⟨e, he⟩ | ⟨he, hn, h0, h1, j, ref, hs⟩
 ·have ku := Zey s hG hW
  have hG' := Xp hG G M
  generalize Ym G M ++ L = H at *
  simp only [he] at ku ⊢
  refine Za (fun _ _ => Tryz.call53 _ _) Tryz.func53 rfl Tryz.ntmps53 (Nat.le_of_ble_eq_true rfl) ?_; simp only [Ze, Nat.reduceAdd]
  repeat' (first | refine uN ?_ | refine uC (ku) ?_ | (refine uP ?_ ?_ <;> (intro h; ((try simp only [zs, ne_eq, and_true, true_and, eq_self, reduceCtorEq] at h); try exact zx))) | fail)
  exact Qd rfl ⟨rfl, hself⟩
 ·simp only [he]
  refine HC.node hW h0 h1 ?_
  have ku := Zn8 (X := X5 G.nd M.n 0 s.toNat) hG hW he
  have hok := Wr hW h0 h1
  have hni := U6 hM h0 h1
  generalize X5 G.nd M.n 0 s.toNat = X at *
  generalize hmm : Zf M s = m at *
  generalize Zg G s = g at *
  obtain ⟨pl, site, leads, done⟩ := m
  simp only at hs
  subst hs
  have g1 : (X2 (pt g.sp 0) g.bp (Yk g ⟨pl, some (j, ref), leads, done⟩) done)[0 + 1]? = some (pt g.bp 0) := Xd rfl
  have kr := fun L => Zrd g.bp g.ba pl L
  have hlv : (Yk g ⟨pl, some (j, ref), leads, done⟩).length = 6 := by simp [Yk, hni.leads, hok.ld]
  have kf := fun L => Zd6 g ⟨pl, some (j, ref), leads, done⟩ L hlv hok.ld
  simp only [Xh, Zab, Qc, Zdr, Zhc, Zhj, Zhq] at ku kf ⊢
  refine Za (fun _ _ => Tryz.call53 _ _) Tryz.func53 rfl Tryz.ntmps53 (Nat.le_of_ble_eq_true rfl) ?_; simp only [Ze, Nat.reduceAdd]
  repeat' (first | refine uN ?_ | refine uC (ku) ?_ | (refine uP ?_ ?_ <;> (intro h; ((try simp only [zs, ne_eq, and_true, true_and, eq_self, reduceCtorEq] at h); try exact zx))) | fail)
  refine fo 5 ?_
  refine gc (kr _) ?_
  rintro v L' ⟨rfl, rfl⟩
  repeat' (first | refine uN ?_ | refine uC (ku) ?_ | (refine uP ?_ ?_ <;> (intro h; ((try simp only [zs, ne_eq, and_true, true_and, eq_self, reduceCtorEq] at h); try exact zx))) | fail)
  refine fo 3 ?_
  refine gc (kf _) ?_
  rintro v L' ⟨rfl, rfl⟩
  repeat' (first | refine uN ?_ | refine uC (ku) ?_ | (refine uP ?_ ?_ <;> (intro h; ((try simp only [zs, ne_eq, and_true, true_and, eq_self, reduceCtorEq] at h); try exact zx))) | fail)
  refine Xm (L' := Xh G s g (Zpy ⟨pl, some (j, ref), leads, done⟩) X L) ?_ ⟨rfl, G, M, g, Zpy ⟨pl, some (j, ref), leads, done⟩, hW, rfl, rfl, rfl, hok.fall _ _, rfl, rfl, rfl⟩
  simp only [Xh, Zab, Qc, Zdr, Zhc, Zhj, Zhq, Zpy]
  have : Qe g ⟨{ pl with off := true }, none, Yn, done⟩ = [] := by
   unfold Qe Yn
   have := hok.ld
   obtain ⟨a, b, c, d, e, f, hh⟩ : ∃ a b c d e f, g.ld = [a, b, c, d, e, f] := by
    match g.ld, this with
    | [a, b, c, d, e, f], _ => exact ⟨_, _, _, _, _, _, rfl⟩
   rw [hh]; rfl
  rw [this]
  exact uL
end Go.HL
end

/-! WoQ -/
section
namespace Go.HL
open Go Go.Proofs
set_option linter.unusedVariables false
set_option linter.unusedSimpArgs false
set_option maxHeartbeats 2000000 attribute [local irreducible] HW HO HQ HD HC QOp Has Upd Zp Gets Yf Z8 Zr X3 Z9 Zj Wa Zy
attribute [local irreducible] X2 Zz Yo Z3 Y5 Zv
theorem Zn6 (T : Nat) (E : Nat → Addr) (G : WdG) (M : Wm) (s : Int) (L : Zb) (hG : Er T E [2, 3, 6, 8] L) (hW : WdOk G M) (hM : WI M) :
  HC Tryz.prog 55 [pt G.wp 0, iv s] (Ym G M ++ L) (fun v L' => v = eV T E (Zr9 M s).2 ∧ Zdl G (Zr9 M s).1 L L') := by
 unfold Zr9
 have hself := Wb hW L
 have hnl := hM.wn
 have hwl := hM.wl
 rcases Ww (M := M) s with he | ⟨he, h0, h1⟩
 ·have kn := X9 T E G M s _ (Xp hG.sub G M) (V6 hW L) hW.ndl
  generalize Ym G M ++ L = H at *
  simp only [he] at kn ⊢
  refine Za (fun _ _ => Tryz.call55 _ _) Tryz.func55 rfl Tryz.ntmps55 (Nat.le_of_ble_eq_true rfl) ?_; simp only [Ze, Nat.reduceAdd]
  repeat' (first | refine uN ?_ | refine uC (kn) ?_ | (refine uP ?_ ?_ <;> (intro h; ((try simp only [zs, ne_eq, and_true, true_and, eq_self, reduceCtorEq] at h); try exact zx))) | fail)
  exact Qd rfl ⟨rfl, hself⟩
 ·simp only [he]
  cases hs : (Zf M s).site with
  | some q =>
   have kn := X9 T E G M s _ (Xp hG.sub G M) (V6 hW L) hW.ndl
   have hN := Ql hW.ndl h0 h1 L
   have hG' := Xp hG G M
   generalize Ym G M ++ L = H at *
   simp only [he, Option.isSome_some, if_true] at kn ⊢
   unfold Qc at hN
   rw [hs] at hN
   obtain ⟨q1, q2⟩ := q
   have g0 : (X2 (pt (Zg G s).sp 0) (Zg G s).bp (Yk (Zg G s) (Zf M s)) (Zf M s).done)[0 + 0]? = some (pt (Zg G s).sp 0) := Xd rfl
   refine Za (fun _ _ => Tryz.call55 _ _) Tryz.func55 rfl Tryz.ntmps55 (Nat.le_of_ble_eq_true rfl) ?_; simp only [Ze, Nat.reduceAdd]
   repeat' (first | refine uN ?_ | refine uC (kn) ?_ | (refine uP ?_ ?_ <;> (intro h; ((try simp only [zs, ne_eq, and_true, true_and, eq_self, reduceCtorEq] at h); try exact zx))) | fail)
   exact Qd rfl ⟨rfl, hself⟩
  | none =>
   simp only [Option.isSome_none, Bool.false_eq_true, if_false]
   refine HC.node hW h0 h1 ?_
   have kn := X9 T E G M s _ (Zip hG.sub G s (Zg G s) (Zf M s) (X5 G.nd M.n 0 s.toNat)) (Zio hW s _ _ _ L) hW.ndl
   have hok := Wr hW h0 h1
   have hni := U6 hM h0 h1
   have hnp := fun H hH => Zch hW h0 h1 (H := H) hH
   simp only [he] at kn
   generalize X5 G.nd M.n 0 s.toNat = X at *
   generalize hmm : Zf M s = m at *
   generalize Zg G s = g at *
   obtain ⟨pl, site, leads, done⟩ := m
   simp only at hs
   subst hs
   have hpl : pl.b.length = 512 := hni.b512
   have g0 : ∀ v, (X2 v g.bp (Yk g ⟨pl, none, leads, done⟩) done)[0 + 0]? = some v := fun v => Xd rfl
   have g1 : ∀ v, (X2 v g.bp (Yk g ⟨pl, none, leads, done⟩) done)[0 + 1]? = some (pt g.bp 0) := fun v => Xd rfl
   have g0n := g0 (.pointer none)
   have g1n := g1 (.pointer none)
   have p0 := fun v => Zlc (sv := .pointer none) (sv' := v) (bp := g.bp) (lv := Yk g ⟨pl, none, leads, done⟩) (dn := done)
   have kon := fun L => on_calls g.bp g.ba pl L
   have kne := fun L hG => Ze9 T E s g.bp g.ba { pl with off := false, cut := -1 } L hG (by simp only; omega)
   have hse : Zia s { pl with off := false, cut := -1 } = none := by
    unfold Zia
    rw [if_neg (by omega)]
    simp only
    rw [if_neg (by omega)]
    simp
   simp only [hse] at kne
   have hlv : (Yk g ⟨pl, none, leads, done⟩).length = 6 := by simp [Yk, hni.leads, hok.ld]
   simp only [Xh, Zab, Qc, Zdr, Zhc, Zhj, Zhq] at kn ⊢
   refine Za (fun _ _ => Tryz.call55 _ _) Tryz.func55 rfl Tryz.ntmps55 (Nat.le_of_ble_eq_true rfl) ?_; simp only [Ze, Nat.reduceAdd]
   repeat' (first | refine uN ?_ | refine uC (kn) ?_ | (refine uP ?_ ?_ <;> (intro h; ((try simp only [zs, ne_eq, and_true, true_and, eq_self, reduceCtorEq] at h); try exact zx))) | fail)
   refine fo 5 ?_
   refine gc (kon _) ?_
   rintro v L' ⟨rfl, rfl⟩
   repeat' (first | refine uN ?_ | refine uC (kn) ?_ | (refine uP ?_ ?_ <;> (intro h; ((try simp only [zs, ne_eq, and_true, true_and, eq_self, reduceCtorEq] at h); try exact zx))) | fail)
   refine gc (kne _ ?_) ?_
   ·exact ((((((((((((hG.sub.cons _).cons _).cons _).cons _).cons _).cons _).cons _).cons _).cons _).cons _).cons _).cons _)
   rintro v L' ⟨sp, bj, mb, rfl, rfl⟩
   have p0n := p0 (pt sp 0)
   repeat' (first | refine uN ?_ | refine uC (kn) ?_ | (refine uP ?_ ?_ <;> (intro h; ((try simp only [zs, ne_eq, and_true, true_and, eq_self, reduceCtorEq] at h); try exact zx))) | fail)
   have kw := fun L hp hs => Zd7 G s { g with sp := sp, bj := bj, mb := mb, es := [], ck := 0 } (U5 ⟨pl, none, leads, done⟩) M.ev M.n.length L hW.ev hM.evl hp hni.done hlv hs
   have g0s := g0 (pt sp 0)
   refine fo 6 ?_
   refine fo 6 ?_
   refine fo 6 ?_
   refine gc (kw _ ?_ ?_) ?_
   ·exact hnp _ (fun b o hb => Zc (Zc (Zc (Zc (Zc (Zc (Zc (Zc (Zc (Zc (Yi hb)))))))))))
   ·intro j r hjr
    cases hjr
    refine ⟨⟨Zh, ?_⟩, Zhi _⟩
    exact Zc (Zc (Zc Zh))
   rintro v L' ⟨evv, c, hev, rfl, rfl⟩
   repeat' (first | refine uN ?_ | refine uC (kn) ?_ | (refine uP ?_ ?_ <;> (intro h; ((try simp only [zs, ne_eq, and_true, true_and, eq_self, reduceCtorEq] at h); try exact zx))) | fail)
   refine Xm (L' := Xh { G with ev := evv, ec := c } s { g with sp := sp, bj := bj, mb := mb, es := [], ck := 0 } { U5 ⟨pl, none, leads, done⟩ with done := (Xi s (U5 ⟨pl, none, leads, done⟩) M.ev).1 } X L) ?_ ⟨rfl, { G with ev := evv, ec := c }, { M with ev := (Xi s (U5 ⟨pl, none, leads, done⟩) M.ev).2 }, { g with sp := sp, bj := bj, mb := mb, es := [], ck := 0 }, { U5 ⟨pl, none, leads, done⟩ with done := (Xi s (U5 ⟨pl, none, leads, done⟩) M.ev).1 }, hW.setE hev, rfl, rfl, rfl, ⟨hok.ld, hok.lok, fun j2 r2 e => by cases e; exact Zgh⟩, rfl, rfl, rfl⟩
   simp only [Xh, U5, Zhc, Zhj, Zhq]
   exact uL
end Go.HL
end

/-! WoR -/
section
namespace Go.HL
open Go Go.Proofs
set_option linter.unusedVariables false
set_option linter.unusedSimpArgs false
section nd
variable {P : Program} {n : Nat} {ops : List Oper} {Q : Exit → Zq → Zb → Prop} {ρ : Zq} {L : Zb} {l : List Oper}
theorem ho_nodup (h : (L.flatten.map (·.1)).Nodup → HO P n ops Q l ρ L) : HO P n ops Q l ρ L := fun k w a hs ha => h hs.nodup k w a hs ha
end nd
theorem Zeo {G G' : WdG} {M' : Wm} {L : Zb} (h : WdOk G' M') (e1 : G'.wp = G.wp) (e2 : G'.nd = G.nd) : Zdl G M' L (Ym G' M' ++ L) := ⟨G', e1, by rw [e2], h, rfl⟩
set_option maxHeartbeats 2000000 attribute [local irreducible] HW HO HQ HD HC QOp Has Upd Zp Gets Yf Z8 Zr X3 Z9 Zj Wa Zy
attribute [local irreducible] X2 Zz Yo Z3 Y5 Zv
theorem Zd8 (T : Nat) (E : Nat → Addr) (G : WdG) (M : Wm) (a b : Int) (whole : Bool) (L : Zb) (hG : Er T E [2] L) (hW : WdOk G M) :
  HC Tryz.prog 48 [pt G.wp 0, iv a, iv b, .bool whole] (Ym G M ++ L) (fun v L' => v = eV T E (Ue M a b whole).2 ∧ Zdl G (Ue M a b whole).1 L L') := by
 unfold Ue
 have hself := Wb hW L
 have hI := V6 hW L
 obtain ⟨an, capn, hnv, hnr⟩ := hI.ns
 by_cases h : a < 0 ∨ M.n.length ≤ a ∨ b < 0 ∨ M.n.length ≤ b
 ·simp only [if_pos h]
  have hG' := Xp hG G M
  have hw := hI.wp
  unfold Ut at hw
  rw [hnv] at hw
  generalize Ym G M ++ L = H at *
  refine Za (fun _ _ => Tryz.call48 _ _) Tryz.func48 rfl Tryz.ntmps48 (Nat.le_of_ble_eq_true rfl) ?_; simp only [Ze, Nat.reduceAdd]
  repeat' (first | refine uN ?_ | (refine uP ?_ ?_ <;> (intro h; ((try simp only [zs, ne_eq, and_true, true_and, eq_self, reduceCtorEq] at h); try exact zx))) | fail)
  all_goals exact Qd rfl ⟨rfl, hself⟩
 ·simp only [if_neg h]
  have hF := hW.br
  have key : ∀ es' ck' x, Zy pk es' (fun y => if y = (min a b, max a b) then x else M.br y) → Zdl G { M with br := fun y => if y = (min a b, max a b) then x else M.br y } L (Ym { G with es := es', ck := ck' } { M with br := fun y => if y = (min a b, max a b) then x else M.br y } ++ L) := fun es' ck' x hF' => Zeo (hW.setB hF') rfl rfl
  simp only [Ym, Zcc, Ut, List.cons_append, List.nil_append, hnv] at key ⊢
  cases whole with
  | true =>
   simp only [Bool.not_true, Bool.false_and]
   refine Za (fun _ _ => Tryz.call48 _ _) Tryz.func48 rfl Tryz.ntmps48 (Nat.le_of_ble_eq_true rfl) ?_; simp only [Ze, Nat.reduceAdd]
   repeat' (first | refine uN ?_ | (refine uP ?_ ?_ <;> (intro h; ((try simp only [zs, ne_eq, and_true, true_and, eq_self, reduceCtorEq] at h); try exact zx))) | fail)
   all_goals refine fo 3 ?_
   all_goals refine wmP (v := false) hF (fun es' ck' hF' => ?_)
   all_goals repeat' (first | refine uN ?_ | (refine uP ?_ ?_ <;> (intro h; ((try simp only [zs, ne_eq, and_true, true_and, eq_self, reduceCtorEq] at h); try exact zx))) | fail)
   all_goals exact Xm uL ⟨rfl, key es' ck' _ hF'⟩
  | false =>
   simp only [Bool.not_false, Bool.true_and]
   refine Za (fun _ _ => Tryz.call48 _ _) Tryz.func48 rfl Tryz.ntmps48 (Nat.le_of_ble_eq_true rfl) ?_; simp only [Ze, Nat.reduceAdd]
   repeat' (first | refine uN ?_ | (refine uP ?_ ?_ <;> (intro h; ((try simp only [zs, ne_eq, and_true, true_and, eq_self, reduceCtorEq] at h); try exact zx))) | fail)
   all_goals refine fo 3 ?_
   all_goals refine wmP (v := decide (a ≠ b)) hF (fun es' ck' hF' => ?_)
   all_goals repeat' (first | refine uN ?_ | (refine uP ?_ ?_ <;> (intro h; ((try simp only [zs, ne_eq, and_true, true_and, eq_self, reduceCtorEq] at h); try exact zx))) | fail)
   all_goals exact Xm uL ⟨rfl, key es' ck' _ hF'⟩
theorem Zln (T : Nat) (E : Nat → Addr) (G : WdG) (M : Wm) (k : Int) (L : Zb) (hG : Er T E [4] L) (hW : WdOk G M) (hl : M.l.length ≤ 100000000) :
  HC Tryz.prog 44 [pt G.wp 0, iv k] (Ym G M ++ L) (fun v L' => v = eV T E (Q3 M k).2 ∧ Zdl G (Q3 M k).1 L L') := by
 unfold Q3
 have hself := Wb hW L
 have hI := V6 hW L
 have ka := Za6 T E G M k _ (Xp hG G M) hI
 unfold Zqv at *
 by_cases h : k < 0 ∨ M.l.length ≤ k
 ·simp only [if_pos h] at ka ⊢
  generalize Ym G M ++ L = H at *
  refine Za (fun _ _ => Tryz.call44 _ _) Tryz.func44 rfl Tryz.ntmps44 (Nat.le_of_ble_eq_true rfl) ?_; simp only [Ze, Nat.reduceAdd]
  repeat' (first | refine uN ?_ | refine uC (ka) ?_ | (refine uP ?_ ?_ <;> (intro h; ((try simp only [zs, ne_eq, and_true, true_and, eq_self, reduceCtorEq] at h); try exact zx))) | fail)
  all_goals exact Qd rfl ⟨rfl, hself⟩
 ·simp only [if_neg h] at ka ⊢
  have key : ∀ lv lc, Xq lv (M.l.eraseIdx k.toNat) lc → Zdl G { M with l := M.l.eraseIdx k.toNat } L (Ym { G with lv := lv, lc := lc } { M with l := M.l.eraseIdx k.toNat } ++ L) := fun lv lc hv => Zeo (hW.setL hv) rfl rfl
  have kd := fun L => Zcz G.lv M.l G.lc k (k + 1) L hW.l hl (by omega) (by omega) rfl
  simp only [Ym, Zcc, Ut, List.cons_append, List.nil_append] at key ka ⊢
  obtain ⟨a5, cap5, he5, -, -⟩ := hW.l.rd Zs
  rw [he5] at ka kd ⊢
  refine Za (fun _ _ => Tryz.call44 _ _) Tryz.func44 rfl Tryz.ntmps44 (Nat.le_of_ble_eq_true rfl) ?_; simp only [Ze, Nat.reduceAdd]
  repeat' (first | refine uN ?_ | refine uC (ka) ?_ | (refine uP ?_ ?_ <;> (intro h; ((try simp only [zs, ne_eq, and_true, true_and, eq_self, reduceCtorEq] at h); try exact zx))) | fail)
  refine fo 4 ?_
  refine gc (kd _) ?_
  rintro v L' ⟨c', hv', rfl⟩
  obtain ⟨a6, cap6, rfl, -, -⟩ := hv'.rd Zs
  repeat' (first | refine uN ?_ | refine uC (ka) ?_ | (refine uP ?_ ?_ <;> (intro h; ((try simp only [zs, ne_eq, and_true, true_and, eq_self, reduceCtorEq] at h); try exact zx))) | fail)
  exact Xm uL ⟨rfl, key _ c' hv'⟩
theorem Znz (G : WdG) (M : Wm) (L : Zb) (hI : WdIn L G M) : HC Tryz.prog 59 [pt G.wp 0] L (fun v L' => v = iv M.l.length ∧ L' = L) := by
 have hw := hI.wp
 unfold Ut at hw
 obtain ⟨a, cap, hlv, -⟩ := hI.ls
 rw [hlv] at hw
 refine Za (fun _ _ => Tryz.call59 _ _) Tryz.func59 rfl Tryz.ntmps59 (Nat.le_of_ble_eq_true rfl) ?_; simp only [Ze, Nat.reduceAdd]
 repeat' (first | refine uN ?_)
 exact Qd rfl ⟨rfl, rfl⟩
theorem Zii (G : WdG) (M : Wm) (L : Zb) (hI : WdIn L G M) : HC Tryz.prog 72 [pt G.wp 0] L (fun v L' => v = iv M.n.length ∧ L' = L) := by
 have hw := hI.wp
 unfold Ut at hw
 obtain ⟨a, cap, hlv, -⟩ := hI.ns
 rw [hlv] at hw
 refine Za (fun _ _ => Tryz.call72 _ _) Tryz.func72 rfl Tryz.ntmps72 (Nat.le_of_ble_eq_true rfl) ?_; simp only [Ze, Nat.reduceAdd]
 repeat' (first | refine uN ?_)
 exact Qd rfl ⟨rfl, rfl⟩
theorem Zbl (G : WdG) (M : Wm) (L : Zb) (hW : WdOk G M) (hl : M.ev.length ≤ 100000000) :
  HC Tryz.prog 68 [pt G.wp 0] (Ym G M ++ L) (fun v L' => ∃ c, Vec 114 3 ec v M.ev c ∧ L' = c :: (Ym G M ++ L)) := by
 have kd := fun L => Zjc G.ev M.ev G.ec L hW.ev hl
 obtain ⟨a5, cap5, he5, -, -⟩ := hW.ev.rd Qy
 simp only [Ym, Zcc, Ut, List.cons_append, List.nil_append]
 rw [he5] at kd ⊢
 refine Za (fun _ _ => Tryz.call68 _ _) Tryz.func68 rfl Tryz.ntmps68 (Nat.le_of_ble_eq_true rfl) ?_; simp only [Ze, Nat.reduceAdd]
 repeat' (first | refine uN ?_)
 refine fo 5 ?_
 refine gc (kd _) ?_
 rintro v L' ⟨c', hv', rfl⟩
 repeat' (first | refine uN ?_)
 exact Xm uL ⟨c', hv', rfl⟩
theorem Zjv (T : Nat) (E : Nat → Addr) (G : WdG) (M : Wm) (k : Int) (L : Zb) (hG : Er T E [4] L) (hW : WdOk G M) (hl : M.l.length ≤ 99999999) :
  HC Tryz.prog 46 [pt G.wp 0, iv k] (Ym G M ++ L) (fun v L' => v = eV T E (Vq M k).2 ∧ Zdl G (Vq M k).1 L L') := by
 unfold Vq
 have hself := Wb hW L
 have hI := V6 hW L
 have ka := Za6 T E G M k _ (Xp hG G M) hI
 unfold Zqv at *
 by_cases h : k < 0 ∨ M.l.length ≤ k
 ·simp only [if_pos h] at ka ⊢
  generalize Ym G M ++ L = H at *
  refine Za (fun _ _ => Tryz.call46 _ _) Tryz.func46 rfl Tryz.ntmps46 (Nat.le_of_ble_eq_true rfl) ?_; simp only [Ze, Nat.reduceAdd]
  repeat' (first | refine uN ?_ | refine Yb S ?_ | refine Yv S ?_ | refine uC (ka) ?_ | refine Yx (fun _ => ka) ?_ | refine Y0 (fun _ => ka) ?_ | refine Yz (fun _ => ka) ?_ | refine Yy (fun _ => ka) ?_ | (refine uB ?_; intro b) | (refine uP ?_ ?_ <;> (intro h; ((try simp only [zs, ne_eq, and_true, true_and, eq_self, reduceCtorEq] at h); try exact zx))) | refine da 101 ?_ | fail)
  all_goals exact Qd rfl ⟨rfl, hself⟩
 ·simp only [if_neg h] at ka ⊢
  have key : ∀ lv lc, Xq lv (M.l.take (k + 1).toNat ++ M.l.getD k.toNat Wn :: M.l.drop (k + 1).toNat) lc → Zdl G { M with l := M.l.take (k + 1).toNat ++ M.l.getD k.toNat Wn :: M.l.drop (k + 1).toNat } L (Ym { G with lv := lv, lc := lc } { M with l := M.l.take (k + 1).toNat ++ M.l.getD k.toNat Wn :: M.l.drop (k + 1).toNat } ++ L) := fun lv lc hv => Zeo (hW.setL hv) rfl rfl
  have kd := fun eb L hne => Zi6 G.lv M.l G.lc (k + 1) (M.l.getD k.toNat Wn) eb L hW.l (by omega) (by omega) (by omega) hne
  obtain ⟨a5, cap5, he5, -, hR5⟩ := hW.l.rd Zs
  have hR6 := (hR5 []).mono (L' := Ym G M ++ L) fun b o hb => by
   simp only [Has, Ym, Zcc, List.flatten_cons, List.flatten_nil, List.append_nil, List.cons_append, List.nil_append] at hb ⊢
   simp [hb]
  obtain ⟨b, i, l, F, fr, e6, hb, hg⟩ := hR6.at (j := k) (by omega) (by omega)
  have hgk : M.l[k.toNat]'(by omega) = M.l.getD k.toNat Wn := by
   rw [List.getD, List.getElem?_eq_getElem (by omega)]; rfl
  rw [hgk] at hg
  rw [e6] at he5
  simp only [Ym, Zcc, Ut, List.cons_append, List.nil_append] at key ka hb ⊢
  rw [he5] at ka kd hb ⊢
  refine Za (fun _ _ => Tryz.call46 _ _) Tryz.func46 rfl Tryz.ntmps46 (Nat.le_of_ble_eq_true rfl) ?_; simp only [Ze, Nat.reduceAdd]
  repeat' (first | refine uN ?_ | refine Z0 S ?_ | refine uC (ka) ?_ | refine Yx (fun _ => ka) ?_ | refine Y0 (fun _ => ka) ?_ | refine Yz (fun _ => ka) ?_ | refine Yy (fun _ => ka) ?_ | (refine uB ?_; intro b) | (refine uP ?_ ?_ <;> (intro h; ((try simp only [zs, ne_eq, and_true, true_and, eq_self, reduceCtorEq] at h); try exact zx))) | refine da 101 ?_ | fail)
  refine ho_nodup fun hnd => ?_
  refine fo 5 ?_
  refine gc (kd b _ ?_) ?_
  ·intro q o hq hqe
   subst hqe
   rw [List.flatten_cons, List.singleton_append, List.map_cons, List.nodup_cons] at hnd
   refine hnd.1 (List.mem_map.2 ⟨(b, o), ?_, rfl⟩)
   simp [hq]
  rintro v L' ⟨c', hv', rfl⟩
  obtain ⟨a6, cap6, rfl, -, -⟩ := hv'.rd Zs
  repeat' (first | refine uN ?_ | refine Z0 S ?_ | refine uC (ka) ?_ | refine Yx (fun _ => ka) ?_ | refine Y0 (fun _ => ka) ?_ | refine Yz (fun _ => ka) ?_ | refine Yy (fun _ => ka) ?_ | (refine uB ?_; intro b) | (refine uP ?_ ?_ <;> (intro h; ((try simp only [zs, ne_eq, and_true, true_and, eq_self, reduceCtorEq] at h); try exact zx))) | refine da 101 ?_ | fail)
  exact Xm uL ⟨rfl, key _ c' hv'⟩
end Go.HL
end

/-! WgD -/
section
namespace Go.HL
open Go Go.Proofs
set_option linter.unusedVariables false
set_option linter.unusedSimpArgs false

def quor (ws : List Int) (s : Nat) : Bool := decide (Za8 ws (2 ^ ws.length - 1) < 2 * Za8 ws s)
end Go.HL
end

/-! RfW -/
section
namespace Go.HL
open Go Go.Proofs
set_option linter.unusedVariables false
set_option linter.unusedSimpArgs false
set_option maxHeartbeats 2000000 attribute [local irreducible] HW HO HQ HD HC QOp Has Upd Zp Gets Yf Z8 Zr X3 Z9 Zj Wa Zy
end Go.HL
end

/-! RfA -/
section
namespace Go.HL
open Go Go.Proofs
set_option linter.unusedVariables false
set_option linter.unusedSimpArgs false
set_option maxHeartbeats 2000000 attribute [local irreducible] HW HO HQ HD HC QOp Has Upd Zp Gets Yf Z8 Zr X3 Z9 Zj Wa Zy
theorem Zjk {α : Type} {xs ys : List α} {i : Nat} (h : i < xs.length) (h' : i < ys.length) : xs.take (i + 1) = ys.take (i + 1) ↔ xs.take i = ys.take i ∧ xs[i] = ys[i] := by
 rw [List.take_succ_eq_append_getElem h, List.take_succ_eq_append_getElem h']
 constructor
 ·intro e
  obtain ⟨e1, e2⟩ := List.append_inj e (by simp; omega)
  exact ⟨e1, by simpa using e2⟩
 ·rintro ⟨e1, e2⟩
  rw [e1, e2]
end Go.HL
end

/-! RfF -/
section
namespace Go.HL
open Go Go.Proofs
set_option linter.unusedVariables false
set_option linter.unusedSimpArgs false
set_option maxHeartbeats 2000000 attribute [local irreducible] HW HO HQ HD HC QOp Has Upd Zp Gets Yf Z8 Zr X3 Z9 Zj Wa Zy
end Go.HL
end

/-! LdE -/
section
namespace Go.HL
open Go Go.Proofs
set_option linter.unusedVariables false
set_option linter.unusedSimpArgs false
set_option maxHeartbeats 2000000 attribute [local irreducible] HW HO HQ HD HC QOp Has Upd Zp Gets Yf Z8 Zr X3 Z9 Zj Wa Zy
structure LdIs (ws : List Int) (id deal att : Int) (m : Ld) : Prop where
 hid : m.id = id
 hdl : m.deal = deal
 hat : m.att = att
 hw : m.w = ws
 htl : m.told.length = 7
 hhd : m.heard < 2 ^ ws.length
theorem LdIs.ok {w : List Int} {id deal att : Int} {m m' : Ld} {wv : Value} {wc : List Zn} (h : LdIs w id deal att m) (h' : LdIs w id deal att m') (ho : LdOk wv wc m) : LdOk wv wc m' := ho.of (by rw [h.hw, h'.hw]) (by rw [h.htl, h'.htl])
theorem LdIs.done {w : List Int} {id deal att : Int} {m : Ld} (h : LdIs w id deal att m) : LdIs w id deal att (Um m) := ⟨h.hid, h.hdl, h.hat, h.hw, h.htl, h.hhd⟩
theorem LdIs.prep {w : List Int} {id deal att : Int} {m : Ld} (h : LdIs w id deal att m) (p : Int) : LdIs w id deal att (Zbh m p) := ⟨h.hid, h.hdl, h.hat, h.hw, h.htl, Nat.two_pow_pos _⟩
theorem LdIs.m1 {w : List Int} {id deal att : Int} {m : Ld} (h : LdIs w id deal att m) (f : Fr) : LdIs w id deal att (Zfn m f) := by
 unfold Zfn; split
 ·exact h
 ·exact ⟨h.hid, h.hdl, h.hat, h.hw, h.htl, h.hhd⟩
theorem LdIs.m2 {w : List Int} {id deal att : Int} {m : Ld} (h : LdIs w id deal att m) (f : Fr) (hf : Vo m f) : LdIs w id deal att (Ze8 m f) := by
 have h1 := h.m1 f
 refine ⟨h1.hid, h1.hdl, h1.hat, h1.hw, ?_, ?_⟩
 ·simp [Ze8, h.htl]
 ·have := hf.2.2.2.2.2.1
  have := hf.2.2.2.2.1
  rw [h.hw] at *
  exact Zf5 h.hhd (by omega)
theorem LdIs.count {w : List Int} {id deal att : Int} {m : Ld} (h : LdIs w id deal att m) : LdIs w id deal att (Xj m).1 := by
 unfold Xj
 split
 ·exact h.prep _
 split
 ·exact h
 split
 ·exact h.done
 split
 ·exact h.done
 ·exact h.prep _
theorem LdIs.hear {w : List Int} {id deal att : Int} {m : Ld} (h : LdIs w id deal att m) (f : Fr) : LdIs w id deal att (Yc m f).1 := by
 unfold Yc
 split
 ·exact h
 rename_i hw
 have hf : Vo m f := by
  by_cases hf : Vo m f
  ·exact hf
  ·exact absurd (.inr hf) hw
 split
 ·unfold noM
  have h1 := h.m1 f
  split
  ·exact h1.done
  ·exact ⟨h1.hid, h1.hdl, h1.hat, h1.hw, h1.htl, h1.hhd⟩
 ·exact (h.m2 f hf).count
theorem Zex (m : Ld) (k p : Int) : (Zd9 m k p).length ≤ m.w.length := Vp (Zeh m k p) (Zei m k p) m.w.length
theorem Zcn (m : Ld) (f : Fr) : (Yc m f).2.length ≤ m.w.length := by
 have e1 : (Zfn m f).w = m.w := by unfold Zfn; split <;> rfl
 have e2 : (Ze8 m f).w = m.w := e1
 unfold Yc
 split
 ·simp
 split
 ·unfold noM
  split
  ·have := Zex (Um (Zfn m f)) 7 3
   rw [show (Um (Zfn m f)).w = m.w from e1] at this
   exact this
  ·simp
 ·unfold Xj
  have hp : ∀ p, (Zoc (Ze8 m f) p).2.length ≤ m.w.length := fun p => by
   have := Zex (Zbh (Ze8 m f) p) 5 p
   rw [show (Zbh (Ze8 m f) p).w = m.w from e1] at this
   exact this
  have hd : ∀ p, (Zf0 (Ze8 m f) p).2.length ≤ m.w.length := fun p => by
   have := Zex (Um (Ze8 m f)) 7 p
   rw [show (Um (Ze8 m f)).w = m.w from e1] at this
   exact this
  split
  ·exact hp _
  split
  ·simp
  split
  ·exact hd _
  split
  ·exact hd _
  ·exact hp _
end Go.HL
end

/-! WoI -/
section
namespace Go.HL
open Go Go.Proofs
set_option linter.unusedVariables false
set_option linter.unusedSimpArgs false
def Zfr (n : Nat) (f : Fr) : Prop := ¬ Ws f ∧ f.to < n ∧ f.fr < n
theorem SI.eq {m : Pl} {j : Jn} (h : SI m j) : j = ⟨Zv m.b, m.off⟩ := by
 obtain ⟨l, d⟩ := j
 have h1 : d = m.off := h.ji.off
 have h2 : l = Zv m.b := h.ji.l
 rw [h1, h2]
theorem allM_mem {m : Ld} {k p : Int} {f : Fr} (h : f ∈ Zd9 m k p) : ∃ i, i < m.w.length ∧ f = ⟨m.id, i, m.deal, k, m.att, false, ⟨p, 0, 0⟩⟩ ∧ (k ≠ 3 ∨ (i : Int) ≠ m.id) := by
 unfold Zd9 at h
 obtain ⟨i, hi, hf⟩ := List.mem_flatMap.1 h
 unfold Zeh at hf
 split at hf
 ·rename_i hc
  simp at hf
  exact ⟨i, List.mem_range.1 hi, hf, hc⟩
 ·cases hf
theorem Zcd {w : List Int} {s d : Nat} {m : Ld} (hi : LdI w s d m) (hs : s < w.length) (hw : w.length ≤ 7) (hd : d < 6) {k p : Int} (hk : 1 ≤ k ∧ k ≤ 7) (hp : 0 ≤ p ∧ p ≤ 5) : ∀ f ∈ Zd9 m k p, Zfr w.length f := by
 intro f hf
 obtain ⟨i, h1, rfl, -⟩ := allM_mem hf
 rw [hi.ww] at h1
 have e1 := hi.id
 have e2 := hi.deal
 have e3 := hi.att0
 have e4 := hi.att1
 unfold Zfr Ws
 simp only
 omega
theorem LdI.is {w : List Int} {s d : Nat} {x : Ld} (h : LdI w s d x) : LdIs w s d x.att x := ⟨h.id, h.deal, rfl, h.ww, h.told, h.heard⟩
theorem LdI.of {w : List Int} {s d : Nat} {x y : Ld} (h : LdI w s d x) (hy : LdIs w s d x.att y) (ht : ∀ t ∈ y.told, 0 ≤ t.ph ∧ t.ph ≤ 5) (hp : 0 ≤ y.phase ∧ y.phase ≤ 5) (hs : 0 ≤ y.seen ∧ y.seen ≤ 1048576) : LdI w s d y :=
 ⟨hy.hw, hy.hid, hy.hdl, by rw [hy.hat]; exact h.att0, by rw [hy.hat]; exact h.att1, hy.htl, ht, hy.hhd, hp.1, hp.2, hs.1, hs.2⟩
theorem LdI.done {w : List Int} {s d : Nat} {x : Ld} (h : LdI w s d x) : LdI w s d (Um x) := h.of h.is.done h.tok ⟨h.ph0, h.ph1⟩ ⟨h.seen0, h.seen1⟩
theorem LdI.prep {w : List Int} {s d : Nat} {x : Ld} (h : LdI w s d x) {p : Int} (hp : 0 ≤ p ∧ p ≤ 5) : LdI w s d (Zbh x p) := h.of (h.is.prep p) h.tok hp ⟨h.seen0, h.seen1⟩
theorem LdI.m1 {w : List Int} {s d : Nat} {x : Ld} (h : LdI w s d x) {f : Fr} (hf : ¬ Ws f) : LdI w s d (Zfn x f) := by
 refine h.of (h.is.m1 f) ?_ ?_ ?_
 ·unfold Zfn; split <;> exact h.tok
 ·unfold Zfn; split <;> exact ⟨h.ph0, h.ph1⟩
 ·have h1 := h.seen0
  have h2 := h.seen1
  unfold Ws at hf
  unfold Zfn
  split
  ·exact ⟨h1, h2⟩
  ·simp only
   omega
theorem LdI.m2 {w : List Int} {s d : Nat} {x : Ld} (h : LdI w s d x) {f : Fr} (hf : ¬ Ws f) (hfit : Vo x f) : LdI w s d (Ze8 x f) := by
 have h1 := h.m1 hf
 refine h.of (h.is.m2 f hfit) ?_ ⟨h1.ph0, h1.ph1⟩ ⟨h1.seen0, h1.seen1⟩
 intro t ht
 unfold Ze8 at ht
 rcases List.mem_or_eq_of_mem_set ht with h2 | h2
 ·exact h.tok t h2
 ·subst h2
  unfold Ws at hf
  omega
theorem Zr6 (p : Int) : 0 ≤ Vs p ∧ Vs p ≤ 5 := by unfold Vs; split <;> (try split) <;> omega
theorem Zf4 (xs : List St) : 0 ≤ (Y8 xs).1 ∧ (Y8 xs).1 ≤ 5 := by
 unfold Y8
 split
 ·simp
 split
 ·simp
 split <;> simp
theorem LdI.count {w : List Int} {s d : Nat} {x : Ld} (h : LdI w s d x) (hs : s < w.length) (hw : w.length ≤ 7) (hd : d < 6) : LdI w s d (Xj x).1 ∧ ∀ f ∈ (Xj x).2, Zfr w.length f := by
 have hpre : ∀ p, 0 ≤ p ∧ p ≤ 5 → LdI w s d (Zoc x p).1 ∧ ∀ f ∈ (Zoc x p).2, Zfr w.length f := fun p hp => ⟨h.prep hp, Zcd (h.prep hp) hs hw hd (by omega) hp⟩
 have hdec : ∀ p, 0 ≤ p ∧ p ≤ 5 → LdI w s d (Zf0 x p).1 ∧ ∀ f ∈ (Zf0 x p).2, Zfr w.length f := fun p hp => ⟨h.done, Zcd h.done hs hw hd (by omega) hp⟩
 unfold Xj
 split
 ·exact hpre 4 (by omega)
 split
 ·exact ⟨h, fun f hf => by cases hf⟩
 split
 ·exact hdec _ (Zr6 _)
 split
 ·exact hdec _ (Zf4 _)
 ·exact hpre _ (Zf4 _)
theorem LdI.hear {w : List Int} {s d : Nat} {x : Ld} (h : LdI w s d x) (hs : s < w.length) (hw : w.length ≤ 7) (hd : d < 6) {f : Fr} (hf : ¬ Ws f) : LdI w s d (Yc x f).1 ∧ ∀ g ∈ (Yc x f).2, Zfr w.length g := by
 unfold Yc
 split
 ·exact ⟨h, fun g hg => by cases hg⟩
 rename_i hwt
 have hfit : Vo x f := by
  by_cases hfit : Vo x f
  ·exact hfit
  ·exact absurd (.inr hfit) hwt
 split
 ·unfold noM
  have h1 := h.m1 hf
  split
  ·exact ⟨h1.done, Zcd h1.done hs hw hd (by omega) (by omega)⟩
  ·exact ⟨⟨h1.ww, h1.id, h1.deal, h1.att0, h1.att1, h1.told, h1.tok, h1.heard, h1.ph0, h1.ph1, h1.seen0, h1.seen1⟩, fun g hg => by cases hg⟩
 ·exact (h.m2 hf hfit).count hs hw hd
theorem Zih {w : List Int} {s d : Nat} {a k : Int} (h0 : 0 ≤ a) (h1 : a ≤ 1048576) : LdI w s d (Zk s d w a k) :=
 ⟨rfl, rfl, rfl, h0, h1, rfl, fun t ht => by
  rw [List.mem_replicate.1 ht |>.2]
  simp [W3], Nat.two_pow_pos _, by simp [Zk], by simp [Zk], by simp [Zk], by simp [Zk]⟩
theorem Zhz {w : List Int} {s d : Nat} {m : Ld} (hi : LdI w s d m) (hs : s < w.length) (hw : w.length ≤ 7) (hd : d < 6) : ∀ f ∈ Xs m, Zfr w.length f := by
 unfold Xs
 split
 ·exact Zcd hi hs hw hd (by omega) (by omega)
 ·exact Zcd hi hs hw hd (by omega) (by omega)
theorem WI.set {M : Wm} (h : WI M) {s : Int} {m : Nd} (h0 : 0 ≤ s) (hm : NdI M.w s.toNat m) : WI (Xa M s m) := by
 refine ⟨h.w0, h.wl, h.w1, by simp [Xa, h.wn], h.fr, h.evl, fun q x hx => ?_⟩
 simp only [Xa, List.getElem?_set] at hx
 by_cases hq : s.toNat = q
 ·rw [if_pos hq] at hx
  split at hx
  ·cases hx
   rw [← hq]
   exact hm
  ·cases hx
 ·rw [if_neg hq] at hx
  exact h.nd q x hx
theorem WI.setL {M : Wm} (h : WI M) {l : List Fr} (hl : ∀ f ∈ l, Zfr M.w.length f) : WI { M with l := l } := ⟨h.w0, h.wl, h.w1, h.wn, hl, h.evl, h.nd⟩
theorem WI.setE {M : Wm} (h : WI M) {l : List Evt} (hl : l.length ≤ 500) : WI { M with ev := l } := ⟨h.w0, h.wl, h.w1, h.wn, h.fr, hl, h.nd⟩
theorem WI.setB {M : Wm} (h : WI M) (f : Int × Int → Bool) : WI { M with br := f } := ⟨h.w0, h.wl, h.w1, h.wn, h.fr, h.evl, h.nd⟩
theorem WI.erase {M : Wm} (h : WI M) (k : Nat) : WI { M with l := M.l.eraseIdx k } := h.setL fun f hf => h.fr f (List.mem_of_mem_eraseIdx hf)
theorem Zhy (s : Int) (m : Nd) (ev : List Evt) : (Xi s m ev).1.length = m.done.length := by
 unfold Xi
 split
 ·rfl
 ·exact Zaz 6
theorem Zl5 (s : Int) (m : Nd) (ev : List Evt) (h : ev.length ≤ 500) : (Xi s m ev).2.length ≤ 500 := by
 unfold Xi
 split
 ·exact h
 ·exact Zfz h 6
theorem NdI.fall {w : List Int} {s : Nat} {m : Nd} (h : NdI w s m) {pl : Pl} (hb : pl.b.length = 512) (hsi : SI pl ⟨Zv pl.b, pl.off⟩) (hoff : pl.off = true) : NdI w s ⟨pl, none, Yn, m.done⟩ :=
 ⟨by simp [Yn], h.done, hb, hsi, fun j ref hs => (by cases hs), fun _ => hoff, fun d x hx => (by
  simp only [Yn, List.getElem?_replicate] at hx
  split at hx <;> cases hx)⟩
theorem NdI.lead {w : List Int} {s : Nat} {m : Nd} (h : NdI w s m) {d : Nat} {x : Ld} (hx : LdI w s d x) : NdI w s { m with leads := m.leads.set d (some x) } := by
 refine ⟨by simp [h.leads], h.done, h.b512, h.si, h.up, h.dn, fun q y hy => ?_⟩
 simp only [List.getElem?_set] at hy
 by_cases hq : d = q
 ·rw [if_pos hq] at hy
  split at hy
  ·cases hy
   rw [← hq]
   exact hx
  ·cases hy
 ·rw [if_neg hq] at hy
  exact h.ldi q y hy
theorem Zqa {n : Nat} {s : Nat} {f : Fr} {ref : Int → Bool} {st : St} (hs : s < n) (hn : n ≤ 7) (hf : ¬ Ws f) (hfr : f.fr < n) (hst : Zge st) (hk : (Yr ref f st).2.1 ≠ 0) : Zfr n ⟨s, f.fr, f.dl, (Yr ref f st).2.1, f.att, (Yr ref f st).2.2, (Yr ref f st).1⟩ := by
 obtain ⟨⟨g1, g2, g3, g4, g5⟩, -⟩ := Zp8 (ref := ref) hst hf
 have hk7 : (Yr ref f st).2.1 = 0 ∨ (Yr ref f st).2.1 = 2 ∨ (Yr ref f st).2.1 = 4 ∨ (Yr ref f st).2.1 = 6 := by
  unfold Yr
  split
  ·simp
  split
  ·simp
  split
  ·split
   ·simp
   ·split <;> simp
  split <;> simp
 unfold Zfr Ws at *
 simp only
 omega
theorem NdI.hear {w : List Int} {s : Nat} {m : Nd} (h : NdI w s m) (hs : s < w.length) (hw : w.length ≤ 7) (ev : List Evt) (hev : ev.length ≤ 500) {f : Fr} (hfr : f.fr < w.length) :
  NdI w s (Xr s m ev f).1 ∧ (Xr s m ev f).2.1.length ≤ 500 ∧ ∀ g ∈ (Xr s m ev f).2.2.1, Zfr w.length g := by
 unfold Xr
 cases hsi : m.site with
 | none => exact ⟨h, hev, fun g hg => by cases hg⟩
 | some q =>
  obtain ⟨j, ref⟩ := q
  simp only
  have hS := h.jn hsi
  obtain ⟨a1, a2, a3, a4⟩ := Zkx (id := (s : Int)) (ref := ref) hS f
  generalize hr : Z3 s ref m.pl j f = r at *
  obtain ⟨pl', j', fs, er⟩ := r
  simp only at a1 a2 a3 a4 ⊢
  have hj' := a1.eq
  have hb : pl'.b.length = 512 := by rw [a2]; exact h.b512
  split
  ·rename_i hoff
   exact ⟨h.fall hb (hj' ▸ a1) hoff, hev, fun g hg => by cases hg⟩
  ·rename_i hoff
   have hoff' : pl'.off = false := by simpa using hoff
   refine ⟨⟨h.leads, by rw [Zhy]; exact h.done, hb, hj' ▸ a1, fun j2 r2 e => ?_, fun e => (by cases e), h.ldi⟩, Zl5 _ _ _ hev, ?_⟩
   ·cases e
    rw [hj']
    exact ⟨by rw [hoff'], hoff'⟩
   ·intro g hg
    rcases a4 with a4 | ⟨b1, b2, b3, b4, b5, b6, b7⟩
    ·rw [a4] at hg; cases hg
    ·rw [b7] at hg
     simp only [List.mem_singleton] at hg
     subst hg
     unfold Ws at b1
     exact Zqa hs hw (by unfold Ws; exact b1) hfr (hS.st f.dl.toNat (by omega)) b4
theorem WI.hear {M : Wm} (h : WI M) {s : Int} (h0 : 0 ≤ s) (h1 : s < M.n.length) {f : Fr} (hfr : f.fr < M.w.length) : WI (Y4 M s f).1 ∧ ∀ g ∈ (Y4 M s f).2.1, Zfr M.w.length g := by
 have hn := h.wn
 have hx := h.nd s.toNat (Zf M s) (getD_some (by omega))
 have e : ((s.toNat : Nat) : Int) = s := by omega
 have key := hx.hear (by omega) h.wl M.ev h.evl hfr
 rw [e] at key
 obtain ⟨k1, k2, k3⟩ := key
 exact ⟨(h.set h0 k1).setE k2, k3⟩
theorem Zde {w : List Int} {s d : Nat} (hs : s < w.length) (hw : w.length ≤ 7) (hd : d < 6) : ∀ (l : List Fr) (x : Ld) (acc : List Fr), LdI w s d x → (∀ f ∈ l, Zfr w.length f) → (∀ f ∈ acc, Zfr w.length f) →
  LdI w s d (l.foldl (fun q f => ((Yc q.1 f).1, q.2 ++ (Yc q.1 f).2)) (x, acc)).1 ∧ ∀ f ∈ (l.foldl (fun q f => ((Yc q.1 f).1, q.2 ++ (Yc q.1 f).2)) (x, acc)).2, Zfr w.length f
 | [], x, acc, hx, _, ha => ⟨hx, ha⟩
 | f :: l, x, acc, hx, hl, ha => by
  rw [List.foldl_cons]
  obtain ⟨k1, k2⟩ := hx.hear hs hw hd (hl f (by simp)).1
  refine Zde hs hw hd l _ _ k1 (fun g hg => hl g (by simp [hg])) fun g hg => ?_
  rcases List.mem_append.1 hg with hg | hg
  ·exact ha g hg
  ·exact k2 g hg
end Go.HL
end

/-! WoS -/
section
namespace Go.HL
open Go Go.Proofs
set_option linter.unusedVariables false
set_option linter.unusedSimpArgs false
theorem Zkl {α β : Type} (f : α → β → List Zn) : ∀ {l : List α} {k : List β} {d : Nat} {a : α} {b : β}, l[d]? = some a → k[d]? = some b → ∃ A B, (List.zipWith f l k).flatten = A ++ (f a b ++ B) ∧ ∀ a' b', (List.zipWith f (l.set d a') (k.set d b')).flatten = A ++ (f a' b' ++ B)
 | [], _, _, _, _, h, _ => by simp at h
 | _ :: _, [], _, _, _, _, h => by simp at h
 | x :: l, y :: k, 0, a, b, h1, h2 => by
  simp at h1 h2
  subst h1; subst h2
  exact ⟨[], (List.zipWith f l k).flatten, by simp, fun a' b' => by simp⟩
 | x :: l, y :: k, d + 1, a, b, h1, h2 => by
  obtain ⟨A, B, e1, e2⟩ := Zkl f (l := l) (k := k) (d := d) (a := a) (b := b) (by simpa using h1) (by simpa using h2)
  exact ⟨f x y ++ A, B, by simp [e1], fun a' b' => by simp [e2]⟩
theorem Zgc {g : NdG} {m : Nd} {d : Nat} {o : Option Ld} {q : Nat × Value × List Zn} (h1 : m.leads[d]? = some o) (h2 : g.ld[d]? = some q) :
  ∃ A B, Qe g m = A ++ (ldB o q ++ B) ∧ ∀ o' q' (m' : Nd) (g' : NdG), m'.leads = m.leads.set d o' → g'.ld = g.ld.set d q' → Qe g' m' = A ++ (ldB o' q' ++ B) := by
 obtain ⟨A, B, e1, e2⟩ := Zkl ldB h1 h2
 refine ⟨A, B, e1, fun o' q' m' g' h3 h4 => ?_⟩
 unfold Qe
 rw [h3, h4]
 exact e2 o' q'
theorem Zao {α : Type} {l : List α} {d : Nat} {x : α} (h : l[d]? = some x) : l.set d x = l := by
 refine List.ext_getElem? fun i => ?_
 rw [List.getElem?_set]
 split
 ·rename_i e
  subst e
  rw [h, if_pos (List.getElem?_eq_some_iff.1 h).1]
 ·rfl
theorem Zfo {g g' : NdG} {m m' : Nd} {d : Nat} {o' : Option Ld} {q' : Nat × Value × List Zn} (h3 : m'.leads = m.leads.set d o') (h4 : g'.ld = g.ld.set d q') : Yk g' m' = (Yk g m).set d (Zp1 o' q') := by
 unfold Yk
 rw [h3, h4]
 refine List.ext_getElem? fun i => ?_
 simp only [List.getElem?_zipWith, List.getElem?_set, List.length_zipWith]
 by_cases hd : d = i
 ·subst hd
  simp only [if_true]
  by_cases ha : d < m.leads.length
  ·by_cases hb : d < g.ld.length
   ·have : d < min m.leads.length g.ld.length := by omega
    simp [ha, hb, this]
   ·have : ¬ d < min m.leads.length g.ld.length := by omega
    simp [ha, hb]; omega
  ·have : ¬ d < min m.leads.length g.ld.length := by omega
   simp [ha]; omega
 ·simp only [if_neg hd]
theorem NdOk.lead {g : NdG} {m : Nd} (h : NdOk g m) {d : Nat} {x : Ld} {q : Nat × Value × List Zn} (hx : LdOk q.2.1 q.2.2 x) : NdOk { g with ld := g.ld.set d q } { m with leads := m.leads.set d (some x) } := by
 refine ⟨by simp [h.ld], fun e y hy p hp => ?_, h.map⟩
 simp only [List.getElem?_set] at hy hp
 by_cases hde : d = e
 ·rw [if_pos hde] at hy hp
  split at hy
  ·split at hp
   ·cases hy; cases hp; exact hx
   ·cases hp
  ·cases hy
 ·rw [if_neg hde] at hy hp
  exact h.lok e y hy p hp
theorem NdOk.hear {g : NdG} {m : Nd} (h : NdOk g m) {d : Nat} {x : Ld} {q : Nat × Value × List Zn} (h2 : g.ld[d]? = some q) (hx : LdOk q.2.1 q.2.2 x) : NdOk g { m with leads := m.leads.set d (some x) } := by
 have := h.lead (d := d) hx
 rw [Zao h2] at this
 exact this
theorem Zse (id : Int) (ref : Int → Bool) (m : Pl) (j : Jn) (f : Fr) : (Z3 id ref m j f).2.2.1.length ≤ 1 := by
 unfold Z3
 split
 ·simp
 split
 ·simp
 split
 ·simp
 ·simp only
  split <;> simp
theorem Zhk (M : Wm) (s : Int) (f : Fr) : (Y4 M s f).2.1.length ≤ 1 := by
 unfold Y4 Xr
 split
 ·simp
 ·rename_i j ref _
  split
  ·simp
  ·exact Zse s ref _ j f
theorem errs_ls {tab : List (Nat × Nat)} {T : Nat} {E : Nat → Addr} {cs : List Nat} {L L' : Zb} (h : Errs tab T E cs L) (hl : LS L.flatten L'.flatten) : Errs tab T E cs L' := h.mono fun _ _ hb => hl.mem hb
theorem ls_mid {c A B : List Zn} {D : Zb} : LS (c :: A :: B :: D).flatten ((A ++ (c ++ B)) :: D).flatten := by
 simp only [List.flatten_cons, List.append_assoc]
 refine LS.of_perm ?_
 rw [← List.append_assoc, ← List.append_assoc A c]
 exact List.perm_append_comm.append_right _
theorem ls_mid' {c A B : List Zn} {D : Zb} : LS ((A ++ (c ++ B)) :: D).flatten (c :: A :: B :: D).flatten := by
 simp only [List.flatten_cons, List.append_assoc]
 refine LS.of_perm ?_
 rw [← List.append_assoc, ← List.append_assoc c A]
 exact List.perm_append_comm.append_right _
theorem ls7 {x0 x1 x2 x3 x4 x5 x6 c A B : List Zn} {D : Zb} : LS (x0 :: x1 :: x2 :: x3 :: x4 :: x5 :: x6 :: (A ++ (c ++ B)) :: D).flatten (x0 :: x1 :: x2 :: x3 :: x4 :: x5 :: x6 :: c :: A :: B :: D).flatten := LS.k (LS.k (LS.k (LS.k (LS.k (LS.k (LS.k ls_mid'))))))
theorem Rd.ls {α : Type} {enc : α → List Value} {sz : Nat} {L L' : Zb} {a : Option Addr} {xs : List α} (h : Rd enc sz L a xs) (hl : LS L.flatten L'.flatten) : Rd enc sz L' a xs := h.mono fun _ _ hb => hl.mem hb
theorem WdIn.sp {L L' : Zb} {G : WdG} {M : Wm} (h : WdIn L G M) (hl : LS L.flatten L'.flatten) : WdIn L' G M := by
 obtain ⟨h1, ⟨a2, c2, e2, r2⟩, ⟨a3, c3, e3, r3⟩, ⟨a4, c4, e4, r4⟩, h5⟩ := h
 exact ⟨hl.mem h1, ⟨a2, c2, e2, r2.ls hl⟩, ⟨a3, c3, e3, r3.ls hl⟩, ⟨a4, c4, e4, r4.ls hl⟩, h5⟩
set_option maxHeartbeats 2000000 attribute [local irreducible] HW HO HQ HD HC QOp Has Upd Zp Gets Yf Z8 Zr X3 Z9 Zj Wa Zy
attribute [local irreducible] X2 Zz Yo Z3 Y5 Zv
theorem Xk {ρ : Zq} {L : Zb} {ty : TypeId} {pos : String} {af : Array Edge} {d : Option Tmp} {g : Option (Nat × Bool)} {r : Nat} {x y : Operand} {es : List MapEntry} {ck : Nat} {f : Int × Int → Bool} {a b : Int} {v : Bool} (h00 : Y9 ρ = true := by exact rfl) (hx : ev ρ x = some (.map (some r)) := by exact rfl) (hy : ev ρ y = some (.agg ⟨[iv a, iv b]⟩) := by exact rfl)
  (hb : Has L r (.map ⟨es⟩ ck) := by (repeat (first | assumption | exact Zh | exact Yi (by assumption) | apply Xn | apply Zc))) (hF : Zy pk es f := by assumption) (hv : f (a, b) = v := by assumption) :
  QOp Tryz.prog ⟨d, .lookup 82 x y false, ty, pos, af, g⟩ ρ L (.bool v) := hv ▸ qmP h00 hx hy (hb := hb) (hF := hF)
set_option maxHeartbeats 1000000 in
theorem Zat (T : Nat) (E : Nat → Addr) (G : WdG) (M : Wm) (k : Int) (L : Zb) (hG : Er T E [2, 3, 4, 5, 6] L) (hW : WdOk G M) (hM : WI M) (hl : M.l.length ≤ 99999999) :
  HC Tryz.prog 42 [pt G.wp 0, iv k] (Ym G M ++ L) (fun v L' => v = eV T E (Z4 M k).2 ∧ Zdl G (Z4 M k).1 L L') := by
 unfold Z4
 have hself := Wb hW L
 have hI := V6 hW L
 have ka := Za6 T E G M k _ (Xp hG.sub G M) hI
 cases he : Zqv M k with
 | some e =>
  simp only [he] at ka ⊢
  generalize Ym G M ++ L = H at *
  refine Za (fun _ _ => Tryz.call42 _ _) Tryz.func42 rfl Tryz.ntmps42 (Nat.le_of_ble_eq_true rfl) ?_; simp only [Ze, Nat.reduceAdd]
  repeat' (first | refine uN ?_ | refine Yb S ?_ | refine Yv S ?_ | refine uC (ka) ?_ | refine Yx (fun _ => ka) ?_ | refine Y0 (fun _ => ka) ?_ | refine Yz (fun _ => ka) ?_ | refine Yy (fun _ => ka) ?_ | refine Vk Xk ?_ | refine Zdf Xk ?_ | refine Zgt 100 (by exact rfl) (fun _ => Xk) ?_ | (refine uB ?_; intro b) | (refine uP ?_ ?_ <;> (intro h; ((try simp only [zs, ne_eq, and_true, true_and, eq_self, reduceCtorEq] at h); try exact zx))) | refine da 101 ?_ | fail)
  exact Qd rfl ⟨rfl, hself⟩
 | none =>
  simp only [he] at ka ⊢
  clear hself
  have hk : 0 ≤ k ∧ k < M.l.length := by
   unfold Zqv at he
   split at he
   ·cases he
   ·omega
  obtain ⟨hk0, hk1⟩ := hk
  have hgk : M.l[k.toNat]'(by omega) = M.l.getD k.toNat Wn := by
   rw [List.getD, List.getElem?_eq_getElem (by omega)]; rfl
  obtain ⟨hbad, hto, hfr⟩ := hM.fr (M.l.getD k.toNat Wn) (by rw [← hgk]; exact List.getElem_mem _)
  have hM1 := hM.erase k.toNat
  have hW1 : ∀ lv lc, Xq lv (M.l.eraseIdx k.toNat) lc → WdOk { G with lv := lv, lc := lc } { M with l := M.l.eraseIdx k.toNat } := fun lv lc hv => hW.setL hv
  have kd := fun L => Zcz G.lv M.l G.lc k (k + 1) L hW.l (by omega) (by omega) (by omega) rfl
  obtain ⟨a5, cap5, he5, -, hR5⟩ := hW.l.rd Zs
  have hR6 := (hR5 []).mono (L' := G.lc :: []) fun b o hb => by
   simp only [Has, List.flatten_cons, List.flatten_nil, List.append_nil] at hb ⊢
   simp [hb]
  obtain ⟨b5, i5, l5, F5, fr5, e6, hb5, hg5⟩ := hR6.at (j := k) (by omega) (by omega)
  have hb5' : ∀ H, Has (G.lc :: H) b5 (.cells ⟨l5⟩ F5 fr5) := fun H => by
   simp only [Has, List.flatten_cons, List.flatten_nil, List.append_nil] at hb5
   exact Yi hb5
  rw [hgk] at hg5
  rw [e6] at he5
  clear hR5 hR6 e6 hb5
  have hn0 : 0 ≤ (M.l.getD k.toNat Wn).to := by unfold Ws at hbad; omega
  have hn1 : (M.l.getD k.toNat Wn).to < M.n.length := by rw [hM.wn]; exact hto
  have hd0 : 0 ≤ (M.l.getD k.toNat Wn).dl ∧ (M.l.getD k.toNat Wn).dl < 6 := by unfold Ws at hbad; omega
  have hnp := Zch hW hn0 hn1 (H := G.nc :: []) (fun b o hb => Yi hb)
  have hN := Zpi hW.ndl hn0 hn1 L
  have hF := hW.br
  obtain ⟨⟨nb, ni, nl, nF, nfr, ncap, e7, hnb, hng⟩, -, -⟩ := hnp
  have hnb' : ∀ H, Has (G.nc :: H) nb (.cells ⟨nl⟩ nF nfr) := fun H => by
   simp only [Has, List.flatten_cons, List.flatten_nil, List.append_nil] at hnb
   exact Yi hnb
  clear hnb
  have e8 : ∀ l, (Zf { M with l := l } (M.l.getD k.toNat Wn).to) = Zf M (M.l.getD k.toNat Wn).to := fun l => rfl
  rw [e8]
  have hni := U6 hM hn0 hn1
  have hok := Wr hW hn0 hn1
  generalize hf : M.l.getD k.toNat Wn = f at *
  have hcl : ∀ lv lc, Xq lv (M.l.eraseIdx k.toNat) lc → Zdl G { M with l := M.l.eraseIdx k.toNat } L (Ym { G with lv := lv, lc := lc } { M with l := M.l.eraseIdx k.toNat } ++ L) := fun lv lc hv => Zeo (hW1 lv lc hv) rfl rfl
  have hsc : (Zf M f.to).site = none ∨ ∃ q, (Zf M f.to).site = some q := by
   cases (Zf M f.to).site with
   | none => exact .inl rfl
   | some q => exact .inr ⟨q, rfl⟩
  rcases hsc with hs | ⟨q, hs⟩
  ·rw [if_pos (.inl (by rw [hs]; rfl))]
   obtain ⟨ffr, fto, fdl, fkd, fatt, fys, fs⟩ := f
   simp only at hbad hto hfr hg5 hng hn0 hn1 hN hs ⊢
   unfold Qc at hN
   rw [hs] at hN
   have g0 : (X2 (.pointer none) (Zg G fto).bp (Yk (Zg G fto) (Zf M fto)) (Zf M fto).done)[0 + 0]? = some (.pointer none) := Xd rfl
   simp only [Ym, Zcc, Ut, List.cons_append, List.nil_append] at hcl ka ⊢
   rw [e7, he5] at ka ⊢
   rw [e7] at hcl
   rw [he5] at kd
   have hb5a := hb5' (G.ec :: Vi G.nd M.n 0 :: L)
   have hnba := hnb' ([(G.mb, .map ⟨G.es⟩ G.ck)] :: G.ec :: Vi G.nd M.n 0 :: L)
   refine Za (fun _ _ => Tryz.call42 _ _) Tryz.func42 rfl Tryz.ntmps42 (Nat.le_of_ble_eq_true rfl) ?_; simp only [Ze, Nat.reduceAdd]
   repeat' (first | refine uN ?_ | refine Yb S ?_ | refine Yv S ?_ | refine uC (ka) ?_ | refine Yx (fun _ => ka) ?_ | refine Y0 (fun _ => ka) ?_ | refine Yz (fun _ => ka) ?_ | refine Yy (fun _ => ka) ?_ | refine Vk Xk ?_ | refine Zdf Xk ?_ | refine Zgt 100 (by exact rfl) (fun _ => Xk) ?_ | (refine uB ?_; intro b) | (refine uP ?_ ?_ <;> (intro h; ((try simp only [zs, ne_eq, and_true, true_and, eq_self, reduceCtorEq] at h); try exact zx))) | refine da 101 ?_ | fail)
   refine fo 5 ?_
   refine gc (kd _) ?_
   rintro v L' ⟨c', hv', rfl⟩
   obtain ⟨a6, cap6, rfl, -, -⟩ := hv'.rd Zs
   repeat' (first | refine uN ?_ | refine Yb S ?_ | refine Yv S ?_ | refine uC (ka) ?_ | refine Yx (fun _ => ka) ?_ | refine Y0 (fun _ => ka) ?_ | refine Yz (fun _ => ka) ?_ | refine Yy (fun _ => ka) ?_ | refine Vk Xk ?_ | refine Zdf Xk ?_ | refine Zgt 100 (by exact rfl) (fun _ => Xk) ?_ | (refine uB ?_; intro b) | (refine uP ?_ ?_ <;> (intro h; ((try simp only [zs, ne_eq, and_true, true_and, eq_self, reduceCtorEq] at h); try exact zx))) | refine da 101 ?_ | fail)
   all_goals exact Xm uL ⟨rfl, hcl _ c' hv'⟩
  ·obtain ⟨j, ref⟩ := q
   have hbr0 : ∀ b, M.br (Zp9 f) = b → M.br (min f.fr f.to, max f.fr f.to) = b := fun b h => h
   obtain ⟨dn, hdn⟩ := Int.eq_ofNat_of_zero_le hd0.1
   have hd6 : dn < 6 := by omega
   have g0 : (X2 (pt (Zg G f.to).sp 0) (Zg G f.to).bp (Yk (Zg G f.to) (Zf M f.to)) (Zf M f.to).done)[0 + 0]? = some (pt (Zg G f.to).sp 0) := Xd rfl
   have hm1 : (Zf M f.to).leads[dn]? = some ((Zf M f.to).leads.getD dn none) := getD_some (by rw [hni.leads]; exact hd6)
   obtain ⟨q, hq⟩ : ∃ q, (Zg G f.to).ld[dn]? = some q := ⟨_, List.getElem?_eq_getElem (by rw [hok.ld]; exact hd6)⟩
   have hv := Za5 hm1 hq
   have gL := Zam (sv := pt (Zg G f.to).sp 0) (bp := (Zg G f.to).bp) (dn := (Zf M f.to).done) hv
   have hNv : Qc (Zg G f.to) (Zf M f.to) = .cells ⟨X2 (pt (Zg G f.to).sp 0) (Zg G f.to).bp (Yk (Zg G f.to) (Zf M f.to)) (Zf M f.to).done⟩ 99 := by unfold Qc; rw [hs]; rfl
   by_cases hbr : M.br (Zp9 f) = true
   ·rw [if_pos (.inr hbr)]
    have hbr' := hbr0 _ hbr
    rw [hNv] at hN
    obtain ⟨ffr, fto, fdl, fkd, fatt, fys, fs⟩ := f
    simp only at hbad hto hfr hg5 hng hn0 hn1 hN hs hbr' g0 ⊢
    simp only [Ym, Zcc, Ut, List.cons_append, List.nil_append] at hcl ka ⊢
    rw [e7, he5] at ka ⊢
    rw [e7] at hcl
    rw [he5] at kd
    have hb5a := hb5' (G.ec :: Vi G.nd M.n 0 :: L)
    have hnba := hnb' ([(G.mb, .map ⟨G.es⟩ G.ck)] :: G.ec :: Vi G.nd M.n 0 :: L)
    refine Za (fun _ _ => Tryz.call42 _ _) Tryz.func42 rfl Tryz.ntmps42 (Nat.le_of_ble_eq_true rfl) ?_; simp only [Ze, Nat.reduceAdd]
    repeat' (first | refine uN ?_ | refine Yb S ?_ | refine Yv S ?_ | refine uC (ka) ?_ | refine Yx (fun _ => ka) ?_ | refine Y0 (fun _ => ka) ?_ | refine Yz (fun _ => ka) ?_ | refine Yy (fun _ => ka) ?_ | refine Vk Xk ?_ | refine Zdf Xk ?_ | refine Zgt 100 (by exact rfl) (fun _ => Xk) ?_ | (refine uB ?_; intro b) | (refine uP ?_ ?_ <;> (intro h; ((try simp only [zs, ne_eq, and_true, true_and, eq_self, reduceCtorEq] at h); try exact zx))) | refine da 101 ?_ | fail)
    refine fo 5 ?_
    refine gc (kd _) ?_
    rintro v L' ⟨c', hv', rfl⟩
    obtain ⟨a6, cap6, rfl, -, -⟩ := hv'.rd Zs
    repeat' (first | refine uN ?_ | refine Yb S ?_ | refine Yv S ?_ | refine uC (ka) ?_ | refine Yx (fun _ => ka) ?_ | refine Y0 (fun _ => ka) ?_ | refine Yz (fun _ => ka) ?_ | refine Yy (fun _ => ka) ?_ | refine Vk Xk ?_ | refine Zdf Xk ?_ | refine Zgt 100 (by exact rfl) (fun _ => Xk) ?_ | (refine uB ?_; intro b) | (refine uP ?_ ?_ <;> (intro h; ((try simp only [zs, ne_eq, and_true, true_and, eq_self, reduceCtorEq] at h); try exact zx))) | refine da 101 ?_ | fail)
    all_goals exact Xm uL ⟨rfl, hcl _ c' hv'⟩
   ·have hbrf : M.br (Zp9 f) = false := by simpa using hbr
    rw [if_neg (by simp [hbrf, hs])]
    have hbr' := hbr0 _ hbrf
    by_cases hkd : f.kd = 2 ∨ f.kd = 4 ∨ f.kd = 6
    ·rw [if_pos hkd]
     rw [show f.dl.toNat = dn by omega]
     cases hx : (Zf M f.to).leads.getD dn none with
     | none =>
      simp only
      rw [hx] at gL
      simp only [Zp1] at gL
      rw [hNv] at hN
      obtain ⟨ffr, fto, fdl, fkd, fatt, fys, fs⟩ := f
      simp only at hbad hto hfr hg5 hng hn0 hn1 hN hs hbr' g0 gL hkd hdn ⊢
      subst hdn
      simp only [Ym, Zcc, Ut, List.cons_append, List.nil_append] at hcl ka ⊢
      rw [e7, he5] at ka ⊢
      rw [e7] at hcl
      rw [he5] at kd
      have hb5a := hb5' (G.ec :: Vi G.nd M.n 0 :: L)
      have hnba := hnb' ([(G.mb, .map ⟨G.es⟩ G.ck)] :: G.ec :: Vi G.nd M.n 0 :: L)
      refine Za (fun _ _ => Tryz.call42 _ _) Tryz.func42 rfl Tryz.ntmps42 (Nat.le_of_ble_eq_true rfl) ?_; simp only [Ze, Nat.reduceAdd]
      repeat' (first | refine uN ?_ | refine Yb S ?_ | refine Yv S ?_ | refine uC (ka) ?_ | refine Yx (fun _ => ka) ?_ | refine Y0 (fun _ => ka) ?_ | refine Yz (fun _ => ka) ?_ | refine Yy (fun _ => ka) ?_ | refine Vk Xk ?_ | refine Zdf Xk ?_ | refine Zgt 100 (by exact rfl) (fun _ => Xk) ?_ | (refine uB ?_; intro b) | (refine uP ?_ ?_ <;> (intro h; ((try simp only [zs, ne_eq, and_true, true_and, eq_self, reduceCtorEq] at h); try exact zx))) | refine da 101 ?_ | fail)
      refine fo 5 ?_
      refine gc (kd _) ?_
      rintro v L' ⟨c', hv', rfl⟩
      obtain ⟨a6, cap6, rfl, -, -⟩ := hv'.rd Zs
      repeat' (first | refine uN ?_ | refine Yb S ?_ | refine Yv S ?_ | refine uC (ka) ?_ | refine Yx (fun _ => ka) ?_ | refine Y0 (fun _ => ka) ?_ | refine Yz (fun _ => ka) ?_ | refine Yy (fun _ => ka) ?_ | refine Vk Xk ?_ | refine Zdf Xk ?_ | refine Zgt 100 (by exact rfl) (fun _ => Xk) ?_ | (refine uB ?_; intro b) | (refine uP ?_ ?_ <;> (intro h; ((try simp only [zs, ne_eq, and_true, true_and, eq_self, reduceCtorEq] at h); try exact zx))) | refine da 101 ?_ | fail)
      all_goals exact Xm uL ⟨rfl, hcl _ c' hv'⟩
     | some x =>
      simp only
      rw [hx] at hm1 gL hv
      simp only [Zp1] at gL hv
      have hLI := hni.ldi dn x hm1
      have hLO := hok.lok dn x hm1 q hq
      have hhd : x.heard < 2 ^ x.w.length := by rw [hLI.ww]; exact hLI.heard
      have hLs : LdIs M.w x.id x.deal x.att x := ⟨rfl, rfl, rfl, hLI.ww, hLI.told, hLI.heard⟩
      have hLh := hLs.hear f
      have hLO' := hLs.ok hLh hLO
      have hhl := Zcn x f
      have hwl := hM.wl
      rw [hLI.ww] at hhl
      refine HC.node (M' := { Xa { M with l := M.l.eraseIdx k.toNat } f.to { Zf M f.to with leads := (Zf M f.to).leads.set dn (some (Yc x f).1) } with l := M.l.eraseIdx k.toNat ++ (Yc x f).2 }) hW hn0 hn1 ?_
      obtain ⟨A, B, eA, eB⟩ := Zgc hm1 hq
      have eB' := eB (some (Yc x f).1) q { Zf M f.to with leads := (Zf M f.to).leads.set dn (some (Yc x f).1) } (Zg G f.to) rfl (Zao hq).symm
      have eV' : Yk (Zg G f.to) { Zf M f.to with leads := (Zf M f.to).leads.set dn (some (Yc x f).1) } = Yk (Zg G f.to) (Zf M f.to) := by
       rw [Zfo (g := Zg G f.to) (m := Zf M f.to) (o' := some (Yc x f).1) (q' := q) rfl (Zao hq).symm]
       exact Zao hv
      have hokD := hok.hear hq hLO'
      have hls : ∀ X, LS (Xh G f.to (Zg G f.to) (Zf M f.to) X L).flatten ([(G.wp, Ut G)] :: G.ec :: [((Zg G f.to).np, .cells ⟨X2 (pt (Zg G f.to).sp 0) (Zg G f.to).bp (Yk (Zg G f.to) (Zf M f.to)) (Zf M f.to).done⟩ 99)] :: Zed (Zg G f.to).sp (Zg G f.to).bj (Zg G f.to).mb f.to :: Zej (Zg G f.to).mb (Zg G f.to).es (Zg G f.to).ck :: Yo (Zg G f.to).bp (Zg G f.to).ba (Zf M f.to).pl :: jC (Zg G f.to).bj (Zg G f.to).bp j :: Vr q.1 q.2.1 q.2.2 x :: A :: B :: G.lc :: G.wc :: G.nc :: [(G.mb, .map ⟨G.es⟩ G.ck)] :: X :: L).flatten := fun X => by
       simp only [Xh, Zab, hNv, hs, Zhc, Zhj, Zhq]
       rw [eA]
       iterate 7 refine LS.k ?_
       exact ls_mid'
      have kat := Za6 T E G M k _ (errs_ls (Zip hG.sub G f.to (Zg G f.to) (Zf M f.to) (X5 G.nd M.n 0 f.to.toNat)) (hls _)) ((Zio hW f.to _ _ _ L).sp (hls _))
      rw [he] at kat
      clear hls
      have kh := fun L hG => Zfi T E q.1 q.2.1 q.2.2 x f L hG hLO hhd
      generalize X5 G.nd M.n 0 f.to.toNat = X at *
      simp only [Ut] at kat
      simp only [Xh, Zab, hNv, hs, Zdr, Zhc, Zhj, Zhq, Ut]
      rw [eA]
      rw [e7, he5] at kat ⊢
      rw [he5] at kd
      generalize hmm : Zf M f.to = m at *
      generalize Zg G f.to = g at *
      have hokD2 : NdOk g ⟨m.pl, some (j, ref), m.leads.set dn (some (Yc x f).1), m.done⟩ := by
       have := hokD
       rw [hs] at this
       exact this
      have eB2 := eB (some (Yc x f).1) q ⟨m.pl, some (j, ref), m.leads.set dn (some (Yc x f).1), m.done⟩ g rfl (Zao hq).symm
      have eV2 : Yk g ⟨m.pl, some (j, ref), m.leads.set dn (some (Yc x f).1), m.done⟩ = Yk g m := eV'
      obtain ⟨ffr, fto, fdl, fkd, fatt, fys, fs⟩ := f
      simp only at hbad hto hfr hg5 hng hn0 hn1 hs hbr' g0 gL hkd hdn kh hhl hLO' hLh eB2 eV2 hokD2 kat ⊢
      clear eB' eV' hokD
      subst hdn
      have hb5a := hb5' (G.wc :: G.nc :: [(G.mb, .map ⟨G.es⟩ G.ck)] :: X :: L)
      have hnba := hnb' ([(G.mb, .map ⟨G.es⟩ G.ck)] :: X :: L)
      refine HC.sp (L' := [(G.wp, .cells ⟨[G.wv, sl nb ni M.n.length ncap, .map (some G.mb), sl b5 i5 M.l.length cap5, G.ev]⟩ 87)] :: G.ec :: [(g.np, .cells ⟨X2 (pt g.sp 0) g.bp (Yk g m) m.done⟩ 99)] :: Zed g.sp g.bj g.mb fto :: Zej g.mb g.es g.ck :: Yo g.bp g.ba m.pl :: jC g.bj g.bp j :: Vr q.1 q.2.1 q.2.2 x :: A :: B :: G.lc :: G.wc :: G.nc :: [(G.mb, .map ⟨G.es⟩ G.ck)] :: X :: L) ?_ ?_
      ·refine Za (fun _ _ => Tryz.call42 _ _) Tryz.func42 rfl Tryz.ntmps42 (Nat.le_of_ble_eq_true rfl) ?_; simp only [Ze, Nat.reduceAdd]
       repeat' (first | refine uN ?_ | refine Yb S ?_ | refine Yv S ?_ | refine uC (kat) ?_ | refine Yx (fun _ => kat) ?_ | refine Y0 (fun _ => kat) ?_ | refine Yz (fun _ => kat) ?_ | refine Yy (fun _ => kat) ?_ | refine Vk Xk ?_ | refine Zdf Xk ?_ | refine Zgt 100 (by exact rfl) (fun _ => Xk) ?_ | (refine uB ?_; intro b) | (refine uP ?_ ?_ <;> (intro h; ((try simp only [zs, ne_eq, and_true, true_and, eq_self, reduceCtorEq] at h); try exact zx))) | refine da 101 ?_ | fail)
       refine fo 11 ?_
       refine gc (kd _) ?_
       rintro v L' ⟨c', hv', rfl⟩
       obtain ⟨a6, cap6, rfl, -, -⟩ := hv'.rd Zs
       repeat' (first | refine uN ?_ | refine Yb S ?_ | refine Yv S ?_ | refine uC (kat) ?_ | refine Yx (fun _ => kat) ?_ | refine Y0 (fun _ => kat) ?_ | refine Yz (fun _ => kat) ?_ | refine Yy (fun _ => kat) ?_ | refine Vk Xk ?_ | refine Zdf Xk ?_ | refine Zgt 100 (by exact rfl) (fun _ => Xk) ?_ | (refine uB ?_; intro b) | (refine uP ?_ ?_ <;> (intro h; ((try simp only [zs, ne_eq, and_true, true_and, eq_self, reduceCtorEq] at h); try exact zx))) | refine da 101 ?_ | fail)
       all_goals refine fo 9 ?_
       all_goals refine gc (kh _ (by repeat (first | exact hG | exact hG.sub | apply Errs.cons))) ?_
       all_goals rintro v L' ⟨c2, hv2, rfl⟩
       all_goals obtain ⟨a7, cap7, rfl, -, hR7⟩ := hv2.rd Zs
       all_goals repeat' (first | refine uN ?_ | refine Yb S ?_ | refine Yv S ?_ | refine uC (kat) ?_ | refine Yx (fun _ => kat) ?_ | refine Y0 (fun _ => kat) ?_ | refine Yz (fun _ => kat) ?_ | refine Yy (fun _ => kat) ?_ | refine Vk Xk ?_ | refine Zdf Xk ?_ | refine Zgt 100 (by exact rfl) (fun _ => Xk) ?_ | (refine uB ?_; intro b) | (refine uP ?_ ?_ <;> (intro h; ((try simp only [zs, ne_eq, and_true, true_and, eq_self, reduceCtorEq] at h); try exact zx))) | refine da 101 ?_ | fail)
       all_goals refine fo 2 ?_
       all_goals refine wpA S hv' (Rd.cons (hR7 _) _) Zs Uz ?_ (hby := by simp only [List.length_eraseIdx]; split <;> omega) (hmax := by simp only [List.length_eraseIdx]; split <;> omega)
       all_goals intro v'' c'' hv''
       all_goals obtain ⟨a8, cap8, rfl, -, -⟩ := hv''.rd Zs
       all_goals repeat' (first | refine uN ?_ | refine Yb S ?_ | refine Yv S ?_ | refine uC (kat) ?_ | refine Yx (fun _ => kat) ?_ | refine Y0 (fun _ => kat) ?_ | refine Yz (fun _ => kat) ?_ | refine Yy (fun _ => kat) ?_ | refine Vk Xk ?_ | refine Zdf Xk ?_ | refine Zgt 100 (by exact rfl) (fun _ => Xk) ?_ | (refine uB ?_; intro b) | (refine uP ?_ ?_ <;> (intro h; ((try simp only [zs, ne_eq, and_true, true_and, eq_self, reduceCtorEq] at h); try exact zx))) | refine da 101 ?_ | fail)
       all_goals refine Xm (L' := Xh { G with lv := .slice a8 (M.l.eraseIdx k.toNat ++ (Yc x ⟨ffr, fto, dn, fkd, fatt, fys, fs⟩).2).length cap8, lc := c'' } fto g ⟨m.pl, some (j, ref), m.leads.set dn (some (Yc x ⟨ffr, fto, dn, fkd, fatt, fys, fs⟩).1), m.done⟩ X L) ?_ ⟨rfl, { G with lv := .slice a8 (M.l.eraseIdx k.toNat ++ (Yc x ⟨ffr, fto, dn, fkd, fatt, fys, fs⟩).2).length cap8, lc := c'' }, { M with l := M.l.eraseIdx k.toNat ++ (Yc x ⟨ffr, fto, dn, fkd, fatt, fys, fs⟩).2 }, g, ⟨m.pl, some (j, ref), m.leads.set dn (some (Yc x ⟨ffr, fto, dn, fkd, fatt, fys, fs⟩).1), m.done⟩, hW.setL hv'', rfl, rfl, rfl, hokD2, rfl, rfl, rfl⟩
       all_goals simp only [Xh, Zab, Qc, Zdr, Zhc, Zhj, Zhq, Ut, eV2]
       all_goals rw [eB2, e7]
       all_goals simp only [ldB, Vr]
       all_goals exact LS.trans ls7 uL
      ·iterate 7 refine LS.k ?_
       exact ls_mid
    ·rw [if_neg hkd]
     have kh := fun lv lc hv L hG => Zce T E { G with lv := lv, lc := lc } { M with l := M.l.eraseIdx k.toNat } f.to f L hG (hW1 lv lc hv) hM1 hn0 hn1 (by rw [e8, hs]; simp)
     have hhl := Zhk { M with l := M.l.eraseIdx k.toNat } f.to f
     have hml : (Y4 { M with l := M.l.eraseIdx k.toNat } f.to f).1.l = M.l.eraseIdx k.toNat := rfl
     rw [hNv] at hN
     obtain ⟨ffr, fto, fdl, fkd, fatt, fys, fs⟩ := f
     simp only at hbad hto hfr hg5 hng hn0 hn1 hN hs hbr' g0 hkd kh hhl hml ⊢
     clear hdn
     generalize Y4 { M with l := M.l.eraseIdx k.toNat } fto ⟨ffr, fto, fdl, fkd, fatt, fys, fs⟩ = R at *
     simp only [Ym, Zcc, Ut, List.cons_append, List.nil_append] at ka ⊢
     rw [e7, he5] at ka ⊢
     rw [he5] at kd
     have hb5a := hb5' (G.ec :: Vi G.nd M.n 0 :: L)
     have hnba := hnb' ([(G.mb, .map ⟨G.es⟩ G.ck)] :: G.ec :: Vi G.nd M.n 0 :: L)
     refine Za (fun _ _ => Tryz.call42 _ _) Tryz.func42 rfl Tryz.ntmps42 (Nat.le_of_ble_eq_true rfl) ?_; simp only [Ze, Nat.reduceAdd]
     repeat' (first | refine uN ?_ | refine Yb S ?_ | refine Yv S ?_ | refine uC (ka) ?_ | refine Yx (fun _ => ka) ?_ | refine Y0 (fun _ => ka) ?_ | refine Yz (fun _ => ka) ?_ | refine Yy (fun _ => ka) ?_ | refine Vk Xk ?_ | refine Zdf Xk ?_ | refine Zgt 100 (by exact rfl) (fun _ => Xk) ?_ | (refine uB ?_; intro b) | (refine uP ?_ ?_ <;> (intro h; ((try simp only [zs, ne_eq, and_true, true_and, eq_self, reduceCtorEq] at h); try exact zx))) | refine da 101 ?_ | fail)
     refine fo 5 ?_
     refine gc (kd _) ?_
     rintro v L' ⟨c', hv', rfl⟩
     obtain ⟨a6, cap6, rfl, -, -⟩ := hv'.rd Zs
     repeat' (first | refine uN ?_ | refine Yb S ?_ | refine Yv S ?_ | refine uC (ka) ?_ | refine Yx (fun _ => ka) ?_ | refine Y0 (fun _ => ka) ?_ | refine Yz (fun _ => ka) ?_ | refine Yy (fun _ => ka) ?_ | refine Vk Xk ?_ | refine Zdf Xk ?_ | refine Zgt 100 (by exact rfl) (fun _ => Xk) ?_ | (refine uB ?_; intro b) | (refine uP ?_ ?_ <;> (intro h; ((try simp only [zs, ne_eq, and_true, true_and, eq_self, reduceCtorEq] at h); try exact zx))) | refine da 101 ?_ | fail)
     refine Zcf (L' := Ym { G with lv := .slice a6 (M.l.eraseIdx k.toNat).length cap6, lc := c' } { M with l := M.l.eraseIdx k.toNat } ++ L) ?_ ?_
     ·refine gc (kh _ _ hv' _ (by repeat (first | exact hG | exact hG.sub | apply Errs.cons))) ?_
      rintro v L' ⟨c2, ⟨fv, hfv, rfl⟩, G2, e1, e2, hW2, rfl⟩
      obtain ⟨a7, cap7, rfl, -, hR7⟩ := hfv.rd Zs
      obtain ⟨a8, cap8, he8, -, -⟩ := hW2.l.rd Zs
      have hv2 := hW2.l
      rw [hml] at hv2 he8
      have hcl2 : ∀ lv lc, Xq lv (M.l.eraseIdx k.toNat ++ R.2.1) lc → Zdl G { R.1 with l := M.l.eraseIdx k.toNat ++ R.2.1 } L (Ym { G2 with lv := lv, lc := lc } { R.1 with l := M.l.eraseIdx k.toNat ++ R.2.1 } ++ L) := fun lv lc hv => ⟨{ G2 with lv := lv, lc := lc }, e1, e2, hW2.setL hv, rfl⟩
      simp only [Ym, Zcc, Ut, List.cons_append, List.nil_append, e1] at hcl2 ⊢
      rw [he8] at hv2 ⊢
      repeat' (first | refine uN ?_ | refine Yb S ?_ | refine Yv S ?_ | refine uC (ka) ?_ | refine Yx (fun _ => ka) ?_ | refine Y0 (fun _ => ka) ?_ | refine Yz (fun _ => ka) ?_ | refine Yy (fun _ => ka) ?_ | refine Vk Xk ?_ | refine Zdf Xk ?_ | refine Zgt 100 (by exact rfl) (fun _ => Xk) ?_ | (refine uB ?_; intro b) | (refine uP ?_ ?_ <;> (intro h; ((try simp only [zs, ne_eq, and_true, true_and, eq_self, reduceCtorEq] at h); try exact zx))) | refine da 101 ?_ | fail)
      refine fo 4 ?_
      refine wpA S hv2 (Rd.cons ((hR7 []).mono fun b o hb => ?_) _) Zs Uz ?_ (hby := by simp only [List.length_eraseIdx]; split <;> omega) (hmax := by simp only [List.length_eraseIdx]; split <;> omega)
      ·exact Zc (Zc (Zc (Zc (Zc (Zc (Yi (by simpa [Has] using hb)))))))
      intro v'' c'' hv''
      obtain ⟨a9, cap9, rfl, -, -⟩ := hv''.rd Zs
      repeat' (first | refine uN ?_ | refine Yb S ?_ | refine Yv S ?_ | refine uC (ka) ?_ | refine Yx (fun _ => ka) ?_ | refine Y0 (fun _ => ka) ?_ | refine Yz (fun _ => ka) ?_ | refine Yy (fun _ => ka) ?_ | refine Vk Xk ?_ | refine Zdf Xk ?_ | refine Zgt 100 (by exact rfl) (fun _ => Xk) ?_ | (refine uB ?_; intro b) | (refine uP ?_ ?_ <;> (intro h; ((try simp only [zs, ne_eq, and_true, true_and, eq_self, reduceCtorEq] at h); try exact zx))) | refine da 101 ?_ | fail)
      exact Xm uL ⟨rfl, hcl2 _ c'' hv''⟩
     ·simp only [Ym, Zcc, Ut, List.cons_append, List.nil_append, e7]
      exact uL
end Go.HL
end
