/- Texts laid into one, without what the claim does not use. Conditions: none. -/
import Derived.Test.YtkookaogdkdegabGreatDoorMSrD
import Derived.Shelf.Vars
import Derived.LaidSub
import Derived.Test.YtkookaogdkdegabGreatDoorCards
import Derived.Test.YtkookaogdkdegabGreatDoorTie
/-! ScG -/
section
namespace Go.HL
open Go Go.Proofs
set_option linter.unusedVariables false
set_option linter.unusedSimpArgs false
def X7 : List UInt8 := [115, 105, 116, 101, 115]
def W1 (w : List UInt8) : List (List UInt8 × List UInt8 × Nat) → Nat → Option Nat
 | [], _ => none
 | (x, _, _) :: r, i => if w = x then some i else W1 w r (i + 1)
def Yq (k : Nat) : List UInt8 := (cmdT.getD k ([], [], 0)).2.1
def Qj (o : Option Wm) (w : List UInt8) (r : List (List UInt8)) : List UInt8 × Int × Option Wm :=
 if w = X7 then
  match W6 (List.replicate (max 1 r.length) 110) r with
  | none => ([], 1, o)
  | some n => match X1 n with
   | none => ([111, 107], 0, some (Zaa n))
   | some e => ([111, 107], e, o)
 else match W1 w cmdT 0 with
  | none => ([], 1, o)
  | some k => match W6 (Yq k) r with
   | none => ([], 1, o)
   | some n => match o with
    | none => ([], 4, none)
    | some M => ((Zhu k M n).1, (Zhu k M n).2.1, some (Zhu k M n).2.2)
def Zbf (G : WdG) : Option Wm → List Zn
 | none => []
 | some M => Xg G M
def Zbb (G : WdG) : Option Wm → Value
 | none => .pointer none
 | some _ => pt G.wp 0
theorem Zfl : ∀ s : List UInt8, ∃ w r, Yg s = w :: r
 | [] => ⟨[], [], rfl⟩
 | c :: s => by
  unfold Yg
  split
  ·exact ⟨_, _, rfl⟩
  ·split
   ·exact ⟨_, _, rfl⟩
   ·exact ⟨_, _, rfl⟩
theorem Zg4 (z : Int) (h1 : 1 ≤ z) (h2 : z ≤ 1000000) (L : Zb) : HC Tryz.prog 15 [bs [110], iv z] L (fun v L' => v = bs (List.replicate z.toNat 110) ∧ L' = L) := by
 obtain ⟨k, rfl⟩ := Int.eq_ofNat_of_zero_le (show 0 ≤ z by omega)
 exact Zi5 k (by omega) L
set_option maxHeartbeats 2000000 attribute [local irreducible] HW HO HQ HD HC QOp Has Upd Zp Gets Yf Z8 Zr X3 Z9 Zj Wa Zy
def PlayQ (T : Nat) (E : Nat → Addr) (p : Nat) (L : Zb) (r : List UInt8 × Int × Option Wm) (v : Value) (L' : Zb) : Prop :=
 ∃ c fv at_ G', v = .tuple ⟨[bs r.1, fv]⟩ ∧ FV T E fv r.2.1 at_ c ∧ (∀ M, r.2.2 = some M → WdOk G' M) ∧ L' = c :: Zbf G' r.2.2 :: Zi p (Zbb G' r.2.2) :: L
attribute [local irreducible] Xg
theorem Zqp (w : List Int) : okE (X1 w) := by
 unfold X1
 repeat' (first | exact (show List.elem _ all9 = true from rfl) | trivial | split)
theorem Zk1 (T : Nat) (E : Nat → Addr) (G : WdG) (o : Option Wm) (p : Nat) (s : List UInt8) (r : List (List UInt8)) (L : Zb) (hE : Ez T E L) (hS : Sz L) (hW : ∀ M, o = some M → WdOk G M) (hs : s.length ≤ 1000000) (hw : Yg s = X7 :: r) :
  HC Tryz.prog 10 [pt p 0, bs s] (Zbf G o :: Zi p (Zbb G o) :: L) (PlayQ T E p L (Qj o X7 r)) := by
 have ksp := Zdx s hs (Zbf G o :: Zi p (Zbb G o) :: L) ((hS.cons _).cons _)
 obtain ⟨hwl, hwx⟩ := Zc9 s
 rw [hw] at ksp hwl hwx
 generalize hH : Zbf G o = PW at *
 unfold Zi at *
 generalize hP : Zbb G o = PP at *
 refine Za (fun _ _ => Tryz.call10 _ _) Tryz.func10 rfl Tryz.ntmps10 (Nat.le_of_ble_eq_true rfl) ?_; simp only [Ze, Nat.reduceAdd]
 repeat' (first | refine uN ?_ | refine Yb S ?_ | refine Yv S ?_ | (refine uB ?_; intro b) | refine dg S 100 (fun _ _ => ?_) | (refine uP ?_ ?_ <;> (intro h; ((try simp only [zs, ne_eq, and_true, true_and, eq_self, reduceCtorEq] at h); try exact zx))) | refine da 101 ?_ | fail)
 refine gc ksp ?_
 rintro v L' ⟨b1, rfl, rfl⟩
 have hRW : Rd V7 1 ([(b1, .cells ⟨((X7 :: r).map V7).flatten⟩ 9)] :: PW :: [(p, .cells ⟨[PP]⟩ 37)] :: L) (some ⟨b1, 0, none⟩) (X7 :: r) := .inr ⟨b1, 0, _, _, _, rfl, Zh, fun k x hk => by
  have := Wd (enc := V7) Wh (X7 :: r) [] [] k x hk
  simpa using this⟩
 have hRr := hRW.drop (l := 1) (cap := (X7 :: r).length) (Nat.le_refl _)
 have hrl : r.length ≤ s.length := by simp only [List.length_cons] at hwl; omega
 have kR := Zaj (List.replicate (max 1 (((X7 :: r).length : Int) - 1)).toNat 110) (cut (some ⟨b1, 0, none⟩) (X7 :: r).length 1 1) r.length r _ ((((hS.cons _).cons _).cons _)) hRr (Nat.le_refl _) (by omega) (by rw [List.length_replicate, List.length_cons]; omega) (fun x hx => by have := hwx x (List.mem_cons_of_mem _ hx); omega)
 have hform : (max 1 (((X7 :: r).length : Int) - 1)).toNat = max 1 r.length := by rw [List.length_cons]; omega
 repeat' (first | refine uN ?_ | refine Z0 S ?_ | (refine uB ?_; intro b) | refine dg S 100 (fun _ _ => ?_) | (refine uP ?_ ?_ <;> (intro h; ((try simp only [zs, ne_eq, and_true, true_and, eq_self, reduceCtorEq] at h); try exact zx))) | refine da 101 ?_ | fail)
 refine gc (Zg4 (max 1 (((X7 :: r).length : Int) - 1)) (by omega) (by rw [List.length_cons]; omega) _) ?_
 rintro v L' ⟨rfl, rfl⟩
 repeat' (first | refine uN ?_ | refine Z0 S ?_ | (refine uB ?_; intro b) | refine dg S 100 (fun _ _ => ?_) | (refine uP ?_ ?_ <;> (intro h; ((try simp only [zs, ne_eq, and_true, true_and, eq_self, reduceCtorEq] at h); try exact zx))) | refine da 101 ?_ | fail)
 refine gc kR ?_
 rintro v L' ⟨c, u, rfl, hu, rfl⟩
 rw [hform] at *
 have hG := ((((hE.er [1, 4]).cons [(p, .cells ⟨[PP]⟩ 37)]).cons PW).cons [(b1, .cells ⟨((X7 :: r).map V7).flatten⟩ 9)]).cons c
 unfold Qj
 rw [if_pos rfl]
 cases hrd : W6 (List.replicate (max 1 r.length) 110) r with
 | none =>
  simp only [hrd] at hu
  repeat' (first | refine uN ?_ | refine Z0 S ?_ | (refine uB ?_; intro b) | refine dg S 100 (fun _ _ => ?_) | (refine uP ?_ ?_ <;> (intro h; ((try simp only [zs, ne_eq, and_true, true_and, eq_self, reduceCtorEq] at h); try exact zx))) | refine da 101 ?_ | fail)
  subst hH hP
  exact Ve (L' := [] :: Zbf G o :: [(p, .cells ⟨[Zbb G o]⟩ 37)] :: L) uL ⟨[], _, -1, G, rfl, Zbc (e := some 1) rfl, hW, rfl⟩
 | some n =>
  simp only [hrd] at hu
  have hnl := Qb (show (List.replicate (max 1 r.length) (110 : UInt8)).length = r.length by
   unfold W6 at hrd
   split at hrd
   ·assumption
   ·cases hrd) (by
   unfold W6 at hrd
   split at hrd
   ·exact hrd
   ·cases hrd)
  have kN := Zm4 T E u n c ([(b1, .cells ⟨((X7 :: r).map V7).flatten⟩ 9)] :: PW :: [(p, .cells ⟨[PP]⟩ 37)] :: L) ((((hE.er [2, 3, 4, 6]).cons _).cons _).cons _) hu (by rw [hnl.1]; omega)
  simp only
  cases hc : X1 n with
  | none =>
   rw [hc] at kN
   have kN := HC.shutN (V := fun v G => v = .tuple ⟨[pt G.wp 0, .nilIface]⟩) kN
   have ko := fun L => Zcy .nilIface L
   repeat' (first | refine uN ?_ | refine Z0 S ?_ | (refine uB ?_; intro b) | refine dg S 100 (fun _ _ => ?_) | (refine uP ?_ ?_ <;> (intro h; ((try simp only [zs, ne_eq, and_true, true_and, eq_self, reduceCtorEq] at h); try exact zx))) | refine da 101 ?_ | fail)
   refine gc kN ?_
   rintro v L' ⟨G2, rfl, hW2, rfl⟩
   repeat' (first | refine uN ?_ | refine Z0 S ?_ | refine uC (ko _) ?_ | refine Yx (fun _ => ko _) ?_ | refine Y0 (fun _ => ko _) ?_ | refine Yz (fun _ => ko _) ?_ | refine Yy (fun _ => ko _) ?_ | (refine uB ?_; intro b) | refine dg S 100 (fun _ _ => ?_) | (refine uP ?_ ?_ <;> (intro h; ((try simp only [zs, ne_eq, and_true, true_and, eq_self, reduceCtorEq] at h); try exact zx))) | refine da 101 ?_ | fail)
   subst hH hP
   exact Ve (L' := [] :: Xg G2 (Zaa n) :: [(p, .cells ⟨[pt G2.wp 0]⟩ 37)] :: L) uL ⟨[], _, -1, G2, rfl, FV.nil, fun M hM => by cases hM; exact hW2, rfl⟩
  | some e =>
   rw [hc] at kN
   simp only at kN
   have ko := fun L => Zcy (eV T E (some e)) L
   repeat' (first | refine uN ?_ | refine Z0 S ?_ | (refine uB ?_; intro b) | refine dg S 100 (fun _ _ => ?_) | (refine uP ?_ ?_ <;> (intro h; ((try simp only [zs, ne_eq, and_true, true_and, eq_self, reduceCtorEq] at h); try exact zx))) | refine da 101 ?_ | fail)
   refine gc kN ?_
   rintro v L' ⟨rfl, rfl⟩
   repeat' (first | refine uN ?_ | refine Z0 S ?_ | refine uC (ko _) ?_ | refine Yx (fun _ => ko _) ?_ | refine Y0 (fun _ => ko _) ?_ | refine Yz (fun _ => ko _) ?_ | refine Yy (fun _ => ko _) ?_ | (refine uB ?_; intro b) | refine dg S 100 (fun _ _ => ?_) | (refine uP ?_ ?_ <;> (intro h; ((try simp only [zs, ne_eq, and_true, true_and, eq_self, reduceCtorEq] at h); try exact zx))) | refine da 101 ?_ | fail)
   subst hH hP
   exact Ve (L' := [] :: Zbf G o :: [(p, .cells ⟨[Zbb G o]⟩ 37)] :: L) uL ⟨[], _, -1, G, rfl, Zbc (e := some e) (hc ▸ Zqp n), hW, rfl⟩
theorem Zid (w : List UInt8) : ∀ (t1 t2 : List (List UInt8 × List UInt8 × Nat)) (i : Nat), W1 w (t1 ++ t2) i = match W1 w t1 i with
  | some k => some k
  | none => W1 w t2 (i + t1.length)
 | [], t2, i => rfl
 | (x, f, F) :: r, t2, i => by
  simp only [List.cons_append, W1]
  split
  ·rfl
  ·rw [Zid w r t2 (i + 1)]
   simp only [List.length_cons]
   rw [show i + 1 + r.length = i + (r.length + 1) by omega]
theorem Zkc (w : List UInt8) : ∀ (t : List (List UInt8 × List UInt8 × Nat)) (q : List Nat) (i : Nat), q.length = t.length → match W1 w t i with
  | none => W0 w (actL t q) = none
  | some k => i ≤ k ∧ k - i < t.length ∧ ∃ bx, W0 w (actL t q) = some (Za9 (t.getD (k - i) ([], [], 0)).2.1 bx) ∧ (bx, Zgp (t.getD (k - i) ([], [], 0)).2.2) ∈ W9 t q
 | [], [], i, _ => rfl
 | (x, f, F) :: r, b :: q, i, h => by
  have ih := Zkc w r q (i + 1) (by simpa using h)
  simp only [W1, actL, W0, W9]
  by_cases hw : w = x
  ·simp only [if_pos hw]
   exact ⟨Nat.le_refl _, by simp, b, by simp, by simp⟩
  ·simp only [if_neg hw]
   cases hf : W1 w r (i + 1) with
   | none => rw [hf] at ih; exact ih
   | some k =>
    rw [hf] at ih
    obtain ⟨h1, h2, bx, h3, h4⟩ := ih
    have e : k - i = k - (i + 1) + 1 := by omega
    refine ⟨by omega, by simp only [List.length_cons]; omega, bx, ?_, ?_⟩
    ·rw [e]; exact h3
    ·rw [e]; exact List.mem_cons_of_mem _ h4
theorem Zhn (w : List UInt8) : ∀ (t : List (List UInt8 × List UInt8 × Nat)) (i : Nat), match W1 w t i with
  | none => W0 w (t.map fun x => (x.1, Value.agg ⟨[bs x.2.1, Zrr x.2.2]⟩)) = none
  | some k => i ≤ k ∧ k - i < t.length ∧ W0 w (t.map fun x => (x.1, Value.agg ⟨[bs x.2.1, Zrr x.2.2]⟩)) = some (.agg ⟨[bs (t.getD (k - i) ([], [], 0)).2.1, Zrr (t.getD (k - i) ([], [], 0)).2.2]⟩)
 | [], i => rfl
 | (x, f, F) :: r, i => by
  have ih := Zhn w r (i + 1)
  simp only [W1, List.map_cons, W0]
  by_cases hw : w = x
  ·simp only [if_pos hw]
   exact ⟨Nat.le_refl _, by simp, by simp⟩
  ·simp only [if_neg hw]
   cases hf : W1 w r (i + 1) with
   | none => rw [hf] at ih; exact ih
   | some k =>
    rw [hf] at ih
    obtain ⟨h1, h2, h3⟩ := ih
    have e : k - i = k - (i + 1) + 1 := by omega
    exact ⟨by omega, by simp only [List.length_cons]; omega, by rw [e]; exact h3⟩
theorem doesA (T : Nat) (E : Nat → Addr) (G : WdG) (M : Wm) (p : Nat) (a : Option Addr) (cap : Nat) (ns : List Int) (X : Zb) (k bx : Nat) (hk : k < 11) (hE : Ez T E X) (hS : Sz X) (hW : WdOk G M) (hM : WI M) (hV : EvW M) (hl : M.l.length ≤ 99000000) (hR : Rd ic 1 X a ns) (hn : ns.length = (Yq k).length) (hcap : ns.length ≤ cap)
  (hbx : Has X bx (Zgp (cmdT.getD k ([], [], 0)).2.2)) : HC Tryz.prog 92 ([pt p 0, .slice a ns.length cap] ++ [pt bx 0]) (Xg G M :: Zi p (pt G.wp 0) :: X) (DoQ T E G p X (Zhu k M ns)) := by
 have h := Zgq T E G M p a cap ns X k bx (by omega) hE hS hW hM hV hl hR hn hcap (fun _ => hbx)
 unfold fnOf capOf at h
 rw [if_pos hk, if_pos hk] at h
 exact h
theorem doesB (T : Nat) (E : Nat → Addr) (G : WdG) (M : Wm) (p : Nat) (a : Option Addr) (cap : Nat) (ns : List Int) (X : Zb) (k : Nat) (hk : ¬ k < 11) (hk2 : k < 18) (hE : Ez T E X) (hS : Sz X) (hW : WdOk G M) (hM : WI M) (hV : EvW M) (hl : M.l.length ≤ 99000000) (hR : Rd ic 1 X a ns) (hn : ns.length = (Yq k).length) (hcap : ns.length ≤ cap) :
  HC Tryz.prog (cmdT.getD k ([], [], 0)).2.2 [pt p 0, .slice a ns.length cap] (Xg G M :: Zi p (pt G.wp 0) :: X) (DoQ T E G p X (Zhu k M ns)) := by
 have h := Zgq T E G M p a cap ns X k 0 hk2 hE hS hW hM hV hl hR hn hcap (fun h => absurd h hk)
 unfold fnOf capOf at h
 rw [if_neg hk, if_neg hk] at h
 exact h
theorem Zjp : ∀ k, k < 18 → (cmdT.getD k ([], [], 0)).2.1.length ≤ 2 := by decide
theorem Zoz : ∀ k, k < 11 → actTab.getD k ([], [], 0) = cmdT.getD k ([], [], 0) := by decide
theorem Zlb : ∀ k, k < 7 → lookTab.getD k ([], [], 0) = cmdT.getD (k + 11) ([], [], 0) := by decide
theorem Zjm {f : List UInt8} {r : List (List UInt8)} {n : List Int} (h : W6 f r = some n) : n.length = f.length := by
 unfold W6 at h
 split at h
 ·rename_i he
  rw [he]
  exact (Qb he h).1
 ·cases h
set_option maxRecDepth 20000 in
theorem Zmq (T : Nat) (E : Nat → Addr) (G : WdG) (o : Option Wm) (p : Nat) (s : List UInt8) (w : List UInt8) (r : List (List UInt8)) (L : Zb) (hE : Ez T E L) (hS : Sz L) (hW : ∀ M, o = some M → WdOk G M ∧ WI M ∧ EvW M ∧ M.l.length ≤ 99000000) (hs : s.length ≤ 1000000) (hw : Yg s = w :: r) (hne : w ≠ X7) :
  HC Tryz.prog 10 [pt p 0, bs s] (Zbf G o :: Zi p (Zbb G o) :: L) (PlayQ T E p L (Qj o w r)) := by
 have ksp := Zdx s hs (Zbf G o :: Zi p (Zbb G o) :: L) ((hS.cons _).cons _)
 obtain ⟨hwl, hwx⟩ := Zc9 s
 rw [hw] at ksp hwl hwx
 have hrl : r.length ≤ s.length := by simp only [List.length_cons] at hwl; omega
 have hn2 : ¬ w = [115, 105, 116, 101, 115] := hne
 generalize hH : Zbf G o = PW at *
 unfold Zi at *
 generalize hP : Zbb G o = PP at *
 unfold Qj
 rw [if_neg hne]
 have ha := fun q hq => Zkc w actTab q 0 hq
 have hlk := Zhn w lookTab 11
 rw [show cmdT = actTab ++ lookTab from rfl, Zid w actTab lookTab 0, show 0 + actTab.length = 11 from rfl]
 cases hfa : W1 w actTab 0 with
 | some k =>
  simp only [hfa] at ha
  have hk : k < 11 := by
   obtain ⟨-, h2, -⟩ := ha (List.replicate 11 0) rfl
   exact h2
  have hfl : (Yq k).length ≤ 2 := Zjp k (by omega)
  simp only
  refine Za (fun _ _ => Tryz.call10 _ _) Tryz.func10 rfl Tryz.ntmps10 (Nat.le_of_ble_eq_true rfl) ?_; simp only [Ze, Nat.reduceAdd]
  repeat' (first | refine uN ?_ | refine Yb S ?_ | refine Yv S ?_ | (refine uB ?_; intro b) | refine dg S 100 (fun _ _ => ?_) | (refine uP ?_ ?_ <;> (intro h; ((try simp only [zs, ne_eq, and_true, true_and, eq_self, reduceCtorEq] at h); try exact zx))) | refine da 101 ?_ | fail)
  refine gc ksp ?_
  rintro v L' ⟨b1, rfl, rfl⟩
  have hRW : Rd V7 1 ([(b1, .cells ⟨((w :: r).map V7).flatten⟩ 9)] :: PW :: [(p, .cells ⟨[PP]⟩ 37)] :: L) (some ⟨b1, 0, none⟩) (w :: r) := .inr ⟨b1, 0, _, _, _, rfl, Zh, fun k x hk => by
   have := Wd (enc := V7) Wh (w :: r) [] [] k x hk
   simpa using this⟩
  have hRr := hRW.drop (l := 1) (cap := (w :: r).length) (Nat.le_refl _)
  have kR := fun (f : List UInt8) (A : Zb) (hf : f.length ≤ 2) => Zaj f (cut (some ⟨b1, 0, none⟩) (w :: r).length 1 1) r.length r (A ++ ([(b1, .cells ⟨((w :: r).map V7).flatten⟩ 9)] :: PW :: [(p, .cells ⟨[PP]⟩ 37)] :: L)) (((((hS.cons _).cons _).cons _)).mono fun _ _ h => Zet h) (hRr.mono fun _ _ h => Zet h) (Nat.le_refl _) (by omega) (by omega) (fun x hx => by have := hwx x (List.mem_cons_of_mem _ hx); omega)
  repeat' (first | refine uN ?_ | refine Z0 S ?_ | (refine uB ?_; intro b) | refine dg S 100 (fun _ _ => ?_) | (refine uP ?_ ?_ <;> (intro h; ((try simp only [zs, ne_eq, and_true, true_and, eq_self, reduceCtorEq] at h); try exact zx))) | refine da 101 ?_ | fail)
  refine Znh ?_ ?_
  ·refine gc (Qw _) ?_
   rintro v L' ⟨m, es, ck, q, rfl, hEnt, hq, rfl⟩
   obtain ⟨-, -, bx, h3, h4⟩ := ha q hq
   rw [Nat.sub_zero, Zoz k hk] at h3 h4
   have hbm : ∀ H : Zb, Has (((m, .map ⟨es⟩ ck) :: (W9 actTab q).reverse) :: H) m (.map ⟨es⟩ ck) := fun H => Zh
   have hbx : ∀ H : Zb, Has (((m, .map ⟨es⟩ ck) :: (W9 actTab q).reverse) :: H) bx (Zgp (cmdT.getD k ([], [], 0)).2.2) := fun H => Xn (Yi (List.mem_reverse.2 h4))
   repeat' (first | refine uN ?_ | refine Z0 S ?_ | (refine uB ?_; intro b) | refine dg S 100 (fun _ _ => ?_) | (refine uP ?_ ?_ <;> (intro h; ((try simp only [zs, ne_eq, and_true, true_and, eq_self, reduceCtorEq] at h); try exact zx))) | refine da 101 ?_ | fail)
   refine dqS S 0 hEnt (hbm _) ?_
   rw [h3]
   simp only [Option.getD_some, Option.isSome_some]
   unfold Za9
   rw [show (cmdT.getD k ([], [], 0)).2.1 = Yq k from rfl]
   repeat' (first | refine uN ?_ | refine Z0 S ?_ | (refine uB ?_; intro b) | refine dg S 100 (fun _ _ => ?_) | (refine uP ?_ ?_ <;> (intro h; ((try simp only [zs, ne_eq, and_true, true_and, eq_self, reduceCtorEq] at h); try exact zx))) | refine da 101 ?_ | fail)
   refine gc (kR (Yq k) [[(b, .cells ⟨[bs (Yq k), .func (.func 92) #[] ⟨[pt bx 0]⟩]⟩ 54)], ((m, .map ⟨es⟩ ck) :: (W9 actTab q).reverse)] hfl) ?_
   rintro v L' ⟨c, u, rfl, hu, rfl⟩
   have hG := ((((((hE.er [1, 4]).cons [(p, .cells ⟨[PP]⟩ 37)]).cons PW).cons [(b1, .cells ⟨((w :: r).map V7).flatten⟩ 9)]).cons (((m, .map ⟨es⟩ ck) :: (W9 actTab q).reverse))).cons ([(b, .cells ⟨[bs (Yq k), .func (.func 92) #[] ⟨[pt bx 0]⟩]⟩ 54)])).cons c
   cases hrd : W6 (Yq k) r with
   | none =>
    rw [hrd] at hu
    repeat' (first | refine uN ?_ | refine Z0 S ?_ | (refine uB ?_; intro b) | refine dg S 100 (fun _ _ => ?_) | (refine uP ?_ ?_ <;> (intro h; ((try simp only [zs, ne_eq, and_true, true_and, eq_self, reduceCtorEq] at h); try exact zx))) | refine da 101 ?_ | fail)
    subst hH hP
    exact Ve (L' := [] :: Zbf G o :: [(p, .cells ⟨[Zbb G o]⟩ 37)] :: L) uL ⟨[], _, -1, G, rfl, Zbc (e := some 1) rfl, fun M hM => (hW M hM).1, rfl⟩
   | some n =>
    rw [hrd] at hu
    have hnl := Zjm hrd
    cases o with
    | none =>
     subst hH hP
     unfold Zbb Zbf at *
     repeat' (first | refine uN ?_ | refine Z0 S ?_ | (refine uB ?_; intro b) | refine dg S 100 (fun _ _ => ?_) | (refine uP ?_ ?_ <;> (intro h; ((try simp only [zs, ne_eq, and_true, true_and, eq_self, reduceCtorEq] at h); try exact zx))) | refine da 101 ?_ | fail)
     exact Ve (L' := [] :: [] :: [(p, .cells ⟨[.pointer none]⟩ 37)] :: L) uL ⟨[], _, -1, G, rfl, Zbc (e := some 4) rfl, fun M hM => (by cases hM), rfl⟩
    | some M =>
     subst hH hP
     unfold Zbb Zbf at *
     obtain ⟨hW1, hM1, hV1, hl1⟩ := hW M rfl
     obtain ⟨an, capn, rfl, hcapn, hRn⟩ := hu.rd Xl
     repeat' (first | refine uN ?_ | refine Z0 S ?_ | (refine uB ?_; intro b) | refine dg S 100 (fun _ _ => ?_) | (refine uP ?_ ?_ <;> (intro h; ((try simp only [zs, ne_eq, and_true, true_and, eq_self, reduceCtorEq] at h); try exact zx))) | refine da 101 ?_ | fail)
     refine Vk (qLF Tryz.isAgg52) ?_
     repeat' (first | refine uN ?_ | refine Z0 S ?_ | (refine uB ?_; intro b) | refine dg S 100 (fun _ _ => ?_) | (refine uP ?_ ?_ <;> (intro h; ((try simp only [zs, ne_eq, and_true, true_and, eq_self, reduceCtorEq] at h); try exact zx))) | refine da 101 ?_ | fail)
     refine Zcf (L' := Xg G M :: Zi p (pt G.wp 0) :: c :: [(b, .cells ⟨[bs (Yq k), .func (.func 92) #[] ⟨[pt bx 0]⟩]⟩ 54)] :: ((m, .map ⟨es⟩ ck) :: (W9 actTab q).reverse) :: [(b1, .cells ⟨((w :: r).map V7).flatten⟩ 9)] :: L) ?_ uL
     refine gc (doesA T E G M p an capn n (c :: [(b, .cells ⟨[bs (Yq k), .func (.func 92) #[] ⟨[pt bx 0]⟩]⟩ 54)] :: ((m, .map ⟨es⟩ ck) :: (W9 actTab q).reverse) :: [(b1, .cells ⟨((w :: r).map V7).flatten⟩ 9)] :: L) k bx hk ((((hE.cons _).cons _).cons _).cons _) ((((hS.cons _).cons _).cons _).cons _) hW1 hM1 hV1 hl1 (hRn _) hnl hcapn (Zc (Zc (hbx _)))) ?_
     rintro v L' ⟨c2, fv2, at_, rfl, hf2, G2, e1, hW2, rfl⟩
     repeat' (first | refine uN ?_ | refine Z0 S ?_ | (refine uB ?_; intro b) | refine dg S 100 (fun _ _ => ?_) | (refine uP ?_ ?_ <;> (intro h; ((try simp only [zs, ne_eq, and_true, true_and, eq_self, reduceCtorEq] at h); try exact zx))) | refine da 101 ?_ | fail)
     exact Ve (L' := c2 :: Xg G2 (Zhu k M n).2.2 :: Zi p (pt G.wp 0) :: L) uL ⟨c2, fv2, at_, G2, rfl, hf2, fun M' hM' => (by cases hM'; exact hW2), by unfold Zbf Zbb Zi; rw [e1]⟩
  ·repeat' (first | refine uN ?_ | refine Z0 S ?_ | (refine uB ?_; intro b) | refine dg S 100 (fun _ _ => ?_) | (refine uP ?_ ?_ <;> (intro h; ((try simp only [zs, ne_eq, and_true, true_and, eq_self, reduceCtorEq] at h); try exact zx))) | refine da 101 ?_ | fail)
   refine gc (Qw _) ?_
   rintro v L' ⟨m, es, ck, q, rfl, hEnt, hq, rfl⟩
   obtain ⟨-, -, bx, h3, h4⟩ := ha q hq
   rw [Nat.sub_zero, Zoz k hk] at h3 h4
   have hbm : ∀ H : Zb, Has (((m, .map ⟨es⟩ ck) :: (W9 actTab q).reverse) :: H) m (.map ⟨es⟩ ck) := fun H => Zh
   have hbx : ∀ H : Zb, Has (((m, .map ⟨es⟩ ck) :: (W9 actTab q).reverse) :: H) bx (Zgp (cmdT.getD k ([], [], 0)).2.2) := fun H => Xn (Yi (List.mem_reverse.2 h4))
   repeat' (first | refine uN ?_ | refine Z0 S ?_ | (refine uB ?_; intro b) | refine dg S 100 (fun _ _ => ?_) | (refine uP ?_ ?_ <;> (intro h; ((try simp only [zs, ne_eq, and_true, true_and, eq_self, reduceCtorEq] at h); try exact zx))) | refine da 101 ?_ | fail)
   refine dqS S 0 hEnt (hbm _) ?_
   rw [h3]
   simp only [Option.getD_some, Option.isSome_some]
   unfold Za9
   rw [show (cmdT.getD k ([], [], 0)).2.1 = Yq k from rfl]
   repeat' (first | refine uN ?_ | refine Z0 S ?_ | (refine uB ?_; intro b) | refine dg S 100 (fun _ _ => ?_) | (refine uP ?_ ?_ <;> (intro h; ((try simp only [zs, ne_eq, and_true, true_and, eq_self, reduceCtorEq] at h); try exact zx))) | refine da 101 ?_ | fail)
   refine gc (kR (Yq k) [((m, .map ⟨es⟩ ck) :: (W9 actTab q).reverse), [(b, .cells ⟨[bs (Yq k), .func (.func 92) #[] ⟨[pt bx 0]⟩]⟩ 54)]] hfl) ?_
   rintro v L' ⟨c, u, rfl, hu, rfl⟩
   have hG := ((((((hE.er [1, 4]).cons [(p, .cells ⟨[PP]⟩ 37)]).cons PW).cons [(b1, .cells ⟨((w :: r).map V7).flatten⟩ 9)]).cons ([(b, .cells ⟨[bs (Yq k), .func (.func 92) #[] ⟨[pt bx 0]⟩]⟩ 54)])).cons (((m, .map ⟨es⟩ ck) :: (W9 actTab q).reverse))).cons c
   cases hrd : W6 (Yq k) r with
   | none =>
    rw [hrd] at hu
    repeat' (first | refine uN ?_ | refine Z0 S ?_ | (refine uB ?_; intro b) | refine dg S 100 (fun _ _ => ?_) | (refine uP ?_ ?_ <;> (intro h; ((try simp only [zs, ne_eq, and_true, true_and, eq_self, reduceCtorEq] at h); try exact zx))) | refine da 101 ?_ | fail)
    subst hH hP
    exact Ve (L' := [] :: Zbf G o :: [(p, .cells ⟨[Zbb G o]⟩ 37)] :: L) uL ⟨[], _, -1, G, rfl, Zbc (e := some 1) rfl, fun M hM => (hW M hM).1, rfl⟩
   | some n =>
    rw [hrd] at hu
    have hnl := Zjm hrd
    cases o with
    | none =>
     subst hH hP
     unfold Zbb Zbf at *
     repeat' (first | refine uN ?_ | refine Z0 S ?_ | (refine uB ?_; intro b) | refine dg S 100 (fun _ _ => ?_) | (refine uP ?_ ?_ <;> (intro h; ((try simp only [zs, ne_eq, and_true, true_and, eq_self, reduceCtorEq] at h); try exact zx))) | refine da 101 ?_ | fail)
     exact Ve (L' := [] :: [] :: [(p, .cells ⟨[.pointer none]⟩ 37)] :: L) uL ⟨[], _, -1, G, rfl, Zbc (e := some 4) rfl, fun M hM => (by cases hM), rfl⟩
    | some M =>
     subst hH hP
     unfold Zbb Zbf at *
     obtain ⟨hW1, hM1, hV1, hl1⟩ := hW M rfl
     obtain ⟨an, capn, rfl, hcapn, hRn⟩ := hu.rd Xl
     repeat' (first | refine uN ?_ | refine Z0 S ?_ | (refine uB ?_; intro b) | refine dg S 100 (fun _ _ => ?_) | (refine uP ?_ ?_ <;> (intro h; ((try simp only [zs, ne_eq, and_true, true_and, eq_self, reduceCtorEq] at h); try exact zx))) | refine da 101 ?_ | fail)
     refine Vk (qLF Tryz.isAgg52) ?_
     repeat' (first | refine uN ?_ | refine Z0 S ?_ | (refine uB ?_; intro b) | refine dg S 100 (fun _ _ => ?_) | (refine uP ?_ ?_ <;> (intro h; ((try simp only [zs, ne_eq, and_true, true_and, eq_self, reduceCtorEq] at h); try exact zx))) | refine da 101 ?_ | fail)
     refine Zcf (L' := Xg G M :: Zi p (pt G.wp 0) :: c :: ((m, .map ⟨es⟩ ck) :: (W9 actTab q).reverse) :: [(b, .cells ⟨[bs (Yq k), .func (.func 92) #[] ⟨[pt bx 0]⟩]⟩ 54)] :: [(b1, .cells ⟨((w :: r).map V7).flatten⟩ 9)] :: L) ?_ uL
     refine gc (doesA T E G M p an capn n (c :: ((m, .map ⟨es⟩ ck) :: (W9 actTab q).reverse) :: [(b, .cells ⟨[bs (Yq k), .func (.func 92) #[] ⟨[pt bx 0]⟩]⟩ 54)] :: [(b1, .cells ⟨((w :: r).map V7).flatten⟩ 9)] :: L) k bx hk ((((hE.cons _).cons _).cons _).cons _) ((((hS.cons _).cons _).cons _).cons _) hW1 hM1 hV1 hl1 (hRn _) hnl hcapn (Zc (hbx _))) ?_
     rintro v L' ⟨c2, fv2, at_, rfl, hf2, G2, e1, hW2, rfl⟩
     repeat' (first | refine uN ?_ | refine Z0 S ?_ | (refine uB ?_; intro b) | refine dg S 100 (fun _ _ => ?_) | (refine uP ?_ ?_ <;> (intro h; ((try simp only [zs, ne_eq, and_true, true_and, eq_self, reduceCtorEq] at h); try exact zx))) | refine da 101 ?_ | fail)
     exact Ve (L' := c2 :: Xg G2 (Zhu k M n).2.2 :: Zi p (pt G.wp 0) :: L) uL ⟨c2, fv2, at_, G2, rfl, hf2, fun M' hM' => (by cases hM'; exact hW2), by unfold Zbf Zbb Zi; rw [e1]⟩
 | none =>
  simp only [hfa] at ha
  simp only
  refine Za (fun _ _ => Tryz.call10 _ _) Tryz.func10 rfl Tryz.ntmps10 (Nat.le_of_ble_eq_true rfl) ?_; simp only [Ze, Nat.reduceAdd]
  repeat' (first | refine uN ?_ | refine Yb S ?_ | refine Yv S ?_ | (refine uB ?_; intro b) | refine dg S 100 (fun _ _ => ?_) | (refine uP ?_ ?_ <;> (intro h; ((try simp only [zs, ne_eq, and_true, true_and, eq_self, reduceCtorEq] at h); try exact zx))) | refine da 101 ?_ | fail)
  refine gc ksp ?_
  rintro v L' ⟨b1, rfl, rfl⟩
  have hRW : Rd V7 1 ([(b1, .cells ⟨((w :: r).map V7).flatten⟩ 9)] :: PW :: [(p, .cells ⟨[PP]⟩ 37)] :: L) (some ⟨b1, 0, none⟩) (w :: r) := .inr ⟨b1, 0, _, _, _, rfl, Zh, fun k x hk => by
   have := Wd (enc := V7) Wh (w :: r) [] [] k x hk
   simpa using this⟩
  have hRr := hRW.drop (l := 1) (cap := (w :: r).length) (Nat.le_refl _)
  have kR := fun (f : List UInt8) (A : Zb) (hf : f.length ≤ 2) => Zaj f (cut (some ⟨b1, 0, none⟩) (w :: r).length 1 1) r.length r (A ++ ([(b1, .cells ⟨((w :: r).map V7).flatten⟩ 9)] :: PW :: [(p, .cells ⟨[PP]⟩ 37)] :: L)) (((((hS.cons _).cons _).cons _)).mono fun _ _ h => Zet h) (hRr.mono fun _ _ h => Zet h) (Nat.le_refl _) (by omega) (by omega) (fun x hx => by have := hwx x (List.mem_cons_of_mem _ hx); omega)
  repeat' (first | refine uN ?_ | refine Z0 S ?_ | (refine uB ?_; intro b) | refine dg S 100 (fun _ _ => ?_) | (refine uP ?_ ?_ <;> (intro h; ((try simp only [zs, ne_eq, and_true, true_and, eq_self, reduceCtorEq] at h); try exact zx))) | refine da 101 ?_ | fail)
  refine Znh ?_ ?_
  ·refine gc (Qw _) ?_
   rintro v L' ⟨m, es, ck, q, rfl, hEnt, hq, rfl⟩
   have h3 := ha q hq
   have hbm : ∀ H : Zb, Has (((m, .map ⟨es⟩ ck) :: (W9 actTab q).reverse) :: H) m (.map ⟨es⟩ ck) := fun H => Zh
   repeat' (first | refine uN ?_ | refine Z0 S ?_ | (refine uB ?_; intro b) | refine dg S 100 (fun _ _ => ?_) | (refine uP ?_ ?_ <;> (intro h; ((try simp only [zs, ne_eq, and_true, true_and, eq_self, reduceCtorEq] at h); try exact zx))) | refine da 101 ?_ | fail)
   refine dqS S 0 hEnt (hbm _) ?_
   rw [h3]
   simp only [Option.getD_none, Option.isSome_none]
   repeat' (first | refine uN ?_ | refine Z0 S ?_ | (refine uB ?_; intro b) | refine dg S 100 (fun _ _ => ?_) | (refine uP ?_ ?_ <;> (intro h; ((try simp only [zs, ne_eq, and_true, true_and, eq_self, reduceCtorEq] at h); try exact zx))) | refine da 101 ?_ | fail)
   refine gc (Zd2 _) ?_
   rintro v L' ⟨m2, es2, ck2, rfl, hEnt2, rfl⟩
   have hG := ((((((hE.er [1, 4]).cons [(p, .cells ⟨[PP]⟩ 37)]).cons PW).cons [(b1, .cells ⟨((w :: r).map V7).flatten⟩ 9)]).cons (((m, .map ⟨es⟩ ck) :: (W9 actTab q).reverse))).cons ([(b, .cells ⟨[bs [], .nilFunc]⟩ 54)])).cons ([(m2, .map ⟨es2⟩ ck2)])
   have hb2 : ∀ H : Zb, Has ([(m2, .map ⟨es2⟩ ck2)] :: H) m2 (.map ⟨es2⟩ ck2) := fun H => Zh
   repeat' (first | refine uN ?_ | refine Z0 S ?_ | (refine uB ?_; intro b) | refine dg S 100 (fun _ _ => ?_) | (refine uP ?_ ?_ <;> (intro h; ((try simp only [zs, ne_eq, and_true, true_and, eq_self, reduceCtorEq] at h); try exact zx))) | refine da 101 ?_ | fail)
   refine dqS S 0 hEnt2 (hb2 _) ?_
   cases hfl2 : W1 w lookTab 11 with
   | none =>
    rw [hfl2] at hlk
    rw [show W0 w Zkm = none from hlk]
    simp only [Option.getD_none, Option.isSome_none]
    repeat' (first | refine uN ?_ | refine Z0 S ?_ | (refine uB ?_; intro b) | refine dg S 100 (fun _ _ => ?_) | (refine uP ?_ ?_ <;> (intro h; ((try simp only [zs, ne_eq, and_true, true_and, eq_self, reduceCtorEq] at h); try exact zx))) | refine da 101 ?_ | fail)
    subst hH hP
    exact Ve (L' := [] :: Zbf G o :: [(p, .cells ⟨[Zbb G o]⟩ 37)] :: L) uL ⟨[], _, -1, G, rfl, Zbc (e := some 1) rfl, fun M hM => (hW M hM).1, rfl⟩
   | some k =>
    rw [hfl2] at hlk
    obtain ⟨hk1, hk2, h4⟩ := hlk
    have hk2 : k < 18 := by
     have : k - 11 < 7 := hk2
     omega
    have hk : ¬ k < 11 := by omega
    rw [Zlb (k - 11) (by omega), show k - 11 + 11 = k by omega] at h4
    rw [show W0 w Zkm = some (.agg ⟨[bs (Yq k), Zrr (cmdT.getD k ([], [], 0)).2.2]⟩) from h4]
    have hfl : (Yq k).length ≤ 2 := Zjp k (by omega)
    clear hG
    simp only [Option.getD_some, Option.isSome_some]
    unfold Zrr
    repeat' (first | refine uN ?_ | refine Z0 S ?_ | (refine uB ?_; intro b) | refine dg S 100 (fun _ _ => ?_) | (refine uP ?_ ?_ <;> (intro h; ((try simp only [zs, ne_eq, and_true, true_and, eq_self, reduceCtorEq] at h); try exact zx))) | refine da 101 ?_ | fail)
    refine gc (kR (Yq k) [[(m2, .map ⟨es2⟩ ck2)], [(b, .cells ⟨[bs (Yq k), .func (.func (cmdT.getD k ([], [], 0)).2.2) #[] #[]]⟩ 54)], ((m, .map ⟨es⟩ ck) :: (W9 actTab q).reverse)] hfl) ?_
    rintro v L' ⟨c, u, rfl, hu, rfl⟩
    have hG := (((((((hE.er [1, 4]).cons [(p, .cells ⟨[PP]⟩ 37)]).cons PW).cons [(b1, .cells ⟨((w :: r).map V7).flatten⟩ 9)]).cons (((m, .map ⟨es⟩ ck) :: (W9 actTab q).reverse))).cons ([(b, .cells ⟨[bs (Yq k), .func (.func (cmdT.getD k ([], [], 0)).2.2) #[] #[]]⟩ 54)])).cons ([(m2, .map ⟨es2⟩ ck2)])).cons c
    cases hrd : W6 (Yq k) r with
    | none =>
     rw [hrd] at hu
     repeat' (first | refine uN ?_ | refine Z0 S ?_ | (refine uB ?_; intro b) | refine dg S 100 (fun _ _ => ?_) | (refine uP ?_ ?_ <;> (intro h; ((try simp only [zs, ne_eq, and_true, true_and, eq_self, reduceCtorEq] at h); try exact zx))) | refine da 101 ?_ | fail)
     subst hH hP
     exact Ve (L' := [] :: Zbf G o :: [(p, .cells ⟨[Zbb G o]⟩ 37)] :: L) uL ⟨[], _, -1, G, rfl, Zbc (e := some 1) rfl, fun M hM => (hW M hM).1, rfl⟩
    | some n =>
     rw [hrd] at hu
     have hnl := Zjm hrd
     cases o with
     | none =>
      subst hH hP
      unfold Zbb Zbf at *
      repeat' (first | refine uN ?_ | refine Z0 S ?_ | (refine uB ?_; intro b) | refine dg S 100 (fun _ _ => ?_) | (refine uP ?_ ?_ <;> (intro h; ((try simp only [zs, ne_eq, and_true, true_and, eq_self, reduceCtorEq] at h); try exact zx))) | refine da 101 ?_ | fail)
      exact Ve (L' := [] :: [] :: [(p, .cells ⟨[.pointer none]⟩ 37)] :: L) uL ⟨[], _, -1, G, rfl, Zbc (e := some 4) rfl, fun M hM => (by cases hM), rfl⟩
     | some M =>
      subst hH hP
      unfold Zbb Zbf at *
      obtain ⟨hW1, hM1, hV1, hl1⟩ := hW M rfl
      obtain ⟨an, capn, rfl, hcapn, hRn⟩ := hu.rd Xl
      repeat' (first | refine uN ?_ | refine Z0 S ?_ | (refine uB ?_; intro b) | refine dg S 100 (fun _ _ => ?_) | (refine uP ?_ ?_ <;> (intro h; ((try simp only [zs, ne_eq, and_true, true_and, eq_self, reduceCtorEq] at h); try exact zx))) | refine da 101 ?_ | fail)
      refine Vk (qLF Tryz.isAgg52) ?_
      repeat' (first | refine uN ?_ | refine Z0 S ?_ | (refine uB ?_; intro b) | refine dg S 100 (fun _ _ => ?_) | (refine uP ?_ ?_ <;> (intro h; ((try simp only [zs, ne_eq, and_true, true_and, eq_self, reduceCtorEq] at h); try exact zx))) | refine da 101 ?_ | fail)
      refine Zcf (L' := Xg G M :: Zi p (pt G.wp 0) :: c :: [(m2, .map ⟨es2⟩ ck2)] :: [(b, .cells ⟨[bs (Yq k), .func (.func (cmdT.getD k ([], [], 0)).2.2) #[] #[]]⟩ 54)] :: ((m, .map ⟨es⟩ ck) :: (W9 actTab q).reverse) :: [(b1, .cells ⟨((w :: r).map V7).flatten⟩ 9)] :: L) ?_ uL
      refine gc (doesB T E G M p an capn n (c :: [(m2, .map ⟨es2⟩ ck2)] :: [(b, .cells ⟨[bs (Yq k), .func (.func (cmdT.getD k ([], [], 0)).2.2) #[] #[]]⟩ 54)] :: ((m, .map ⟨es⟩ ck) :: (W9 actTab q).reverse) :: [(b1, .cells ⟨((w :: r).map V7).flatten⟩ 9)] :: L) k hk hk2 (((((hE.cons _).cons _).cons _).cons _).cons _) (((((hS.cons _).cons _).cons _).cons _).cons _) hW1 hM1 hV1 hl1 (hRn _) hnl hcapn) ?_
      rintro v L' ⟨c2, fv2, at_, rfl, hf2, G2, e1, hW2, rfl⟩
      repeat' (first | refine uN ?_ | refine Z0 S ?_ | (refine uB ?_; intro b) | refine dg S 100 (fun _ _ => ?_) | (refine uP ?_ ?_ <;> (intro h; ((try simp only [zs, ne_eq, and_true, true_and, eq_self, reduceCtorEq] at h); try exact zx))) | refine da 101 ?_ | fail)
      exact Ve (L' := c2 :: Xg G2 (Zhu k M n).2.2 :: Zi p (pt G.wp 0) :: L) uL ⟨c2, fv2, at_, G2, rfl, hf2, fun M' hM' => (by cases hM'; exact hW2), by unfold Zbf Zbb Zi; rw [e1]⟩
  ·repeat' (first | refine uN ?_ | refine Z0 S ?_ | (refine uB ?_; intro b) | refine dg S 100 (fun _ _ => ?_) | (refine uP ?_ ?_ <;> (intro h; ((try simp only [zs, ne_eq, and_true, true_and, eq_self, reduceCtorEq] at h); try exact zx))) | refine da 101 ?_ | fail)
   refine gc (Qw _) ?_
   rintro v L' ⟨m, es, ck, q, rfl, hEnt, hq, rfl⟩
   have h3 := ha q hq
   have hbm : ∀ H : Zb, Has (((m, .map ⟨es⟩ ck) :: (W9 actTab q).reverse) :: H) m (.map ⟨es⟩ ck) := fun H => Zh
   repeat' (first | refine uN ?_ | refine Z0 S ?_ | (refine uB ?_; intro b) | refine dg S 100 (fun _ _ => ?_) | (refine uP ?_ ?_ <;> (intro h; ((try simp only [zs, ne_eq, and_true, true_and, eq_self, reduceCtorEq] at h); try exact zx))) | refine da 101 ?_ | fail)
   refine dqS S 0 hEnt (hbm _) ?_
   rw [h3]
   simp only [Option.getD_none, Option.isSome_none]
   repeat' (first | refine uN ?_ | refine Z0 S ?_ | (refine uB ?_; intro b) | refine dg S 100 (fun _ _ => ?_) | (refine uP ?_ ?_ <;> (intro h; ((try simp only [zs, ne_eq, and_true, true_and, eq_self, reduceCtorEq] at h); try exact zx))) | refine da 101 ?_ | fail)
   refine gc (Zd2 _) ?_
   rintro v L' ⟨m2, es2, ck2, rfl, hEnt2, rfl⟩
   have hG := ((((((hE.er [1, 4]).cons [(p, .cells ⟨[PP]⟩ 37)]).cons PW).cons [(b1, .cells ⟨((w :: r).map V7).flatten⟩ 9)]).cons ([(b, .cells ⟨[bs [], .nilFunc]⟩ 54)])).cons (((m, .map ⟨es⟩ ck) :: (W9 actTab q).reverse))).cons ([(m2, .map ⟨es2⟩ ck2)])
   have hb2 : ∀ H : Zb, Has ([(m2, .map ⟨es2⟩ ck2)] :: H) m2 (.map ⟨es2⟩ ck2) := fun H => Zh
   repeat' (first | refine uN ?_ | refine Z0 S ?_ | (refine uB ?_; intro b) | refine dg S 100 (fun _ _ => ?_) | (refine uP ?_ ?_ <;> (intro h; ((try simp only [zs, ne_eq, and_true, true_and, eq_self, reduceCtorEq] at h); try exact zx))) | refine da 101 ?_ | fail)
   refine dqS S 0 hEnt2 (hb2 _) ?_
   cases hfl2 : W1 w lookTab 11 with
   | none =>
    rw [hfl2] at hlk
    rw [show W0 w Zkm = none from hlk]
    simp only [Option.getD_none, Option.isSome_none]
    repeat' (first | refine uN ?_ | refine Z0 S ?_ | (refine uB ?_; intro b) | refine dg S 100 (fun _ _ => ?_) | (refine uP ?_ ?_ <;> (intro h; ((try simp only [zs, ne_eq, and_true, true_and, eq_self, reduceCtorEq] at h); try exact zx))) | refine da 101 ?_ | fail)
    subst hH hP
    exact Ve (L' := [] :: Zbf G o :: [(p, .cells ⟨[Zbb G o]⟩ 37)] :: L) uL ⟨[], _, -1, G, rfl, Zbc (e := some 1) rfl, fun M hM => (hW M hM).1, rfl⟩
   | some k =>
    rw [hfl2] at hlk
    obtain ⟨hk1, hk2, h4⟩ := hlk
    have hk2 : k < 18 := by
     have : k - 11 < 7 := hk2
     omega
    have hk : ¬ k < 11 := by omega
    rw [Zlb (k - 11) (by omega), show k - 11 + 11 = k by omega] at h4
    rw [show W0 w Zkm = some (.agg ⟨[bs (Yq k), Zrr (cmdT.getD k ([], [], 0)).2.2]⟩) from h4]
    have hfl : (Yq k).length ≤ 2 := Zjp k (by omega)
    clear hG
    simp only [Option.getD_some, Option.isSome_some]
    unfold Zrr
    repeat' (first | refine uN ?_ | refine Z0 S ?_ | (refine uB ?_; intro b) | refine dg S 100 (fun _ _ => ?_) | (refine uP ?_ ?_ <;> (intro h; ((try simp only [zs, ne_eq, and_true, true_and, eq_self, reduceCtorEq] at h); try exact zx))) | refine da 101 ?_ | fail)
    refine gc (kR (Yq k) [[(m2, .map ⟨es2⟩ ck2)], ((m, .map ⟨es⟩ ck) :: (W9 actTab q).reverse), [(b, .cells ⟨[bs (Yq k), .func (.func (cmdT.getD k ([], [], 0)).2.2) #[] #[]]⟩ 54)]] hfl) ?_
    rintro v L' ⟨c, u, rfl, hu, rfl⟩
    have hG := (((((((hE.er [1, 4]).cons [(p, .cells ⟨[PP]⟩ 37)]).cons PW).cons [(b1, .cells ⟨((w :: r).map V7).flatten⟩ 9)]).cons ([(b, .cells ⟨[bs (Yq k), .func (.func (cmdT.getD k ([], [], 0)).2.2) #[] #[]]⟩ 54)])).cons (((m, .map ⟨es⟩ ck) :: (W9 actTab q).reverse))).cons ([(m2, .map ⟨es2⟩ ck2)])).cons c
    cases hrd : W6 (Yq k) r with
    | none =>
     rw [hrd] at hu
     repeat' (first | refine uN ?_ | refine Z0 S ?_ | (refine uB ?_; intro b) | refine dg S 100 (fun _ _ => ?_) | (refine uP ?_ ?_ <;> (intro h; ((try simp only [zs, ne_eq, and_true, true_and, eq_self, reduceCtorEq] at h); try exact zx))) | refine da 101 ?_ | fail)
     subst hH hP
     exact Ve (L' := [] :: Zbf G o :: [(p, .cells ⟨[Zbb G o]⟩ 37)] :: L) uL ⟨[], _, -1, G, rfl, Zbc (e := some 1) rfl, fun M hM => (hW M hM).1, rfl⟩
    | some n =>
     rw [hrd] at hu
     have hnl := Zjm hrd
     cases o with
     | none =>
      subst hH hP
      unfold Zbb Zbf at *
      repeat' (first | refine uN ?_ | refine Z0 S ?_ | (refine uB ?_; intro b) | refine dg S 100 (fun _ _ => ?_) | (refine uP ?_ ?_ <;> (intro h; ((try simp only [zs, ne_eq, and_true, true_and, eq_self, reduceCtorEq] at h); try exact zx))) | refine da 101 ?_ | fail)
      exact Ve (L' := [] :: [] :: [(p, .cells ⟨[.pointer none]⟩ 37)] :: L) uL ⟨[], _, -1, G, rfl, Zbc (e := some 4) rfl, fun M hM => (by cases hM), rfl⟩
     | some M =>
      subst hH hP
      unfold Zbb Zbf at *
      obtain ⟨hW1, hM1, hV1, hl1⟩ := hW M rfl
      obtain ⟨an, capn, rfl, hcapn, hRn⟩ := hu.rd Xl
      repeat' (first | refine uN ?_ | refine Z0 S ?_ | (refine uB ?_; intro b) | refine dg S 100 (fun _ _ => ?_) | (refine uP ?_ ?_ <;> (intro h; ((try simp only [zs, ne_eq, and_true, true_and, eq_self, reduceCtorEq] at h); try exact zx))) | refine da 101 ?_ | fail)
      refine Vk (qLF Tryz.isAgg52) ?_
      repeat' (first | refine uN ?_ | refine Z0 S ?_ | (refine uB ?_; intro b) | refine dg S 100 (fun _ _ => ?_) | (refine uP ?_ ?_ <;> (intro h; ((try simp only [zs, ne_eq, and_true, true_and, eq_self, reduceCtorEq] at h); try exact zx))) | refine da 101 ?_ | fail)
      refine Zcf (L' := Xg G M :: Zi p (pt G.wp 0) :: c :: [(m2, .map ⟨es2⟩ ck2)] :: ((m, .map ⟨es⟩ ck) :: (W9 actTab q).reverse) :: [(b, .cells ⟨[bs (Yq k), .func (.func (cmdT.getD k ([], [], 0)).2.2) #[] #[]]⟩ 54)] :: [(b1, .cells ⟨((w :: r).map V7).flatten⟩ 9)] :: L) ?_ uL
      refine gc (doesB T E G M p an capn n (c :: [(m2, .map ⟨es2⟩ ck2)] :: ((m, .map ⟨es⟩ ck) :: (W9 actTab q).reverse) :: [(b, .cells ⟨[bs (Yq k), .func (.func (cmdT.getD k ([], [], 0)).2.2) #[] #[]]⟩ 54)] :: [(b1, .cells ⟨((w :: r).map V7).flatten⟩ 9)] :: L) k hk hk2 (((((hE.cons _).cons _).cons _).cons _).cons _) (((((hS.cons _).cons _).cons _).cons _).cons _) hW1 hM1 hV1 hl1 (hRn _) hnl hcapn) ?_
      rintro v L' ⟨c2, fv2, at_, rfl, hf2, G2, e1, hW2, rfl⟩
      repeat' (first | refine uN ?_ | refine Z0 S ?_ | (refine uB ?_; intro b) | refine dg S 100 (fun _ _ => ?_) | (refine uP ?_ ?_ <;> (intro h; ((try simp only [zs, ne_eq, and_true, true_and, eq_self, reduceCtorEq] at h); try exact zx))) | refine da 101 ?_ | fail)
      exact Ve (L' := c2 :: Xg G2 (Zhu k M n).2.2 :: Zi p (pt G.wp 0) :: L) uL ⟨c2, fv2, at_, G2, rfl, hf2, fun M' hM' => (by cases hM'; exact hW2), by unfold Zbf Zbb Zi; rw [e1]⟩
end Go.HL
end

/-! ScH -/
section
namespace Go.HL
open Go Go.Proofs
set_option linter.unusedVariables false
set_option linter.unusedSimpArgs false
def Et (E : Nat → Addr) (L : Zb) : Prop := ∀ c, List.elem c all9 = true → ∃ b i l t fr, E c = ⟨b, i, none⟩ ∧ Has L b (.cells ⟨l⟩ t fr) ∧ l[i]? = some (bs (Xu c))
theorem Et.mono {E : Nat → Addr} {L L' : Zb} (h : Et E L) (hl : ∀ b o, Has L b o → Has L' b o) : Et E L' := fun c hc => by
 obtain ⟨b, i, l, t, fr, h1, h2, h3⟩ := h c hc
 exact ⟨b, i, l, t, fr, h1, hl _ _ h2, h3⟩
theorem Et.cons {E : Nat → Addr} {L : Zb} (h : Et E L) (c : List Zn) : Et E (c :: L) := h.mono fun _ _ hb => Zc hb
def Uj (o : Option Wm) (s : List UInt8) : List UInt8 × Int × Option Wm := Qj o ((Yg s).headD []) (Yg s).tail
def Uk (o : Option Wm) (s : List UInt8) : List UInt8 × Option Wm := (if (Uj o s).2.1 = 0 then (Uj o s).1 else Xu (Uj o s).2.1.toNat, (Uj o s).2.2)
def Q6 : Option Wm → List (List UInt8) → List (List UInt8)
 | _, [] => []
 | o, s :: r => (Uk o s).1 :: Q6 (Uk o s).2 r
def Ux : Option Wm → List (List UInt8) → Option Wm
 | o, [] => o
 | o, s :: r => Ux (Uk o s).2 r
theorem Zml : ∀ (o : Option Wm) (a b : List (List UInt8)), Q6 o (a ++ b) = Q6 o a ++ Q6 (Ux o a) b
 | o, [], b => rfl
 | o, s :: a, b => by simp only [List.cons_append, Q6, Ux, Zml _ a b]
theorem Zla : ∀ (o : Option Wm) (a b : List (List UInt8)), Ux o (a ++ b) = Ux (Ux o a) b
 | o, [], b => rfl
 | o, s :: a, b => by simp only [List.cons_append, Ux, Zla _ a b]
theorem Zf6 : ∀ (o : Option Wm) (a : List (List UInt8)), (Q6 o a).length = a.length
 | o, [] => rfl
 | o, s :: a => by simp only [Q6, List.length_cons, Zf6 _ a]
structure PwOk (o : Option Wm) (k : Nat) : Prop where
 ok : ∀ M, o = some M → WI M ∧ EvW M ∧ M.l.length ≤ k
theorem Zpg : ∀ (k : Nat) {M : Wm}, WI M → EvW M → EvW (Ug k M).1
 | 0, M, _, h => h
 | k + 1, M, hI, h => by
  have h1 := (Qu hI 0).wi
  have h2 := Zft hI h 0
  rw [Zc6]
  split
  ·exact Zpg k h1 h2
  ·exact h2
theorem cmdW_ev {M : Wm} (hI : WI M) (h : EvW M) (k : Nat) (n : List Int) : EvW (Wj k M n).1 := by
 have hl : ∀ a b c, EvW (Ue M a b c).1 := fun a b c => by
  unfold Ue
  split
  ·exact h
  ·exact ⟨h.pw, h.rg, h.dn⟩
 unfold Wj
 split
 ·unfold Vc
  split
  ·exact h
  rename_i hb
  split
  ·exact h
  split
  ·exact h
  exact h.lead (by omega) (by omega) _ _
 ·unfold Wq
  split
  ·exact h
  split
  ·exact h
  rename_i hu
  obtain ⟨h0, h1, -⟩ := Uo hu
  exact h.set h0 h1 (by unfold Qz; split <;> rfl)
 ·exact ev_tick hI h _
 ·exact Zft hI h _
 ·unfold Q3
  split
  ·exact h
  ·exact h.setL _
 ·unfold Vq
  split
  ·exact h
  ·exact h.setL _
 ·exact hl _ _ _
 ·exact hl _ _ _
 ·unfold Zec
  split
  ·exact h
  split
  ·exact h
  rename_i hu
  obtain ⟨h0, h1, -⟩ := Uo hu
  exact h.set h0 h1 rfl
 ·unfold Q5
  split
  ·exact h
  rename_i hu
  obtain ⟨h0, h1, -⟩ := Uo hu
  exact h.set h0 h1 rfl
 ·unfold Zr9
  split
  ·exact h
  split
  ·exact h
  rename_i hu _
  obtain ⟨h0, h1⟩ := Yp hu
  exact h.note hI h0 h1 rfl rfl
theorem doW_ok {M : Wm} (hI : WI M) (h : EvW M) (k : Nat) (n : List Int) (h0 : n.getD 1 0 ≤ 9223372036854775807) : StepOk M (Zhu k M n).2.2 252000 ∧ EvW (Zhu k M n).2.2 := by
 have hr : StepOk M M 252000 := .refl hI _
 unfold Zhu
 split
 ·exact ⟨(cmdW_ok hI k n h0).mono (by omega), cmdW_ev hI h k n⟩
 ·split
  ·exact ⟨(Zjl 3000 hI).1.mono (by omega), Zpg 3000 hI h⟩
  all_goals exact ⟨hr, h⟩
theorem getD_le {n : List Int} {i : Nat} (h : ∀ x ∈ n, 0 ≤ x ∧ x ≤ 99999) : n.getD i 0 ≤ 9223372036854775807 := by
 rw [List.getD_eq_getElem?_getD]
 cases hg : n[i]? with
 | none => simp
 | some x =>
  have := (h x (List.mem_of_getElem? hg)).2
  simp only [Option.getD_some]
  omega
theorem rd_small {f : List UInt8} {r : List (List UInt8)} {n : List Int} (h : W6 f r = some n) : ∀ x ∈ n, 0 ≤ x ∧ x ≤ 99999 := by
 unfold W6 at h
 split at h
 ·rename_i he
  exact (Qb he h).2
 ·cases h
theorem lineW_ok {o : Option Wm} {k : Nat} (h : PwOk o k) (s : List UInt8) : PwOk (Uj o s).2.2 (k + 252000) := by
 have hk : PwOk o (k + 252000) := ⟨fun M hM => by obtain ⟨a, b, c⟩ := h.ok M hM; exact ⟨a, b, by omega⟩⟩
 unfold Uj Qj
 split
 ·split
  ·exact hk
  ·rename_i n hn
   split
   ·rename_i hc
    exact ⟨fun M hM => by cases hM; exact ⟨new_ok hc, ev_new n, by show ([] : List Fr).length ≤ _; simp⟩⟩
   ·exact hk
 ·split
  ·exact hk
  ·split
   ·exact hk
   ·rename_i n hn
    split
    ·exact ⟨fun M hM => by cases hM⟩
    ·rename_i M
     obtain ⟨a, b, c⟩ := h.ok M rfl
     obtain ⟨h1, h2⟩ := doW_ok a b _ n (getD_le (rd_small hn))
     exact ⟨fun M' hM => by cases hM; exact ⟨h1.wi, h2, by have := h1.len; omega⟩⟩
set_option maxHeartbeats 2000000 attribute [local irreducible] HW HO HQ HD HC QOp Has Upd Zp Gets Yf Z8 Zr X3 Z9 Zj Wa Zy
theorem fv_code {T : Nat} {E : Nat → Addr} {v : Value} {code at_ : Int} {c : List Zn} (h : FV T E v code at_ c) : code = 0 ∨ (1 ≤ code ∧ List.elem code.toNat all9 = true) := by
 have key : ∀ k : Nat, List.elem k all9 = true → 1 ≤ (k : Int) := fun k hk => by
  have := List.elem_iff.1 hk
  simp [all9] at this
  omega
 rcases h with ⟨e, he, -, rfl, -⟩ | ⟨pb, k, hk, -, rfl, -⟩
 ·cases e with
  | none => exact .inl rfl
  | some k => exact .inr ⟨key k he, by simpa [Zm9, okE] using he⟩
 ·exact .inr ⟨key k hk, by simpa using hk⟩
theorem Zmj (T : Nat) (E : Nat → Addr) (v : Value) (code at_ : Int) (c : List Zn) (L : Zb) (hE : Ez T E L) (h : FV T E v code at_ c) (h1 : 1 ≤ code) : HC Tryz.prog 11 [v] (c :: L) (fun u L' => u = eV T E (some code.toNat) ∧ L' = c :: L) := by
 have hT := hE.ty
 rcases h with ⟨e, he, rfl, rfl, -, rfl⟩ | ⟨pb, k, hk, rfl, rfl, rfl⟩
 ·cases e with
  | none => simp [Zm9] at h1
  | some g =>
   have hA := fun t L hg => Zbk (E g) t L hg
   have hgl := hE.et
   subst hT
   show HC _ _ [.iface 259 (.pointer (some (E g)))] _ (fun u L' => u = .iface 259 (.pointer (some (E (((g : Nat) : Int)).toNat))) ∧ _)
   rw [Int.toNat_natCast]
   refine Za (fun _ _ => Tryz.call11 _ _) Tryz.func11 rfl Tryz.ntmps11 (Nat.le_of_ble_eq_true rfl) ?_; simp only [Ze, Nat.reduceAdd]
   repeat' (first | refine uN ?_ | (refine uB ?_; intro b) | (refine uP ?_ ?_ <;> (intro h; ((try simp only [zs, ne_eq, and_true, true_and, eq_self, reduceCtorEq] at h); try exact zx))) | fail)
   refine gc (hA _ _ hgl.cons.cons) ?_
   rintro v L' ⟨rfl, rfl⟩
   repeat' (first | refine uN ?_ | (refine uB ?_; intro b) | (refine uP ?_ ?_ <;> (intro h; ((try simp only [zs, ne_eq, and_true, true_and, eq_self, reduceCtorEq] at h); try exact zx))) | fail)
   exact Xm (L' := [] :: L) uL ⟨rfl, rfl⟩
 ·have hA := fun b t old L hg => Zij ⟨pb, 0, none⟩ b t old L hg
  have hgl := hE.et
  rw [Int.toNat_natCast]
  unfold faC
  refine Za (fun _ _ => Tryz.call11 _ _) Tryz.func11 rfl Tryz.ntmps11 (Nat.le_of_ble_eq_true rfl) ?_; simp only [Ze, Nat.reduceAdd]
  repeat' (first | refine uN ?_ | (refine uB ?_; intro b) | (refine uP ?_ ?_ <;> (intro h; ((try simp only [zs, ne_eq, and_true, true_and, eq_self, reduceCtorEq] at h); try exact zx))) | fail)
  refine gc (hA _ _ _ _ hgl.cons) ?_
  rintro v L' ⟨rfl, rfl⟩
  repeat' (first | refine uN ?_ | (refine uB ?_; intro b) | (refine uP ?_ ?_ <;> (intro h; ((try simp only [zs, ne_eq, and_true, true_and, eq_self, reduceCtorEq] at h); try exact zx))) | fail)
  exact Xm (L' := [(pb, .cells ⟨[iv at_, eV T E (some k)]⟩ 62)] :: L) (LS.c (LS.refl _)) ⟨rfl, rfl⟩
theorem mErr (a : Addr) (w : World) : (callMethod (.iface 259 (.pointer (some a))) "Error" #[]).run Tryz.prog w = .ok (.enter 243 #[.pointer (some a)]) w := by
 have h : (Go.method 401 259 (.pointer (some a)) "Error").run Tryz.prog w = .ok (243, .pointer (some a)) w := by kernel_rfl
 have hs : (Tryz.prog.types.size + Made.depth) = 401 := by kernel_rfl
 unfold callMethod
 simp only [Sem.run_bind, run_program, Result.andThen, hs, h]
 exact Tryz.call243 _ _
theorem Zg1 (E : Nat → Addr) (c : Nat) (L : Zb) (hX : Et E L) (hc : List.elem c all9 = true) : HC Tryz.prog 243 [.pointer (some (E c))] L (fun v L' => v = bs (Xu c) ∧ L' = L) := by
 obtain ⟨b, i, l, t, fr, he, hb, hl⟩ := hX c hc
 rw [he]
 have hl0 : l[i + 0]? = some (bs (Xu c)) := hl
 refine Za (fun _ _ => Tryz.call243 _ _) Tryz.func243 rfl Tryz.ntmps243 (Nat.le_of_ble_eq_true rfl) ?_; simp only [Ze, Nat.reduceAdd]
 repeat' (first | refine uN ?_)
 exact Qd rfl ⟨rfl, rfl⟩
theorem Zmg (T : Nat) (E : Nat → Addr) (G : WdG) (o : Option Wm) (p : Nat) (s : List UInt8) (L : Zb) (hE : Ez T E L) (hS : Sz L) (hW : ∀ M, o = some M → WdOk G M) (hP : PwOk o 99000000) (hs : s.length ≤ 1000000) :
  HC Tryz.prog 10 [pt p 0, bs s] (Zbf G o :: Zi p (Zbb G o) :: L) (PlayQ T E p L (Uj o s)) := by
 obtain ⟨w, r, hw⟩ := Zfl s
 unfold Uj
 rw [hw]
 by_cases h : w = X7
 ·subst h
  exact Zk1 T E G o p s r L hE hS hW hs hw
 ·exact Zmq T E G o p s w r L hE hS (fun M hM => ⟨hW M hM, hP.ok M hM⟩) hs hw h
theorem fv_iface {T : Nat} {E : Nat → Addr} {v : Value} {code at_ : Int} {c : List Zn} (h : FV T E v code at_ c) (h1 : 1 ≤ code) : ∃ t a, v = .iface t (.pointer (some a)) := by
 rcases h with ⟨e, he, rfl, rfl, -⟩ | ⟨pb, k, hk, rfl, rfl, -⟩
 ·cases e with
  | none => simp [Zm9] at h1
  | some g => exact ⟨_, _, rfl⟩
 ·exact ⟨_, _, rfl⟩
theorem Zpo : ∀ (l : List (List UInt8)) {o : Option Wm} {k : Nat}, PwOk o k → PwOk (Ux o l) (k + 252000 * l.length)
 | [], o, k, h => h
 | s :: l, o, k, h => by
  have h2 := Zpo l (lineW_ok h s)
  rw [List.length_cons, Nat.mul_add, Nat.mul_one, Nat.add_comm (252000 * l.length), ← Nat.add_assoc]
  exact h2
theorem Zrw {o : Option Wm} {l : List (List UInt8)} {i : Nat} (h : i < l.length) : Q6 o (l.take (i + 1)) = Q6 o (l.take i) ++ [(Uk (Ux o (l.take i)) l[i]).1] ∧ Ux o (l.take (i + 1)) = (Uk (Ux o (l.take i)) l[i]).2 := by
 rw [V0 h, Zml, Zla]
 exact ⟨rfl, rfl⟩
def wd0 : WdG := ⟨0, Wo, [], Wo, [], 0, [], 0, Wo, [], Wo, [], []⟩
attribute [local irreducible] Xg Uj Zbf Zbb Zi
set_option maxRecDepth 20000 in
theorem Zf9 (T : Nat) (E : Nat → Addr) (a : Option Addr) (cap : Nat) (l : List (List UInt8)) (L : Zb) (hE : Ez T E L) (hS : Sz L) (hX : Et E L) (hR : Rd V7 1 L a l) (hcap : l.length ≤ cap) (hl : l.length ≤ 1000) (hs : ∀ x ∈ l, x.length ≤ 1000000) :
  HC Tryz.prog 5 [.slice a l.length cap] L (fun v L' => if 100 < l.length then v = .tuple ⟨[Wo, eV T E (some 2)]⟩ ∧ L' = L else ∃ c u, v = .tuple ⟨[u, .nilIface]⟩ ∧ Vec 9 1 V7 u (Q6 none l) c ∧ L' = c :: L) := by
 have hG := hE.er [2]
 by_cases h100 : 100 < l.length
 ·simp only [if_pos h100]
  refine Za (fun _ _ => Tryz.call5 _ _) Tryz.func5 rfl Tryz.ntmps5 (Nat.le_of_ble_eq_true rfl) ?_; simp only [Ze, Nat.reduceAdd]
  repeat' (first | refine uN ?_ | refine Z0 S ?_ | (refine uB ?_; intro b) | refine dg S 100 (fun _ _ => ?_) | (refine uP ?_ ?_ <;> (intro h; ((try simp only [zs, ne_eq, and_true, true_and, eq_self, reduceCtorEq] at h); try exact zx))) | refine da 101 ?_ | fail)
  all_goals first | (exfalso; omega) | exact Ve (LS.refl _) ⟨rfl, rfl⟩
 ·simp only [if_neg h100]
  refine Za (fun _ _ => Tryz.call5 _ _) Tryz.func5 rfl Tryz.ntmps5 (Nat.le_of_ble_eq_true rfl) ?_; simp only [Ze, Nat.reduceAdd]
  repeat' (first | refine uN ?_ | refine Z0 S ?_ | (refine uB ?_; intro b) | refine dg S 100 (fun _ _ => ?_) | (refine uP ?_ ?_ <;> (intro h; ((try simp only [zs, ne_eq, and_true, true_and, eq_self, reduceCtorEq] at h); try exact zx))) | refine da 101 ?_ | fail)
  obtain ⟨p, rfl⟩ : ∃ p, p = b := ⟨b, rfl⟩
  have hok := fun i => Zpo (l.take i) (o := none) (k := 0) ⟨fun M hM => (by cases hM)⟩
  refine Zcu (L' := [] :: Zbf wd0 none :: Zi p (Zbb wd0 none) :: L) ?_ (by unfold Zbf Zbb Zi; exact LS.refl _)
  refine Zx (σ := Nat × Value × List Zn × WdG) (fun r => [(4, pt p 0), (5, r.2.1), (16, .slice a l.length cap), (17, iv l.length), (18, iv r.1), (3, .nilIface)])
   (fun r => r.2.2.1 :: Zbf r.2.2.2 (Ux none (l.take r.1)) :: Zi p (Zbb r.2.2.2 (Ux none (l.take r.1))) :: L)
   (fun r => r.1 ≤ l.length ∧ Vec 9 1 V7 r.2.1 (Q6 none (l.take r.1)) r.2.2.1 ∧ ∀ M, Ux none (l.take r.1) = some M → WdOk r.2.2.2 M) (fun r => l.length - r.1) (0, Wo, [], wd0) uS (List.Sublist.refl _) ⟨by simp, Yh, fun M hM => (by cases hM)⟩ ?_
  rintro ⟨i, u, c, G1⟩ ⟨hi, hu, hW1⟩
  simp only at hi hu hW1 ⊢
  obtain ⟨a5, cap5, rfl, hcap5, -⟩ := hu.rd Wh
  have hrl := Zf6 none (l.take i)
  rw [List.length_take] at hrl
  by_cases hit : i < l.length
  ·obtain ⟨b1, bi, q, F, fr, rfl, hb, hg⟩ := hR.at1 (j := (i : Int)) (by omega) (by omega)
   have eg : l[(i : Int).toNat]'(by omega) = l[i] := rfl
   rw [eg] at hg
   obtain ⟨t1, t2⟩ := Zrw (o := none) hit
   have hsi := hs l[i] (List.getElem_mem _)
   have hPo := hok i
   have k := Zmg T E G1 (Ux none (l.take i)) p l[i] (c :: L) (hE.cons c) (hS.cons c) hW1 ⟨fun M hM => by obtain ⟨x, y, z⟩ := hPo.ok M hM; rw [List.length_take] at z; exact ⟨x, y, by omega⟩⟩ hsi
   unfold Uk at t1 t2
   simp only at t1 t2
   generalize hD : Q6 none (l.take i) = ds at *
   generalize Ux none (l.take i) = o at *
   generalize l[i] = x at *
   clear hok hPo hD
   repeat' (first | refine uN ?_ | refine Z0 S ?_ | (refine uB ?_; intro b) | refine dg S 100 (fun _ _ => ?_) | (refine uP ?_ ?_ <;> (intro h; ((try simp only [zs, ne_eq, and_true, true_and, eq_self, reduceCtorEq] at h); try exact zx))) | refine da 101 ?_ | fail)
   refine Zcf (L' := Zbf G1 o :: Zi p (Zbb G1 o) :: c :: L) ?_ uL
   refine gc k ?_
   rintro v L' ⟨c2, fv, at_, G2, rfl, hf, hW2, rfl⟩
   have hcd := fv_code hf
   generalize Uj o x = R at *
   obtain ⟨txt, code, o2⟩ := R
   simp only at hf hW2 hcd t1 t2
   by_cases h0 : code = 0
   ·subst h0
    obtain ⟨rfl, rfl⟩ := hf.zero
    simp only [if_pos] at t1
    repeat' (first | refine uN ?_ | refine Z0 S ?_ | (refine uB ?_; intro b) | refine dg S 100 (fun _ _ => ?_) | (refine uP ?_ ?_ <;> (intro h; ((try simp only [zs, ne_eq, and_true, true_and, eq_self, reduceCtorEq] at h); try exact zx))) | refine da 101 ?_ | fail)
    refine fo 4 ?_
    refine wp1 S txt hu Wh Zer ?_
    intro v' c' hv'
    repeat' (first | refine uN ?_ | refine Z0 S ?_ | (refine uB ?_; intro b) | refine dg S 100 (fun _ _ => ?_) | (refine uP ?_ ?_ <;> (intro h; ((try simp only [zs, ne_eq, and_true, true_and, eq_self, reduceCtorEq] at h); try exact zx))) | refine da 101 ?_ | fail)
    refine Z5 (i + 1, v', c', G2) uS ?_ ⟨hit, by simp only [t1]; exact hv', by simp only [t2]; exact hW2⟩ (by simp only; omega)
    simp only [t2]
    exact uL
   ·have h1 : 1 ≤ code ∧ List.elem code.toNat all9 = true := by
     rcases hcd with h | h
     ·exact absurd h h0
     ·exact h
    rw [if_neg h0] at t1
    obtain ⟨tf, af, rfl⟩ := fv_iface hf h1.1
    have hT := hE.ty
    have kb := fun L hE => Zmj T E _ code at_ c2 L hE hf h1.1
    repeat' (first | refine uN ?_ | refine Z0 S ?_ | (refine uB ?_; intro b) | refine dg S 100 (fun _ _ => ?_) | (refine uP ?_ ?_ <;> (intro h; ((try simp only [zs, ne_eq, and_true, true_and, eq_self, reduceCtorEq] at h); try exact zx))) | refine da 101 ?_ | fail)
    refine gc (kb _ ?_) ?_
    ·exact (((hE.cons _).cons _).cons _)
    rintro v L' ⟨rfl, rfl⟩
    subst hT
    repeat' (first | refine uN ?_ | refine Z0 S ?_ | (refine uB ?_; intro b) | refine dg S 100 (fun _ _ => ?_) | (refine uP ?_ ?_ <;> (intro h; ((try simp only [zs, ne_eq, and_true, true_and, eq_self, reduceCtorEq] at h); try exact zx))) | refine da 101 ?_ | fail)
    refine gi (mErr (E code.toNat)) (Zg1 E code.toNat _ ?_ h1.2) ?_
    ·exact ((((hX.cons _).cons _).cons _).cons _)
    rintro v L' ⟨rfl, rfl⟩
    repeat' (first | refine uN ?_ | refine Z0 S ?_ | (refine uB ?_; intro b) | refine dg S 100 (fun _ _ => ?_) | (refine uP ?_ ?_ <;> (intro h; ((try simp only [zs, ne_eq, and_true, true_and, eq_self, reduceCtorEq] at h); try exact zx))) | refine da 101 ?_ | fail)
    refine fo 4 ?_
    refine wp1 S (Xu code.toNat) hu Wh Zer ?_
    intro v' c' hv'
    repeat' (first | refine uN ?_ | refine Z0 S ?_ | (refine uB ?_; intro b) | refine dg S 100 (fun _ _ => ?_) | (refine uP ?_ ?_ <;> (intro h; ((try simp only [zs, ne_eq, and_true, true_and, eq_self, reduceCtorEq] at h); try exact zx))) | refine da 101 ?_ | fail)
    refine Z5 (i + 1, v', c', G2) uS ?_ ⟨hit, by simp only [t1]; exact hv', by simp only [t2]; exact hW2⟩ (by simp only; omega)
    simp only [t2]
    exact uL
  ·obtain rfl : i = l.length := by omega
   rw [List.take_length] at *
   repeat' (first | refine uN ?_ | refine Z0 S ?_ | (refine uB ?_; intro b) | refine dg S 100 (fun _ _ => ?_) | (refine uP ?_ ?_ <;> (intro h; ((try simp only [zs, ne_eq, and_true, true_and, eq_self, reduceCtorEq] at h); try exact zx))) | refine da 101 ?_ | fail)
   exact Ve (L' := c :: L) uL ⟨c, _, rfl, hu, rfl⟩
end Go.HL
end

/-! HLOpen -/
section
namespace Go.HL
open Go Go.ChangeShapes Go.WideShapes Go.ChangeAt Go.RowKit
set_option linter.unusedVariables false
set_option linter.unusedSimpArgs false

def kFs (P : Program) (g : Nat → Option (List Nat)) : List Field → Nat → Option (List Nat)
 | [], _ => some []
 | f :: r, off => match g f.type with
  | some l => if f.offset = off ∧ P.cellsOf f.type = l.length then (match kFs P g r (off + l.length) with
   | some m => some (l ++ m)
   | none => none) else none
  | none => none
def kT (P : Program) : Nat → Nat → Option (List Nat)
 | 0, _ => none
 | d + 1, t => match P.underlying t with
  | some .bool => some [8]
  | some (.int k) => some [Zaf k]
  | some .string => some [9]
  | some (.struct fs) => (match kFs P (kT P d) fs.toList 0 with
   | some l => if P.cellsOf t = l.length then some l else none
   | none => none)
  | _ => none
def fitV : Nat → Value → Prop
 | 8, .bool _ => True
 | 9, .string s => s.size ≤ 9223372036854775807
 | k, .int k' n => Zaf k' = k ∧ loE k' ≤ n ∧ n ≤ Zac k'
 | _, _ => False
def FitK : List Nat → List Value → Prop
 | [], [] => True
 | k :: l, v :: cs => fitV k v ∧ FitK l cs
 | _, _ => False
theorem FitK.append : ∀ {a b : List Nat} {cs : List Value}, FitK a (cs.take a.length) → FitK b (cs.drop a.length) → FitK (a ++ b) cs
 | [], b, cs, _, h => by simpa using h
 | k :: a, b, [], h, _ => by simp [FitK] at h
 | k :: a, b, v :: cs, h, h2 => ⟨h.1, FitK.append h.2 (by simpa using h2)⟩
theorem lit_wf {k : IntKind} {n : Int} (h : (Lit.int k n).wf = true) : loE k ≤ n ∧ n ≤ Zac k := by
 cases k <;> simpa [Lit.wf, IntKind.min, IntKind.max, IntKind.signed, IntKind.bits, loE, Zac] using h
theorem Zpb {H : Type} {enc : TypeId × Value → H} {P : Program} {W : World} {base : Nat} {spare : Nat → Bool} {held : Bool} : ∀ (d t : Nat) (l : List Nat) (n : Nat) (cs : List Value) (x : DataW H × List MemPlace), kT P d t = some l → DataW.trod enc P W base spare held n t cs = some x → FitK l cs
 | 0, t, l, n, cs, x, h, _ => by simp [kT] at h
 | d + 1, t, l, n, cs, x, h, hx => by
  unfold kT at h
  split at h
  ·rename_i hu
   cases h
   obtain ⟨b, rfl, -⟩ := DataW.trod_bool hu hx
   simp [FitK, fitV]
  ·rename_i k hu
   cases h
   obtain ⟨z, rfl, -, hw⟩ := DataW.trod_int hu hx
   have := lit_wf hw
   refine ⟨?_, trivial⟩
   cases k <;> simp [fitV, Zaf, loE, Zac] at this ⊢ <;> exact this
  ·rename_i hu
   cases h
   obtain ⟨s, rfl, -, hs⟩ := DataW.trod_string hu hx
   exact ⟨Nat.le_trans hs (by decide), trivial⟩
  ·rename_i fs hu
   split at h
   ·rename_i l' hl
    split at h
    ·rename_i hc
     cases h
     obtain ⟨xs, m, -, -, hlen, hxl, hf⟩ := DataW.trod_struct hu hx
     rw [hc] at hlen
     have key : ∀ (fl : List Field) (j off : Nat) (l2 : List Nat), (∀ i f, fl[i]? = some f → fs[j + i]? = some f) → kFs P (kT P d) fl off = some l2 → off + l2.length = cs.length → FitK l2 (cs.drop off) := by
      intro fl
      induction fl with
      | nil =>
       intro j off l2 _ h2 ho
       simp [kFs] at h2
       subst h2
       simp at ho
       rw [List.drop_of_length_le (by omega)]
       trivial
      | cons f fl ih =>
       intro j off l2 hi h2 ho
       simp only [kFs] at h2
       split at h2
       ·rename_i lf hlf
        split at h2
        ·rename_i hco
         split at h2
         ·rename_i lr hlr
          cases h2
          obtain ⟨e1, e2⟩ := hco
          have h0 := hi 0 f rfl
          have hxs : ∃ y, xs[j]? = some y := by
           have : j < fs.size := (Array.getElem?_eq_some_iff.1 (by simpa using h0)).1
           exact ⟨_, List.getElem?_eq_getElem (by omega)⟩
          obtain ⟨y, hy⟩ := hxs
          have h3 := hf j f (by simpa using h0)
          rw [hy, e2] at h3
          subst e1
          have h4 := Zpb d f.type lf m _ _ hlf h3
          refine FitK.append (by simpa using h4) ?_
          rw [List.drop_drop]
          exact ih (j + 1) _ lr (fun i g hg => by have := hi (i + 1) g (by simpa using hg); rwa [show j + 1 + i = j + (i + 1) by omega]) hlr (by simp at ho; omega)
         ·cases h2
        ·cases h2
       ·cases h2
     have := key fs.toList 0 0 l (fun i f hif => by simpa using hif) hl (by omega)
     simpa using this
    ·cases h
   ·cases h
  ·cases h
theorem Zra (k : IntKind) : Zaf k < 8 := by cases k <;> decide
theorem fitT {l : List Nat} {cs : List Value} (h : FitK (9 :: l) cs) : ∃ s r, cs = bs s :: r ∧ s.length ≤ 9223372036854775807 ∧ FitK l r := by
 match cs with
 | [] => simp [FitK] at h
 | v :: r =>
  obtain ⟨h1, h2⟩ := h
  cases v <;> simp [fitV] at h1
  ·rename_i k n; have := Zra k; omega
  rename_i s
  obtain ⟨⟨s⟩⟩ := s
  exact ⟨s, r, rfl, by simpa [ByteArray.size] using h1, h2⟩
theorem fit0 {cs : List Value} (h : FitK [] cs) : cs = [] := by
 match cs with
 | [] => rfl
 | v :: r => simp [FitK] at h
end Go.HL
end

/-! CdFr -/
section
namespace Go.HL
open Go Go.Proofs Go.ChangeShapes Go.WideShapes Go.ChangeAt Go.RowKit
end Go.HL
end

/-! LayC -/
section
namespace Go.HL
open Go Go.Proofs Go.ChangeShapes Go.WideShapes Go.ChangeAt Go.RowKit
set_option linter.unusedVariables false
def Zjg (n : String) (l : List (String × DataW Unit)) : List (String × DataW Unit) := l.filter fun x => x.1 == n
def errL (l : List (String × DataW Unit)) : List (String × DataW Unit) := l.filter fun x => (Zdz [1, 2, 3, 4, 5, 6, 7, 8, 9]).any fun y => y.1 == x.1
theorem Zm3 {W : World} {g : Nat} {v : Value} (h : W.cell? ⟨g, 0, none⟩ = some v) : Gl [V3 W] g v := by
 unfold World.cell? at h
 simp only at h
 split at h
 ·rename_i c E fr hh
  obtain ⟨c⟩ := c
  exact ⟨c, E, fr, U8 hh, by simpa using h⟩
 ·cases h
theorem Zkv {W : World} {n : String} {text : List UInt8} {g : Nat} (h : laidMet Tryz.prog [(n, .iface "*errors.errorString" (.ptr (.agg [.lit (.string text)])))] W) (hg : Tryz.prog.globalNamed n = some g) (ht : (Tryz.prog.globals[g]?).map (·.type) = some 25) : ∃ t v, Gl [V3 W] g (.iface t v) := by
 obtain ⟨a, c, t, h1, -⟩ := Ze4 h hg ht
 exact ⟨_, _, h1⟩
theorem sz_of {W : World} {l : List (String × DataW Unit)} {t1 t2 : List UInt8} (h : laidMet Tryz.prog l W) (hsh : W.ShapedOpen Tryz.prog)
  (e1 : Zjg "internal/strconv.uint64pow10" l = [("internal/strconv.uint64pow10", Lib.tabData .u64 Lib.pow10Tab)])
  (e2 : Zjg "strconv.ErrRange" l = [("strconv.ErrRange", .iface "*errors.errorString" (.ptr (.agg [.lit (.string t1)])))])
  (e3 : Zjg "strconv.ErrSyntax" l = [("strconv.ErrSyntax", .iface "*errors.errorString" (.ptr (.agg [.lit (.string t2)])))]) : Sz [V3 W] := by
 have h1 := h.filter fun x => x.1 == "internal/strconv.uint64pow10"
 have h2 := h.filter fun x => x.1 == "strconv.ErrRange"
 have h3 := h.filter fun x => x.1 == "strconv.ErrSyntax"
 unfold Zjg at e1 e2 e3
 rw [e1] at h1
 rw [e2] at h2
 rw [e3] at h3
 refine ⟨?_, ?_, ?_, ?_⟩
 ·obtain ⟨m, hm⟩ := cell_of_shapedOpen_int (P := Tryz.prog) (g := 10) (zero := #[.int .i64 0]) (t := 3) hsh (of_decide_eq_true (by kernel_rfl)) (by kernel_rfl) rfl (by kernel_rfl) (by kernel_rfl) Tryz.underlying3
  exact ⟨m, Zm3 hm⟩
 ·have hg : Tryz.prog.globalNamed "internal/strconv.uint64pow10" = some 15 := by kernel_rfl
  have ht := Lib.tabIs_of_head (t := 255) (e := 136) (n := 20) hg (by kernel_rfl) Tryz.underlying255 Tryz.underlying136 (by kernel_rfl) (by kernel_rfl) h1
  unfold Lib.TabIs World.var? at ht
  rw [hg] at ht
  simp only [Option.bind_some] at ht
  split at ht
  ·rename_i c E fr hh
   have e := Option.some.inj ht
   subst e
   exact ⟨E, fr, U8 hh⟩
  ·cases ht
 ·exact Zkv h3 (by kernel_rfl) (by kernel_rfl)
 ·exact Zkv h2 (by kernel_rfl) (by kernel_rfl)
theorem ezt_of {W : World} (hs : laidMet Tryz.prog (Zdz [1, 2, 3, 4, 5, 6, 7, 8, 9]) W) (hh : handlesMet Tryz.prog handL W) : ∃ E, Ez 259 E [V3 W] ∧ Et E [V3 W] := by
 obtain ⟨E, hG, hE⟩ := errs_of hs
 have hmem : ∀ c, List.elem c all9 = true → c ∈ [1, 2, 3, 4, 5, 6, 7, 8, 9] := fun c hc => List.elem_iff.1 hc
 refine ⟨E, ⟨rfl, hG, fun c hc => (hE c (hmem c hc)).2.2, fun c c' hc hc' e => ?_, Zqk hh⟩, fun c hc => ?_⟩
 ·have h1 := (hE c (hmem c hc)).2.1
  have h2 := (hE c' (hmem c' hc')).2.1
  rw [e, h2] at h1
  have h3 : Xu c' = Xu c := by
   have := Option.some.inj h1
   simp only [Value.string.injEq, ByteArray.mk.injEq, Array.mk.injEq] at this
   exact this
  exact text_inj hc hc' h3.symm
 ·obtain ⟨-, h1, -⟩ := hE c (hmem c hc)
  generalize E c = a at *
  obtain ⟨b, i, sp⟩ := a
  unfold World.cell? at h1
  simp only at h1
  split at h1
  ·rename_i cs T fr hh
   split at h1
   ·cases h1
   ·rename_i hsp
    cases sp with
    | some x => simp at hsp
    | none =>
     obtain ⟨cs⟩ := cs
     exact ⟨b, i, cs, T, fr, rfl, U8 hh, by simpa using h1⟩
  ·cases h1
theorem open_sb {H : Type} {enc : TypeId × Value → H} {W : World} {base : Nat} {spare : Nat → Bool} {held : Bool} (n : Nat) (cs : List Value) (x : DataW H × List MemPlace) (h : DataW.trod enc Tryz.prog W base spare held n 9 cs = some x) : ∃ s : List UInt8, cs = V7 s ∧ s.length ≤ 9223372036854775807 := by
 have h0 := Zpb 2 9 [9] n cs x (by kernel_rfl) h
 obtain ⟨s, r, rfl, hs, h1⟩ := fitT h0
 obtain rfl := fit0 h1
 exact ⟨s, rfl, hs⟩
noncomputable def layS (os : Os) (l : List (String × DataW Unit)) : World := (w0H os).layVars Tryz.prog l
theorem layS_os (os : Os) (l : List (String × DataW Unit)) : (layS os l).os = os := World.layVars_os _ _ _
end Go.HL
end

/-! ScI -/
section
namespace Go.HL
open Go Go.Proofs
set_option linter.unusedVariables false
set_option linter.unusedSimpArgs false
set_option maxHeartbeats 2000000 attribute [local irreducible] HW HO HQ HD HC QOp Has Upd Zp Gets Yf Z8 Zr X3 Z9 Zj Wa Zy
theorem Zeg (a a2 : Option Addr) (cap cap2 : Nat) (xs ys : List (List UInt8)) (L : Zb) (hR : Rd V7 1 L a xs) (hR2 : Rd V7 1 L a2 ys) (hl : xs.length ≤ 1000000) :
  HC Tryz.prog 9 [.slice a xs.length cap, .slice a2 ys.length cap2] L (fun v L' => v = .bool (decide (xs = ys)) ∧ L' = L) := by
 refine Za (fun _ _ => Tryz.call9 _ _) Tryz.func9 rfl Tryz.ntmps9 (Nat.le_of_ble_eq_true rfl) ?_; simp only [Ze, Nat.reduceAdd]
 repeat' (first | refine uN ?_ | refine Yb S ?_ | (refine uP ?_ ?_ <;> (intro h; ((try simp only [zs, ne_eq, and_true, true_and, eq_self, reduceCtorEq] at h); try exact zx))) | fail)
 ·exact Xm (LS.refl _) ⟨by rw [decide_eq_false]; intro e; subst e; exact absurd rfl ‹_›, rfl⟩
 refine Zx (σ := Nat) (fun i => [(0, .slice a xs.length cap), (1, .slice a2 ys.length cap2), (5, iv i)]) (fun _ => L) (fun i => i ≤ xs.length ∧ xs.take i = ys.take i) (fun i => xs.length - i) 0 uS (List.Sublist.refl _) ⟨by omega, by simp⟩ ?_
 rintro i ⟨h1, h2⟩
 by_cases hlt : i < xs.length
 ·obtain ⟨b, ia, l, E, fr, rfl, hb, hg⟩ := hR.at1 (j := (i : Int)) (by omega) (by omega)
  obtain ⟨b2, ia2, l2, E2, fr2, rfl, hb2, hg2⟩ := hR2.at1 (j := (i : Int)) (by omega) (by omega)
  repeat' (first | refine uN ?_ | refine Yb S ?_ | (refine uP ?_ ?_ <;> (intro h; ((try simp only [zs, ne_eq, and_true, true_and, eq_self, reduceCtorEq] at h); try exact zx))) | fail)
  ·refine Xm (LS.refl _) ⟨?_, rfl⟩
   rw [decide_eq_false]
   intro e
   subst e
   exact h rfl
  ·refine Zl (i + 1) uS (List.Sublist.refl _) ⟨by omega, ?_⟩ (by omega)
   rw [Zjk hlt (by omega)]
   exact ⟨h2, by simpa using h⟩
 ·repeat' (first | refine uN ?_ | refine Yb S ?_ | (refine uP ?_ ?_ <;> (intro h; ((try simp only [zs, ne_eq, and_true, true_and, eq_self, reduceCtorEq] at h); try exact zx))) | fail)
  refine Xm (LS.refl _) ⟨?_, rfl⟩
  rw [decide_eq_true]
  have e1 : xs.take i = xs := List.take_of_length_le (by omega)
  have e2 : ys.take i = ys := List.take_of_length_le (by omega)
  rw [← e1, h2, e2]
def helloL : List (List UInt8) := [[115, 105, 116, 101, 115, 32, 49, 32, 49], [98, 101, 103, 105, 110, 32, 48, 32, 51], [97, 108, 108], [115, 116, 97, 116, 101, 32, 49, 32, 51], [101, 118, 101, 110, 116, 115]]
def Znn : List (List UInt8) := [[111, 107], [111, 107], [49, 48], [99, 111, 109, 109, 105, 116, 116, 101, 100, 32, 48, 32, 48], [48, 32, 51, 32, 99, 111, 109, 109, 105, 116, 116, 101, 100, 44, 32, 49, 32, 51, 32, 99, 111, 109, 109, 105, 116, 116, 101, 100]]
theorem Zrs : Q6 none helloL = Znn := by kernel_rfl
theorem Zj9 {L : Zb} {b : Nat} {l : List (List UInt8)} {c : List Value} {F : Nat} {fr : Nat × Nat} (hb : Has L b (.cells ⟨c⟩ F fr)) (hc : c = (l.map V7).flatten) : Rd V7 1 L (some ⟨b, 0, none⟩) l := .inr ⟨b, 0, c, F, fr, rfl, hb, fun k x hk => by
 subst hc
 have := Wd (enc := V7) Wh l [] [] k x hk
 simpa using this⟩
theorem Zlk (T : Nat) (E : Nat → Addr) (L : Zb) (hE : Ez T E L) (hS : Sz L) (hX : Et E L) : HC Tryz.prog 4 [] L (fun v L' => v = .bool true ∧ L' = L) := by
 have kr := fun b (q : List Value) F (hq : q = (helloL.map V7).flatten) => Zf9 T E (some ⟨b, 0, none⟩) 5 helloL ([(b, .cells ⟨q⟩ F)] :: L) (hE.cons _) (hS.cons _) (hX.cons _) (Zj9 Zh hq) (by decide) (by decide) (by decide)
 simp only [if_neg (show ¬ 100 < helloL.length by decide), Zrs] at kr
 refine Za (fun _ _ => Tryz.call4 _ _) Tryz.func4 rfl Tryz.ntmps4 (Nat.le_of_ble_eq_true rfl) ?_; simp only [Ze, Nat.reduceAdd]
 repeat' (first | refine uN ?_ | (refine uB ?_; intro b) | (refine uP ?_ ?_ <;> (intro h; ((try simp only [zs, ne_eq, and_true, true_and, eq_self, reduceCtorEq] at h); try exact zx))) | fail)
 refine gc (kr _ _ _ rfl) ?_
 rintro v L' ⟨c, u, rfl, hu, rfl⟩
 obtain ⟨a1, cap1, rfl, -, hR1⟩ := hu.rd Wh
 repeat' (first | refine uN ?_ | (refine uB ?_; intro b) | (refine uP ?_ ?_ <;> (intro h; ((try simp only [zs, ne_eq, and_true, true_and, eq_self, reduceCtorEq] at h); try exact zx))) | fail)
 have ks := fun L hR hR2 => Zeg a1 (some ⟨b, 0, none⟩) cap1 5 Znn Znn L hR hR2 (by decide)
 refine gc (ks _ ((hR1 _).cons _) (Zj9 Zh rfl)) ?_
 rintro v L' ⟨rfl, rfl⟩
 repeat' (first | refine uN ?_ | (refine uB ?_; intro b) | (refine uP ?_ ?_ <;> (intro h; ((try simp only [zs, ne_eq, and_true, true_and, eq_self, reduceCtorEq] at h); try exact zx))) | fail)
 exact Xm (L' := L) uL ⟨by first | rfl | simp, rfl⟩
end Go.HL
end

/-! ScJ -/
section
namespace Go.HL
open Go Go.Proofs
set_option linter.unusedVariables false
set_option linter.unusedSimpArgs false
def LsN (m : Nd) : Prop := ∀ y, some y ∈ m.leads → y.state ≠ []
def LsW (M : Wm) : Prop := ∀ m ∈ M.n, LsN m
theorem Zlw {x : Ld} (h : x.state ≠ []) (f : Fr) : (Yc x f).1.state ≠ [] := by
 have h1 : (Zfn x f).state ≠ [] := by unfold Zfn; split <;> exact h
 unfold Yc
 split
 ·exact h
 split
 ·unfold noM
  split <;> (intro e; cases e)
 ·unfold Xj
  split
  ·intro e; cases e
  split
  ·exact h1
  split
  ·intro e; cases e
  split <;> (intro e; cases e)
theorem Zh1 : ∀ (l : List Fr) {q : Ld × List Fr}, q.1.state ≠ [] → (l.foldl (fun q f => ((Yc q.1 f).1, q.2 ++ (Yc q.1 f).2)) q).1.state ≠ []
 | [], q, h => h
 | f :: l, q, h => Zh1 l (Zlw h f)
theorem LsN.none {m : Nd} (h : m.leads = Yn) : LsN m := fun y hy => by
 rw [h] at hy
 simp [Yn] at hy
theorem LsN.lead {m : Nd} (h : LsN m) {d : Nat} {x : Ld} (hx : x.state ≠ []) {m' : Nd} (hm : m'.leads = m.leads.set d (some x)) : LsN m' := fun y hy => by
 rw [hm] at hy
 rcases List.mem_or_eq_of_mem_set hy with h2 | h2
 ·exact h y h2
 ·cases h2; exact hx
theorem LsN.same {m m' : Nd} (h : LsN m) (hm : m'.leads = m.leads) : LsN m' := fun y hy => h y (hm ▸ hy)
theorem LsW.at {M : Wm} (h : LsW M) (s : Int) : LsN (Zf M s) := by
 unfold Zf
 rw [List.getD_eq_getElem?_getD]
 cases hg : M.n[s.toNat]? with
 | none => exact fun y hy => by simp at hy
 | some m => exact h m (List.mem_of_getElem? hg)
theorem LsW.set {M : Wm} (h : LsW M) (s : Int) {m : Nd} (hm : LsN m) : LsW (Xa M s m) := fun x hx => by
 rcases List.mem_or_eq_of_mem_set hx with h2 | h2
 ·exact h x h2
 ·rw [h2]; exact hm
theorem LsW.n {M M' : Wm} (h : LsW M) (hn : M'.n = M.n) : LsW M' := fun x hx => h x (hn ▸ hx)
theorem LsW.hear {M : Wm} (h : LsW M) (s : Int) (f : Fr) : LsW (Y4 M s f).1 := by
 unfold Y4
 refine (h.set s (m := (Xr s (Zf M s) M.ev f).1) ?_).n rfl
 unfold Xr
 split
 ·exact h.at s
 ·split
  ·exact LsN.none rfl
  ·exact (h.at s).same rfl
theorem ls_try {M : Wm} (h : LsW M) (s d p : Int) : LsW (Zbg M s d p).1 := by
 unfold Zbg
 simp only
 split
 ·exact h
 have h2 := h.hear s (Zai s d (Zby M.w.length s (Y1 (Zf M s) d p + 1)))
 split
 ·exact h2
 ·refine (h2.set s ((h2.at s).lead (Zh1 _ ?_) rfl)).n rfl
  intro e
  cases e
theorem ls_tickD {q : Wm × Bool} (s : Int) (d : Nat) (h : LsW q.1) : LsW (Uq s q d).1 := by
 unfold Uq
 split
 ·exact h
 split
 ·exact h
 split
 ·exact h
 split
 ·exact h.n rfl
 ·exact ls_try h _ _ _
theorem Zme (s : Int) : ∀ (l : List Nat) {q : Wm × Bool}, LsW q.1 → LsW (l.foldl (Uq s) q).1
 | [], q, h => h
 | d :: l, q, h => Zme s l (ls_tickD s d h)
theorem Zbu {M : Wm} (h : LsW M) (k : Int) : LsW (Z4 M k).1 := by
 unfold Z4
 split
 ·exact h
 simp only
 have hE : LsW { M with l := M.l.eraseIdx k.toNat } := h.n rfl
 split
 ·exact hE
 split
 ·split
  ·exact hE
  ·rename_i x hx
   have hx2 : x.state ≠ [] := by
    rw [List.getD_eq_getElem?_getD] at hx
    cases hg : (Zf { M with l := M.l.eraseIdx k.toNat } (M.l.getD k.toNat Wn).to).leads[(M.l.getD k.toNat Wn).dl.toNat]? with
    | none => rw [hg] at hx; cases hx
    | some y =>
     rw [hg] at hx
     simp only [Option.getD_some] at hx
     subst hx
     exact hE.at _ x (List.mem_of_getElem? hg)
   exact (hE.set _ ((hE.at _).lead (Zlw hx2 _) rfl)).n rfl
 ·exact (hE.hear _ _).n rfl
theorem ls_cmd {M : Wm} (h : LsW M) (k : Nat) (n : List Int) : LsW (Wj k M n).1 := by
 have hl : ∀ a b c, LsW (Ue M a b c).1 := fun a b c => by
  unfold Ue
  split
  ·exact h
  ·exact h.n rfl
 unfold Wj
 split
 ·unfold Vc
  split
  ·exact h
  split
  ·exact h
  split
  ·exact h
  refine (h.set _ ((h.at _).lead (x := Zk (n.getD 0 0) (n.getD 1 0) M.w 0 2) ?_ rfl)).n rfl
  intro e
  cases e
 ·unfold Wq
  split
  ·exact h
  split
  ·exact h
  exact h.set _ ((h.at _).same (by unfold Qz; split <;> rfl))
 ·unfold Us
  split
  ·exact h
  ·exact Zme _ _ h
 ·exact Zbu h _
 ·unfold Q3
  split
  ·exact h
  ·exact h.n rfl
 ·unfold Vq
  split
  ·exact h
  ·exact h.n rfl
 ·exact hl _ _ _
 ·exact hl _ _ _
 ·unfold Zec
  split
  ·exact h
  split
  ·exact h
  exact h.set _ ((h.at _).same rfl)
 ·unfold Q5
  split
  ·exact h
  exact h.set _ (LsN.none rfl)
 ·unfold Zr9
  split
  ·exact h
  split
  ·exact h
  exact LsW.n (M := Xa M (n.getD 0 0) { U5 (Zf M (n.getD 0 0)) with done := (Xi (n.getD 0 0) (U5 (Zf M (n.getD 0 0))) M.ev).1 }) (h.set _ ((h.at (n.getD 0 0)).same rfl)) rfl
theorem ls_all : ∀ (k : Nat) {M : Wm}, LsW M → LsW (Ug k M).1
 | 0, M, h => h
 | k + 1, M, h => by
  rw [Zc6]
  split
  ·exact ls_all k (Zbu h 0)
  ·exact Zbu h 0
theorem ls_do {M : Wm} (h : LsW M) (k : Nat) (n : List Int) : LsW (Zhu k M n).2.2 := by
 unfold Zhu
 split
 ·exact ls_cmd h k n
 ·split
  ·exact ls_all _ h
  all_goals exact h
theorem ls_new (w : List Int) : LsW (Zaa w) := fun m hm => by
 have := List.eq_of_mem_replicate hm
 subst this
 exact LsN.none rfl
def LsO (o : Option Wm) : Prop := ∀ M, o = some M → LsW M
theorem ls_line {o : Option Wm} (h : LsO o) (s : List UInt8) : LsO (Uj o s).2.2 := by
 unfold Uj Qj
 split
 ·split
  ·exact h
  ·split
   ·exact fun M hM => by cases hM; exact ls_new _
   ·exact h
 ·split
  ·exact h
  ·split
   ·exact h
   ·split
    ·exact fun M hM => by cases hM
    ·exact fun M hM => by cases hM; exact ls_do (h _ rfl) _ _
theorem ls_end : ∀ (l : List (List UInt8)) {o : Option Wm}, LsO o → LsO (Ux o l)
 | [], o, h => h
 | s :: l, o, h => ls_end l (ls_line h s)
theorem Zph (n : Int) : Lib.itoa n ≠ [] := by
 unfold Lib.itoa
 have h : ∀ u, Lib.decDigits u ≠ [] := fun u e => by
  have := congrArg List.length e
  rw [Lib.decDigits_length] at this
  have := Lib.nDigits_pos u
  simp at *
  omega
 split
 ·simp
 ·exact h _
theorem Zsf (c : Nat) : Xu c ≠ [] := by
 unfold Xu
 split <;> (intro e; cases e)
theorem do_ne {M : Wm} (h : LsW M) {k : Nat} (hk : k < 18) (n : List Int) (hc : (Zhu k M n).2.1 = 0) : (Zhu k M n).1 ≠ [] := by
 unfold Zhu at *
 split
 ·intro e; cases e
 ·split
  ·exact fun e => Zph ((Ug 3000 M).2 : Nat) e
  ·exact fun e => Zph (M.l.length : Nat) e
  ·unfold stT
   simp
  ·rename_i hk2
   simp only [hk2, Nat.reduceLT, if_false] at hc
   show (Zak M (n.getD 0 0) (n.getD 1 0)).1 ≠ []
   unfold Zak at *
   split
   ·rename_i hb
    rw [if_pos hb] at hc
    simp [Zm9] at hc
   ·split
    ·intro e; cases e
    ·rename_i x hx
     rw [List.getD_eq_getElem?_getD] at hx
     cases hg : (Zf M (n.getD 0 0)).leads[(n.getD 1 0).toNat]? with
     | none => rw [hg] at hx; cases hx
     | some y =>
      rw [hg] at hx
      simp only [Option.getD_some] at hx
      subst hx
      exact h.at _ x (List.mem_of_getElem? hg)
  ·show (if _ then _ else _ : List UInt8) ≠ []
   split <;> (intro e; cases e)
  ·show evsT M.ev ≠ []
   unfold evsT
   split
   ·intro e; cases e
   ·cases he : M.ev with
    | nil => contradiction
    | cons e r =>
     cases r with
     | nil =>
      unfold evT
      simp [Vn]
     | cons e2 r =>
      unfold evT
      simp [Vn]
  ·intro e; cases e
theorem Zl6 {w : List UInt8} : ∀ {t : List (List UInt8 × List UInt8 × Nat)} {i k : Nat}, W1 w t i = some k → k < i + t.length
 | [], i, k, h => by cases h
 | (x, f, F) :: r, i, k, h => by
  simp only [W1] at h
  split at h
  ·cases h; simp
  ·have := Zl6 h
   simp only [List.length_cons]
   omega
def Zdu (w : List UInt8) : List UInt8 × Bool := if w = X7 then ([43], true) else match W1 w cmdT 0 with
 | some k => (Yq k, true)
 | none => ([], false)
theorem step_law {o : Option Wm} (h : LsO o) (s : List UInt8) : (Uk o s).1 ≠ [] ∧ ((Zdu ((Yg s).headD [])).2 = false → (Uk o s).1 = Xu 1) := by
 unfold Uk
 refine ⟨?_, fun hf => ?_⟩
 ·simp only
  split
  ·rename_i hc
   unfold Uj Qj at *
   split
   ·rename_i hw
    rw [if_pos hw] at hc
    cases hrd : W6 (List.replicate (max 1 (Yg s).tail.length) 110) (Yg s).tail with
    | none => rw [hrd] at hc; cases hc
    | some n =>
     simp only
     split <;> (intro e; cases e)
   ·rename_i hw
    rw [if_neg hw] at hc
    cases hf : W1 ((Yg s).headD []) cmdT 0 with
    | none => rw [hf] at hc; cases hc
    | some k =>
     rw [hf] at hc
     simp only at hc ⊢
     cases hrd : W6 (Yq k) (Yg s).tail with
     | none => rw [hrd] at hc; cases hc
     | some n =>
      rw [hrd] at hc
      simp only at hc ⊢
      cases o with
      | none => cases hc
      | some M => exact do_ne (h M rfl) (by have := Zl6 hf; rw [show (0 : Nat) + cmdT.length = 18 from rfl] at this; exact this) n hc
  ·exact Zsf _
 ·have e : (Uj o s).2.1 = 1 := by
   unfold Zdu at hf
   split at hf
   ·cases hf
   ·rename_i hw
    split at hf
    ·cases hf
    ·rename_i hn
     unfold Uj Qj
     rw [if_neg hw, hn]
  simp only [e]
  rfl
theorem Zfu : ∀ s : List UInt8, (Yg s).headD [] = s.takeWhile (fun c => decide (c ≠ 32))
 | [] => rfl
 | c :: r => by
  have ih := Zfu r
  unfold Yg
  by_cases h : c = 32
  ·simp [h]
  ·simp only [if_neg h]
   cases hw : Yg r with
   | nil => obtain ⟨x, q, hx⟩ := Zfl r; rw [hw] at hx; cases hx
   | cons x q =>
    rw [hw] at ih
    simp only [List.headD_cons] at ih ⊢
    rw [ih]
    simp [h]
end Go.HL
end

/-! ScK -/
section
namespace Go.HL
open Go Go.Proofs
set_option linter.unusedVariables false
set_option linter.unusedSimpArgs false
set_option maxHeartbeats 2000000 attribute [local irreducible] HW HO HQ HD HC QOp Has Upd Zp Gets Yf Z8 Zr X3 Z9 Zj Wa Zy
set_option maxRecDepth 20000 in
theorem Ziy (w : List UInt8) (L : Zb) : HC Tryz.prog 7 [bs w] L (fun v L' => v = .tuple ⟨[bs (Zdu w).1, .bool (Zdu w).2]⟩ ∧ L' = L) := by
 refine Za (fun _ _ => Tryz.call7 _ _) Tryz.func7 rfl Tryz.ntmps7 (Nat.le_of_ble_eq_true rfl) ?_; simp only [Ze, Nat.reduceAdd]
 repeat' (first | refine uN ?_ | (refine uP ?_ ?_ <;> (intro h; ((try simp only [zs, ne_eq, and_true, true_and, eq_self, reduceCtorEq] at h); try exact zx))) | fail)
 all_goals first
  | (subst_vars; exact Zbm rfl ⟨rfl, rfl⟩)
  | (rw [show Zdu w = ([], false) by simp [Zdu, W1, cmdT, actTab, lookTab, X7, *]]; exact Zbm rfl ⟨rfl, rfl⟩)
theorem Zeb (c : Int) (L : Zb) (h1 : 1 ≤ c) (h9 : c ≤ 9) : HC Tryz.prog 8 [iv c] L (fun v L' => v = bs (Xu c.toNat) ∧ L' = L) := by
 rcases (show c = 1 ∨ c = 2 ∨ c = 3 ∨ c = 4 ∨ c = 5 ∨ c = 6 ∨ c = 7 ∨ c = 8 ∨ c = 9 by omega) with rfl | rfl | rfl | rfl | rfl | rfl | rfl | rfl | rfl
 all_goals
  refine Za (fun _ _ => Tryz.call8 _ _) Tryz.func8 rfl Tryz.ntmps8 (Nat.le_of_ble_eq_true rfl) ?_; simp only [Ze, Nat.reduceAdd]
  repeat' (first | refine uN ?_ | (refine uB ?_; intro b) | fail)
 all_goals exact Xm (L' := L) (LS.c (LS.refl _)) ⟨rfl, rfl⟩
theorem take_one {s : List UInt8} {k : Nat} (h : k < s.length) : s.take k ++ (s.take (k + 1)).drop k = s.take (k + 1) := by
 rw [V0 h, List.drop_left' (by rw [List.length_take]; omega)]
theorem takeW {s : List UInt8} {k : Nat} (hk : k ≤ s.length) (h : ∀ j, j < k → s.getD j 0 ≠ 32) (he : k = s.length ∨ s.getD k 0 = 32) : s.takeWhile (fun c => decide (c ≠ 32)) = s.take k := by
 induction s generalizing k with
 | nil => simp
 | cons c r ih =>
  cases k with
  | zero =>
   rcases he with he | he
   ·simp at he
   ·simp at he; simp [he]
  | succ k =>
   have h0 := h 0 (by omega)
   simp at h0
   have := ih (k := k) (by simpa using hk) (fun j hj => by have := h (j + 1) (by omega); simpa using this) (by simpa using he)
   rw [List.takeWhile_cons_of_pos (by simp [h0]), this]
   rfl
theorem u32 {c : UInt8} (h : (c.toNat : Int) = 32) : c = 32 := by
 have : c.toNat = (32 : UInt8).toNat := by rw [show (32 : UInt8).toNat = 32 from rfl]; omega
 exact UInt8.toNat_inj.1 this
theorem Zp7 : ∀ (l : List (List UInt8)) (o : Option Wm) (i : Nat) (h : i < l.length), (Q6 o l)[i]? = some (Uk (Ux o (l.take i)) l[i]).1
 | s :: l, o, 0, _ => rfl
 | s :: l, o, i + 1, h => Zp7 l (Uk o s).2 i (by simpa using h)
attribute [local irreducible] Uk Ux Q6 Xu Zdu
set_option maxRecDepth 20000 in
theorem Zj3 (T : Nat) (E : Nat → Addr) (a : Option Addr) (cap : Nat) (l : List (List UInt8)) (L : Zb) (hE : Ez T E L) (hS : Sz L) (hX : Et E L) (hR : Rd V7 1 L a l) (hcap : l.length ≤ cap) :
  HC Tryz.prog 3 [.slice a l.length cap] L (fun v L' => v = .bool true ∧ L' = L) := by
 have kh := Zlk T E L hE hS hX
 refine Za (fun _ _ => Tryz.call3 _ _) Tryz.func3 rfl Tryz.ntmps3 (Nat.le_of_ble_eq_true rfl) ?_; simp only [Ze, Nat.reduceAdd]
 repeat' (first | refine uN ?_ | refine Yb S ?_ | refine uC (kh) ?_ | (refine uB ?_; intro b) | (refine uP ?_ ?_ <;> (intro h; ((try simp only [zs, ne_eq, and_true, true_and, eq_self, reduceCtorEq] at h); try exact zx))) | fail)
 ·exact Xm (LS.refl _) ⟨rfl, rfl⟩
 refine Zcu (L' := [] :: L) ?_ (LS.refl _)
 refine Zx (σ := Nat × Value × List Zn) (fun r => [(0, .slice a l.length cap), (3, .bool true), (4, r.2.1), (5, iv r.1)]) (fun r => r.2.2 :: L)
  (fun r => r.1 ≤ l.length ∧ Vec 9 1 V7 r.2.1 (l.take r.1) r.2.2 ∧ ∀ x ∈ l.take r.1, x.length ≤ 100) (fun r => l.length - r.1) (0, Wo, []) uS (List.Sublist.refl _) ⟨by simp, Yh, by simp⟩ ?_
 rintro ⟨i, u, c⟩ ⟨hi, hu, hx⟩
 simp only at hi hu hx ⊢
 obtain ⟨a5, cap5, rfl, hcap5, hR5⟩ := hu.rd Wh
 by_cases hit : i < l.length
 ·obtain ⟨b, bi, q, F, fr, rfl, hb, hg⟩ := hR.at1 (j := (i : Int)) (by omega) (by omega)
  have eg : l[(i : Int).toNat]'(by omega) = l[i] := rfl
  rw [eg] at hg
  have et := V0 hit
  generalize l[i] = x at *
  repeat' (first | refine uN ?_ | refine Yb S ?_ | (refine uB ?_; intro b) | (refine uP ?_ ?_ <;> (intro h; ((try simp only [zs, ne_eq, and_true, true_and, eq_self, reduceCtorEq] at h); try exact zx))) | fail)
  ·exact Xm (L' := L) (LS.c (LS.refl _)) ⟨rfl, rfl⟩
  ·refine fo 1 ?_
   refine wp1 S x hu Wh Zer ?_ (hby := by rw [List.length_take]; omega) (hmax := by rw [List.length_take]; omega)
   intro v' c' hv'
   repeat' (first | refine uN ?_ | refine Yb S ?_ | (refine uB ?_; intro b) | (refine uP ?_ ?_ <;> (intro h; ((try simp only [zs, ne_eq, and_true, true_and, eq_self, reduceCtorEq] at h); try exact zx))) | fail)
   exact Z5 (i + 1, v', c') uS uL ⟨hit, by rw [et]; exact hv', fun y hy => by
    rw [et] at hy
    rcases List.mem_append.1 hy with hy | hy
    ·exact hx y hy
    ·rw [List.mem_singleton.1 hy]; omega⟩ (by simp only; omega)
 ·obtain rfl : i = l.length := by omega
  rw [List.take_length] at *
  have kr := Zf9 T E a5 cap5 l (c :: L) (hE.cons c) (hS.cons c) (hX.cons c) (hR5 L) hcap5 (by omega) (fun x h => by have := hx x h; omega)
  by_cases h100 : 100 < l.length
  ·simp only [if_pos h100] at kr
   have kc := Ziz T E (some 2) 2 (c :: L) (hE.cons c) (by simp [okE, all9])
   repeat' (first | refine uN ?_ | refine Yb S ?_ | (refine uB ?_; intro b) | (refine uP ?_ ?_ <;> (intro h; ((try simp only [zs, ne_eq, and_true, true_and, eq_self, reduceCtorEq] at h); try exact zx))) | fail)
   refine gc kr ?_
   rintro v L' ⟨rfl, rfl⟩
   repeat' (first | refine uN ?_ | refine Yb S ?_ | refine uC (kc) ?_ | (refine uB ?_; intro b) | (refine uP ?_ ?_ <;> (intro h; ((try simp only [zs, ne_eq, and_true, true_and, eq_self, reduceCtorEq] at h); try exact zx))) | fail)
   exact Xm (L' := L) uL ⟨rfl, rfl⟩
  ·simp only [if_neg h100] at kr
   repeat' (first | refine uN ?_ | refine Yb S ?_ | (refine uB ?_; intro b) | (refine uP ?_ ?_ <;> (intro h; ((try simp only [zs, ne_eq, and_true, true_and, eq_self, reduceCtorEq] at h); try exact zx))) | fail)
   refine gc kr ?_
   rintro v L' ⟨co, u, rfl, ho, rfl⟩
   obtain ⟨a6, cap6, rfl, hcap6, hR6⟩ := ho.rd Wh
   have hol := Zf6 none l
   repeat' (first | refine uN ?_ | refine Yb S ?_ | (refine uB ?_; intro b) | (refine uP ?_ ?_ <;> (intro h; ((try simp only [zs, ne_eq, and_true, true_and, eq_self, reduceCtorEq] at h); try exact zx))) | fail)
   refine Zx (σ := Nat) (fun i => [(0, .slice a l.length cap), (6, .slice a6 (Q6 none l).length cap6), (8, iv i)]) (fun _ => co :: c :: L) (fun i => i ≤ l.length) (fun i => l.length - i) 0 uS (List.Sublist.refl _) (by omega) ?_
   rintro i hi
   by_cases hit : i < l.length
   ·obtain ⟨b, bi, q, F, fr, rfl, hb, hg⟩ := hR.at1 (j := (i : Int)) (by omega) (by omega)
    have eg : l[(i : Int).toNat]'(by omega) = l[i] := rfl
    rw [eg] at hg
    obtain ⟨b6, bi6, q6, F6, fr6, rfl, hb6, hg6⟩ := (hR6 (c :: L)).at1 (j := (i : Int)) (by omega) (by omega)
    have eg6 : (Q6 none l)[(i : Int).toNat]'(by omega) = (Uk (Ux none (l.take i)) l[i]).1 := by
     have := Zp7 l none i hit
     rw [List.getElem?_eq_getElem (by omega)] at this
     exact Option.some.inj this
    rw [eg6] at hg6
    have hxi := hx l[i] (List.getElem_mem _)
    obtain ⟨s1, s2⟩ := step_law (ls_end (l.take i) (o := none) fun M hM => (by cases hM)) l[i]
    rw [Zfu] at s2
    generalize (Uk (Ux none (l.take i)) l[i]).1 = y at *
    generalize l[i] = x at *
    clear eg eg6
    repeat' (first | refine uN ?_ | refine Yb S ?_ | (refine uB ?_; intro b) | (refine uP ?_ ?_ <;> (intro h; ((try simp only [zs, ne_eq, and_true, true_and, eq_self, reduceCtorEq] at h); try exact zx))) | fail)
    refine Zx (σ := Nat) (fun k => [(0, .slice (some ⟨b, bi, none⟩) l.length cap), (6, .slice (some ⟨b6, bi6, none⟩) (Q6 none l).length cap6), (8, iv i), (9, bs (x.take k)), (10, iv k)]) (fun _ => co :: c :: L) (fun k => k ≤ x.length ∧ ∀ j, j < k → x.getD j 0 ≠ 32) (fun k => x.length - k) 0 uS (List.Sublist.refl _) ⟨by omega, fun j hj => by omega⟩ ?_
    rintro k ⟨hk, hk2⟩
    have ek : ((k : Nat) : Int).toNat = k := Int.toNat_natCast k
    have q1 : (x.take k).length ≤ 100 := by rw [List.length_take]; omega
    have q2 : (List.drop ((k : Nat) : Int).toNat (List.take (((k : Nat) : Int) + 1).toNat x)).length ≤ 100 := by rw [List.length_drop, List.length_take]; omega
    by_cases hc : k < x.length ∧ x.getD k 0 ≠ 32
    ·have e1 := take_one hc.1
     have hz : ¬ ((x.getD ((k : Nat) : Int).toNat 0).toNat : Int) = 32 := by rw [ek]; exact fun e => hc.2 (u32 e)
     have ek1 : (((k : Nat) : Int) + 1).toNat = k + 1 := by omega
     repeat' (first | refine uN ?_ | refine Yb S ?_ | (refine uB ?_; intro b) | (refine uP ?_ ?_ <;> (intro h; ((try simp only [zs, ne_eq, and_true, true_and, eq_self, reduceCtorEq] at h); try exact zx))) | fail)
     simp only [ek, ek1, e1]
     refine Z5 (k + 1) uS (LS.refl _) ⟨by omega, fun j hj => ?_⟩ (by omega)
     rcases Nat.lt_succ_iff_lt_or_eq.1 hj with h | rfl
     ·exact hk2 j h
     ·exact hc.2
    ·have e2 := takeW hk hk2 (by
      by_cases h : k < x.length
      ·exact .inr (Classical.byContradiction fun h2 => hc ⟨h, h2⟩)
      ·exact .inl (by omega))
     rw [e2] at s2
     have s2 : (Zdu (x.take k)).2 = false → y = Xu (Int.toNat 1) := s2
     have kf := Ziy (x.take k) (co :: c :: L)
     have ke := Zeb 1 (co :: c :: L) (by omega) (by omega)
     by_cases hkl : k < x.length
     ·have hz : ((x.getD ((k : Nat) : Int).toNat 0).toNat : Int) = 32 := by
       rw [ek, Classical.byContradiction fun h2 => hc ⟨hkl, h2⟩]
       rfl
      repeat' (first | refine uN ?_ | refine Yb S ?_ | refine uC (kf) ?_ | refine uC (ke) ?_ | (refine uB ?_; intro b) | (refine uP ?_ ?_ <;> (intro h; ((try simp only [zs, ne_eq, and_true, true_and, eq_self, reduceCtorEq] at h); try exact zx))) | fail)
      all_goals first
       | exact Z5 (i + 1) uS (LS.refl _) (by omega) (by omega)
       | exact absurd (s2 (by assumption)) (by assumption)
     ·repeat' (first | refine uN ?_ | refine Yb S ?_ | refine uC (kf) ?_ | refine uC (ke) ?_ | (refine uB ?_; intro b) | (refine uP ?_ ?_ <;> (intro h; ((try simp only [zs, ne_eq, and_true, true_and, eq_self, reduceCtorEq] at h); try exact zx))) | fail)
      all_goals first
       | exact Z5 (i + 1) uS (LS.refl _) (by omega) (by omega)
       | exact absurd (s2 (by assumption)) (by assumption)
   ·obtain rfl : i = l.length := by omega
    repeat' (first | refine uN ?_ | refine Yb S ?_ | (refine uB ?_; intro b) | (refine uP ?_ ?_ <;> (intro h; ((try simp only [zs, ne_eq, and_true, true_and, eq_self, reduceCtorEq] at h); try exact zx))) | fail)
    exact Xm (L' := L) uL ⟨rfl, rfl⟩
end Go.HL
end

/-! CdXR -/
section
namespace Go.Proofs.YtkookaogdkdegabGreatDoor.scriptReads
set_option maxRecDepth 100000
open Go.ChangeShapes Go.WideShapes Go.ChangeAt Go.RowKit Go.HL
set_option linter.unusedVariables false
def scrL : List (String × DataW Unit) := Rows.scriptReadsRow.laid.filter fun x => x.2.handleName?.isNone
theorem scr_hand : (Rows.scriptReadsRow.laid.filter fun x => x.2.handleName?.isSome) = handL := by kernel_rfl
theorem scr_err : errL scrL = Zdz [1, 2, 3, 4, 5, 6, 7, 8, 9] := by kernel_rfl
theorem and_mk {a b : Bool} (ha : a = true) (hb : b = true) : (a && b) = true := by rw [ha, hb]; rfl
theorem own : ownKnob Tryz.prog.godebug = none := by kernel_rfl
theorem contract (H : Type) (enc : TypeId × Value → H) (W : World) (base : Nat) (args : Array Value) (ds gs : List (DataW H)) (before : List MemPlace)
  (hval : ∀ (j : Nat) t v, Tryz.f3.params[j]? = some t → args[j]? = some v → Value.okWide Tryz.prog W .any base t v)
  (hW : DataW.Whole enc Tryz.prog Tryz.f3.params.toList Rows.scriptReadsSpec.vars false W args.toList ds gs before) (hL : laidMetH Tryz.prog Rows.scriptReadsRow.laid W) (hSh : W.ShapedOpen Tryz.prog) :
  Calls Tryz.prog 3 args W fun e W' => ∃ v, e = .returned v ∧ Rows.scriptReadsSpec.post enc Tryz.prog Tryz.f3 false true false false W args v W' := by
 have hW' := hW
 obtain ⟨p, q, hA0, hV, rfl, hfz, hnd⟩ := hW
 have hA : DataW.TrodAll enc Tryz.prog W 0 (fun _ => true) true Tryz.f3.params.toList args.toList ds p := hA0
 rw [Tryz.params3] at hA hval
 obtain ⟨v0, vs0, d0, ds0, p0, q0, hargs, rfl, rfl, h0, r0⟩ := trodAll_cons hA
 obtain ⟨rfl, rfl, rfl⟩ := trodAll_nil r0
 obtain rfl : args = #[v0] := by cases args; simp_all
 obtain ⟨rfl, rfl⟩ := trodVars_none hV
 obtain ⟨a, cap, l, rfl, hR, hx, hc⟩ := open_rd Tryz.underlying22 (sz := 1) (by kernel_rfl) (by decide) (hval 0 _ v0 rfl rfl) h0 (fun s : List UInt8 => s.length ≤ 9223372036854775807) open_sb
 obtain ⟨hA, hB⟩ := laidMetH_iff.1 hL
 rw [scr_hand] at hB
 have hA : laidMet Tryz.prog scrL W := hA
 have hs := hA.filter fun x => (Zdz [1, 2, 3, 4, 5, 6, 7, 8, 9]).any fun y => y.1 == x.1
 rw [show scrL.filter (fun x => (Zdz [1, 2, 3, 4, 5, 6, 7, 8, 9]).any fun y => y.1 == x.1) = Zdz [1, 2, 3, 4, 5, 6, 7, 8, 9] from scr_err] at hs
 obtain ⟨E, hE, hX⟩ := ezt_of hs hB
 have hS := sz_of (t1 := [118, 97, 108, 117, 101, 32, 111, 117, 116, 32, 111, 102, 32, 114, 97, 110, 103, 101]) (t2 := [105, 110, 118, 97, 108, 105, 100, 32, 115, 121, 110, 116, 97, 120]) hA hSh (by kernel_rfl) (by kernel_rfl) (by kernel_rfl)
 refine (Zqs (Zj3 259 E a cap l [V3 W] hE hS hX hR hc)).mono fun e W' ⟨he, hb⟩ => ?_
 subst he
 exact ⟨_, rfl, post_law (by kernel_rfl) (by decide +kernel) hW' hb rfl rfl rfl Tryz.underlying4⟩
theorem laid_met (os : Os) : laidMetH Tryz.prog Rows.scriptReadsRow.laid ((layS os scrL).forCall (fun _ _ => 0) ⟨#[], #[.slice none 0 0], []⟩).memory := laidMetH_of_parts (Zi2 (laid := scrL) _ (by kernel_rfl) (by kernel_rfl)) (by kernel_rfl)
theorem reads (os : Os) {H : Type} (enc : TypeId × Value → H) : ∃ places, DataW.whole enc Tryz.prog ((layS os scrL).forCall (fun _ _ => 0) ⟨#[], #[.slice none 0 0], []⟩).memory Tryz.f3.params.toList Rows.scriptReadsSpec.vars false (#[.slice none 0 0] : Array Value).toList 8 = some ([.nil], [], places) :=
 ⟨[], by kernel_rfl⟩
set_option maxRecDepth 100000 in
theorem lifted (os : Os) (started : os.Started) (H : Type) (enc : TypeId × Value → H) (F : Stop.Interp) :
  ReturnsInHanded {} Tryz.checked os 3 .any ((OpenSpec.ofChange Rows.scriptReadsSpec).preRow enc Tryz.prog Tryz.f3 Rows.scriptReadsRow.domain false Rows.scriptReadsRow.laid) (((OpenSpec.ofChange Rows.scriptReadsSpec).at F).post enc Tryz.prog Tryz.f3 false true false false) := by
 obtain ⟨places, hx⟩ := reads os enc
 refine returnsInHanded_of_row (C := Tryz.checked) (s := OpenSpec.ofChange Rows.scriptReadsSpec) own started (by kernel_rfl) Tryz.func3
  (witness_row_at (enc := enc) (C := Tryz.checked) false (layS os scrL) #[.slice none 0 0] (layS_os _ _) (by kernel_rfl) (by kernel_rfl) (by kernel_rfl)
   (OpenSpec.preRow_of_cond 8 hx (by kernel_rfl) (fun k hk => by cases hk) (by kernel_rfl) (laid_met os))) ?_
 intro W base args ds gs before hval hW _ _ _ hL hSh _
 exact contract H enc W base args ds gs before hval hW hL hSh
set_option maxHeartbeats 0 in
theorem closed : joinedFacts Tryz.pinned.checked.prog 3 Tryz.f3 Rows.scriptReadsSpec Rows.scriptReadsRow = true := by
 unfold joinedFacts
 repeat' with_reducible refine and_mk ?_ ?_
 all_goals as_aux_lemma => kernel_rfl
theorem said : Rows.ScriptReadsSaid :=
 OpenClaim.holds_of_cond 3 Tryz.f3 rfl rfl rfl rfl rfl rfl rfl ⟨rfl, rfl, rfl, rfl, rfl⟩ rfl rfl rfl rfl rfl (by as_aux_lemma => kernel_rfl) Tryz.func3 closed
  (of_decide_eq_true (by as_aux_lemma => kernel_rfl)) (by unfold Func.isWrapper; first | (rw [if_pos (by decide +kernel)]; kernel_rfl) | (rw [if_neg (by decide +kernel)]; exact ⟨rfl, rfl⟩))
  (fun os started H enc _ F => by rw [OpenClaim.pre_eq_preRow]; exact lifted os started H enc F)
theorem plain (f : FuncId) (fn : Func) (hf : Tryz.pinned.checked.prog.funcNamed "threefold/threefoldlaw3.ScriptReads" = some f) (hfn : Tryz.pinned.checked.prog.funcs[f]? = some fn) :
  true = Tryz.pinned.checked.prog.looks [] ∧ ∀ (j : Nat) t, fn.params[j]? = some t → Tryz.pinned.checked.prog.wantsStandIn t = false := by
 obtain rfl : f = 3 := Option.some.inj ((show Tryz.prog.funcNamed "threefold/threefoldlaw3.ScriptReads" = some 3 by as_aux_lemma => kernel_rfl).symm.trans hf) |>.symm
 obtain rfl : fn = Tryz.f3 := (Option.some.inj (Tryz.func3.symm.trans hfn)).symm
 refine ⟨by as_aux_lemma => kernel_rfl, fun j t ht => ?_⟩
 have hm : t ∈ Tryz.f3.params := Array.mem_of_getElem? ht
 have hall : (Tryz.f3.params.toList.all fun t => !Tryz.prog.wantsStandIn t) = true := by as_aux_lemma => kernel_rfl
 have h9 := List.all_eq_true.1 hall t (Array.mem_toList_iff.2 hm)
 have h8 : Tryz.prog.wantsStandIn t = false := by simpa using h9
 exact h8
theorem proved : Rows.ScriptReadsCardSaid :=
 Claim7.holds_tied_plain_at .later [] _ _ _ _ said (fun _ h => by cases h) (by as_aux_lemma => kernel_rfl) (fun _ h => by cases h) scriptReads_row_tie rfl ⟨rfl, rfl⟩ (by as_aux_lemma => kernel_rfl) rfl plain (by as_aux_lemma => kernel_rfl)
#print axioms proved
end Go.Proofs.YtkookaogdkdegabGreatDoor.scriptReads
end
