/- Texts laid into one, without what the claim does not use. Conditions: none. -/
import Derived.Test.YtkookaogdkdegacGreatDoorMStG
/-! MwK -/
section
namespace Go.HL
open Go Go.Proofs
set_option linter.unusedVariables false
set_option linter.unusedSimpArgs false
section c
variable {P : Program} {n : Nat} {ops : List Oper} {Q : Exit → Z3 → Zb → Prop} {ρ : Z3} {L : Zb}
theorem hd_three {Ss : List (Nat × Zq)} {rem r1 r2 r3 : List (Nat × Oper)} {i j k : Nat} {o p q : Oper} (h1 : HO P n ops (Z4 P n ops Q i Ss r1) [o] ρ L) (h2 : HO P n ops (Z4 P n ops Q j Ss r2) [p] ρ L) (h3 : HO P n ops (Z4 P n ops Q k Ss r3) [q] ρ L) (hn : Zqs ops rem = [((i, o), r1), ((j, p), r2), ((k, q), r3)] := by exact rfl) : HD P n ops Q Ss rem ρ L := by
 refine hd_all (by rw [hn]; simp) fun x hx => ?_
 rw [hn] at hx
 rcases List.mem_cons.1 hx with rfl | hx
 ·exact h1
 ·rcases List.mem_cons.1 hx with rfl | hx
  ·exact h2
  ·rcases List.mem_cons.1 hx with rfl | hx
   ·exact h3
   ·cases hx
end c
theorem Zop {aw : Option Addr} {cw : Nat} {g : NrG} {m : Nd} : ∀ {gs : List NrG} {ms : List Nd} {i : Nat}, gs.length = ms.length → Q5 aw cw (gs ++ [g]) (ms ++ [m]) i = Q5 aw cw gs ms i ++ Zf2 aw cw g ((i + gs.length : Nat) : Int) m
 | [], [], i, _ => by simp [Q5]
 | g0 :: gs, m0 :: ms, i, h => by
  have ih := Zop (aw := aw) (cw := cw) (g := g) (m := m) (gs := gs) (ms := ms) (i := i + 1) (by simpa using h)
  simp only [List.cons_append, Q5, ih, List.append_assoc, List.length_cons]
  rw [show i + 1 + gs.length = i + (gs.length + 1) by omega]
 | [], _ :: _, _, h => by simp at h
 | _ :: _, [], _, h => by simp at h
theorem bytes512 : List.replicate (Int.toNat 512) (Value.int .u8 0) = (Yj 512).map u8 := (Zkf 512).symm
theorem Zt9 (b : Nat) : Wd b ⟨Yj 512, false, -1⟩ 0 = [(b, .cells ⟨[bs (Yj 512), .bool false, iv 0, .bool false]⟩ 144)] := rfl
theorem Zfu : (Yj 512).length = 512 := Zmb 512
def ld6 : List (Nat × Value × List Zq) := List.replicate 6 (0, Y4, [])
theorem Zgb {x y n a b c d e f : List Zq} {L : Zb} : LS (x :: y :: (n ++ (a ++ (b ++ (c ++ (d ++ (e ++ (f ++ []))))))) :: L).flatten (x :: y :: n :: a :: b :: c :: d :: e :: f :: L).flatten := LS.of_eq (by simp only [List.flatten_cons, List.append_assoc, List.append_nil, List.nil_append])
theorem nrOk_new {np rp rs bR bA bB : Nat} {r : RJ} (hr : r.rp = rp) : NrOk ⟨np, rp, 0, rs, bR, r, bA, bB, ld6⟩ newNd := by
 refine ⟨rfl, hr, fun h => absurd rfl h, fun d x hx => ?_⟩
 simp only [newNd, noLeads, List.getElem?_replicate] at hx
 split at hx <;> cases hx
set_option maxHeartbeats 2000000 attribute [local irreducible] HW HO HQ HD HC QOp Has Upd Zt Gets Yb Z6 Zr Xr Z4 Zm Xx Zy
attribute [local irreducible] Zo Zp Qj Zeo Yj
theorem Zca (w : List Int) (aw : Option Addr) (cw : Nat) (L : Zb) (hw : w.length ≤ 7) :
  HC Tryz.prog 29 [.slice aw w.length cw] L (fun v L' => ∃ G, v = pt G.wp 0 ∧ G.aw = aw ∧ G.cw = cw ∧ RwOk G (Z5 w) ∧ L' = Xs G (Z5 w) ++ L) := by
 refine Za (fun _ _ => Tryz.call29 _ _) Tryz.func29 rfl Tryz.ntmps29 (Nat.le_of_ble_eq_true rfl) ?_; simp only [Zc, Nat.reduceAdd]
 repeat' (first | refine uN ?_ | refine Yc S ?_ | (refine uB ?_; intro b) | (refine uP ?_ ?_ <;> (intro h; ((try simp only [zs, ne_eq, and_true, true_and, eq_self, reduceCtorEq] at h); try exact zx))) | refine da 101 ?_ | fail)
 generalize b = wp
 refine Wi (L' := [] :: [(wp, .cells ⟨[.slice aw w.length cw, Y4, Y4, Y4, Y4]⟩ 94)] :: [] :: L) ?_ uL
 refine Zn (σ := Nat × Value × List Zq × List NrG) (fun r => [(0, .slice aw w.length cw), (3, pt wp 0), (4, iv r.1)])
  (fun r => r.2.2.1 :: [(wp, .cells ⟨[.slice aw w.length cw, r.2.1, Y4, Y4, Y4]⟩ 94)] :: Q5 aw cw r.2.2.2 (List.replicate r.1 newNd) 0 :: L)
  (fun r => r.1 ≤ w.length ∧ r.2.2.2.length = r.1 ∧ Vec 145 1 pc r.2.1 (r.2.2.2.map (·.np)) r.2.2.1 ∧ ∀ g ∈ r.2.2.2, NrOk g newNd) (fun r => w.length - r.1) (0, Y4, [], []) uS (List.Sublist.refl _) ⟨by simp, rfl, Zu, by simp⟩ ?_
 rintro ⟨i, nv, nc, nd⟩ ⟨hi, hnl, hnv, hok⟩
 simp only at hi hnl hnv hok ⊢
 by_cases hlt : i < w.length
 ·obtain ⟨an, capn, he, -, -⟩ := hnv.rd Wq
  subst he
  have kn := fun rp L => Zck i rp ⟨Yj 512, false, -1⟩ 0 L (by simp only [Zfu]; omega) (by simp only [Zfu]; omega)
  simp only [Zt9] at kn
  have hz5 := Zfu
  repeat' (first | refine uN ?_ | refine Yc S ?_ | (refine uB ?_; intro b) | (refine uP ?_ ?_ <;> (intro h; ((try simp only [zs, ne_eq, and_true, true_and, eq_self, reduceCtorEq] at h); try exact zx))) | refine da 101 ?_ | fail)
  rw [bytes512]
  refine We (qtx S (Zkz _ _ _ _) ?_) ?_
  ·exact Zfu
  generalize b = bytes
  repeat' (first | refine uN ?_ | refine Yc S ?_ | (refine uB ?_; intro b) | (refine uP ?_ ?_ <;> (intro h; ((try simp only [zs, ne_eq, and_true, true_and, eq_self, reduceCtorEq] at h); try exact zx))) | refine da 101 ?_ | fail)
  generalize b = rp
  have eN : ∀ np rs bR (r : RJ) bA bB, Q5 aw cw (nd ++ [⟨np, rp, 0, rs, bR, r, bA, bB, ld6⟩]) (List.replicate (i + 1) newNd) 0 = Q5 aw cw nd (List.replicate i newNd) 0 ++ ([(np, .cells ⟨[pt rs 0, pt rp 0, sl bA 0 6 6, sl bB 0 6 6]⟩ 150)] ++ ([(bA, .cells ⟨Zv6⟩ 209)] ++ ([(bB, .cells ⟨List.replicate 6 (.bool false)⟩ 4)] ++ (Zeo rs r.rj bR i (fun _ => false) ++ (Qj r ⟨Zo (Yj 512), false⟩ ++ ([(rp, .cells ⟨[bs (Yj 512), .bool false, iv 0, .bool false]⟩ 144)] ++ [])))))) := fun np rs bR r bA bB => by
   rw [List.replicate_succ', Zop (by simp [hnl]), hnl, Nat.zero_add, ← Zt9]
   rfl
  have hokN : ∀ np rs bR (r : RJ) bA bB, r.rp = rp → ∀ g ∈ nd ++ [(⟨np, rp, 0, rs, bR, r, bA, bB, ld6⟩ : NrG)], NrOk g newNd := fun np rs bR r bA bB hr g hg => by
   rcases List.mem_append.1 hg with h | h
   ·exact hok g h
   ·rw [List.mem_singleton.1 h]
    exact nrOk_new hr
  refine hd_three ?_ ?_ ?_
  ·refine gc (kn _ _) ?_
   rintro v L' ⟨rs, bR, r, rfl, hr, rfl⟩
   repeat' (first | refine uN ?_ | refine Yc S ?_ | (refine uB ?_; intro b) | (refine uP ?_ ?_ <;> (intro h; ((try simp only [zs, ne_eq, and_true, true_and, eq_self, reduceCtorEq] at h); try exact zx))) | refine da 101 ?_ | fail)
   refine Zne ?_ ?_
   ·repeat' (first | refine uN ?_ | refine Yc S ?_ | (refine uB ?_; intro b) | (refine uP ?_ ?_ <;> (intro h; ((try simp only [zs, ne_eq, and_true, true_and, eq_self, reduceCtorEq] at h); try exact zx))) | refine da 101 ?_ | fail)
    rename_i bA bB np
    refine fo 8 ?_
    refine Zea S np hnv Wq Zev ?_ (hby := by simp only [List.length_map]; omega) (hmax := by simp only [List.length_map]; omega)
    intro v' c' hv'
    obtain ⟨a6, cap6, rfl, -, -⟩ := hv'.rd Wq
    repeat' (first | refine uN ?_ | refine Yc S ?_ | (refine uB ?_; intro b) | (refine uP ?_ ?_ <;> (intro h; ((try simp only [zs, ne_eq, and_true, true_and, eq_self, reduceCtorEq] at h); try exact zx))) | refine da 101 ?_ | fail)
    refine Zg (i + 1, _, c', nd ++ [⟨np, rp, 0, rs, bR, r, bA, bB, ld6⟩]) uS ?_ ⟨by simp only; omega, by simp [hnl], by simp only [List.map_append, List.map_cons, List.map_nil]; exact hv', hokN _ _ _ _ _ _ hr⟩ (by simp only; omega)
    simp only [eN]
    exact LS.trans Zgb uL
   ·repeat' (first | refine uN ?_ | refine Yc S ?_ | (refine uB ?_; intro b) | (refine uP ?_ ?_ <;> (intro h; ((try simp only [zs, ne_eq, and_true, true_and, eq_self, reduceCtorEq] at h); try exact zx))) | refine da 101 ?_ | fail)
    rename_i bB bA np
    refine fo 8 ?_
    refine Zea S np hnv Wq Zev ?_ (hby := by simp only [List.length_map]; omega) (hmax := by simp only [List.length_map]; omega)
    intro v' c' hv'
    obtain ⟨a6, cap6, rfl, -, -⟩ := hv'.rd Wq
    repeat' (first | refine uN ?_ | refine Yc S ?_ | (refine uB ?_; intro b) | (refine uP ?_ ?_ <;> (intro h; ((try simp only [zs, ne_eq, and_true, true_and, eq_self, reduceCtorEq] at h); try exact zx))) | refine da 101 ?_ | fail)
    refine Zg (i + 1, _, c', nd ++ [⟨np, rp, 0, rs, bR, r, bA, bB, ld6⟩]) uS ?_ ⟨by simp only; omega, by simp [hnl], by simp only [List.map_append, List.map_cons, List.map_nil]; exact hv', hokN _ _ _ _ _ _ hr⟩ (by simp only; omega)
    simp only [eN]
    exact LS.trans Zgb uL
  ·repeat' (first | refine uN ?_ | refine Yc S ?_ | (refine uB ?_; intro b) | (refine uP ?_ ?_ <;> (intro h; ((try simp only [zs, ne_eq, and_true, true_and, eq_self, reduceCtorEq] at h); try exact zx))) | refine da 101 ?_ | fail)
   refine Zne ?_ ?_
   ·refine fo 1 ?_
    refine gc (kn _ _) ?_
    rintro v L' ⟨rs, bR, r, rfl, hr, rfl⟩
    repeat' (first | refine uN ?_ | refine Yc S ?_ | (refine uB ?_; intro b) | (refine uP ?_ ?_ <;> (intro h; ((try simp only [zs, ne_eq, and_true, true_and, eq_self, reduceCtorEq] at h); try exact zx))) | refine da 101 ?_ | fail)
    rename_i bA bB np
    refine fo 8 ?_
    refine Zea S np hnv Wq Zev ?_ (hby := by simp only [List.length_map]; omega) (hmax := by simp only [List.length_map]; omega)
    intro v' c' hv'
    obtain ⟨a6, cap6, rfl, -, -⟩ := hv'.rd Wq
    repeat' (first | refine uN ?_ | refine Yc S ?_ | (refine uB ?_; intro b) | (refine uP ?_ ?_ <;> (intro h; ((try simp only [zs, ne_eq, and_true, true_and, eq_self, reduceCtorEq] at h); try exact zx))) | refine da 101 ?_ | fail)
    refine Zg (i + 1, _, c', nd ++ [⟨np, rp, 0, rs, bR, r, bA, bB, ld6⟩]) uS ?_ ⟨by simp only; omega, by simp [hnl], by simp only [List.map_append, List.map_cons, List.map_nil]; exact hv', hokN _ _ _ _ _ _ hr⟩ (by simp only; omega)
    simp only [eN]
    exact LS.trans Zgb uL
   ·repeat' (first | refine uN ?_ | refine Yc S ?_ | (refine uB ?_; intro b) | (refine uP ?_ ?_ <;> (intro h; ((try simp only [zs, ne_eq, and_true, true_and, eq_self, reduceCtorEq] at h); try exact zx))) | refine da 101 ?_ | fail)
    refine fo 2 ?_
    refine gc (kn _ _) ?_
    rintro v L' ⟨rs, bR, r, rfl, hr, rfl⟩
    repeat' (first | refine uN ?_ | refine Yc S ?_ | (refine uB ?_; intro b) | (refine uP ?_ ?_ <;> (intro h; ((try simp only [zs, ne_eq, and_true, true_and, eq_self, reduceCtorEq] at h); try exact zx))) | refine da 101 ?_ | fail)
    rename_i bA bB np
    refine fo 8 ?_
    refine Zea S np hnv Wq Zev ?_ (hby := by simp only [List.length_map]; omega) (hmax := by simp only [List.length_map]; omega)
    intro v' c' hv'
    obtain ⟨a6, cap6, rfl, -, -⟩ := hv'.rd Wq
    repeat' (first | refine uN ?_ | refine Yc S ?_ | (refine uB ?_; intro b) | (refine uP ?_ ?_ <;> (intro h; ((try simp only [zs, ne_eq, and_true, true_and, eq_self, reduceCtorEq] at h); try exact zx))) | refine da 101 ?_ | fail)
    refine Zg (i + 1, _, c', nd ++ [⟨np, rp, 0, rs, bR, r, bA, bB, ld6⟩]) uS ?_ ⟨by simp only; omega, by simp [hnl], by simp only [List.map_append, List.map_cons, List.map_nil]; exact hv', hokN _ _ _ _ _ _ hr⟩ (by simp only; omega)
    simp only [eN]
    exact LS.trans Zgb uL
  ·repeat' (first | refine uN ?_ | refine Yc S ?_ | (refine uB ?_; intro b) | (refine uP ?_ ?_ <;> (intro h; ((try simp only [zs, ne_eq, and_true, true_and, eq_self, reduceCtorEq] at h); try exact zx))) | refine da 101 ?_ | fail)
   refine Zne ?_ ?_
   ·refine fo 1 ?_
    refine gc (kn _ _) ?_
    rintro v L' ⟨rs, bR, r, rfl, hr, rfl⟩
    repeat' (first | refine uN ?_ | refine Yc S ?_ | (refine uB ?_; intro b) | (refine uP ?_ ?_ <;> (intro h; ((try simp only [zs, ne_eq, and_true, true_and, eq_self, reduceCtorEq] at h); try exact zx))) | refine da 101 ?_ | fail)
    rename_i bB bA np
    refine fo 8 ?_
    refine Zea S np hnv Wq Zev ?_ (hby := by simp only [List.length_map]; omega) (hmax := by simp only [List.length_map]; omega)
    intro v' c' hv'
    obtain ⟨a6, cap6, rfl, -, -⟩ := hv'.rd Wq
    repeat' (first | refine uN ?_ | refine Yc S ?_ | (refine uB ?_; intro b) | (refine uP ?_ ?_ <;> (intro h; ((try simp only [zs, ne_eq, and_true, true_and, eq_self, reduceCtorEq] at h); try exact zx))) | refine da 101 ?_ | fail)
    refine Zg (i + 1, _, c', nd ++ [⟨np, rp, 0, rs, bR, r, bA, bB, ld6⟩]) uS ?_ ⟨by simp only; omega, by simp [hnl], by simp only [List.map_append, List.map_cons, List.map_nil]; exact hv', hokN _ _ _ _ _ _ hr⟩ (by simp only; omega)
    simp only [eN]
    exact LS.trans Zgb uL
   ·repeat' (first | refine uN ?_ | refine Yc S ?_ | (refine uB ?_; intro b) | (refine uP ?_ ?_ <;> (intro h; ((try simp only [zs, ne_eq, and_true, true_and, eq_self, reduceCtorEq] at h); try exact zx))) | refine da 101 ?_ | fail)
    refine fo 2 ?_
    refine gc (kn _ _) ?_
    rintro v L' ⟨rs, bR, r, rfl, hr, rfl⟩
    repeat' (first | refine uN ?_ | refine Yc S ?_ | (refine uB ?_; intro b) | (refine uP ?_ ?_ <;> (intro h; ((try simp only [zs, ne_eq, and_true, true_and, eq_self, reduceCtorEq] at h); try exact zx))) | refine da 101 ?_ | fail)
    rename_i bB bA np
    refine fo 8 ?_
    refine Zea S np hnv Wq Zev ?_ (hby := by simp only [List.length_map]; omega) (hmax := by simp only [List.length_map]; omega)
    intro v' c' hv'
    obtain ⟨a6, cap6, rfl, -, -⟩ := hv'.rd Wq
    repeat' (first | refine uN ?_ | refine Yc S ?_ | (refine uB ?_; intro b) | (refine uP ?_ ?_ <;> (intro h; ((try simp only [zs, ne_eq, and_true, true_and, eq_self, reduceCtorEq] at h); try exact zx))) | refine da 101 ?_ | fail)
    refine Zg (i + 1, _, c', nd ++ [⟨np, rp, 0, rs, bR, r, bA, bB, ld6⟩]) uS ?_ ⟨by simp only; omega, by simp [hnl], by simp only [List.map_append, List.map_cons, List.map_nil]; exact hv', hokN _ _ _ _ _ _ hr⟩ (by simp only; omega)
    simp only [eN]
    exact LS.trans Zgb uL
 ·obtain rfl : i = w.length := by omega
  repeat' (first | refine uN ?_ | refine Yc S ?_ | (refine uB ?_; intro b) | (refine uP ?_ ?_ <;> (intro h; ((try simp only [zs, ne_eq, and_true, true_and, eq_self, reduceCtorEq] at h); try exact zx))) | refine da 101 ?_ | fail)
  refine Yi (L' := Xs ⟨wp, aw, cw, w.length, nv, nc, Y4, [], [], Y4, [], Y4, [], nd⟩ (Z5 w) ++ L) ?_ ⟨⟨wp, aw, cw, w.length, nv, nc, Y4, [], [], Y4, [], Y4, [], nd⟩, rfl, rfl, rfl, ⟨rfl, hnv, by simp [Z5, hnl], Zu, (fun a b => by simp [Z5]), List.nodup_nil, (fun p hp => by cases hp), Zu, Zu, fun s g m hg hm => ?_⟩, rfl⟩
  ·simp only [Xs, Zd3, Vt, List.cons_append, List.nil_append, Z5]
   exact uL
  ·have : m = newNd := by
    simp only [Z5, List.getElem?_replicate] at hm
    split at hm
    ·cases hm; rfl
    ·cases hm
   rw [this]
   exact hok g (List.mem_of_getElem? hg)
end Go.HL
end

/-! ErD3 -/
section
namespace Go.HL
open Go Go.Proofs
set_option linter.unusedVariables false
set_option linter.unusedSimpArgs false
set_option maxHeartbeats 2000000 attribute [local irreducible] HW HO HQ HD HC QOp Has Upd Zt Gets Yb Z6 Zr Xr Z4 Zm Xx Zy
theorem Um (T : Nat) (E : Nat → Addr) (e : Option Nat) (k : Int) (L : Zb) (hE : Ez T E L) (he : okE e) : HC Tryz.prog 28 [eV T E e, iv k] L (fun v L' => v = .bool (decide (cdN e = k)) ∧ L' = L) := by
 have hc := Zo2 T E e L hE he
 refine Za (fun _ _ => Tryz.call28 _ _) Tryz.func28 rfl Tryz.ntmps28 (Nat.le_of_ble_eq_true rfl) ?_; simp only [Zc, Nat.reduceAdd]
 repeat' (first | refine uN ?_ | refine uC (hc) ?_ | (refine uP ?_ ?_ <;> (intro h; ((try simp only [zs, ne_eq, and_true, true_and, eq_self, reduceCtorEq] at h); try exact zx))) | fail)
 all_goals (refine Yi uZ ⟨?_, rfl⟩; simp [*])
end Go.HL
end

/-! PwC -/
section
namespace Go.HL
open Go Go.Proofs
set_option linter.unusedVariables false
set_option linter.unusedSimpArgs false
theorem Zpu (d : Int) : Xe newNd.pl d = Ww := by
 unfold Xe newNd
 simp only
 rw [Zek (by omega)]
 rw [List.getD, List.getElem?_replicate]
 split <;> rfl
def Vc : List Int := [1, 1, 1]
theorem Zqq : Yw Vc = none := by decide +kernel
def b111 : Wm := (Xk (Z5 Vc) 1 0).1
theorem busy_new (w : List Int) (d : Int) : (Z5 w).n.any (Wn d) = false := by
 rw [List.any_eq_false]
 intro x hx
 rw [(List.mem_replicate.1 hx).2]
 unfold Wn
 rw [Zpu]
 simp only [ne_eq, not_true_eq_false, decide_false, Bool.false_or]
 unfold newNd noLeads
 simp only [List.getD, List.getElem?_replicate]
 split <;> simp
theorem Zj0 {w : List Int} {s : Int} (h0 : 0 ≤ s) (h1 : s < w.length) : Zd (Z5 w) s = newNd := by
 unfold Zd Z5
 simp only [List.getD, List.getElem?_replicate]
 rw [if_pos (by omega)]
 rfl
theorem upE_new {w : List Int} {s : Int} (h0 : 0 ≤ s) (h1 : s < w.length) : Zbm (Z5 w) s = none := by
 unfold Zbm
 rw [Za5 h0 (by simpa [Z5] using h1)]
 simp only
 rw [Zj0 h0 h1]
 rfl
theorem Zde {w : List Int} {s d : Int} (h0 : 0 ≤ s) (h1 : s < w.length) (hd : 0 ≤ d ∧ d < 6) : Xk (Z5 w) s d = ({ Yp (Z5 w) s { newNd with leads := noLeads.set d.toNat (some (Zh s d w 0 2)) } with l := Xd (Zh s d w 0 2) }, none) := by
 have hl : (Z5 w).n.length = w.length := by simp [Z5]
 unfold Xk
 rw [if_neg (by rw [hl]; omega), upE_new h0 h1, busy_new, Zj0 h0 h1]
 rfl
theorem b111_e : (Xk (Z5 Vc) 1 0).2 = none := by rw [Zde (by omega) (by simp [Vc]) (by omega)]
theorem b111_l : b111.l.length = 3 := by
 unfold b111
 rw [Zde (by omega) (by simp [Vc]) (by omega)]
 rfl
theorem Zwi : Zae b111 1 0 = (Zm2, none) := by
 unfold b111
 rw [Zde (by omega) (by simp [Vc]) (by omega)]
 unfold Zae
 rw [if_neg (by simp [Yp, Z5, Vc])]
 show (match (Zd (Yp (Z5 Vc) 1 { newNd with leads := noLeads.set 0 (some (Zh 1 0 Vc 0 2)) }) 1).leads.getD 0 none with
  | none => ([110, 111, 110, 101], none)
  | some x => (x.state, none)) = (Zm2, none)
 rw [Zbi (by omega) (by simp [Z5, Vc])]
 rfl
theorem Zur : (Xk b111 0 0).2 = some 8 := by
 unfold b111
 rw [Zde (by omega) (by simp [Vc]) (by omega)]
 unfold Xk
 have hl : (Yp (Z5 Vc) 1 { newNd with leads := noLeads.set 0 (some (Zh 1 0 Vc 0 2)) }).n.length = 3 := by simp [Yp, Z5, Vc]
 rw [if_neg (by show ¬ ((0 : Int) < 0 ∨ (6 : Int) ≤ 0 ∨ (0 : Int) < 0 ∨ ((Yp (Z5 Vc) 1 { newNd with leads := noLeads.set 0 (some (Zh 1 0 Vc 0 2)) }).n.length : Int) ≤ 0); rw [hl]; omega)]
 have hu : Zbm { Yp (Z5 Vc) 1 { newNd with leads := noLeads.set (Int.toNat 0) (some (Zh 1 0 Vc 0 2)) } with l := Xd (Zh 1 0 Vc 0 2) } 0 = none := by
  unfold Zbm
  rw [Za5 (by omega) (by show (0 : Int) < ((Yp (Z5 Vc) 1 { newNd with leads := noLeads.set 0 (some (Zh 1 0 Vc 0 2)) }).n.length : Int); rw [hl]; omega)]
  simp only
  have : Zd { Yp (Z5 Vc) 1 { newNd with leads := noLeads.set (Int.toNat 0) (some (Zh 1 0 Vc 0 2)) } with l := Xd (Zh 1 0 Vc 0 2) } 0 = newNd := rfl
  rw [this]
  rfl
 rw [hu]
 simp only
 have hb : (Yp (Z5 Vc) 1 { newNd with leads := noLeads.set (Int.toNat 0) (some (Zh 1 0 Vc 0 2)) }).n.any (Wn 0) = true := by
  rw [List.any_eq_true]
  refine ⟨{ newNd with leads := noLeads.set 0 (some (Zh 1 0 Vc 0 2)) }, by simp [Yp, Z5, Vc], ?_⟩
  unfold Wn
  simp only [noLeads]
  simp
 rw [if_pos hb]
set_option maxHeartbeats 2000000 attribute [local irreducible] HW HO HQ HD HC QOp Has Upd Zt Gets Yb Z6 Zr Xr Z4 Zm Xx Zy
attribute [local irreducible] Xk Z5
theorem Zke (T : Nat) (E : Nat → Addr) (L : Zb) (hE : Ez T E L) : HC Tryz.prog 14 [] L (fun v L' => v = .bool true ∧ L' = L) := by
 have kn := fun v c L hG hv => Zep T E v Vc c L hG hv (by simp [Vc])
 rw [Zqq] at kn
 have hM := Zj2 Zqq
 have hl0 : (Z5 Vc).l.length ≤ 99999999 := by unfold Z5; simp
 have kb := fun G L hG hW => Qr T E G (Z5 Vc) 1 0 L hG hW hM hl0
 have hM1 := (Zji hM 1 0).wi
 have e1 := b111_e
 have e2 := b111_l
 have e3 := Zwi
 have e4 := Zur
 rw [e1] at kb
 change WI b111 at hM1
 have kb : ∀ G L, Er T E [2, 3, 4, 6, 8] L → WdOk G (Z5 Vc) → HC Tryz.prog 21 [pt G.wp 0, iv 1, iv 0] (Y6 G (Z5 Vc) ++ L) (fun v L' => v = eV T E none ∧ Zey G b111 L L') := kb
 have kl := fun G L hG hW => Zhf T E G b111 1 0 L hG hW hM1
 rw [e3] at kl
 have kf := fun G L hW => Zd2 G b111 L hW (by omega)
 have kb2 := fun G L hG hW => Qr T E G b111 0 0 L hG hW hM1 (by omega)
 rw [e4] at kb2
 have kc := fun L h => Um T E (some 8) 8 L h rfl
 refine Za (fun _ _ => Tryz.call14 _ _) Tryz.func14 rfl Tryz.ntmps14 (Nat.le_of_ble_eq_true rfl) ?_; simp only [Zc, Nat.reduceAdd]
 repeat' (first | refine uN ?_ | (refine uB ?_; intro b) | (refine uP ?_ ?_ <;> (intro h; ((try simp only [zs, ne_eq, and_true, true_and, eq_self, reduceCtorEq] at h); try exact zx))) | fail)
 refine gc (kn _ _ _ ((hE.er [2, 3, 4, 6])) (.inr ⟨b, 3, [], rfl, rfl, rfl, by simp [Vc], rfl⟩)) ?_
 rintro v L' ⟨G, rfl, hW, rfl⟩
 repeat' (first | refine uN ?_ | (refine uB ?_; intro b) | (refine uP ?_ ?_ <;> (intro h; ((try simp only [zs, ne_eq, and_true, true_and, eq_self, reduceCtorEq] at h); try exact zx))) | fail)
 refine gc (kb G _ ((hE.er [2, 3, 4, 6, 8]).cons _) hW) ?_
 rintro v L' ⟨rfl, G1, f1, f2, hW1, rfl⟩
 rw [← f1]
 repeat' (first | refine uN ?_ | (refine uB ?_; intro b) | (refine uP ?_ ?_ <;> (intro h; ((try simp only [zs, ne_eq, and_true, true_and, eq_self, reduceCtorEq] at h); try exact zx))) | fail)
 refine gc (kl G1 _ ((hE.er [2]).cons _) hW1) ?_
 rintro v L' ⟨rfl, rfl⟩
 repeat' (first | refine uN ?_ | (refine uB ?_; intro b) | (refine uP ?_ ?_ <;> (intro h; ((try simp only [zs, ne_eq, and_true, true_and, eq_self, reduceCtorEq] at h); try exact zx))) | fail)
 refine gc (kf G1 _ hW1) ?_
 rintro v L' ⟨c2, hv2, rfl⟩
 obtain ⟨a7, cap7, rfl, -, -⟩ := hv2.rd Zi
 rw [e2]
 repeat' (first | refine uN ?_ | (refine uB ?_; intro b) | (refine uP ?_ ?_ <;> (intro h; ((try simp only [zs, ne_eq, and_true, true_and, eq_self, reduceCtorEq] at h); try exact zx))) | fail)
 refine Uk (L' := Y6 G1 b111 ++ (c2 :: [(b, .cells ⟨[iv 1, iv 1, iv 1]⟩ 3)] :: L)) ?_ ls_in
 refine gc (kb2 G1 _ (((hE.er [2, 3, 4, 6, 8]).cons _).cons _) hW1) ?_
 rintro v L' ⟨rfl, G2, g1, g2, hW2, rfl⟩
 have kc2 := kc (Y6 G2 (Xk b111 0 0).1 ++ (c2 :: [(b, .cells ⟨[iv 1, iv 1, iv 1]⟩ 3)] :: L)) (hE.mono fun b o h => Zih (Zf (Zf h)))
 generalize hH : Y6 G2 (Xk b111 0 0).1 ++ (c2 :: [(b, .cells ⟨[iv 1, iv 1, iv 1]⟩ 3)] :: L) = H at *
 repeat' (first | refine uN ?_ | refine uC (kc2) ?_ | (refine uB ?_; intro b) | (refine uP ?_ ?_ <;> (intro h; ((try simp only [zs, ne_eq, and_true, true_and, eq_self, reduceCtorEq] at h); try exact zx))) | fail)
 subst hH
 refine Yi (L' := L) ?_ ⟨rfl, rfl⟩
 simp only [List.flatten_append, List.flatten_cons]
 exact LS.skips _ (LS.skips _ (LS.skips _ (LS.refl _)))
abbrev REvt (v : Value) (xs : List Evt) (c : List Zq) : Prop := Vec 162 3 ec v xs c
theorem Zf6 (a : Option Addr) (cap : Nat) (xs : List Evt) (L : Zb) (hR : Rd ec 3 L a xs) (hl : xs.length ≤ 100000000) :
  HC Tryz.prog 46 [.slice a xs.length cap] L (fun v L' => ∃ c, REvt v xs c ∧ L' = c :: L) := by
 refine Za (fun _ _ => Tryz.call46 _ _) Tryz.func46 rfl Tryz.ntmps46 (Nat.le_of_ble_eq_true rfl) ?_; simp only [Zc, Nat.reduceAdd]
 repeat' (first | refine uN ?_ | refine Z7 S ?_ | refine Yt S ?_ | (refine uB ?_; intro b) | (refine uP ?_ ?_ <;> (intro h; ((try simp only [zs, ne_eq, and_true, true_and, eq_self, reduceCtorEq] at h); try exact zx))) | refine da 101 ?_ | fail)
 refine Wi (L' := [] :: L) ?_ (LS.refl _)
 refine Zn (σ := Nat × Value × List Zq) (fun r => [(0, .slice a xs.length cap), (3, r.2.1), (4, iv r.1)]) (fun r => r.2.2 :: L) (fun r => r.1 ≤ xs.length ∧ REvt r.2.1 (xs.take r.1) r.2.2) (fun r => xs.length - r.1) (0, Y4, []) uS (List.Sublist.refl _) ⟨by simp, Zu⟩ ?_
 rintro ⟨i, v, c⟩ ⟨hi, hv⟩
 simp only at hi hv ⊢
 by_cases hlt : i < xs.length
 ·obtain ⟨b, ia, l, E, fr, rfl, hb, hg⟩ := hR.at (j := (i : Int)) (by omega) (by omega)
  have ex : xs[(i : Int).toNat]'(by omega) = xs[i] := rfl
  rw [ex] at hg
  have hst : xs.take (i + 1) = xs.take i ++ [xs[i]] := List.take_succ_eq_append_getElem hlt
  have hti : (xs.take i).length = i := by rw [List.length_take]; omega
  obtain ⟨a5, cap5, he5, -, -⟩ := hv.rd Vg
  subst he5
  generalize xs[i] = x at *
  obtain ⟨xs1, xd, xp⟩ := x
  simp only [ec] at hg
  repeat' (first | refine uN ?_ | refine Z7 S ?_ | refine Yt S ?_ | (refine uB ?_; intro b) | (refine uP ?_ ?_ <;> (intro h; ((try simp only [zs, ne_eq, and_true, true_and, eq_self, reduceCtorEq] at h); try exact zx))) | refine da 101 ?_ | fail)
  refine fo 1 ?_
  refine Zea S (⟨xs1, xd, xp⟩ : Evt) hv Vg Zoi ?_ (hby := by rw [hti]; omega) (hmax := by rw [hti]; omega)
  intro v' c' hv'
  obtain ⟨a6, cap6, he6, -, -⟩ := hv'.rd Vg
  subst he6
  repeat' (first | refine uN ?_ | refine Z7 S ?_ | refine Yt S ?_ | (refine uB ?_; intro b) | (refine uP ?_ ?_ <;> (intro h; ((try simp only [zs, ne_eq, and_true, true_and, eq_self, reduceCtorEq] at h); try exact zx))) | refine da 101 ?_ | fail)
  refine Zg (i + 1, _, c') uS ?_ ⟨by simp only; omega, by simp only [hst]; exact hv'⟩ (by simp only; omega)
  exact uL
 ·obtain rfl : i = xs.length := by omega
  rw [List.take_length] at hv
  repeat' (first | refine uN ?_ | refine Z7 S ?_ | refine Yt S ?_ | (refine uB ?_; intro b) | (refine uP ?_ ?_ <;> (intro h; ((try simp only [zs, ne_eq, and_true, true_and, eq_self, reduceCtorEq] at h); try exact zx))) | refine da 101 ?_ | fail)
  exact Yi (LS.refl _) ⟨c, hv, rfl⟩
theorem Zge (a a2 : Option Addr) (cap cap2 : Nat) (xs ys : List Evt) (L : Zb) (hR : Rd ec 3 L a xs) (hR2 : Rd ec 3 L a2 ys) (hl : xs.length ≤ 100000000) :
  HC Tryz.prog 45 [.slice a xs.length cap, .slice a2 ys.length cap2] L (fun v L' => v = .bool (decide (xs = ys)) ∧ L' = L) := by
 have kb := fun L hR => Zf6 a cap xs L hR hl
 refine Za (fun _ _ => Tryz.call45 _ _) Tryz.func45 rfl Tryz.ntmps45 (Nat.le_of_ble_eq_true rfl) ?_; simp only [Zc, Nat.reduceAdd]
 repeat' (first | refine uN ?_ | refine Z7 S ?_ | (refine uP ?_ ?_ <;> (intro h; ((try simp only [zs, ne_eq, and_true, true_and, eq_self, reduceCtorEq] at h); try exact zx))) | fail)
 refine gc (kb _ hR) ?_
 rintro v L' ⟨c, hv, rfl⟩
 obtain ⟨a5, cap5, rfl, -, hR5⟩ := hv.rd Vg
 repeat' (first | refine uN ?_ | refine Z7 S ?_ | (refine uP ?_ ?_ <;> (intro h; ((try simp only [zs, ne_eq, and_true, true_and, eq_self, reduceCtorEq] at h); try exact zx))) | fail)
 ·exact Yi (LS.skips _ (LS.refl _)) ⟨by rw [decide_eq_false]; intro e; subst e; exact absurd rfl ‹_›, rfl⟩
 refine Zn (σ := Nat) (fun i => [(5, .slice a5 xs.length cap5), (1, .slice a2 ys.length cap2), (6, iv i)]) (fun _ => c :: L) (fun i => i ≤ xs.length ∧ xs.take i = ys.take i) (fun i => xs.length - i) 0 uS (List.Sublist.refl _) ⟨by omega, by simp⟩ ?_
 rintro i ⟨h1, h2⟩
 by_cases hlt : i < xs.length
 ·obtain ⟨b, ia, l, E, fr, rfl, hb, hg⟩ := (hR5 L).at (j := (i : Int)) (by omega) (by omega)
  obtain ⟨b2, ia2, l2, E2, fr2, rfl, hb2, hg2⟩ := hR2.at (j := (i : Int)) (by omega) (by omega)
  have ex : xs[(i : Int).toNat]'(by omega) = xs[i] := rfl
  have ey : ys[(i : Int).toNat]'(by omega) = ys[i]'(by omega) := rfl
  rw [ex] at hg
  rw [ey] at hg2
  have hst := Zbt (xs := xs) (ys := ys) hlt (by omega)
  have hne : xs[i] ≠ ys[i]'(by omega) → xs ≠ ys := fun h e => h (by subst e; rfl)
  generalize xs[i] = x at *
  generalize ys[i]'(by omega) = y at *
  repeat' (first | refine uN ?_ | refine Z7 S ?_ | (refine uP ?_ ?_ <;> (intro h; ((try simp only [zs, ne_eq, and_true, true_and, eq_self, reduceCtorEq] at h); try exact zx))) | fail)
  ·refine Yi (LS.skips _ (LS.refl _)) ⟨?_, rfl⟩
   rw [decide_eq_false (hne (fun e => by subst e; simp at h))]
  ·have e : x = y := by
    obtain ⟨x1, x2, x3⟩ := x
    obtain ⟨y1, y2, y3⟩ := y
    simp at h
    obtain ⟨rfl, rfl, rfl⟩ := h
    rfl
   exact Zk (i + 1) uS (List.Sublist.refl _) ⟨by omega, hst.2 ⟨h2, e⟩⟩ (by omega)
 ·repeat' (first | refine uN ?_ | refine Z7 S ?_ | (refine uP ?_ ?_ <;> (intro h; ((try simp only [zs, ne_eq, and_true, true_and, eq_self, reduceCtorEq] at h); try exact zx))) | fail)
  refine Yi (LS.skips _ (LS.refl _)) ⟨?_, rfl⟩
  rw [decide_eq_true]
  have e1 : xs.take i = xs := List.take_of_length_le (by omega)
  have e2 : ys.take i = ys := List.take_of_length_le (by omega)
  rw [← e1, h2, e2]
end Go.HL
end

/-! PwD -/
section
namespace Go.HL
open Go Go.Proofs
set_option linter.unusedVariables false
set_option linter.unusedSimpArgs false
def Uu (G : WdG) (M : Wm) : List Zq := (Y6 G M).flatten
theorem Q9 (G : WdG) (M : Wm) (L : Zb) : (Uu G M :: L).flatten = (Y6 G M ++ L).flatten := by
 unfold Uu
 rw [List.flatten_cons, List.flatten_append]
def WdQ (G : WdG) (M' : Wm) (L L' : Zb) : Prop := ∃ G', G'.wp = G.wp ∧ WdOk G' M' ∧ L' = Uu G' M' :: L
theorem HC.shut {F : Nat} {args : List Value} {G : WdG} {M M' : Wm} {L : Zb} {V : Value → Prop} (h : HC Tryz.prog F args (Y6 G M ++ L) (fun v L' => V v ∧ Zey G M' L L')) : HC Tryz.prog F args (Uu G M :: L) (fun v L' => V v ∧ WdQ G M' L L') := by
 refine HC.post (HC.fl h (Q9 G M L).symm) ?_
 rintro v L' ⟨hv, G', e1, e2, e3, rfl⟩
 exact ⟨Uu G' M' :: L, LS.of_eq (Q9 G' M' L), hv, G', e1, e3, rfl⟩
theorem HC.shutC {F : Nat} {args : List Value} {G : WdG} {M M' : Wm} {L : Zb} {V : Value → List Zq → Prop} (h : HC Tryz.prog F args (Y6 G M ++ L) (fun v L' => ∃ c, V v c ∧ Zey G M' (c :: L) L')) : HC Tryz.prog F args (Uu G M :: L) (fun v L' => ∃ c, V v c ∧ WdQ G M' (c :: L) L') := by
 refine HC.post (HC.fl h (Q9 G M L).symm) ?_
 rintro v L' ⟨c, hv, G', e1, e2, e3, rfl⟩
 exact ⟨Uu G' M' :: (c :: L), LS.of_eq (Q9 G' M' _), c, hv, G', e1, e3, rfl⟩
theorem HC.shutR {F : Nat} {args : List Value} {G : WdG} {M : Wm} {L : Zb} {V : Value → List Zq → Prop} (h : HC Tryz.prog F args (Y6 G M ++ L) (fun v L' => ∃ c, V v c ∧ L' = c :: (Y6 G M ++ L))) : HC Tryz.prog F args (Uu G M :: L) (fun v L' => ∃ c, V v c ∧ L' = c :: Uu G M :: L) := by
 refine HC.post (HC.fl h (Q9 G M L).symm) ?_
 rintro v L' ⟨c, hv, rfl⟩
 refine ⟨c :: Uu G M :: L, ?_, c, hv, rfl⟩
 rw [List.flatten_cons, Q9, List.flatten_cons]
 exact LS.refl _
theorem HC.shutN {F : Nat} {args : List Value} {M : Wm} {L : Zb} {V : Value → WdG → Prop} {K : Zb} (h : HC Tryz.prog F args K (fun v L' => ∃ G, V v G ∧ WdOk G M ∧ L' = Y6 G M ++ L)) : HC Tryz.prog F args K (fun v L' => ∃ G, V v G ∧ WdOk G M ∧ L' = Uu G M :: L) := by
 refine HC.post h ?_
 rintro v L' ⟨G, hv, hW, rfl⟩
 exact ⟨Uu G M :: L, LS.of_eq (Q9 G M L), G, hv, hW, rfl⟩
theorem HC.shutQ {F : Nat} {args : List Value} {G : WdG} {M : Wm} {L : Zb} {V : Value} (h : HC Tryz.prog F args (Y6 G M ++ L) (fun v L' => v = V ∧ L' = Y6 G M ++ L)) : HC Tryz.prog F args (Uu G M :: L) (fun v L' => v = V ∧ L' = Uu G M :: L) := by
 refine HC.post (HC.fl h (Q9 G M L).symm) ?_
 rintro v L' ⟨hv, rfl⟩
 exact ⟨Uu G M :: L, LS.of_eq (Q9 G M L), hv, rfl⟩
set_option maxHeartbeats 2000000 attribute [local irreducible] HW HO HQ HD HC QOp Has Upd Zt Gets Yb Z6 Zr Xr Z4 Zm Xx Zy
attribute [local irreducible] Va Z5
end Go.HL
end

/-! FlD3 -/
section
namespace Go.HL
open Go Go.Proofs
set_option linter.unusedVariables false
set_option linter.unusedSimpArgs false
set_option maxHeartbeats 2000000 attribute [local irreducible] HW HO HQ HD HC QOp Has Upd Zt Gets Yb Z6 Zr Xr Z4 Zm Xx Zy
end Go.HL
end

/-! JgB -/
section
namespace Go.HL
open Go Go.Proofs
set_option linter.unusedVariables false
set_option linter.unusedSimpArgs false
set_option maxHeartbeats 2000000 attribute [local irreducible] HW HO HQ HD HC QOp Has Upd Zt Gets Yb Z6 Zr Xr Z4 Zm Xx Zy
attribute [local irreducible] faC
end Go.HL
end

/-! PwF -/
section
namespace Go.HL
open Go Go.Proofs
set_option linter.unusedVariables false
set_option linter.unusedSimpArgs false
set_option maxHeartbeats 2000000 attribute [local irreducible] HW HO HQ HD HC QOp Has Upd Zt Gets Yb Z6 Zr Xr Z4 Zm Xx Zy
attribute [local irreducible] Va Z5
end Go.HL
end

/-! PwG -/
section
namespace Go.HL
open Go Go.Proofs
set_option linter.unusedVariables false
set_option linter.unusedSimpArgs false
set_option maxHeartbeats 2000000 attribute [local irreducible] HW HO HQ HD HC QOp Has Upd Zt Gets Yb Z6 Zr Xr Z4 Zm Xx Zy
attribute [local irreducible] Va Z5
end Go.HL
end

/-! PwH -/
section
namespace Go.HL
open Go Go.Proofs
set_option linter.unusedVariables false
set_option linter.unusedSimpArgs false
section ee
variable {P : Program} {Qv : Value → Zb → Prop} {ρ : Z3} {L : Zb} {fn : Func}
end ee
set_option maxHeartbeats 2000000 attribute [local irreducible] HW HO HQ HD HC QOp Has Upd Zt Gets Yb Z6 Zr Xr Z4 Zm Xx Zy
attribute [local irreducible] W6 Yr Xl Zp Xw Zo Zar Wt Xk Zw Zl5
end Go.HL
end

/-! PwI -/
section
namespace Go.HL
open Go Go.Proofs
set_option linter.unusedVariables false
set_option linter.unusedSimpArgs false
def Uv (M : Wm) (l : List StpS) : Wm := l.foldl (fun M x => (Zdu M x).1) M
theorem Zj3 (M : Wm) (l : List StpS) (i : Nat) (h : i < l.length) : Uv M (l.take (i + 1)) = (Zdu (Uv M (l.take i)) l[i]).1 := by
 unfold Uv
 rw [List.take_add_one, List.getElem?_eq_getElem h, Option.toList_some, List.foldl_append]
 rfl
theorem Zs5 {M : Wm} (h : WI M) : ∀ (l : List StpS), (∀ x ∈ l, x.n ≤ 9223372036854775807) → StepOk M (Uv M l) (84 * l.length) := by
 have key : ∀ (l : List StpS) (M1 : Wm) (k : Nat), StepOk M M1 k → (∀ x ∈ l, x.n ≤ 9223372036854775807) → StepOk M (Uv M1 l) (k + 84 * l.length) := by
  intro l
  induction l with
  | nil => exact fun M1 k h _ => h
  | cons x l ih =>
   intro M1 k h hx
   have h2 := act_ok h.wi x (hx x (by simp))
   have h3 := h.len
   have h4 := h2.len
   have := ih (Zdu M1 x).1 (k + 84) ⟨h2.wi, h.same.trans h2.same, by omega⟩ (fun y hy => hx y (by simp [hy]))
   exact this.mono (by simp only [List.length_cons]; omega)
 intro l hx
 exact (key l M 0 (.refl h 0) hx).mono (by omega)
def WasI (w : Nat) (vals : List Int) (M : Wm) : Prop := vals.length = 6 * w ∧ ∀ d s : Nat, d < 6 → s < w → ∃ x, vals[d * w + s]? = some x ∧ Zre x (Xe (Zd M (s : Int)).pl d).ph = true
theorem idx_lt {d s w : Nat} (hd : d < 6) (hs : s < w) : d * w + s < 6 * w := by
 have : d * w ≤ 5 * w := Nat.mul_le_mul_right w (by omega)
 omega
theorem idx_inj {d s e t w : Nat} (hs : s < w) (ht : t < w) (h : d * w + s = e * w + t) : d = e ∧ s = t := by
 rcases Nat.lt_trichotomy d e with hlt | hlt | hlt
 ·have : (d + 1) * w ≤ e * w := Nat.mul_le_mul_right w hlt
  rw [Nat.add_mul, Nat.one_mul] at this
  omega
 ·subst hlt; exact ⟨rfl, by omega⟩
 ·have : (e + 1) * w ≤ d * w := Nat.mul_le_mul_right w hlt
  rw [Nat.add_mul, Nat.one_mul] at this
  omega
theorem WasI.set {w : Nat} {vals : List Int} {M : Wm} (h : WasI w vals M) (hM : WI M) (hw : M.w.length = w) {d s : Nat} (hd : d < 6) (hs : s < w) : WasI w (vals.set (d * w + s) (Xe (Zd M (s : Int)).pl d).ph) M := by
 refine ⟨by rw [List.length_set]; exact h.1, fun e t he ht => ?_⟩
 rw [List.getElem?_set]
 by_cases hh : d * w + s = e * w + t
 ·obtain ⟨rfl, rfl⟩ := idx_inj hs ht hh
  rw [if_pos rfl, if_pos (by rw [h.1]; exact idx_lt hd hs)]
  exact ⟨_, rfl, (V8 (st_ok hM (by omega) hd)).2.2⟩
 ·rw [if_neg hh]
  exact h.2 e t he ht
theorem WasI.new {w : List Int} (hc : Yw w = none) : WasI w.length (List.replicate (6 * w.length) 0) (Z5 w) := by
 refine ⟨by simp, fun d s hd hs => ⟨0, ?_, ?_⟩⟩
 ·rw [List.getElem?_replicate, if_pos (idx_lt hd hs)]
 ·have := st_ok (Zj2 hc) (s := s) (d := d) hs hd
  obtain ⟨g1, g2, -⟩ := this
  unfold Zre
  exact decide_eq_true (by omega)
end Go.HL
end

/-! HLFi -/
section
namespace Go.HL
open Go
set_option linter.unusedVariables false
set_option linter.unusedSimpArgs false
section fi
variable {P : Program} (S : Tab P) {ρ : Z3} {L : Zb} {d : Option Tmp} {ty : TypeId} {pos : String} {af : Array Edge} {g : Option (Nat × Bool)}
end fi
end Go.HL
end

/-! PwJ -/
section
namespace Go.HL
open Go Go.Proofs
set_option linter.unusedVariables false
set_option linter.unusedSimpArgs false
set_option maxHeartbeats 2000000 attribute [local irreducible] HW HO HQ HD HC QOp Has Upd Zt Gets Yb Z6 Zr Xr Z4 Zm Xx Zy
attribute [local irreducible] Z5 Uv Zdu stsW Uu
end Go.HL
end

/-! MwL -/
section
namespace Go.HL
open Go Go.Proofs
set_option linter.unusedVariables false
set_option linter.unusedSimpArgs false
def Qs (G : RwG) (M : Wm) : List Zq := (Xs G M).flatten
theorem Zgu (G : RwG) (M : Wm) (L : Zb) : (Qs G M :: L).flatten = (Xs G M ++ L).flatten := by
 unfold Qs
 rw [List.flatten_cons, List.flatten_append]
def RwQ (G : RwG) (M' : Wm) (L L' : Zb) : Prop := ∃ G', RwS G G' ∧ RwOk G' M' ∧ L' = Qs G' M' :: L
theorem HC.shutD {F : Nat} {args : List Value} {G : RwG} {M M' : Wm} {L : Zb} {V : Value → Prop} (h : HC Tryz.prog F args (Xs G M ++ L) (fun v L' => V v ∧ Zh9 G M' L L')) : HC Tryz.prog F args (Qs G M :: L) (fun v L' => V v ∧ RwQ G M' L L') := by
 refine HC.post (HC.fl h (Zgu G M L).symm) ?_
 rintro v L' ⟨hv, G', e1, e3, rfl⟩
 exact ⟨Qs G' M' :: L, LS.of_eq (Zgu G' M' L), hv, G', e1, e3, rfl⟩
def StepQ (G : WdG) (D : RwG) (M' : Wm) (L L' : Zb) : Prop := ∃ G2 D2, G2.wp = G.wp ∧ RwS D D2 ∧ WdOk G2 M' ∧ RwOk D2 M' ∧ L' = Uu G2 M' :: Qs D2 M' :: L
theorem okE_w {e : Option Nat} (h : okW e) : okE e := h.ok
set_option maxHeartbeats 2000000 attribute [local irreducible] HW HO HQ HD HC QOp Has Upd Zt Gets Yb Z6 Zr Xr Z4 Zm Xx Zy
attribute [local irreducible] Uu Qs
theorem Zsa (T : Nat) (E : Nat → Addr) (G : WdG) (D : RwG) (M : Wm) (x : StpS) (L : Zb) (hE : Ez T E L) (hRw : Rd ic 1 L D.aw M.w) (hW : WdOk G M) (hD : RwOk D M) (hM : WI M) (hl : M.l.length ≤ 99998000)
  (hnum : ∀ s, Zbm M s = none → ∀ k j ref, k < 6 → (Zd (X9 s M k).1 s).site = some (j, ref) → (j.l.getD k Zl).n + 1 < 4294967296) :
  HC Tryz.prog 30 [pt G.wp 0, pt D.wp 0, .agg ⟨stpL x⟩] (Uu G M :: Qs D M :: L) (fun v L' => v = .bool true ∧ StepQ G D (Zdu M x).1 L L') := by
 have hG := fun a b : List Zq => ((hE.er [2, 3, 4, 5, 6, 8]).cons b).cons a
 have k7 := fun k a b => HC.shut (V := fun v => v = eV T E (Uy M k).2) (Zhi T E G M k (a :: b :: L) (hG a b).sub hW (by omega))
 have k8 := fun k a b => HC.shut (V := fun v => v = eV T E (Vv M k).2) (Ze0 T E G M k (a :: b :: L) (hG a b).sub hW (by omega))
 have k9 := fun s d a b => HC.shut (V := fun v => v = eV T E (Xk M s d).2) (Qr T E G M s d (a :: b :: L) (hG a b).sub hW hM (by omega))
 have k10 := fun s a b => HC.shut (V := fun v => v = eV T E (Wt M s).2) (Zcr T E G M s (a :: b :: L) (hG a b).sub hW hM (by omega))
 have k11 := fun s d a b => HC.shut (V := fun v => v = eV T E (Wp M s d).2) (Zeb T E G M s d (a :: b :: L) (hG a b).sub hW hM)
 have k12 := fun p q w a b => HC.shut (V := fun v => v = eV T E (Ue M p q w).2) (Zg5 T E G M p q w (a :: b :: L) (hG a b).sub hW)
 have k13 := fun s n a b => HC.shut (V := fun v => v = eV T E (Zdw M s n).2) (Zj6 T E G M s n (a :: b :: L) (hG a b).sub hW hM)
 have k14 := fun s a b => HC.shut (V := fun v => v = eV T E (Qb M s).2) (Zho T E G M s (a :: b :: L) (hG a b).sub hW hM)
 have k15 := fun s a b => HC.shut (V := fun v => v = eV T E (Zl5 M s).2) (Zi3 T E G M s (a :: b :: L) (hG a b).sub hW hM)
 have k0 := fun k a b => HC.shut (V := fun v => v = eV T E (Zw M k).2) (Q2 T E G M k (a :: b :: L) (hG a b).sub hW hM (by omega))
 have hR2 := fun a b : List Zq => (hRw.cons b).cons a
 have d7 := fun k L => HC.shutD (V := fun v => v = iv (cdN (Uy M k).2)) (Zhr D M k L hD (by omega))
 have d8 := fun k L => HC.shutD (V := fun v => v = iv (cdN (Vv M k).2)) (Ze2 D M k L hD (by omega))
 have d9 := fun s d L => HC.shutD (V := fun v => v = iv (cdN (Xk M s d).2)) (Ze4 D M s d L hD hM (by omega))
 have d10 := fun s a b => HC.shutD (V := fun v => v = iv (cdN (Wt M s).2)) (Zc8 D M s (a :: b :: L) (hR2 a b) hD hM (by omega) (hnum s))
 have d11 := fun s d L => HC.shutD (V := fun v => v = iv (cdN (Wp M s d).2)) (Zd9 D M s d L hD hM)
 have d12 := fun p q w L => HC.shutD (V := fun v => v = iv (cdN (Ue M p q w).2)) (Zg8 D M p q w L hD hM)
 have d13 := fun s n L => HC.shutD (V := fun v => v = iv (cdN (Zdw M s n).2)) (Zg0 D M s n L hD hM)
 have d14 := fun s L => HC.shutD (V := fun v => v = iv (cdN (Qb M s).2)) (Zhb D M s L hD hM)
 have d15 := fun s L => HC.shutD (V := fun v => v = iv (cdN (Zl5 M s).2)) (Zkl D M s L hD hM)
 have d0 := fun k a b => HC.shutD (V := fun v => v = iv (cdN (Zw M k).2)) (Q7 D M k (a :: b :: L) (hR2 a b) hD hM (by omega))
 have kc := fun e (he : okW e) a b c => Um T E e (cdN e) (a :: b :: c :: L) (((hE.cons _).cons _).cons _) (okE_w he)
 simp only [decide_true] at kc
 unfold Zdu
 obtain ⟨kd, s, d, n⟩ := x
 simp only
 refine Za (fun _ _ => Tryz.call30 _ _) Tryz.func30 rfl Tryz.ntmps30 (Nat.le_of_ble_eq_true rfl) ?_; simp only [Zc, Nat.reduceAdd]
 repeat' (first | refine uN ?_ | refine Yc S ?_ | (refine uB ?_; intro b) | (refine uP ?_ ?_ <;> (intro h; ((try simp only [zs, ne_eq, and_true, true_and, eq_self, reduceCtorEq] at h); try exact zx))) | refine da 101 ?_ | fail)
 all_goals simp only [*, if_true, if_false]
 all_goals refine fo 1 ?_
 all_goals first
  | (refine gc (k9 _ _ _ _) ?_; rintro v L' ⟨rfl, G2, f1, hW2, rfl⟩; (repeat' (first | refine uN ?_ | refine Yc S ?_ | (refine uB ?_; intro b) | (refine uP ?_ ?_ <;> (intro h; ((try simp only [zs, ne_eq, and_true, true_and, eq_self, reduceCtorEq] at h); try exact zx))) | refine da 101 ?_ | fail)); refine fo 2 ?_; refine gc (d9 _ _ _) ?_; rintro v L' ⟨rfl, D2, f2, hD2, rfl⟩; (repeat' (first | refine uN ?_ | refine Yc S ?_ | refine We (qC (kc _ (Zdj M _ _) _ _ _)) ?_ | refine Yd (fun _ => kc _ (Zdj M _ _) _ _ _) ?_ | refine Yf (fun _ => kc _ (Zdj M _ _) _ _ _) ?_ | refine Ye (fun _ => kc _ (Zdj M _ _) _ _ _) ?_ | refine Yh (fun _ => kc _ (Zdj M _ _) _ _ _) ?_ | (refine uB ?_; intro b) | (refine uP ?_ ?_ <;> (intro h; ((try simp only [zs, ne_eq, and_true, true_and, eq_self, reduceCtorEq] at h); try exact zx))) | refine da 101 ?_ | fail)); exact Yi uL ⟨rfl, G2, D2, f1, f2, hW2, hD2, rfl⟩)
  | (refine gc (k11 _ _ _ _) ?_; rintro v L' ⟨rfl, G2, f1, hW2, rfl⟩; (repeat' (first | refine uN ?_ | refine Yc S ?_ | (refine uB ?_; intro b) | (refine uP ?_ ?_ <;> (intro h; ((try simp only [zs, ne_eq, and_true, true_and, eq_self, reduceCtorEq] at h); try exact zx))) | refine da 101 ?_ | fail)); refine fo 2 ?_; refine gc (d11 _ _ _) ?_; rintro v L' ⟨rfl, D2, f2, hD2, rfl⟩; (repeat' (first | refine uN ?_ | refine Yc S ?_ | refine We (qC (kc _ (Zbk M _ _) _ _ _)) ?_ | refine Yd (fun _ => kc _ (Zbk M _ _) _ _ _) ?_ | refine Yf (fun _ => kc _ (Zbk M _ _) _ _ _) ?_ | refine Ye (fun _ => kc _ (Zbk M _ _) _ _ _) ?_ | refine Yh (fun _ => kc _ (Zbk M _ _) _ _ _) ?_ | (refine uB ?_; intro b) | (refine uP ?_ ?_ <;> (intro h; ((try simp only [zs, ne_eq, and_true, true_and, eq_self, reduceCtorEq] at h); try exact zx))) | refine da 101 ?_ | fail)); exact Yi uL ⟨rfl, G2, D2, f1, f2, hW2, hD2, rfl⟩)
  | (refine gc (k10 _ _ _) ?_; rintro v L' ⟨rfl, G2, f1, hW2, rfl⟩; (repeat' (first | refine uN ?_ | refine Yc S ?_ | (refine uB ?_; intro b) | (refine uP ?_ ?_ <;> (intro h; ((try simp only [zs, ne_eq, and_true, true_and, eq_self, reduceCtorEq] at h); try exact zx))) | refine da 101 ?_ | fail)); refine fo 2 ?_; refine gc (d10 _ _ _) ?_; rintro v L' ⟨rfl, D2, f2, hD2, rfl⟩; (repeat' (first | refine uN ?_ | refine Yc S ?_ | refine We (qC (kc _ (Zgt M _) _ _ _)) ?_ | refine Yd (fun _ => kc _ (Zgt M _) _ _ _) ?_ | refine Yf (fun _ => kc _ (Zgt M _) _ _ _) ?_ | refine Ye (fun _ => kc _ (Zgt M _) _ _ _) ?_ | refine Yh (fun _ => kc _ (Zgt M _) _ _ _) ?_ | (refine uB ?_; intro b) | (refine uP ?_ ?_ <;> (intro h; ((try simp only [zs, ne_eq, and_true, true_and, eq_self, reduceCtorEq] at h); try exact zx))) | refine da 101 ?_ | fail)); exact Yi uL ⟨rfl, G2, D2, f1, f2, hW2, hD2, rfl⟩)
  | (refine gc (k14 _ _ _) ?_; rintro v L' ⟨rfl, G2, f1, hW2, rfl⟩; (repeat' (first | refine uN ?_ | refine Yc S ?_ | (refine uB ?_; intro b) | (refine uP ?_ ?_ <;> (intro h; ((try simp only [zs, ne_eq, and_true, true_and, eq_self, reduceCtorEq] at h); try exact zx))) | refine da 101 ?_ | fail)); refine fo 2 ?_; refine gc (d14 _ _) ?_; rintro v L' ⟨rfl, D2, f2, hD2, rfl⟩; (repeat' (first | refine uN ?_ | refine Yc S ?_ | refine We (qC (kc _ (Zgk M _) _ _ _)) ?_ | refine Yd (fun _ => kc _ (Zgk M _) _ _ _) ?_ | refine Yf (fun _ => kc _ (Zgk M _) _ _ _) ?_ | refine Ye (fun _ => kc _ (Zgk M _) _ _ _) ?_ | refine Yh (fun _ => kc _ (Zgk M _) _ _ _) ?_ | (refine uB ?_; intro b) | (refine uP ?_ ?_ <;> (intro h; ((try simp only [zs, ne_eq, and_true, true_and, eq_self, reduceCtorEq] at h); try exact zx))) | refine da 101 ?_ | fail)); exact Yi uL ⟨rfl, G2, D2, f1, f2, hW2, hD2, rfl⟩)
  | (refine gc (k15 _ _ _) ?_; rintro v L' ⟨rfl, G2, f1, hW2, rfl⟩; (repeat' (first | refine uN ?_ | refine Yc S ?_ | (refine uB ?_; intro b) | (refine uP ?_ ?_ <;> (intro h; ((try simp only [zs, ne_eq, and_true, true_and, eq_self, reduceCtorEq] at h); try exact zx))) | refine da 101 ?_ | fail)); refine fo 2 ?_; refine gc (d15 _ _) ?_; rintro v L' ⟨rfl, D2, f2, hD2, rfl⟩; (repeat' (first | refine uN ?_ | refine Yc S ?_ | refine We (qC (kc _ (Zug M _) _ _ _)) ?_ | refine Yd (fun _ => kc _ (Zug M _) _ _ _) ?_ | refine Yf (fun _ => kc _ (Zug M _) _ _ _) ?_ | refine Ye (fun _ => kc _ (Zug M _) _ _ _) ?_ | refine Yh (fun _ => kc _ (Zug M _) _ _ _) ?_ | (refine uB ?_; intro b) | (refine uP ?_ ?_ <;> (intro h; ((try simp only [zs, ne_eq, and_true, true_and, eq_self, reduceCtorEq] at h); try exact zx))) | refine da 101 ?_ | fail)); exact Yi uL ⟨rfl, G2, D2, f1, f2, hW2, hD2, rfl⟩)
  | (refine gc (k7 _ _ _) ?_; rintro v L' ⟨rfl, G2, f1, hW2, rfl⟩; (repeat' (first | refine uN ?_ | refine Yc S ?_ | (refine uB ?_; intro b) | (refine uP ?_ ?_ <;> (intro h; ((try simp only [zs, ne_eq, and_true, true_and, eq_self, reduceCtorEq] at h); try exact zx))) | refine da 101 ?_ | fail)); refine fo 2 ?_; refine gc (d7 _ _) ?_; rintro v L' ⟨rfl, D2, f2, hD2, rfl⟩; (repeat' (first | refine uN ?_ | refine Yc S ?_ | refine We (qC (kc _ (Zgo M _) _ _ _)) ?_ | refine Yd (fun _ => kc _ (Zgo M _) _ _ _) ?_ | refine Yf (fun _ => kc _ (Zgo M _) _ _ _) ?_ | refine Ye (fun _ => kc _ (Zgo M _) _ _ _) ?_ | refine Yh (fun _ => kc _ (Zgo M _) _ _ _) ?_ | (refine uB ?_; intro b) | (refine uP ?_ ?_ <;> (intro h; ((try simp only [zs, ne_eq, and_true, true_and, eq_self, reduceCtorEq] at h); try exact zx))) | refine da 101 ?_ | fail)); exact Yi uL ⟨rfl, G2, D2, f1, f2, hW2, hD2, rfl⟩)
  | (refine gc (k8 _ _ _) ?_; rintro v L' ⟨rfl, G2, f1, hW2, rfl⟩; (repeat' (first | refine uN ?_ | refine Yc S ?_ | (refine uB ?_; intro b) | (refine uP ?_ ?_ <;> (intro h; ((try simp only [zs, ne_eq, and_true, true_and, eq_self, reduceCtorEq] at h); try exact zx))) | refine da 101 ?_ | fail)); refine fo 2 ?_; refine gc (d8 _ _) ?_; rintro v L' ⟨rfl, D2, f2, hD2, rfl⟩; (repeat' (first | refine uN ?_ | refine Yc S ?_ | refine We (qC (kc _ (Zdm M _) _ _ _)) ?_ | refine Yd (fun _ => kc _ (Zdm M _) _ _ _) ?_ | refine Yf (fun _ => kc _ (Zdm M _) _ _ _) ?_ | refine Ye (fun _ => kc _ (Zdm M _) _ _ _) ?_ | refine Yh (fun _ => kc _ (Zdm M _) _ _ _) ?_ | (refine uB ?_; intro b) | (refine uP ?_ ?_ <;> (intro h; ((try simp only [zs, ne_eq, and_true, true_and, eq_self, reduceCtorEq] at h); try exact zx))) | refine da 101 ?_ | fail)); exact Yi uL ⟨rfl, G2, D2, f1, f2, hW2, hD2, rfl⟩)
  | (refine gc (k12 _ _ _ _ _) ?_; rintro v L' ⟨rfl, G2, f1, hW2, rfl⟩; (repeat' (first | refine uN ?_ | refine Yc S ?_ | (refine uB ?_; intro b) | (refine uP ?_ ?_ <;> (intro h; ((try simp only [zs, ne_eq, and_true, true_and, eq_self, reduceCtorEq] at h); try exact zx))) | refine da 101 ?_ | fail)); refine fo 2 ?_; refine gc (d12 _ _ _ _) ?_; rintro v L' ⟨rfl, D2, f2, hD2, rfl⟩; (repeat' (first | refine uN ?_ | refine Yc S ?_ | refine We (qC (kc _ (Zgg M _ _ _) _ _ _)) ?_ | refine Yd (fun _ => kc _ (Zgg M _ _ _) _ _ _) ?_ | refine Yf (fun _ => kc _ (Zgg M _ _ _) _ _ _) ?_ | refine Ye (fun _ => kc _ (Zgg M _ _ _) _ _ _) ?_ | refine Yh (fun _ => kc _ (Zgg M _ _ _) _ _ _) ?_ | (refine uB ?_; intro b) | (refine uP ?_ ?_ <;> (intro h; ((try simp only [zs, ne_eq, and_true, true_and, eq_self, reduceCtorEq] at h); try exact zx))) | refine da 101 ?_ | fail)); exact Yi uL ⟨rfl, G2, D2, f1, f2, hW2, hD2, rfl⟩)
  | (refine gc (k13 _ _ _ _) ?_; rintro v L' ⟨rfl, G2, f1, hW2, rfl⟩; (repeat' (first | refine uN ?_ | refine Yc S ?_ | (refine uB ?_; intro b) | (refine uP ?_ ?_ <;> (intro h; ((try simp only [zs, ne_eq, and_true, true_and, eq_self, reduceCtorEq] at h); try exact zx))) | refine da 101 ?_ | fail)); refine fo 2 ?_; refine gc (d13 _ _ _) ?_; rintro v L' ⟨rfl, D2, f2, hD2, rfl⟩; (repeat' (first | refine uN ?_ | refine Yc S ?_ | refine We (qC (kc _ (Zmn M _ _) _ _ _)) ?_ | refine Yd (fun _ => kc _ (Zmn M _ _) _ _ _) ?_ | refine Yf (fun _ => kc _ (Zmn M _ _) _ _ _) ?_ | refine Ye (fun _ => kc _ (Zmn M _ _) _ _ _) ?_ | refine Yh (fun _ => kc _ (Zmn M _ _) _ _ _) ?_ | (refine uB ?_; intro b) | (refine uP ?_ ?_ <;> (intro h; ((try simp only [zs, ne_eq, and_true, true_and, eq_self, reduceCtorEq] at h); try exact zx))) | refine da 101 ?_ | fail)); exact Yi uL ⟨rfl, G2, D2, f1, f2, hW2, hD2, rfl⟩)
  | (refine gc (k0 _ _ _) ?_; rintro v L' ⟨rfl, G2, f1, hW2, rfl⟩; (repeat' (first | refine uN ?_ | refine Yc S ?_ | (refine uB ?_; intro b) | (refine uP ?_ ?_ <;> (intro h; ((try simp only [zs, ne_eq, and_true, true_and, eq_self, reduceCtorEq] at h); try exact zx))) | refine da 101 ?_ | fail)); refine fo 2 ?_; refine gc (d0 _ _ _) ?_; rintro v L' ⟨rfl, D2, f2, hD2, rfl⟩; (repeat' (first | refine uN ?_ | refine Yc S ?_ | refine We (qC (kc _ (Qy M _) _ _ _)) ?_ | refine Yd (fun _ => kc _ (Qy M _) _ _ _) ?_ | refine Yf (fun _ => kc _ (Qy M _) _ _ _) ?_ | refine Ye (fun _ => kc _ (Qy M _) _ _ _) ?_ | refine Yh (fun _ => kc _ (Qy M _) _ _ _) ?_ | (refine uB ?_; intro b) | (refine uP ?_ ?_ <;> (intro h; ((try simp only [zs, ne_eq, and_true, true_and, eq_self, reduceCtorEq] at h); try exact zx))) | refine da 101 ?_ | fail)); exact Yi uL ⟨rfl, G2, D2, f1, f2, hW2, hD2, rfl⟩)
end Go.HL
end

/-! WoZ -/
section
namespace Go.HL
open Go Go.Proofs
set_option linter.unusedVariables false
set_option linter.unusedSimpArgs false
theorem HC.ro {F : Nat} {args : List Value} {H H' : Zb} {V : Value → Prop} (h1 : LS H.flatten H'.flatten) (h2 : LS H'.flatten H.flatten) (h : HC Tryz.prog F args H (fun v L' => V v ∧ L' = H)) : HC Tryz.prog F args H' (fun v L' => V v ∧ L' = H') :=
 HC.post (HC.sp h h1) (by rintro v L' ⟨hv, rfl⟩; exact ⟨H', h2, hv, rfl⟩)
theorem lsW {G : WdG} {M : Wm} {X : Zb} : LS (Y6 G M ++ X).flatten (Uu G M :: X).flatten := LS.of_eq (Q9 G M X).symm
theorem lsW' {G : WdG} {M : Wm} {X : Zb} : LS (Uu G M :: X).flatten (Y6 G M ++ X).flatten := LS.of_eq (Q9 G M X)
theorem Zlc (T : Nat) (E : Nat → Addr) (G : WdG) (M : Wm) (s d : Int) (L : Zb) (hG : Er T E [2, 6] L) (hW : WdOk G M) (hM : WI M) : HC Tryz.prog 68 [pt G.wp 0, iv s, iv d] (Y6 G M ++ L) (fun v L' => v = .tuple ⟨[.agg ⟨sc (Zaz M s d)⟩, eV T E (Vz M s d)]⟩ ∧ L' = Y6 G M ++ L) := by
 refine Zfb T E G M s d _ (Wo hG G M) (Zac hW L) hW.ndl (fun hn => ?_) (fun hn => ?_)
 ·exact Zb7 hW.ndl (Xc hn).1 (Xc hn).2 L
 ·have hni := Ws hM (Xc hn).1 (Xc hn).2
  refine ⟨by rw [hni.b512]; omega, by rw [hni.b512]; omega, fun p hp => ?_⟩
  have := Zgr hW.ndl (Xc hn).1 (Xc hn).2 (b := p.1) (o := p.2) (by
   unfold Zjo Xl
   simp only [List.mem_cons, List.not_mem_nil, or_false] at hp
   rcases hp with rfl | rfl
   ·simp [plB]
   ·simp [plD]) L
  unfold Has Y6 at *
  rw [List.append_assoc, List.flatten_append]
  exact List.mem_append_right _ this
end Go.HL
end

/-! MwM -/
section
namespace Go.HL
open Go Go.Proofs
set_option linter.unusedVariables false
set_option linter.unusedSimpArgs false
theorem lsD {D : RwG} {M : Wm} {X : Zb} : LS (Xs D M ++ X).flatten (Qs D M :: X).flatten := LS.of_eq (Zgu D M X).symm
theorem lsD' {D : RwG} {M : Wm} {X : Zb} : LS (Qs D M :: X).flatten (Xs D M ++ X).flatten := LS.of_eq (Zgu D M X)
set_option maxHeartbeats 2000000 attribute [local irreducible] HW HO HQ HD HC QOp Has Upd Zt Gets Yb Z6 Zr Xr Z4 Zm Xx Zy
attribute [local irreducible] Uu Qs Zo
theorem U8 (T : Nat) (E : Nat → Addr) (G : WdG) (D : RwG) (M : Wm) (L : Zb) (hE : Ez T E L) (hW : WdOk G M) (hD : RwOk D M) (hM : WI M) (hl : M.l.length ≤ 99998000) :
  HC Tryz.prog 31 [pt G.wp 0, pt D.wp 0] (Uu G M :: Qs D M :: L) (fun v L' => v = .bool true ∧ L' = Uu G M :: Qs D M :: L) := by
 have hwn := hM.wn
 have hwl := hM.wl
 have hel := hM.evl
 have hG1 := fun a : List Zq => (hE.er [2, 6]).cons a
 have hG2 := fun a b : List Zq => ((hE.er [2, 6]).cons b).cons a
 have kIs := fun s => HC.ro (V := fun v => v = .tuple ⟨[.bool (isW M s).1, eV T E (isW M s).2]⟩) lsW lsW' (Zv8 T E G M s (Y6 G M ++ (Qs D M :: L)) (Wo (hG1 _).sub G M) (Zac hW _) hW.ndl (fun hn => Zb7 hW.ndl (Xc hn).1 (Xc hn).2 _))
 have kSt := fun s d => HC.ro (V := fun v => v = .tuple ⟨[.agg ⟨sc (Zaz M s d)⟩, eV T E (Vz M s d)]⟩) lsW lsW' (Zlc T E G M s d (Qs D M :: L) (hG1 _) hW hM)
 have kLd := fun c s d => HC.ro (V := fun v => v = .tuple ⟨[bs (Zae M s d).1, eV T E (Zae M s d).2]⟩) (H' := c :: Uu G M :: Qs D M :: L) (LS.trans lsW uL) (LS.trans (b := (Uu G M :: c :: Qs D M :: L : Zb).flatten) uL lsW') (Zhf T E G M s d (c :: Qs D M :: L) (hG2 _ _).sub hW hM)
 have kEv := HC.shutR (V := fun v c => Vec 81 3 ec v M.ev c) (Zk6 G M (Qs D M :: L) hW (by omega))
 have kFl := HC.shutR (V := fun v c => Zx v M.l c) (Zd2 G M (Qs D M :: L) hW (by omega))
 have hDI : RwIn (Uu G M :: Qs D M :: L) D M := (Zcz hD L).mono fun b o hb => Zf (lsD.has hb)
 have hDN : ∀ s : Int, 0 ≤ s → s < M.n.length → Has (Uu G M :: Qs D M :: L) (Yg D s).np (Za1 (Yg D s) (Zd M s)) := fun s h0 h1 => Zf (lsD.has (Zfi hD.ndl h0 h1 L))
 have hDP : ∀ s : Int, 0 ≤ s → s < M.n.length → ∀ p ∈ Wd (Yg D s).rp (Zd M s).pl (Yg D s).left, Has (Uu G M :: Qs D M :: L) p.1 p.2 := fun s h0 h1 p hp => Zf (lsD.has (rw_hasP hD.ndl h0 h1 L p hp))
 have rLd := fun c s d h0 h1 hd => HC.ro (V := fun v => v = bs (Zae M s ((d : Nat) : Int)).1) (H' := c :: Uu G M :: Qs D M :: L) (LS.trans lsD uL) (LS.trans (b := (Qs D M :: c :: Uu G M :: L : Zb).flatten) uL lsD') (Zk5 D M s d (c :: Uu G M :: L) hD hM h0 h1 hd)
 have rSt := fun (c : List Zq) s d h0 h1 hd => Ze9 D M s d (c :: Uu G M :: Qs D M :: L) (hDI.mono fun b o hb => Zf hb) hD.ndl h0 h1 hd (Ws hM h0 h1).b512 (Zf (hDN s h0 h1)) (fun p hp => Zf (hDP s h0 h1 p hp))
 have kc1 := fun (c : List Zq) => Um T E (some 2) 2 (c :: Uu G M :: Qs D M :: L) (((hE.cons _).cons _).cons _) (by simp [okE, all9])
 simp only [show decide (cdN (some 2) = 2) = true from rfl] at kc1
 obtain ⟨ae, cape, hev, -, hRe⟩ := hD.ev.rd Vg
 have hER : Rd ec 3 (Uu G M :: Qs D M :: L) ae M.ev := (hRe []).mono fun b o hb => Zf (lsD.has (by
  unfold Has at *
  simp only [Xs, Zd3, List.flatten_cons, List.flatten_nil, List.append_nil, List.cons_append, List.nil_append] at hb ⊢
  simp [hb]))
 generalize Uu G M :: Qs D M :: L = H at *
 obtain ⟨an, capn, hnv, hnr⟩ := hDI.ns
 obtain ⟨al, capl, hlv, hlr⟩ := hDI.ls
 have hw := hDI.wp
 unfold Vt at hw
 rw [hnv, hlv, hev] at hw
 refine Za (fun _ _ => Tryz.call31 _ _) Tryz.func31 rfl Tryz.ntmps31 (Nat.le_of_ble_eq_true rfl) ?_; simp only [Zc, Nat.reduceAdd]
 repeat' (first | refine uN ?_ | refine Yc S ?_ | (refine uB ?_; intro b) | (refine uP ?_ ?_ <;> (intro h; ((try simp only [zs, ne_eq, and_true, true_and, eq_self, reduceCtorEq] at h); try exact zx))) | refine da 101 ?_ | fail)
 refine gc kEv ?_
 rintro v L' ⟨ce, hve, rfl⟩
 obtain ⟨a3, cap3, rfl, -, hR3⟩ := hve.rd Vg
 have kse := Zge a3 ae cap3 cape M.ev M.ev (ce :: H) (hR3 H) (hER.cons _) (by omega)
 simp only [decide_true] at kse
 repeat' (first | refine uN ?_ | refine Yc S ?_ | refine uC (kse) ?_ | refine Yd (fun _ => kse) ?_ | refine Yf (fun _ => kse) ?_ | refine Ye (fun _ => kse) ?_ | refine Yh (fun _ => kse) ?_ | (refine uB ?_; intro b) | (refine uP ?_ ?_ <;> (intro h; ((try simp only [zs, ne_eq, and_true, true_and, eq_self, reduceCtorEq] at h); try exact zx))) | refine da 101 ?_ | fail)
 refine Uk (L' := H) ?_ (LS.c (LS.refl _))
 refine gc kFl ?_
 rintro v L' ⟨cf, hvf, rfl⟩
 obtain ⟨a4, cap4, rfl, -, hR4⟩ := hvf.rd Zi
 have ksf := Zf4 a4 al cap4 capl M.l M.l (cf :: H) (hR4 H) (hlr.cons _) (by omega)
 simp only [decide_true] at ksf
 repeat' (first | refine uN ?_ | refine Yc S ?_ | refine uC (ksf) ?_ | refine Yd (fun _ => ksf) ?_ | refine Yf (fun _ => ksf) ?_ | refine Ye (fun _ => ksf) ?_ | refine Yh (fun _ => ksf) ?_ | (refine uB ?_; intro b) | (refine uP ?_ ?_ <;> (intro h; ((try simp only [zs, ne_eq, and_true, true_and, eq_self, reduceCtorEq] at h); try exact zx))) | refine da 101 ?_ | fail)
 refine Wi (L' := H) ?_ (LS.c (LS.refl _))
 refine Zn (σ := Nat) (fun i => [(0, pt G.wp 0), (1, pt D.wp 0), (5, iv i)]) (fun _ => H) (fun i => i ≤ M.n.length) (fun i => M.n.length - i) 0 uS (List.Sublist.refl _) (by omega) ?_
 rintro i hi
 by_cases hlt : i < M.n.length
 ·have hNi := hDN (i : Int) (by omega) (by omega)
  obtain ⟨b9, bi, l, F, fr, cap2, e7, hb, hg2⟩ := Zks hDI hD.ndl (s := (i : Int)) (by omega) (by omega)
  rw [hnv] at e7
  obtain ⟨rfl, -, rfl⟩ := Value.slice.inj e7
  have kIi := kIs i
  have eIs : isW M i = ((Zd M i).site.isSome, none) := by unfold isW; rw [Za5 (by omega) (by omega)]
  rw [eIs] at kIi
  have eSt : ∀ d : Nat, d < 6 → Vz M i d = none ∧ Zaz M i d = Xe (Zd M i).pl d := fun d hd => by
   have e1 : Vz M i d = none := by
    unfold Vz
    rw [Za5 (by omega) (by omega)]
    simp only
    rw [if_neg (by omega)]
   exact ⟨e1, by unfold Zaz; rw [e1]⟩
  have eLd : ∀ d : Nat, d < 6 → (Zae M i d).2 = none := fun d hd => by
   unfold Zae
   rw [if_neg (by omega)]
   split <;> rfl
  unfold Za1 at hNi
  rcases hs : (Zd M i).site with _ | ⟨j, ref⟩
  all_goals
   rw [hs] at hNi kIi
   simp only [Zdx, Option.isSome_none, Option.isSome_some] at hNi kIi
   repeat' (first | refine uN ?_ | refine Yc S ?_ | refine uC (kIi) ?_ | refine Yd (fun _ => kIi) ?_ | refine Yf (fun _ => kIi) ?_ | refine Ye (fun _ => kIi) ?_ | refine Yh (fun _ => kIi) ?_ | (refine uB ?_; intro b) | (refine uP ?_ ?_ <;> (intro h; ((try simp only [zs, ne_eq, and_true, true_and, eq_self, reduceCtorEq] at h); try exact zx))) | refine da 101 ?_ | fail)
   refine Zn (σ := Nat) (fun d => [(0, pt G.wp 0), (1, pt D.wp 0), (5, iv i), (8, iv d)]) (fun _ => H) (fun d => d ≤ 6) (fun d => 6 - d) 0 uS (List.Sublist.refl _) (by omega) ?_
   rintro d hd6
   by_cases hd : d < 6
   ·have kst := kSt i d
    rw [(eSt d hd).1, (eSt d hd).2] at kst
    have kld := fun c => kLd c i d
    simp only [eLd d hd] at kld
    have rst := fun c => rSt c i d (by omega) (by omega) hd
    have rld := fun c => rLd c i d (by omega) (by omega) hd
    generalize Xe (Zd M i).pl d = st at *
    generalize (Zae M i d).1 = sb at *
    obtain ⟨ph, pr, att⟩ := st
    repeat' (first | refine uN ?_ | refine Yc S ?_ | refine uC (kst) ?_ | refine uC (kld _) ?_ | refine uC (rst _) ?_ | refine uC (rld _) ?_ | refine Yd (fun _ => kst) ?_ | refine Yf (fun _ => kst) ?_ | refine Ye (fun _ => kst) ?_ | refine Yh (fun _ => kst) ?_ | refine Yd (fun _ => kld _) ?_ | refine Yf (fun _ => kld _) ?_ | refine Ye (fun _ => kld _) ?_ | refine Yh (fun _ => kld _) ?_ | refine Yd (fun _ => rst _) ?_ | refine Yf (fun _ => rst _) ?_ | refine Ye (fun _ => rst _) ?_ | refine Yh (fun _ => rst _) ?_ | refine Yd (fun _ => rld _) ?_ | refine Yf (fun _ => rld _) ?_ | refine Ye (fun _ => rld _) ?_ | refine Yh (fun _ => rld _) ?_ | (refine uB ?_; intro b) | (refine uP ?_ ?_ <;> (intro h; ((try simp only [zs, ne_eq, and_true, true_and, eq_self, reduceCtorEq] at h); try exact zx))) | refine da 101 ?_ | fail)
    all_goals first | (refine Zg (d + 1) uS (LS.c (LS.refl _)) (by omega) (by omega)) | (exfalso; simp_all; done)
   ·obtain rfl : d = 6 := by omega
    repeat' (first | refine uN ?_ | refine Yc S ?_ | (refine uB ?_; intro b) | (refine uP ?_ ?_ <;> (intro h; ((try simp only [zs, ne_eq, and_true, true_and, eq_self, reduceCtorEq] at h); try exact zx))) | refine da 101 ?_ | fail)
    refine Zg (i + 1) uS (LS.refl _) (by omega) (by omega)
 ·obtain rfl : i = M.n.length := by omega
  have kIn := kIs M.n.length
  have eIn : isW M M.n.length = (false, some 2) := by
   unfold isW
   rw [show X0 M M.n.length = some 2 from if_pos (.inr (Int.le_refl _))]
  rw [eIn] at kIn
  have kSn := kSt 0 6
  have kLn := fun c => kLd c (-1) 0
  have eL : Zae M (-1) 0 = ([], some 2) := by unfold Zae; rw [if_pos (by omega)]
  have eS : Vz M 0 6 = some 2 := by
   unfold Vz
   have hw1 := hM.w1
   rw [Za5 (by omega) (by omega)]
   rfl
  have eS2 : Zaz M 0 6 = Ww := by unfold Zaz; rw [eS]
  rw [eS, eS2] at kSn
  simp only [eL] at kLn
  repeat' (first | refine uN ?_ | refine Yc S ?_ | refine uC (kIn) ?_ | refine uC (kSn) ?_ | refine uC (kLn _) ?_ | refine uC (kc1 _) ?_ | refine Yd (fun _ => kIn) ?_ | refine Yf (fun _ => kIn) ?_ | refine Ye (fun _ => kIn) ?_ | refine Yh (fun _ => kIn) ?_ | refine Yd (fun _ => kSn) ?_ | refine Yf (fun _ => kSn) ?_ | refine Ye (fun _ => kSn) ?_ | refine Yh (fun _ => kSn) ?_ | refine Yd (fun _ => kLn _) ?_ | refine Yf (fun _ => kLn _) ?_ | refine Ye (fun _ => kLn _) ?_ | refine Yh (fun _ => kLn _) ?_ | refine Yd (fun _ => kc1 _) ?_ | refine Yf (fun _ => kc1 _) ?_ | refine Ye (fun _ => kc1 _) ?_ | refine Yh (fun _ => kc1 _) ?_ | (refine uB ?_; intro b) | (refine uP ?_ ?_ <;> (intro h; ((try simp only [zs, ne_eq, and_true, true_and, eq_self, reduceCtorEq] at h); try exact zx))) | refine da 101 ?_ | fail)
  exact Yi (LS.c (LS.refl _)) ⟨rfl, rfl⟩
end Go.HL
end

/-! EdA -/
section
namespace Go.HL
open Go Go.Proofs
set_option linter.unusedVariables false
set_option linter.unusedSimpArgs false
def Zc1 (m : Pl) (d : Nat) : Int := ((Zo m.b).getD d Zl).n
theorem Ztz {m : Pl} {j : Jn} (h : JI m j) (deal : Int) (s : St) (q : Nat) : ((Xo m j deal s).2.1.l.getD q Zl).n ≤ (j.l.getD q Zl).n + 1 := by
 have hp := Zfz h deal s
 obtain ⟨-, -, hp⟩ := hp
 rcases hp with ⟨h1, -⟩ | ⟨-, -, -, -, ⟨-, h1, -⟩ | ⟨-, h1⟩⟩
 ·rw [h1]; omega
 ·rw [h1]; omega
 ·rw [h1]
  by_cases e : q = deal.toNat
  ·subst e
   by_cases hl : deal.toNat < j.l.length
   ·simp [List.getD, List.getElem?_set, hl]
   ·simp [List.getD, List.getElem?_set, hl, Zl]
  ·simp [List.getD, List.getElem?_set, Ne.symm e]
   omega
theorem site_num {id : Int} {ref : Int → Bool} {m : Pl} {j : Jn} (h : SI m j) (f : Fr) (q : Nat) : ((Zp id ref m j f).2.1.l.getD q Zl).n ≤ (j.l.getD q Zl).n + 1 := by
 unfold Zp
 split
 ·simp only; omega
 split
 ·simp only; omega
 split
 ·exact Ztz h.ji _ _ _
 ·exact Ztz h.ji _ _ _
def Zqw (M : Wm) (s d : Nat) : St := Xe (Zd M (s : Int)).pl d
def ldW (M : Wm) (s d : Nat) : Option Ld := (Zd M (s : Int)).leads.getD d none
def nmW (M : Wm) (s d : Nat) : Int := Zc1 (Zd M (s : Int)).pl d
def LiveN (m : Nd) : Prop := m.site ≠ none ∧ m.pl.cut = -1
def LiveW (M : Wm) (s : Nat) : Prop := LiveN (Zd M (s : Int))
theorem LiveN.off {w : List Int} {s : Nat} {m : Nd} (h : NdI w s m) (hl : LiveN m) : ∃ j ref, m.site = some (j, ref) ∧ j = ⟨Zo m.pl.b, false⟩ ∧ m.pl.off = false ∧ m.pl.cut = -1 ∧ SI m.pl j := by
 obtain ⟨⟨j, ref⟩, hs⟩ := Option.ne_none_iff_exists'.1 hl.1
 obtain ⟨e1, e2⟩ := h.up j ref hs
 exact ⟨j, ref, hs, e1, e2, hl.2, h.jn hs⟩
theorem nd_num {w : List Int} {s : Nat} {m : Nd} (h : NdI w s m) (ev : List Evt) (f : Fr) (q : Nat) : Zc1 (Y7 s m ev f).1.pl q ≤ Zc1 m.pl q + 1 := by
 unfold Y7
 split
 ·simp only; omega
 ·rename_i j ref hs
  have hS := h.jn hs
  have hn := site_num (id := s) (ref := ref) hS f q
  have hany := (Zcy (id := s) (ref := ref) hS f).1
  have hl' : (Zp s ref m.pl j f).2.1.l = Zo (Zp s ref m.pl j f).1.b := hany.ji.l
  have hj : j.l = Zo m.pl.b := hS.ji.l
  rw [hl', hj] at hn
  unfold Zc1
  split <;> exact hn
theorem nd_st {w : List Int} {s : Nat} {m : Nd} (h : NdI w s m) (ev : List Evt) (f : Fr) : (∀ d : Nat, d < 6 → Xe (Y7 s m ev f).1.pl d = Xe m.pl d ∨ (d = f.dl.toNat ∧ ∃ ref, Xe (Y7 s m ev f).1.pl d = (Z8 ref f (Xe m.pl d)).1)) ∧
  (∀ x ∈ (Y7 s m ev f).2.2.1, ∃ ref, x = ⟨s, f.fr, f.dl, (Z8 ref f (Xe m.pl f.dl)).2.1, f.att, (Z8 ref f (Xe m.pl f.dl)).2.2, (Z8 ref f (Xe m.pl f.dl)).1⟩ ∧ (Z8 ref f (Xe m.pl f.dl)).2.1 ≠ 0 ∧ ¬ Xv f ∧ f.to = s) := by
 unfold Y7
 split
 ·exact ⟨fun d _ => .inl rfl, fun x hx => by cases hx⟩
 ·rename_i j ref hs
  have hS := h.jn hs
  have hstep := Zu4 (id := s) (ref := ref) hS f
  have hany := (Zcy (id := s) (ref := ref) hS f).1
  have hl' : (Zp s ref m.pl j f).2.1.l = Zo (Zp s ref m.pl j f).1.b := hany.ji.l
  have hpl : ∀ q : Nat, Xe (Zp s ref m.pl j f).1 q = Yq (Zp s ref m.pl j f).2.1 q := fun q => by
   unfold Yq Xe
   rw [hl']
   rfl
  have ej : ∀ q, Yq j q = Xe m.pl q := fun q => st_eq h hs q
  have key : (∀ d : Nat, d < 6 → Xe (Zp s ref m.pl j f).1 d = Xe m.pl d ∨ (d = f.dl.toNat ∧ ∃ r', Xe (Zp s ref m.pl j f).1 d = (Z8 r' f (Xe m.pl d)).1)) ∧
    (∀ x ∈ (Zp s ref m.pl j f).2.2.1, ∃ ref, x = ⟨s, f.fr, f.dl, (Z8 ref f (Xe m.pl f.dl)).2.1, f.att, (Z8 ref f (Xe m.pl f.dl)).2.2, (Z8 ref f (Xe m.pl f.dl)).1⟩ ∧ (Z8 ref f (Xe m.pl f.dl)).2.1 ≠ 0 ∧ ¬ Xv f ∧ f.to = s) := by
   rcases hstep with ⟨hq, hx⟩ | ⟨hb, hto, htu, hoth, hx⟩
   ·exact ⟨fun d hd => .inl (by rw [hpl, hq d hd, ej]), fun x hx2 => by rw [hx] at hx2; cases hx2⟩
   ·have hb2 := hb
    unfold Xv at hb2
    obtain ⟨d0, hd0⟩ := Int.eq_ofNat_of_zero_le (show 0 ≤ f.dl by omega)
    have hdn : f.dl.toNat = d0 := by omega
    have e2 : Yq j f.dl.toNat = Xe m.pl f.dl := by rw [hdn, hd0]; exact ej d0
    refine ⟨fun d hd => ?_, fun x hx2 => ?_⟩
    ·by_cases e : d = f.dl.toNat
     ·exact .inr ⟨e, ref, by rw [hpl, e, htu, ej]⟩
     ·exact .inl (by rw [hpl, hoth d hd e, ej])
    ·obtain ⟨k1, k2⟩ := hx x hx2
     rw [e2] at k1 k2
     exact ⟨ref, k2, k1, hb, hto⟩
  clear hstep hany hl' hpl
  generalize Zp s ref m.pl j f = r at key ⊢
  split
  ·exact ⟨key.1, fun x hx => by cases hx⟩
  ·exact key
end Go.HL
end

/-! EdB -/
section
namespace Go.HL
open Go Go.Proofs
set_option linter.unusedVariables false
set_option linter.unusedSimpArgs false
structure Bnd (M : Wm) (P N : Int) : Prop where
 pr : ∀ s d : Nat, s < M.w.length → d < 6 → (Zqw M s d).pr ≤ P
 ld : ∀ s d x, s < M.w.length → d < 6 → ldW M s d = some x → x.seen ≤ P ∧ x.att ≤ P
 fr : ∀ f ∈ M.l, f.att ≤ P ∧ f.s.pr ≤ P
 nm : ∀ s d : Nat, s < M.w.length → nmW M s d ≤ N
 p0 : 0 ≤ P
 n0 : 0 ≤ N
theorem Bnd.mono {M : Wm} {P N P' N' : Int} (h : Bnd M P N) (hP : P ≤ P') (hN : N ≤ N') : Bnd M P' N' :=
 ⟨fun s d a b => by have := h.pr s d a b; omega, fun s d x a b c => by have := h.ld s d x a b c; omega, fun f hf => by have := h.fr f hf; omega, fun s d a => by have := h.nm s d a; omega, by have := h.p0; omega, by have := h.n0; omega⟩
theorem Bnd.of {M M' : Wm} {P N : Int} (h : Bnd M P N) (hw : M'.w = M.w) (hst : ∀ s d : Nat, Zqw M' s d = Zqw M s d) (hnm : ∀ s d : Nat, nmW M' s d = nmW M s d)
  (hld : ∀ s d x, s < M.w.length → d < 6 → ldW M' s d = some x → ldW M s d = some x ∨ (x.seen ≤ P ∧ x.att ≤ P)) (hl : ∀ f ∈ M'.l, f ∈ M.l ∨ (f.att ≤ P ∧ f.s.pr ≤ P)) : Bnd M' P N :=
 ⟨fun s d a b => by rw [hst]; exact h.pr s d (by rw [← hw]; exact a) b, fun s d x a b c => by
  rw [hw] at a
  rcases hld s d x a b c with k | k
  ·exact h.ld s d x a b k
  ·exact k, fun f hf => (by
  rcases hl f hf with k | k
  ·exact h.fr f k
  ·exact k), fun s d a => by rw [hnm]; exact h.nm s d (by rw [← hw]; exact a), h.p0, h.n0⟩
theorem Zow (x : Ld) (f : Fr) : (Zs x f).1.att = x.att ∧ (Zs x f).1.id = x.id ∧ (Zs x f).1.deal = x.deal ∧ (Zs x f).1.w = x.w ∧ ((Zs x f).1.seen ≤ x.seen ∨ (Zs x f).1.seen ≤ f.s.pr) := by
 have h1 : (Qn x f).att = x.att ∧ (Qn x f).id = x.id ∧ (Qn x f).deal = x.deal ∧ (Qn x f).w = x.w ∧ ((Qn x f).seen ≤ x.seen ∨ (Qn x f).seen ≤ f.s.pr) := by
  unfold Qn
  split
  ·exact ⟨rfl, rfl, rfl, rfl, .inl (Int.le_refl _)⟩
  ·refine ⟨rfl, rfl, rfl, rfl, ?_⟩
   simp only
   omega
 have h2 : (U2 x f).att = x.att ∧ (U2 x f).id = x.id ∧ (U2 x f).deal = x.deal ∧ (U2 x f).w = x.w ∧ ((U2 x f).seen ≤ x.seen ∨ (U2 x f).seen ≤ f.s.pr) := h1
 unfold Zs
 split
 ·exact ⟨rfl, rfl, rfl, rfl, .inl (Int.le_refl _)⟩
 split
 ·unfold Zwh
  split <;> exact h1
 ·unfold Z9
  split
  ·exact h2
  split
  ·exact h2
  split
  ·exact h2
  split <;> exact h2
theorem Zcu {x : Ld} {f : Fr} : ∀ y ∈ (Zs x f).2, y.fr = x.id ∧ y.dl = x.deal ∧ y.att = x.att ∧ y.s.pr = 0 ∧ (y.kd = 5 ∨ y.kd = 7) := by
 have hall : ∀ (m : Ld) (k p : Int), m.deal = x.deal → m.id = x.id → m.att = x.att → (k = 5 ∨ k = 7) → ∀ y ∈ Zbr m k p, y.fr = x.id ∧ y.dl = x.deal ∧ y.att = x.att ∧ y.s.pr = 0 ∧ (y.kd = 5 ∨ y.kd = 7) := fun m k p h h2 h3 hk y hy => by
  obtain ⟨i, -, rfl, -⟩ := Zc2 hy
  exact ⟨h2, h, h3, rfl, hk⟩
 have e1 : (Qn x f).deal = x.deal ∧ (Qn x f).id = x.id ∧ (Qn x f).att = x.att := by unfold Qn; split <;> exact ⟨rfl, rfl, rfl⟩
 have e2 : (U2 x f).deal = x.deal ∧ (U2 x f).id = x.id ∧ (U2 x f).att = x.att := by unfold U2; exact e1
 unfold Zs
 split
 ·intro y hy; cases hy
 split
 ·unfold Zwh
  split
  ·exact hall _ _ _ e1.1 e1.2.1 e1.2.2 (.inr rfl)
  ·intro y hy; cases hy
 ·unfold Z9
  split
  ·exact hall _ _ _ e2.1 e2.2.1 e2.2.2 (.inl rfl)
  split
  ·intro y hy; cases hy
  split
  ·exact hall _ _ _ e2.1 e2.2.1 e2.2.2 (.inr rfl)
  split
  ·exact hall _ _ _ e2.1 e2.2.1 e2.2.2 (.inr rfl)
  ·exact hall _ _ _ e2.1 e2.2.1 e2.2.2 (.inl rfl)
theorem Ze6 {m : Ld} : ∀ y ∈ Xd m, y.fr = m.id ∧ y.dl = m.deal ∧ y.att = m.att ∧ y.s.pr = 0 ∧ (y.kd = if m.att = 0 then 1 else 3) := fun y hy => by
 unfold Xd at hy
 split at hy
 ·rename_i h
  obtain ⟨i, -, rfl, -⟩ := Zc2 hy
  exact ⟨rfl, rfl, rfl, rfl, by rw [if_pos h]⟩
 ·rename_i h
  obtain ⟨i, -, rfl, -⟩ := Zc2 hy
  exact ⟨rfl, rfl, rfl, rfl, by rw [if_neg h]⟩
theorem Zti (ref : Int → Bool) (f : Fr) (st : St) : (Z8 ref f st).1.pr ≤ st.pr ∨ (Z8 ref f st).1.pr ≤ f.att := by
 unfold Z8
 split
 ·left; unfold Zv4; split
  ·split <;> exact Int.le_refl _
  ·exact Int.le_refl _
 split
 ·simp only; omega
 split
 ·split
  ·exact .inl (Int.le_refl _)
  ·split
   ·exact .inr (Int.le_refl _)
   ·exact .inl (Int.le_refl _)
 split
 ·left; simp only; split <;> exact Int.le_refl _
 ·exact .inl (Int.le_refl _)
theorem Zmz {M : Wm} {s : Int} (h0 : 0 ≤ s) (h1 : s < M.n.length) (f : Fr) (t : Nat) : Zd (Yo M s f).1 (t : Int) = if (t : Int) = s then (Y7 s (Zd M s) M.ev f).1 else Zd M (t : Int) := Ud h0 h1 t
theorem Zsc (s : Int) (m : Nd) (ev : List Evt) (f : Fr) : (Y7 s m ev f).1.leads = m.leads ∨ (Y7 s m ev f).1.leads = noLeads := by
 unfold Y7
 split
 ·exact .inl rfl
 split
 ·exact .inr rfl
 ·exact .inl rfl
theorem Bnd.hear {M : Wm} {P N : Int} (h : Bnd M P N) (hI : WI M) {s : Int} (h0 : 0 ≤ s) (h1 : s < M.n.length) {f : Fr} (hf : f.att ≤ P) :
  Bnd (Yo M s f).1 P (N + 1) ∧ ∀ y ∈ (Yo M s f).2.1, y.att ≤ P ∧ y.s.pr ≤ P := by
 have hni := hI.at h0 h1
 have hn := hI.wn
 obtain ⟨sn, rfl⟩ := Int.eq_ofNat_of_zero_le h0
 simp only [Int.toNat_natCast] at hni
 have hsn : sn < M.w.length := by omega
 have hw : (Yo M sn f).1.w = M.w := rfl
 obtain ⟨k1, k2⟩ := nd_st hni M.ev f
 have k3 := nd_num hni M.ev f
 refine ⟨⟨fun t d ht hd => ?_, fun t d x ht hd hx => ?_, fun y hy => h.fr y hy, fun t d ht => ?_, h.p0, by have := h.n0; omega⟩, fun y hy => ?_⟩
 ·show (Xe (Zd (Yo M sn f).1 (t : Int)).pl d).pr ≤ P
  rw [Zmz h0 h1]
  have hp := h.pr t d ht hd
  unfold Zqw at hp
  split
  ·rename_i e
   rw [e] at hp
   rcases k1 d hd with k | ⟨-, ref, k⟩
   ·rw [k]; exact hp
   ·rw [k]
    have := Zti ref f (Xe (Zd M sn).pl d)
    omega
  ·exact hp
 ·have hx' : (Zd (Yo M sn f).1 (t : Int)).leads.getD d none = some x := hx
  rw [Zmz h0 h1] at hx'
  split at hx'
  ·rename_i e
   rcases Zsc sn (Zd M sn) M.ev f with k | k
   ·rw [k, ← e] at hx'
    exact h.ld t d x ht hd hx'
   ·rw [k, Ul] at hx'; cases hx'
  ·exact h.ld t d x ht hd hx'
 ·show Zc1 (Zd (Yo M sn f).1 (t : Int)).pl d ≤ N + 1
  rw [Zmz h0 h1]
  have hp := h.nm t d ht
  unfold nmW at hp
  split
  ·rename_i e
   rw [e] at hp
   have := k3 d
   omega
  ·omega
 ·have hy' : y ∈ (Y7 sn (Zd M sn) M.ev f).2.2.1 := hy
  obtain ⟨ref, rfl, -, hb, -⟩ := k2 y hy'
  refine ⟨hf, ?_⟩
  simp only
  unfold Xv at hb
  obtain ⟨d, hd⟩ := Int.eq_ofNat_of_zero_le (show 0 ≤ f.dl by omega)
  have hp := h.pr sn d hsn (by omega)
  unfold Zqw at hp
  rw [hd]
  have := Zti ref f (Xe (Zd M sn).pl d)
  omega
theorem ldW_set {M : Wm} {s : Int} (h0 : 0 ≤ s) (h1 : s < M.n.length) (h6 : (Zd M s).leads.length = 6) {d : Nat} (hd : d < 6) (o : Option Ld) (l : List Fr) (t e : Nat) :
  ldW { Yp M s { Zd M s with leads := (Zd M s).leads.set d o } with l := l } t e = if (t : Int) = s ∧ e = d then o else ldW M t e := by
 unfold ldW
 show (Zd (Yp M s { Zd M s with leads := (Zd M s).leads.set d o }) (t : Int)).leads.getD e none = _
 rw [Ud h0 h1]
 by_cases ht : (t : Int) = s
 ·rw [if_pos ht]
  by_cases he : e = d
  ·subst he
   rw [if_pos ⟨ht, rfl⟩]
   exact Zp6 (by omega)
  ·rw [if_neg (fun q => he q.2), ht]
   exact getD_set_ne he
 ·rw [if_neg ht, if_neg (fun q => ht q.1)]
theorem stW_lead {M : Wm} {s : Int} (h0 : 0 ≤ s) (h1 : s < M.n.length) (ls : List (Option Ld)) (l : List Fr) (t e : Nat) : Zqw { Yp M s { Zd M s with leads := ls } with l := l } t e = Zqw M t e := by
 unfold Zqw
 show Xe (Zd (Yp M s { Zd M s with leads := ls }) (t : Int)).pl e = _
 rw [Ud h0 h1]
 split
 ·rename_i ht; rw [ht]
 ·rfl
theorem nmW_lead {M : Wm} {s : Int} (h0 : 0 ≤ s) (h1 : s < M.n.length) (ls : List (Option Ld)) (l : List Fr) (t e : Nat) : nmW { Yp M s { Zd M s with leads := ls } with l := l } t e = nmW M t e := by
 unfold nmW
 show Zc1 (Zd (Yp M s { Zd M s with leads := ls }) (t : Int)).pl e = _
 rw [Ud h0 h1]
 split
 ·rename_i ht; rw [ht]
 ·rfl
theorem Bnd.node {M : Wm} {P N : Int} (h : Bnd M P N) {s : Int} (h0 : 0 ≤ s) (h1 : s < M.n.length) {m : Nd} {ev : List Evt} (hb : m.pl.b = (Zd M s).pl.b) (hld : m.leads = (Zd M s).leads ∨ m.leads = noLeads) : Bnd { Yp M s m with ev := ev } P N := by
 refine h.of rfl (fun t d => ?_) (fun t d => ?_) (fun t d x ht hd hx => ?_) (fun f hf => .inl hf)
 ·show Xe (Zd (Yp M s m) (t : Int)).pl d = Xe (Zd M (t : Int)).pl d
  rw [Ud h0 h1]
  split
  ·rename_i e; rw [e]; unfold Xe; rw [hb]
  ·rfl
 ·show Zc1 (Zd (Yp M s m) (t : Int)).pl d = Zc1 (Zd M (t : Int)).pl d
  rw [Ud h0 h1]
  split
  ·rename_i e; rw [e]; unfold Zc1; rw [hb]
  ·rfl
 ·have hx' : (Zd (Yp M s m) (t : Int)).leads.getD d none = some x := hx
  rw [Ud h0 h1] at hx'
  split at hx'
  ·rename_i e
   rcases hld with k | k
   ·rw [k] at hx'
    left
    show (Zd M (t : Int)).leads.getD d none = some x
    rw [e]; exact hx'
   ·rw [k, Ul] at hx'; cases hx'
  ·exact .inl hx'
theorem Bnd.setL {M : Wm} {P N : Int} (h : Bnd M P N) {l : List Fr} (hl : ∀ f ∈ l, f ∈ M.l ∨ (f.att ≤ P ∧ f.s.pr ≤ P)) : Bnd { M with l := l } P N :=
 h.of rfl (fun _ _ => rfl) (fun _ _ => rfl) (fun _ _ _ _ _ hx => .inl hx) hl
theorem Bnd.erase {M : Wm} {P N : Int} (h : Bnd M P N) (k : Nat) : Bnd { M with l := M.l.eraseIdx k } P N := h.setL fun f hf => .inl (List.mem_of_mem_eraseIdx hf)
theorem Bnd.lead {M : Wm} {P N : Int} (h : Bnd M P N) (hI : WI M) {s : Int} (h0 : 0 ≤ s) (h1 : s < M.n.length) {d : Nat} (hd : d < 6) {x : Ld} (hx : x.seen ≤ P ∧ x.att ≤ P) {l : List Fr} (hl : ∀ f ∈ l, f ∈ M.l ∨ (f.att ≤ P ∧ f.s.pr ≤ P)) :
  Bnd { Yp M s { Zd M s with leads := (Zd M s).leads.set d (some x) } with l := l } P N := by
 have h6 := (hI.at h0 h1).leads
 refine h.of rfl (fun t e => stW_lead h0 h1 _ _ t e) (fun t e => nmW_lead h0 h1 _ _ t e) (fun t e y ht he hy => ?_) hl
 rw [ldW_set h0 h1 h6 hd] at hy
 split at hy
 ·cases hy; exact .inr hx
 ·exact .inl hy
theorem Bnd.hears {P : Int} : ∀ (l : List Fr) (x : Ld) (acc : List Fr), 0 ≤ P → x.seen ≤ P ∧ x.att ≤ P → (∀ f ∈ l, f.att ≤ P ∧ f.s.pr ≤ P) → (∀ f ∈ acc, f.att ≤ P ∧ f.s.pr ≤ P) →
  ((l.foldl (fun q f => ((Zs q.1 f).1, q.2 ++ (Zs q.1 f).2)) (x, acc)).1.seen ≤ P ∧ (l.foldl (fun q f => ((Zs q.1 f).1, q.2 ++ (Zs q.1 f).2)) (x, acc)).1.att ≤ P) ∧ ∀ f ∈ (l.foldl (fun q f => ((Zs q.1 f).1, q.2 ++ (Zs q.1 f).2)) (x, acc)).2, f.att ≤ P ∧ f.s.pr ≤ P
 | [], x, acc, h0, hx, _, ha => ⟨hx, ha⟩
 | f :: l, x, acc, h0, hx, hl, ha => by
  rw [List.foldl_cons]
  obtain ⟨e1, -, -, -, e2⟩ := Zow x f
  have hf := hl f (by simp)
  refine Bnd.hears l _ _ h0 ⟨(show (Zs x f).1.seen ≤ P by omega), by rw [e1]; exact hx.2⟩ (fun g hg => hl g (by simp [hg])) fun g hg => ?_
  rcases List.mem_append.1 hg with hg | hg
  ·exact ha g hg
  ·obtain ⟨-, -, k1, k2, -⟩ := Zcu g hg
   rw [k1, k2]
   exact ⟨hx.2, h0⟩
theorem Zvq {k s a : Int} (hk : 0 < k) : a ≤ Zas k s a ∧ Zas k s a ≤ a + k - 1 := by
 unfold Zas
 have h1 := Int.emod_nonneg (s - a) (by omega : k ≠ 0)
 have h2 := Int.emod_lt_of_pos (s - a) hk
 generalize (s - a) % k = z at *
 omega
theorem Zqr {M : Wm} {P N : Int} (h : Bnd M P N) {s : Int} (h0 : 0 ≤ s) (h1 : s < M.w.length) {d : Nat} (hd : d < 6) {p : Int} (hp : p ≤ P) : Yv (Zd M s) d p ≤ P := by
 unfold Yv
 split
 ·exact hp
 ·rename_i x hx
  have := (h.ld s.toNat d x (by omega) hd (by unfold ldW; rw [show ((s.toNat : Nat) : Int) = s by omega]; exact hx)).1
  omega
theorem Bnd.try {M : Wm} {P N : Int} (h : Bnd M P N) (hI : WI M) {s p : Int} {d : Nat} (h0 : 0 ≤ s) (h1 : s < M.n.length) (hd : d < 6) (hp : p ≤ P) : Bnd (Zar M s d p).1 (P + 7) (N + 1) := by
 have hn := hI.wn
 have hw := hI.wl
 have hw1 := hI.w1
 have hab := Zqr h h0 (by omega) hd hp
 have hp0 := h.p0
 unfold Zar
 simp only
 have hle := Zvq (k := M.w.length) (s := s) (a := Yv (Zd M s) d p + 1) (by omega)
 generalize Zas M.w.length s (Yv (Zd M s) d p + 1) = a at *
 split
 ·exact h.mono (by omega) (by omega)
 have h7 := h.mono (P' := P + 7) (N' := N) (by omega) (by omega)
 obtain ⟨k1, k2⟩ := h7.hear hI (f := W5 s d a) h0 h1 (by show a ≤ _; omega)
 obtain ⟨hI2, -⟩ := hI.hear (f := W5 s d a) h0 h1 (by show s < _; omega)
 have hS := Zdn M s (W5 s d a)
 generalize Yo M s (W5 s d a) = R at *
 split
 ·exact k1
 ·obtain ⟨q1, q2⟩ := Bnd.hears (P := P + 7) R.2.1 (Zh s d M.w a 4) [] (by omega) ⟨by show (0 : Int) ≤ _; omega, by show a ≤ _; omega⟩ k2 (fun f hf => by cases hf)
  refine k1.lead hI2 h0 (by rw [hS.n]; exact h1) (d := (d : Int).toNat) (by simpa using hd) q1 fun f hf => ?_
  rcases List.mem_append.1 hf with hf | hf
  ·rcases List.mem_append.1 hf with hf | hf
   ·exact .inl hf
   ·obtain ⟨-, -, e1, e2, -⟩ := Ze6 f hf
    rw [e1, e2]
    exact .inr ⟨by show a ≤ _; omega, by omega⟩
  ·exact .inr (q2 f hf)
theorem Bnd.tickD {M : Wm} {P N : Int} {q : Wm × Bool} {s : Int} {k d : Nat} (h : Bnd q.1 P N) (hT : TickOk M q s k) (h0 : 0 ≤ s) (h1 : s < M.n.length) (hd : d < 6) : Bnd (tickD s q d).1 (P + 7) (N + 1) := by
 obtain ⟨M1, b⟩ := q
 have hn := hT.same.n
 simp only at hn h
 have hwn := hT.wi.wn
 simp only at hwn
 have hp0 := h.p0
 unfold HL.tickD
 split
 ·exact h.mono (by omega) (by omega)
 split
 ·exact h.mono (by omega) (by omega)
 rename_i hb _ j ref hs
 have hs' : (Zd M1 s).site = some (j, ref) := hs
 have hni := hT.wi.at (s := s) h0 (by simp only; omega)
 have e := st_eq hni hs' d
 have hpr := h.pr s.toNat d (by omega) hd
 unfold Zqw at hpr
 rw [show ((s.toNat : Nat) : Int) = s by omega] at hpr
 split
 ·exact h.mono (by omega) (by omega)
 split
 ·refine (h.mono (P' := P + 7) (N' := N + 1) (by omega) (by omega)).setL fun f hf => ?_
  rcases List.mem_append.1 hf with hf | hf
  ·exact .inl hf
  ·unfold Wz at hf
   obtain ⟨i, hi, rfl⟩ := List.mem_map.1 hf
   refine .inr ⟨?_, ?_⟩
   ·show (Yq j d).pr ≤ P + 7
    rw [e]
    exact Int.le_trans hpr (by omega)
   ·show (0 : Int) ≤ P + 7
    omega
 ·exact h.try hT.wi h0 (by show s < M1.n.length; omega) hd (by rw [e]; exact hpr)
theorem Bnd.ticks {M : Wm} {P N : Int} (h : Bnd M P N) (hI : WI M) {s : Int} (h0 : 0 ≤ s) (h1 : s < M.n.length) (hs : (Zd M s).site ≠ none) : ∀ k : Nat, k ≤ 6 → Bnd ((List.range k).foldl (HL.tickD s) (M, true)).1 (P + 7 * k) (N + k)
 | 0, _ => by simpa using h
 | k + 1, hk => by
  rw [List.range_succ, List.foldl_append]
  have := Bnd.tickD (d := k) (Bnd.ticks h hI h0 h1 hs k (by omega)) (Zaa hI h0 h1 hs k (by omega)) h0 h1 (by omega)
  exact this.mono (by push_cast; omega) (by push_cast; omega)
theorem Bnd.tick {M : Wm} {P N : Int} (h : Bnd M P N) (hI : WI M) (s : Int) : Bnd (Wt M s).1 (P + 42) (N + 6) := by
 unfold Wt
 split
 ·exact h.mono (by omega) (by omega)
 ·rename_i hu
  obtain ⟨h0, h1, hs⟩ := W7 hu
  exact (h.ticks hI h0 h1 hs 6 (by omega)).mono (by omega) (by omega)
theorem Bnd.deliver {M : Wm} {P N : Int} (h : Bnd M P N) (hI : WI M) (k : Int) : Bnd (Zw M k).1 P (N + 1) := by
 have hn := hI.wn
 unfold Zw
 split
 ·exact h.mono (by omega) (by omega)
 rename_i hk
 obtain ⟨⟨hbad, hto, hfr⟩, hk0, hk1⟩ := Zcj hI hk
 have hmem : M.l.getD k.toNat Ys ∈ M.l := by
  rw [List.getD, List.getElem?_eq_getElem (show k.toNat < M.l.length by omega)]
  exact List.getElem_mem _
 have hE := hI.erase k.toNat
 have hB := h.erase k.toNat
 generalize M.l.getD k.toNat Ys = f at *
 unfold Xv at hbad
 have hf := h.fr f hmem
 have hp0 := h.p0
 simp only
 split
 ·exact hB.mono (by omega) (by omega)
 split
 ·split
  ·exact hB.mono (by omega) (by omega)
  ·rename_i x hx
   have hx' := h.ld f.to.toNat f.dl.toNat x (by omega) (by omega) (by unfold ldW; rw [show ((f.to.toNat : Nat) : Int) = f.to by omega]; exact hx)
   obtain ⟨e1, -, -, -, e2⟩ := Zow x f
   refine Bnd.mono (N := N) ?_ (Int.le_refl P) (by omega)
   refine hB.lead hE (by omega) (by simp only; omega) (by omega) ⟨by omega, by omega⟩ fun g hg => ?_
   rcases List.mem_append.1 hg with hg | hg
   ·exact .inl hg
   ·obtain ⟨-, -, k1, k2, -⟩ := Zcu g hg
    rw [k1, k2]
    exact .inr ⟨hx'.2, hp0⟩
 ·obtain ⟨k1, k2⟩ := hB.hear hE (s := f.to) (f := f) (by omega) (by simp only; omega) hf.1
  refine k1.setL fun g hg => ?_
  rcases List.mem_append.1 hg with hg | hg
  ·exact .inl hg
  ·exact .inr (k2 g hg)
theorem Bnd.act {M : Wm} {P N : Int} (h : Bnd M P N) (hI : WI M) (x : StpS) : Bnd (Zdu M x).1 (P + 42) (N + 6) := by
 have hp0 := h.p0
 have hm : ∀ {M' : Wm}, Bnd M' P N → Bnd M' (P + 42) (N + 6) := fun h => h.mono (by omega) (by omega)
 have hlk : ∀ a b c, Bnd (Ue M a b c).1 P N := fun a b c => by
  unfold Ue
  split
  ·exact h
  ·exact h.of rfl (fun _ _ => rfl) (fun _ _ => rfl) (fun _ _ _ _ _ hx => .inl hx) fun f hf => .inl hf
 unfold Zdu
 split
 ·refine hm ?_
  unfold Xk
  split
  ·exact h
  rename_i hb
  split
  ·exact h
  split
  ·exact h
  refine h.lead hI (by omega) (by omega) (by omega) ⟨by show (0 : Int) ≤ P; exact hp0, by show (0 : Int) ≤ P; exact hp0⟩ fun f hf => ?_
  rcases List.mem_append.1 hf with hf | hf
  ·exact .inl hf
  ·obtain ⟨-, -, e1, e2, -⟩ := Ze6 f hf
   rw [e1, e2]
   exact .inr ⟨by show (0 : Int) ≤ P; exact hp0, hp0⟩
 split
 ·refine hm ?_
  unfold Wp
  split
  ·exact h
  split
  ·exact h
  rename_i hu
  obtain ⟨h0, h1, -⟩ := W7 hu
  exact h.node h0 h1 (ev := M.ev) (by unfold Ui; split <;> rfl) (.inl (by unfold Ui; split <;> rfl))
 split
 ·exact h.tick hI _
 split
 ·refine hm ?_
  unfold Qb
  split
  ·exact h
  rename_i hu
  obtain ⟨h0, h1, -⟩ := W7 hu
  exact h.node h0 h1 (ev := M.ev) rfl (.inr rfl)
 split
 ·refine hm ?_
  unfold Zl5
  split
  ·exact h
  split
  ·exact h
  rename_i hu _
  obtain ⟨h0, h1⟩ := Xc hu
  exact h.node h0 h1 rfl (.inl rfl)
 split
 ·refine hm ?_
  unfold Uy
  split
  ·exact h
  ·exact h.erase _
 split
 ·refine hm ?_
  unfold Vv
  split
  ·exact h
  rename_i hk
  have hkk : 0 ≤ x.n ∧ x.n < M.l.length := by
   unfold Zk1 at hk
   split at hk
   ·cases hk
   ·omega
  refine h.setL fun f hf => .inl ?_
  rcases List.mem_append.1 hf with hf | hf
  ·exact List.mem_of_mem_take hf
  ·rcases List.mem_cons.1 hf with hf | hf
   ·rw [hf, List.getD, List.getElem?_eq_getElem (show x.n.toNat < M.l.length by omega)]
    exact List.getElem_mem _
   ·exact List.mem_of_mem_drop hf
 split
 ·exact hm (hlk _ _ _)
 split
 ·exact hm (hlk _ _ _)
 split
 ·refine hm ?_
  unfold Zdw
  split
  ·exact h
  split
  ·exact h
  rename_i hu
  obtain ⟨h0, h1, -⟩ := W7 hu
  exact h.node h0 h1 (ev := M.ev) rfl (.inl rfl)
 ·exact (h.deliver hI _).mono (by omega) (by omega)
theorem Zm1 {w : List Int} (hc : Yw w = none) : Bnd (Z5 w) 0 0 := by
 have e : ∀ s : Nat, s < (Z5 w).w.length → Zd (Z5 w) (s : Int) = newNd := fun s hs => Zj0 (by omega) (by have : (Z5 w).w = w := rfl; rw [this] at hs; omega)
 refine ⟨fun s d hs hd => ?_, fun s d x hs hd hx => ?_, fun f hf => (by cases hf), fun s d hs => ?_, (by omega), (by omega)⟩
 ·unfold Zqw
  rw [e s hs, Zpu]
  exact Int.le_refl _
 ·unfold ldW at hx
  rw [e s hs] at hx
  have : newNd.leads = noLeads := rfl
  rw [this, Ul] at hx
  cases hx
 ·unfold nmW
  rw [e s hs]
  unfold Zc1 newNd
  simp only
  rw [Zek (by omega)]
  rw [List.getD, List.getElem?_replicate]
  split <;> exact Int.le_refl _
end Go.HL
end

/-! MwN -/
section
namespace Go.HL
open Go Go.Proofs
set_option linter.unusedVariables false
set_option linter.unusedSimpArgs false
theorem Zr2 {M : Wm} {P N : Int} (h : Bnd M P N) (hI : WI M) (hN : N + 8 < 4294967296) (s : Int) (hu : Zbm M s = none) (k : Nat) (j : Jn) (ref : Int → Bool) (hk : k < 6) (hs : (Zd (X9 s M k).1 s).site = some (j, ref)) : (j.l.getD k Zl).n + 1 < 4294967296 := by
 obtain ⟨h0, h1, hs0⟩ := W7 hu
 have hb : Bnd (X9 s M k).1 (P + 7 * k) (N + k) := h.ticks hI h0 h1 hs0 k (by omega)
 have ht : TickOk M (X9 s M k) s k := Zaa hI h0 h1 hs0 k (by omega)
 have hn := ht.same.n
 have hwn := ht.wi.wn
 have hni := Ws ht.wi h0 (by omega)
 obtain ⟨rfl, -⟩ := hni.up j ref hs
 have := hb.nm s.toNat k (by omega)
 unfold nmW Zc1 at this
 rw [show ((s.toNat : Nat) : Int) = s by omega] at this
 simp only
 omega
theorem Zoq {w : List Int} (hc : Yw w = none) (l : List StpS) (hd : ∀ x ∈ l, x.n ≤ 9223372036854775807) : ∀ i : Nat, i ≤ l.length → Bnd (Uv (Z5 w) (l.take i)) (42 * i) (6 * i)
 | 0, _ => by
  rw [List.take_zero]
  exact (Zm1 hc).mono (by omega) (by omega)
 | i + 1, hi => by
  rw [Zj3 _ _ _ (by omega)]
  have h1 := Zs5 (Zj2 hc) (l.take i) fun x hx => hd x (List.mem_of_mem_take hx)
  exact ((Zoq hc l hd i (by omega)).act h1.wi l[i]).mono (by push_cast; omega) (by push_cast; omega)
set_option maxHeartbeats 2000000 attribute [local irreducible] HW HO HQ HD HC QOp Has Upd Zt Gets Yb Z6 Zr Xr Z4 Zm Xx Zy
attribute [local irreducible] Z5 Uv Zdu Uu Qs
theorem Zga (T : Nat) (E : Nat → Addr) (a al : Option Addr) (cap capl : Nat) (w : List Int) (l : List StpS) (L : Zb) (hE : Ez T E L) (hR : Rd ic 1 L a w) (hRl : Rd stpL 4 L al l) (hd : ∀ x ∈ l, x.n ≤ 9223372036854775807) :
  HC Tryz.prog 4 [.slice a w.length cap, .slice al l.length capl] L (fun v L' => v = .bool true ∧ L' = L) := by
 have kb := Zke T E L hE
 by_cases hlc : w.length ≤ 30 ∧ l.length ≤ 150
 ·obtain ⟨hw30, hl1⟩ := hlc
  have ko := fun L hR => Zat a cap w L hR (by omega)
  have kn0 := fun v c L hG hv => Zep T E v w c L hG hv (by omega)
  have kwe := fun L hR => Zah a cap w L hR
  cases hc : Yw w with
  | some e =>
   simp only [hc] at kn0 kwe
   have hok := Ziv w
   rw [hc] at hok
   have hpos := Zto hok
   have kc := fun c => Um T E (some e) e (c :: L) (hE.cons _) hok
   simp only [cdN, cdN', decide_true] at kc kwe
   refine Za (fun _ _ => Tryz.call4 _ _) Tryz.func4 rfl Tryz.ntmps4 (Nat.le_of_ble_eq_true rfl) ?_; simp only [Zc, Nat.reduceAdd]
   repeat' (first | refine uN ?_ | refine uC (kb) ?_ | (refine uP ?_ ?_ <;> (intro h; ((try simp only [zs, ne_eq, and_true, true_and, eq_self, reduceCtorEq] at h); try exact zx))) | fail)
   refine gc (ko _ hR) ?_
   rintro v L' ⟨o1, ho1, rfl⟩
   repeat' (first | refine uN ?_ | refine uC (kb) ?_ | (refine uP ?_ ?_ <;> (intro h; ((try simp only [zs, ne_eq, and_true, true_and, eq_self, reduceCtorEq] at h); try exact zx))) | fail)
   refine gc (kn0 _ _ _ (hE.er [2, 3, 4, 6]) ho1) ?_
   rintro v L' ⟨rfl, rfl⟩
   repeat' (first | refine uN ?_ | refine We (qC (kwe _ (hR.cons _))) ?_ | refine uC (kc _) ?_ | (refine uP ?_ ?_ <;> (intro h; ((try simp only [zs, ne_eq, and_true, true_and, eq_self, reduceCtorEq] at h); try exact zx))) | fail)
   exact Yi (LS.c (LS.refl _)) ⟨rfl, rfl⟩
  | none =>
   simp only [hc] at kn0 kwe
   obtain ⟨c1, c2, -⟩ := Wx hc
   have hM := Zj2 hc
   have hnl : (Z5 w).l.length = 0 := by unfold Z5; rfl
   have hnw : (Z5 w).w = w := by unfold Z5; rfl
   have hn0 : Uv (Z5 w) (l.take 0) = Z5 w := by unfold Uv; rfl
   have kn := fun v c L hG hv => HC.shutN (V := fun u G => u = .tuple ⟨[pt G.wp 0, .nilIface]⟩) (kn0 v c L hG hv)
   have hok := fun i => Zs5 hM (l.take i) (fun x hx => hd x (List.mem_of_mem_take hx))
   have hbn := fun i hi => Zoq hc l hd i hi
   have hsucc := fun i h => Zj3 (Z5 w) l i h
   have krn := fun L => Zca w a cap L (by omega)
   simp only [cdN'] at kwe
   refine Za (fun _ _ => Tryz.call4 _ _) Tryz.func4 rfl Tryz.ntmps4 (Nat.le_of_ble_eq_true rfl) ?_; simp only [Zc, Nat.reduceAdd]
   repeat' (first | refine uN ?_ | refine uC (kb) ?_ | (refine uP ?_ ?_ <;> (intro h; ((try simp only [zs, ne_eq, and_true, true_and, eq_self, reduceCtorEq] at h); try exact zx))) | fail)
   refine gc (ko _ hR) ?_
   rintro v L' ⟨o1, ho1, rfl⟩
   repeat' (first | refine uN ?_ | refine uC (kb) ?_ | (refine uP ?_ ?_ <;> (intro h; ((try simp only [zs, ne_eq, and_true, true_and, eq_self, reduceCtorEq] at h); try exact zx))) | fail)
   refine gc (kn _ _ _ (hE.er [2, 3, 4, 6]) ho1) ?_
   rintro v L' ⟨Ga, rfl, hWa, rfl⟩
   repeat' (first | refine uN ?_ | refine We (qC (kwe _ ((hR.cons _).cons _))) ?_ | (refine uP ?_ ?_ <;> (intro h; ((try simp only [zs, ne_eq, and_true, true_and, eq_self, reduceCtorEq] at h); try exact zx))) | fail)
   refine gc (krn _) ?_
   rintro v L' ⟨Da, rfl, ha1, ha2, hDa, rfl⟩
   repeat' (first | refine uN ?_ | refine uC (kb) ?_ | (refine uP ?_ ?_ <;> (intro h; ((try simp only [zs, ne_eq, and_true, true_and, eq_self, reduceCtorEq] at h); try exact zx))) | fail)
   refine Wi (L' := Uu Ga (Z5 w) :: Qs Da (Z5 w) :: o1 :: L) ?_ (LS.trans (b := (Qs Da (Z5 w) :: Uu Ga (Z5 w) :: o1 :: L : Zb).flatten) uL lsD')
   refine Zn (σ := Nat × WdG × RwG) (fun r => [(0, .slice a w.length cap), (1, .slice al l.length capl), (6, pt Ga.wp 0), (9, pt Da.wp 0), (10, iv r.1)]) (fun r => Uu r.2.1 (Uv (Z5 w) (l.take r.1)) :: Qs r.2.2 (Uv (Z5 w) (l.take r.1)) :: o1 :: L)
    (fun r => r.1 ≤ l.length ∧ WdOk r.2.1 (Uv (Z5 w) (l.take r.1)) ∧ r.2.1.wp = Ga.wp ∧ RwOk r.2.2 (Uv (Z5 w) (l.take r.1)) ∧ RwS Da r.2.2) (fun r => l.length - r.1) (0, Ga, Da) uS (by rw [hn0]; exact List.Sublist.refl _) ⟨by simp, by rw [hn0]; exact hWa, rfl, by rw [hn0]; exact hDa, .refl Da⟩ ?_
   rintro ⟨i, G1, D1⟩ ⟨hi, hW1, e1, hD1, eS⟩
   simp only at hi hW1 e1 hD1 eS ⊢
   have hoki := hok i
   have hti : (l.take i).length = i := by rw [List.length_take]; omega
   have hlen1 := hoki.len
   rw [hti] at hlen1
   by_cases hit : i < l.length
   ·have hs := hsucc i hit
    obtain ⟨bl, il, ll, El, frl, rfl, hbl, hgl⟩ := hRl.at (j := (i : Int)) (by omega) (by omega)
    have ex : l[(i : Int).toNat]'(by omega) = l[i] := rfl
    rw [ex] at hgl
    have hRd : Rd ic 1 (o1 :: L) D1.aw (Uv (Z5 w) (l.take i)).w := by
     rw [eS.aw, ha1, hoki.same.w, hnw]
     exact hR.cons _
    have ks := Zsa T E G1 D1 (Uv (Z5 w) (l.take i)) l[i] (o1 :: L) (hE.cons _) hRd hW1 hD1 hoki.wi (by omega) (fun s hu k j ref hk hsi => Zr2 (hbn i hi) hoki.wi (by omega) s hu k j ref hk hsi)
    have hok2 := hok (i + 1)
    rw [hs] at hok2
    have hti2 : (l.take (i + 1)).length = i + 1 := by rw [List.length_take]; omega
    have hlen2 := hok2.len
    rw [hti2] at hlen2
    have hI2 := hok2.wi
    rw [e1, eS.wp] at ks
    generalize l[i] = x at *
    generalize (Zdu (Uv (Z5 w) (l.take i)) x).1 = M2 at *
    obtain ⟨kd, xs, xd, xn⟩ := x
    repeat' (first | refine uN ?_ | refine uC (kb) ?_ | (refine uP ?_ ?_ <;> (intro h; ((try simp only [zs, ne_eq, and_true, true_and, eq_self, reduceCtorEq] at h); try exact zx))) | fail)
    refine gc ks ?_
    rintro v L' ⟨rfl, G2, D2, f1, f2, hW2, hD2, rfl⟩
    have kas := U8 T E G2 D2 M2 (o1 :: L) (hE.cons _) hW2 hD2 hI2 (by omega)
    rw [f1, e1, f2.wp, eS.wp] at kas
    by_cases h10 : (i : Int) % 10 = 0
    ·repeat' (first | refine uN ?_ | refine uC (kas) ?_ | (refine uP ?_ ?_ <;> (intro h; ((try simp only [zs, ne_eq, and_true, true_and, eq_self, reduceCtorEq] at h); try exact zx))) | fail)
     all_goals refine Zg (i + 1, G2, D2) uS ?_ ⟨by simp only; omega, by simp only [hs]; exact hW2, f1.trans e1, by simp only [hs]; exact hD2, eS.trans f2⟩ (by simp only; omega)
     all_goals simp only [hs]
     all_goals exact LS.refl _
    ·repeat' (first | refine uN ?_ | refine uC (kas) ?_ | (refine uP ?_ ?_ <;> (intro h; ((try simp only [zs, ne_eq, and_true, true_and, eq_self, reduceCtorEq] at h); try exact zx))) | fail)
     all_goals refine Zg (i + 1, G2, D2) uS ?_ ⟨by simp only; omega, by simp only [hs]; exact hW2, f1.trans e1, by simp only [hs]; exact hD2, eS.trans f2⟩ (by simp only; omega)
     all_goals simp only [hs]
     all_goals exact LS.refl _
   ·have kas := U8 T E G1 D1 (Uv (Z5 w) (l.take i)) (o1 :: L) (hE.cons _) hW1 hD1 hoki.wi (by omega)
    rw [e1, eS.wp] at kas
    repeat' (first | refine uN ?_ | refine uC (kas) ?_ | (refine uP ?_ ?_ <;> (intro h; ((try simp only [zs, ne_eq, and_true, true_and, eq_self, reduceCtorEq] at h); try exact zx))) | fail)
    exact Yi (LS.c (LS.c (LS.c (LS.refl _)))) ⟨rfl, rfl⟩
 ·refine Za (fun _ _ => Tryz.call4 _ _) Tryz.func4 rfl Tryz.ntmps4 (Nat.le_of_ble_eq_true rfl) ?_; simp only [Zc, Nat.reduceAdd]
  repeat' (first | refine uN ?_ | refine uC (kb) ?_ | (refine uP ?_ ?_ <;> (intro h; ((try simp only [zs, ne_eq, and_true, true_and, eq_self, reduceCtorEq] at h); try exact zx))) | fail)
  all_goals first | exact Yi (LS.refl _) ⟨rfl, rfl⟩ | (exfalso; omega)
end Go.HL
end
