/- Texts laid into one, without what the claim does not use. Conditions: none. -/
import Derived.Test.YtkookaogdkdegabGreatDoorMSrC
import Derived.Below
import Derived.Shelf.Strings.OnBuilder
import Derived.Shelf.Strings.Repeat
import Derived.Shelf.Strings.Split
import Derived.Shelf.Strconv.Itoa3
import Derived.Shelf.Strconv.AtoiAll
import Derived.Shelf.LaysM
import Derived.Shelf.LaysC
import Derived.Test.YtkookaogdkdegabGreatDoorProg
import Derived.Lib.ItoaLen
/-! WoT -/
section
namespace Go.HL
open Go Go.Proofs
set_option linter.unusedVariables false
set_option linter.unusedSimpArgs false
theorem Zk2 {G G' : WdG} {M M1 : Wm} {s : Int} {g' : NdG} {m' : Nd} (L : Zb) (hl : G.nd.length = M.n.length) (h0 : 0 ≤ s) (h1 : s < M.n.length) (hW : WdOk G' M1) (e1 : G'.nd = G.nd) (e2 : M1.n = M.n) (e3 : G'.wp = G.wp) (hN : NdOk g' m') (e4 : g'.np = (Zg G s).np) :
  ∃ L', Zdl G (Xa M1 s m') L L' ∧ LS L'.flatten (Xh G' s g' m' (X5 G.nd M.n 0 s.toNat) L).flatten := by
 have hnp : g'.np = (Zg G' s).np := by rw [e4]; unfold Zg; rw [e1]
 refine ⟨Ym { G' with nd := G'.nd.set s.toNat g' } (Xa M1 s m') ++ L, ⟨{ G' with nd := G'.nd.set s.toNat g' }, e3, ?_, hW.put h0 (by rw [e2]; exact h1) hN hnp, rfl⟩, ?_⟩
 ·simp only
  rw [← e1]
  exact Zix h0 (by rw [e1]; omega) hnp
 ·simp only [Ym, Xa, e1, e2]
  exact Ze6 (G := G') h0 (by omega) (by omega) L
theorem LS.cutAt {a A x B : List Zn} {L L1 : Zb} (k0 : Nat) (h : LS a (A :: B :: L1).flatten) (hp : Q4 k0 L = some (A ++ (x ++ B), L1) := by exact rfl) : LS a L.flatten := by
 refine LS.trans h (LS.trans ?_ (LS.of_perm (Xv hp).symm.flatten))
 simp only [List.flatten_cons, List.append_assoc]
 exact LS.boths A (LS.skips x (LS.refl _))
theorem Zew (m : Ld) : (Xs m).length ≤ m.w.length := by
 unfold Xs
 split <;> exact Vp _ (Zei m _ _) _
theorem Zf3 {M : Wm} (h : WI M) {s d a : Int} (h0 : 0 ≤ s) (h1 : s < M.n.length) (hd : 0 ≤ d ∧ d < 6) (ha : a ≤ 1048576) : Zaq s d M.w a = none := by
 unfold Zaq
 rw [h.w0]
 have := h.wn
 simp only
 rw [if_neg (by omega)]
theorem busy_any {M : Wm} {d : Int} {i : Nat} (hi : i < M.n.length) (hb : V8 d (Zf M (i : Int)) = true) : M.n.any (V8 d) = true := by
 rw [List.any_eq_true]
 refine ⟨_, ?_, hb⟩
 unfold Zf
 simp only [Int.toNat_natCast]
 rw [List.getD, List.getElem?_eq_getElem hi]
 exact List.getElem_mem _
theorem Zqy {M : Wm} {d : Int} (h : ∀ i, i < M.n.length → V8 d (Zf M (i : Int)) = false) : M.n.any (V8 d) = false := by
 rw [List.any_eq_false]
 intro x hx
 obtain ⟨i, hi, rfl⟩ := List.mem_iff_getElem.1 hx
 have := h i hi
 unfold Zf at this
 simp only [Int.toNat_natCast] at this
 rw [List.getD, List.getElem?_eq_getElem hi] at this
 simp only [Option.getD_some] at this
 rw [this]
 simp
set_option maxHeartbeats 2000000 attribute [local irreducible] HW HO HQ HD HC QOp Has Upd Zp Gets Yf Z8 Zr X3 Z9 Zj Wa Zy
attribute [local irreducible] X2 Zz Yo Z3 Y5 Zv
theorem Zik (T : Nat) (E : Nat → Addr) (G : WdG) (M : Wm) (s d : Int) (L : Zb) (hG : Er T E [2, 3, 4, 6, 8] L) (hW : WdOk G M) (hM : WI M) (hl : M.l.length ≤ 99999999) :
  HC Tryz.prog 36 [pt G.wp 0, iv s, iv d] (Ym G M ++ L) (fun v L' => v = eV T E (Vc M s d).2 ∧ Zdl G (Vc M s d).1 L L') := by
 unfold Vc
 have hself := Wb hW L
 have hI := V6 hW L
 have hwn := hM.wn
 have hwl := hM.wl
 obtain ⟨an, capn, hnv, hnr⟩ := hI.ns
 by_cases h : d < 0 ∨ 6 ≤ d ∨ s < 0 ∨ M.n.length ≤ s
 ·simp only [if_pos h]
  have hG' := Xp hG G M
  have hw := hI.wp
  unfold Ut at hw
  rw [hnv] at hw
  generalize Ym G M ++ L = H at *
  refine Za (fun _ _ => Tryz.call36 _ _) Tryz.func36 rfl Tryz.ntmps36 (Nat.le_of_ble_eq_true rfl) ?_; simp only [Ze, Nat.reduceAdd]
  repeat' (first | refine uN ?_ | refine Yb S ?_ | refine Yv S ?_ | (refine uB ?_; intro b) | refine dg S 100 (fun _ _ => ?_) | (refine uP ?_ ?_ <;> (intro h; ((try simp only [zs, ne_eq, and_true, true_and, eq_self, reduceCtorEq] at h); try exact zx))) | refine da 101 ?_ | fail)
  all_goals exact Qd rfl ⟨rfl, hself⟩
 simp only [if_neg h]
 rcases Zgm (M := M) (s := s) with ⟨e, he⟩ | ⟨he, hn, h0, h1, j, ref, hs⟩
 ·have ku := Zey s hG.sub hW
  have hG' := Xp hG G M
  have hw := hI.wp
  unfold Ut at hw
  rw [hnv] at hw
  generalize Ym G M ++ L = H at *
  simp only [he] at ku ⊢
  refine Za (fun _ _ => Tryz.call36 _ _) Tryz.func36 rfl Tryz.ntmps36 (Nat.le_of_ble_eq_true rfl) ?_; simp only [Ze, Nat.reduceAdd]
  repeat' (first | refine uN ?_ | refine Yb S ?_ | refine Yv S ?_ | refine uC (ku) ?_ | refine Yx (fun _ => ku) ?_ | refine Y0 (fun _ => ku) ?_ | refine Yz (fun _ => ku) ?_ | refine Yy (fun _ => ku) ?_ | (refine uB ?_; intro b) | refine dg S 100 (fun _ _ => ?_) | (refine uP ?_ ?_ <;> (intro h; ((try simp only [zs, ne_eq, and_true, true_and, eq_self, reduceCtorEq] at h); try exact zx))) | refine da 101 ?_ | fail)
  exact Qd rfl ⟨rfl, hself⟩
 ·simp only [he]
  have ku := Zey s hG.sub hW
  have hG' := Xp hG G M
  have hw := hI.wp
  unfold Ut at hw
  rw [hnv] at hw
  generalize hH : Ym G M ++ L = H at *
  simp only [he, Zn1 hn] at ku
  refine Za (fun _ _ => Tryz.call36 _ _) Tryz.func36 rfl Tryz.ntmps36 (Nat.le_of_ble_eq_true rfl) ?_; simp only [Ze, Nat.reduceAdd]
  repeat' (first | refine uN ?_ | refine Yb S ?_ | refine Yv S ?_ | refine uC (ku) ?_ | refine Yx (fun _ => ku) ?_ | refine Y0 (fun _ => ku) ?_ | refine Yz (fun _ => ku) ?_ | refine Yy (fun _ => ku) ?_ | (refine uB ?_; intro b) | refine dg S 100 (fun _ _ => ?_) | (refine uP ?_ ?_ <;> (intro h; ((try simp only [zs, ne_eq, and_true, true_and, eq_self, reduceCtorEq] at h); try exact zx))) | refine da 101 ?_ | fail)
  have hB : ∀ {i : Int} (h0 : 0 ≤ i) (h1 : i < M.n.length) {b : Nat} {o : Obj}, (b, o) ∈ Zfm (Zg G i) i (Zf M i) → Has H b o := fun {i} h0 h1 {b o} hb => by
   have := Zdj hW.ndl h0 h1 hb L
   subst hH
   unfold Has Ym at *
   rw [List.append_assoc, List.flatten_append]
   exact List.mem_append_right _ this
  obtain ⟨dn, rfl⟩ := Int.eq_ofNat_of_zero_le (show 0 ≤ d by omega)
  have hd6 : dn < 6 := by omega
  refine Zx (σ := Nat) (fun i => [(0, pt G.wp 0), (1, iv s), (2, iv dn), (7, pt (Zg G s).np 0), (45, .slice an M.n.length capn), (46, iv M.n.length), (47, iv i)]) (fun _ => H) (fun i => i ≤ M.n.length ∧ ∀ k, k < i → V8 dn (Zf M (k : Int)) = false) (fun i => M.n.length - i) 0 uS (List.Sublist.refl _) ⟨by simp, fun k hk => by omega⟩ ?_
  rintro i ⟨hi, hfree⟩
  by_cases hlt : i < M.n.length
  ·have hBi := fun {b o} => hB (i := (i : Int)) (by omega) (by omega) (b := b) (o := o)
   have hni := U6 hM (s := (i : Int)) (by omega) (by omega)
   have hok := Wr hW (s := (i : Int)) (by omega) (by omega)
   obtain ⟨⟨b, bi, l, F, fr, cap2, e7, hb, hg2⟩, -, -⟩ := Zch hW (s := (i : Int)) (by omega) (by omega) (H := H) (fun b o hb => by
    subst hH
    simp only [Has, Ym, Zcc, List.flatten_cons, List.cons_append, List.nil_append]
    simp [hb])
   rw [hnv] at e7
   obtain ⟨rfl, -, rfl⟩ := Value.slice.inj e7
   have hNi : Has H (Zg G i).np (Qc (Zg G i) (Zf M i)) := hBi (by simp [Zfm, Zab])
   have kst := Zc0 T E G M i dn H hG'.sub hI hW.ndl (fun _ => hNi) (fun _ => ⟨by rw [hni.b512]; omega, by rw [hni.b512]; omega, fun p hp => hBi (by
    unfold Zfm Yo
    simp only [List.mem_cons, List.not_mem_nil, or_false] at hp
    rcases hp with rfl | rfl
    ·simp [plB]
    ·simp [plD])⟩)
   have e1 : Wl M i dn = none := by
    unfold Wl
    rw [nodeE_ok (by omega) (by omega)]
    simp only
    rw [if_neg (by omega)]
   have e2 : Uc M i dn = Zcr (Zf M i).pl dn := by unfold Uc; rw [e1]
   rw [e1, e2] at kst
   have hm1 : (Zf M i).leads[dn]? = some ((Zf M i).leads.getD dn none) := getD_some (by rw [hni.leads]; exact hd6)
   obtain ⟨q, hq⟩ : ∃ q, (Zg G i).ld[dn]? = some q := ⟨_, List.getElem?_eq_getElem (by rw [hok.ld]; exact hd6)⟩
   have hv := Za5 hm1 hq
   have gL := Zam (sv := Zdr (Zg G i) (Zf M i).site) (bp := (Zg G i).bp) (dn := (Zf M i).done) hv
   have hbz : V8 dn (Zf M i) = (decide (Zcr (Zf M i).pl dn ≠ W3) || ((Zf M i).leads.getD dn none).isSome) := rfl
   have hbu := busy_any (M := M) (d := dn) hlt
   unfold Qc at hNi
   generalize hmi : Zf M i = m at *
   generalize Zg G i = g at *
   generalize Zcr m.pl dn = st at *
   obtain ⟨ph, pr, att⟩ := st
   cases hx : m.leads.getD dn none with
   | some x =>
    rw [hx] at gL hbz
    simp only [Zp1] at gL
    have hb1 : V8 dn m = true := by rw [hbz]; simp
    rw [if_pos (hbu hb1)]
    repeat' (first | refine uN ?_ | refine Yb S ?_ | refine Yv S ?_ | refine uC (kst) ?_ | refine Yx (fun _ => kst) ?_ | refine Y0 (fun _ => kst) ?_ | refine Yz (fun _ => kst) ?_ | refine Yy (fun _ => kst) ?_ | (refine uB ?_; intro b) | refine dg S 100 (fun _ _ => ?_) | (refine uP ?_ ?_ <;> (intro h; ((try simp only [zs, ne_eq, and_true, true_and, eq_self, reduceCtorEq] at h); try exact zx))) | refine da 101 ?_ | fail)
    all_goals exact Xm (LS.c (LS.refl _)) ⟨rfl, hself⟩
   | none =>
    rw [hx] at gL hbz
    simp only [Zp1] at gL
    by_cases hz : ph = 0 ∧ pr = 0 ∧ att = 0
    ·obtain ⟨rfl, rfl, rfl⟩ := hz
     have hb0 : V8 dn m = false := by rw [hbz]; rfl
     repeat' (first | refine uN ?_ | refine Yb S ?_ | refine Yv S ?_ | refine uC (kst) ?_ | refine Yx (fun _ => kst) ?_ | refine Y0 (fun _ => kst) ?_ | refine Yz (fun _ => kst) ?_ | refine Yy (fun _ => kst) ?_ | (refine uB ?_; intro b) | refine dg S 100 (fun _ _ => ?_) | (refine uP ?_ ?_ <;> (intro h; ((try simp only [zs, ne_eq, and_true, true_and, eq_self, reduceCtorEq] at h); try exact zx))) | refine da 101 ?_ | fail)
     all_goals refine Z5 (i + 1) uS (LS.c (LS.refl _)) ⟨by omega, fun k hk => ?_⟩ (by omega)
     all_goals by_cases e : k = i
     all_goals first | (subst e; rw [hmi]; exact hb0; done) | exact hfree k (by omega)
    ·have hb1 : V8 dn m = true := by
      rw [hbz, decide_eq_true]
      ·rfl
      ·intro e
       cases e
       exact hz ⟨rfl, rfl, rfl⟩
     rw [if_pos (hbu hb1)]
     repeat' (first | refine uN ?_ | refine Yb S ?_ | refine Yv S ?_ | refine uC (kst) ?_ | refine Yx (fun _ => kst) ?_ | refine Y0 (fun _ => kst) ?_ | refine Yz (fun _ => kst) ?_ | refine Yy (fun _ => kst) ?_ | (refine uB ?_; intro b) | refine dg S 100 (fun _ _ => ?_) | (refine uP ?_ ?_ <;> (intro h; ((try simp only [zs, ne_eq, and_true, true_and, eq_self, reduceCtorEq] at h); try exact zx))) | refine da 101 ?_ | fail)
     all_goals first | exact Xm (LS.c (LS.refl _)) ⟨rfl, hself⟩ | (exfalso; simp_all; done)
  ·obtain rfl : i = M.n.length := by omega
   have hany : M.n.any (V8 (dn : Int)) = false := Zqy hfree
   simp only [hany, Bool.false_eq_true, if_false]
   subst hH
   obtain ⟨aw, capw, hwv, -, hwr⟩ := hW.w.rd Xl
   obtain ⟨al, capl, hlv5, -, hlr⟩ := hW.l.rd Zs
   have hvl := hW.l
   have hok := Wr hW h0 h1
   have hni := U6 hM h0 h1
   have hm1 : (Zf M s).leads[dn]? = some ((Zf M s).leads.getD dn none) := getD_some (by rw [hni.leads]; exact hd6)
   obtain ⟨q, hq⟩ : ∃ q, (Zg G s).ld[dn]? = some q := ⟨_, List.getElem?_eq_getElem (by rw [hok.ld]; exact hd6)⟩
   have hv := Za5 hm1 hq
   obtain ⟨A, B, eA, eB⟩ := Zgc hm1 hq
   have hlE := Zf3 hM (s := s) (d := dn) (a := 0) h0 h1 ⟨by omega, by omega⟩ (by omega)
   have kb := fun L hG hR => Zmk T E s dn aw capw M.w L hG hR (by omega)
   rw [hlE] at kb
   rw [hlv5] at hvl
   have hsl := Zew (Zk s dn M.w 0 2)
   have hslw : (Zk s dn M.w 0 2).w = M.w := rfl
   rw [hslw] at hsl
   have hsh := fun G' M1 g' m' a b c d e f => Zk2 (G := G) (G' := G') (M := M) (M1 := M1) (s := s) (g' := g') (m' := m') L hW.ndl h0 h1 a b c d e f
   have hWL := fun {lv lc l} hv => hW.setL (lv := lv) (lc := lc) (l := l) hv
   have hlv : (Yk (Zg G s) (Zf M s)).length = 6 := by simp [Yk, hni.leads, hok.ld]
   refine Zcu (L' := Xh G s (Zg G s) (Zf M s) (X5 G.nd M.n 0 s.toNat) L) ?_ (Zep hW.ndl h0 h1 L)
   generalize X5 G.nd M.n 0 s.toNat = X at *
   generalize hmm : Zf M s = m at *
   generalize hgg : Zg G s = g at *
   obtain ⟨pl, site, leads, done⟩ := m
   simp only at hs hm1 hlv
   subst hs
   simp only [Xh, Zab, Qc, Zdr, Zhc, Zhj, Zhq, Ut]
   rw [hwv, hnv, hlv5]
   repeat' (first | refine uN ?_ | refine Yb S ?_ | refine Yv S ?_ | refine uC (ku) ?_ | refine Yx (fun _ => ku) ?_ | refine Y0 (fun _ => ku) ?_ | refine Yz (fun _ => ku) ?_ | refine Yy (fun _ => ku) ?_ | (refine uB ?_; intro b) | refine dg S 100 (fun _ _ => ?_) | (refine uP ?_ ?_ <;> (intro h; ((try simp only [zs, ne_eq, and_true, true_and, eq_self, reduceCtorEq] at h); try exact zx))) | refine da 101 ?_ | fail)
   refine Zgt 4 (by exact rfl) (fun _ => qe S) ?_
   refine Zgt 4 (by exact rfl) (fun _ => qe S) ?_
   refine da 101 ?_
   refine gc (kb _ (by repeat (first | exact hG | exact hG.sub | apply Errs.cons)) ?_) ?_
   ·repeat (first | exact hwr _ | apply Rd.cons)
   rintro v L' ⟨lp, wv', wc', rfl, hLd, rfl⟩
   have gP := Zks (sv := pt g.sp 0) (bp := g.bp) (lv := Yk g ⟨pl, some (j, ref), leads, done⟩) (dn := done) (d := dn) (pt lp 0) (by omega)
   have gL2 := Zam (sv := pt g.sp 0) (bp := g.bp) (lv := (Yk g ⟨pl, some (j, ref), leads, done⟩).set dn (pt lp 0)) (dn := done) (d := dn) (v := pt lp 0) (by simp [hlv, hd6])
   have kst := fun L => Zdw lp wv' wc' (Zk s dn M.w 0 2) L hLd
   repeat' (first | refine uN ?_ | refine Yb S ?_ | refine Yv S ?_ | refine uC (ku) ?_ | refine Yx (fun _ => ku) ?_ | refine Y0 (fun _ => ku) ?_ | refine Yz (fun _ => ku) ?_ | refine Yy (fun _ => ku) ?_ | (refine uB ?_; intro b) | refine dg S 100 (fun _ _ => ?_) | (refine uP ?_ ?_ <;> (intro h; ((try simp only [zs, ne_eq, and_true, true_and, eq_self, reduceCtorEq] at h); try exact zx))) | refine da 101 ?_ | fail)
   refine gc (kst _) ?_
   rintro v L' ⟨c2, hv2, rfl⟩
   obtain ⟨a7, cap7, rfl, -, hR7⟩ := hv2.rd Zs
   repeat' (first | refine uN ?_ | refine Yb S ?_ | refine Yv S ?_ | refine uC (ku) ?_ | refine Yx (fun _ => ku) ?_ | refine Y0 (fun _ => ku) ?_ | refine Yz (fun _ => ku) ?_ | refine Yy (fun _ => ku) ?_ | (refine uB ?_; intro b) | refine dg S 100 (fun _ _ => ?_) | (refine uP ?_ ?_ <;> (intro h; ((try simp only [zs, ne_eq, and_true, true_and, eq_self, reduceCtorEq] at h); try exact zx))) | refine da 101 ?_ | fail)
   refine fo 10 ?_
   refine wpA S hvl (Rd.cons (hR7 _) _) Zs Uz ?_ (hby := by omega) (hmax := by omega)
   intro v'' c'' hv''
   obtain ⟨a8, cap8, rfl, -, -⟩ := hv''.rd Zs
   repeat' (first | refine uN ?_ | refine Yb S ?_ | refine Yv S ?_ | refine uC (ku) ?_ | refine Yx (fun _ => ku) ?_ | refine Y0 (fun _ => ku) ?_ | refine Yz (fun _ => ku) ?_ | refine Yy (fun _ => ku) ?_ | (refine uB ?_; intro b) | refine dg S 100 (fun _ _ => ?_) | (refine uP ?_ ?_ <;> (intro h; ((try simp only [zs, ne_eq, and_true, true_and, eq_self, reduceCtorEq] at h); try exact zx))) | refine da 101 ?_ | fail)
   obtain ⟨L2, hw2, hls2⟩ := hsh { G with lv := .slice a8 (M.l ++ Xs (Zk s dn M.w 0 2)).length cap8, lc := c'' } { M with l := M.l ++ Xs (Zk s dn M.w 0 2) } { g with ld := g.ld.set dn (lp, wv', wc') } ⟨pl, some (j, ref), leads.set dn (some (Zk s dn M.w 0 2)), done⟩
    (hW.setL hv'') rfl rfl rfl (hok.lead (q := (lp, wv', wc')) hLd) rfl
   refine Xm (LS.trans hls2 ?_) ⟨rfl, hw2⟩
   have eB2 := eB (some (Zk s dn M.w 0 2)) (lp, wv', wc') ⟨pl, some (j, ref), leads.set dn (some (Zk s dn M.w 0 2)), done⟩ { g with ld := g.ld.set dn (lp, wv', wc') } rfl rfl
   have eV2 := Zfo (g := g) (g' := { g with ld := g.ld.set dn (lp, wv', wc') }) (m := ⟨pl, some (j, ref), leads, done⟩) (m' := ⟨pl, some (j, ref), leads.set dn (some (Zk s dn M.w 0 2)), done⟩) (o' := some (Zk s dn M.w 0 2)) (q' := (lp, wv', wc')) rfl rfl
   simp only [Xh, Zab, Qc, Zdr, Zhc, Zhj, Zhq, Ut, eV2]
   rw [eB2, eA, hwv, hnv]
   simp only [ldB, Vr, Zp1]
   refine LS.trans ls7 (LS.cutAt 10 ?_)
   exact uL
end Go.HL
end

/-! WoU -/
section
namespace Go.HL
open Go Go.Proofs
set_option linter.unusedVariables false
set_option linter.unusedSimpArgs false
theorem att_step {k s a j : Int} (hk : 0 < k) (hs0 : 0 ≤ s) (hs1 : s < k) (hj0 : 0 ≤ j) (hj : j ≤ (s - a) % k) : ((a + j) % k = s ↔ j = (s - a) % k) := by
 have hr0 := Int.emod_nonneg (s - a) (by omega : k ≠ 0)
 have hr1 := Int.emod_lt_of_pos (s - a) hk
 have e1 := Int.emod_add_mul_ediv (s - a) k
 have e2 := Int.emod_add_mul_ediv (a + j) k
 have h0 := Int.emod_nonneg (a + j) (by omega : k ≠ 0)
 have h1 := Int.emod_lt_of_pos (a + j) hk
 generalize (s - a) % k = r at *
 generalize (a + j) % k = t at *
 generalize (s - a) / k = u at *
 generalize (a + j) / k = v at *
 -- s - a = r + k u, a + j = t + k v
 have e3 : s - t = (r - j) + k * (u + v) := by rw [Int.mul_add]; omega
 constructor
 ·intro h
  subst h
  have : (r - j) = - (k * (u + v)) := by omega
  have hz : u + v = 0 := by
   rcases Int.lt_trichotomy (u + v) 0 with h | h | h
   ·have : k * (u + v) ≤ k * (-1) := Int.mul_le_mul_of_nonneg_left (by omega) (by omega)
    omega
   ·exact h
   ·have : k * 1 ≤ k * (u + v) := Int.mul_le_mul_of_nonneg_left (by omega) (by omega)
    omega
  rw [hz] at this
  omega
 ·intro h
  subst h
  have hz : u + v = 0 := by
   rcases Int.lt_trichotomy (u + v) 0 with h | h | h
   ·have : k * (u + v) ≤ k * (-1) := Int.mul_le_mul_of_nonneg_left (by omega) (by omega)
    omega
   ·exact h
   ·have : k * 1 ≤ k * (u + v) := Int.mul_le_mul_of_nonneg_left (by omega) (by omega)
    omega
  rw [hz] at e3
  omega
theorem Zk5 (x : Ld) (l : List Fr) (i : Nat) (h : i < l.length) : Z7 x (l.take (i + 1)) = ((Yc (Z7 x (l.take i)).1 l[i]).1, (Z7 x (l.take i)).2 ++ (Yc (Z7 x (l.take i)).1 l[i]).2) := by
 unfold Z7
 rw [List.take_add_one, List.getElem?_eq_getElem h, Option.toList_some, List.foldl_append]
 rfl
set_option maxHeartbeats 2000000 attribute [local irreducible] HW HO HQ HD HC QOp Has Upd Zp Gets Yf Z8 Zr X3 Z9 Zj Wa Zy
attribute [local irreducible] X2 Zz Yo Z3 Y5 Zv
theorem Zom (T : Nat) (E : Nat → Addr) (G : WdG) (M : Wm) (s d p : Int) (L : Zb) (hG : Er T E [2, 3, 4, 5, 6] L) (hW : WdOk G M) (hM : WI M) (hl : M.l.length ≤ 99999900) (h0 : 0 ≤ s) (h1 : s < M.n.length) (hs : (Zf M s).site ≠ none) (hd : 0 ≤ d ∧ d < 6) (hp : 0 ≤ p ∧ p ≤ 1048576) :
  HC Tryz.prog 98 [pt G.wp 0, iv s, iv d, iv p] (Ym G M ++ L) (fun v L' => v = .bool (Zbg M s d p).2 ∧ Zdl G (Zbg M s d p).1 L L') := by
 have hself := Wb hW L
 have hI := V6 hW L
 have hwn := hM.wn
 have hwl := hM.wl
 have hw1 := hM.w1
 have hG' := Xp hG G M
 have hw := hI.wp
 obtain ⟨⟨nb, ni, nl, nF, nfr, ncap, hnv, hnb, hng⟩, -, -⟩ := Zch hW h0 h1 (H := Ym G M ++ L) (fun b o hb => by
  simp only [Has, Ym, Zcc, List.flatten_cons, List.cons_append, List.nil_append]
  simp [hb])
 obtain ⟨aw, capw, hwv, -, hwr⟩ := hW.w.rd Xl
 unfold Ut at hw
 rw [hnv, hwv] at hw
 have hok := Wr hW h0 h1
 have hni := U6 hM h0 h1
 obtain ⟨dn, rfl⟩ := Int.eq_ofNat_of_zero_le hd.1
 have hd6 : dn < 6 := by omega
 have hm1 : (Zf M s).leads[dn]? = some ((Zf M s).leads.getD dn none) := getD_some (by rw [hni.leads]; exact hd6)
 obtain ⟨q, hq⟩ : ∃ q, (Zg G s).ld[dn]? = some q := ⟨_, List.getElem?_eq_getElem (by rw [hok.ld]; exact hd6)⟩
 have hv := Za5 hm1 hq
 have gL := Zam (sv := Zdr (Zg G s) (Zf M s).site) (bp := (Zg G s).bp) (dn := (Zf M s).done) hv
 have hN := Ql hW.ndl h0 h1 L
 have hB : ∀ {b : Nat} {o : Obj}, (b, o) ∈ Zfm (Zg G s) s (Zf M s) → Has (Ym G M ++ L) b o := fun {b o} hb => by
  have := Zdj hW.ndl h0 h1 hb L
  unfold Has Ym at *
  rw [List.append_assoc, List.flatten_append]
  exact List.mem_append_right _ this
 have kse : ∀ x, (Zf M s).leads[dn]? = some (some x) → HC Tryz.prog 133 [pt q.1 0] (Ym G M ++ L) (fun v L' => v = iv x.seen ∧ L' = (Ym G M ++ L)) := fun x hx => lseenH q.1 q.2.1 x _ (hni.ldi dn x hx).told (hB (by
  unfold Zfm
  exact List.mem_append_right _ (Zj2 hx hq (by simp [Vr]))))
 have hab : 0 ≤ Y1 (Zf M s) dn p ∧ Y1 (Zf M s) dn p ≤ 1048576 := by
  unfold Y1
  split
  ·exact hp
  ·rename_i x hx
   have := hni.ldi dn x (by rw [hm1]; simp only [Int.toNat_natCast] at hx; rw [hx])
   have h1 := this.seen0
   have h2 := this.seen1
   omega
 have hr0 := Int.emod_nonneg (s - (Y1 (Zf M s) dn p + 1)) (by omega : (M.w.length : Int) ≠ 0)
 have hr1 := Int.emod_lt_of_pos (s - (Y1 (Zf M s) dn p + 1)) (by omega : (0 : Int) < M.w.length)
 unfold Qc at hN
 generalize hH : Ym G M ++ L = H at *
 unfold Zbg Zby
 have habv : Y1 (Zf M s) dn p = match (Zf M s).leads.getD dn none with
  | none => p
  | some x => max p x.seen := rfl
 generalize hab2 : Y1 (Zf M s) dn p = ab at *
 refine Za (fun _ _ => Tryz.call98 _ _) Tryz.func98 rfl Tryz.ntmps98 (Nat.le_of_ble_eq_true rfl) ?_; simp only [Ze, Nat.reduceAdd]
 apply once_w (ι := Int) (fun a => a = ab) (fun a => [(0, pt G.wp 0), (1, iv s), (2, iv dn), (9, pt (Zg G s).np 0), (12, iv M.w.length), (13, iv (a + 1))]) (fun _ => H)
 ·intro key
  cases hx : (Zf M s).leads.getD dn none with
  | none =>
   rw [hx] at gL habv
   simp only [Zp1] at gL habv
   repeat' (first | refine uN ?_ | refine Yb S ?_ | refine Yv S ?_ | refine uC (kse _ hx) ?_ | refine Yx (fun _ => kse _ hx) ?_ | refine Y0 (fun _ => kse _ hx) ?_ | refine Yz (fun _ => kse _ hx) ?_ | refine Yy (fun _ => kse _ hx) ?_ | (refine uB ?_; intro b) | (refine uP ?_ ?_ <;> (intro h; ((try simp only [zs, ne_eq, and_true, true_and, eq_self, reduceCtorEq] at h); try exact zx))) | refine da 101 ?_ | fail)
   exact Zcu (hw_sub (key _ habv.symm) uS) (LS.refl _)
  | some x =>
   rw [hx] at gL habv hm1
   simp only [Zp1] at gL habv
   have kse2 := kse x hm1
   repeat' (first | refine uN ?_ | refine Yb S ?_ | refine Yv S ?_ | refine uC (kse2) ?_ | refine Yx (fun _ => kse2) ?_ | refine Y0 (fun _ => kse2) ?_ | refine Yz (fun _ => kse2) ?_ | refine Yy (fun _ => kse2) ?_ | (refine uB ?_; intro b) | (refine uP ?_ ?_ <;> (intro h; ((try simp only [zs, ne_eq, and_true, true_and, eq_self, reduceCtorEq] at h); try exact zx))) | refine da 101 ?_ | fail)
   exact Zcu (hw_sub (key _ habv.symm) uS) (LS.refl _)
 rintro ab' rfl
 refine Zx (σ := Int) (fun x => [(0, pt G.wp 0), (1, iv s), (2, iv dn), (9, pt (Zg G s).np 0), (12, iv M.w.length), (13, iv x)]) (fun _ => H) (fun x => ∃ j : Nat, x = ab' + 1 + j ∧ (j : Int) ≤ (s - (ab' + 1)) % M.w.length) (fun x => (ab' + 1 + (s - (ab' + 1)) % M.w.length - x).toNat) (ab' + 1) uS (List.Sublist.refl _) ⟨0, by simp, hr0⟩ ?_
 rintro x ⟨j, rfl, hj⟩
 have hst := att_step (k := M.w.length) (s := s) (a := ab' + 1) (j := j) (by omega) h0 (by omega) (by omega) hj
 by_cases hlt : (j : Int) = (s - (ab' + 1)) % M.w.length
 ·rw [← hlt]
  have hst2 := hst.2 hlt
  have kH := fun x => Zce T E G M s (Zai s dn x) L hG.sub hW hM h0 h1 hs
  have hRI := fun x => hM.hear (f := Zai s dn x) h0 h1 (by show s < _; omega)
  have hRl := fun x => Zhk M s (Zai s dn x)
  have hRw : ∀ x, (Y4 M s (Zai s dn x)).1.w = M.w := fun x => rfl
  have hRL : ∀ x, (Y4 M s (Zai s dn x)).1.l = M.l := fun x => rfl
  have hRn : ∀ x, (Y4 M s (Zai s dn x)).1.n.length = M.n.length := fun x => by
   exact (hRI x).1.wn.trans ((congrArg List.length (hRw x)).trans hwn.symm)
  subst hH
  clear hst kse hB hnb
  have ha1 : 1 ≤ ab' + 1 + j := by omega
  have ha2 : ab' + 1 + j ≤ 1048590 := by omega
  have ha3 : 0 ≤ ab' + 1 + (j : Int) := by omega
  clear hj
  generalize ab' + 1 + (j : Int) = a at *
  specialize kH a
  specialize hRI a
  specialize hRl a
  specialize hRw a
  specialize hRL a
  specialize hRn a
  generalize Y4 M s (Zai s dn a) = R at *
  obtain ⟨M2, told, ok⟩ := R
  simp only at kH hRI hRl hRw hRL hRn ⊢
  obtain ⟨hM2, hfo⟩ := hRI
  repeat' (first | refine uN ?_ | refine Yb S ?_ | refine Yv S ?_ | refine uC (hab) ?_ | refine Yx (fun _ => hab) ?_ | refine Y0 (fun _ => hab) ?_ | refine Yz (fun _ => hab) ?_ | refine Yy (fun _ => hab) ?_ | (refine uB ?_; intro b) | (refine uP ?_ ?_ <;> (intro h; ((try simp only [zs, ne_eq, and_true, true_and, eq_self, reduceCtorEq] at h); try exact zx))) | refine da 101 ?_ | fail)
  ·rw [if_pos h]
   exact Xm (LS.refl _) ⟨rfl, hself⟩
  all_goals rw [if_neg h]
  all_goals refine gc kH ?_
  all_goals rintro v L' ⟨c, ⟨fv, hfv, rfl⟩, G2, e1, e2, hW2, rfl⟩
  all_goals obtain ⟨af, capf, rfl, -, hRf⟩ := hfv.rd Zs
  all_goals cases ok with
  | false =>
   simp only [if_true]
   repeat' (first | refine uN ?_ | refine Yb S ?_ | refine Yv S ?_ | refine uC (hab) ?_ | refine Yx (fun _ => hab) ?_ | refine Y0 (fun _ => hab) ?_ | refine Yz (fun _ => hab) ?_ | refine Yy (fun _ => hab) ?_ | (refine uB ?_; intro b) | (refine uP ?_ ?_ <;> (intro h; ((try simp only [zs, ne_eq, and_true, true_and, eq_self, reduceCtorEq] at h); try exact zx))) | refine da 101 ?_ | fail)
   refine Xm (L' := Ym G2 M2 ++ L) ?_ ⟨rfl, G2, e1, e2, hW2, rfl⟩
   simp only [List.flatten_append, List.flatten_cons]
   exact LS.boths _ (LS.skips _ (LS.refl _))
  | true =>
   simp only [Bool.true_eq_false, if_false]
   have h1' : s < M2.n.length := by rw [hRn]; exact h1
   have hl2 := hW2.ndl
   have hnp2 := Zpx e2 h0 (by rw [hW.ndl]; exact h1)
   have hok2 := Wr hW2 h0 h1'
   have hni2 := U6 hM2 h0 h1'
   have hw22 := hW2.w
   rw [hRw] at hw22
   obtain ⟨aw2, capw2, hwv2, -, hwr2⟩ := hw22.rd Xl
   obtain ⟨al2, capl2, hlv2, -, -⟩ := hW2.l.rd Zs
   have hvl := hW2.l
   rw [hlv2] at hvl
   have hm2 : (Zf M2 s).leads[dn]? = some ((Zf M2 s).leads.getD dn none) := getD_some (by rw [hni2.leads]; exact hd6)
   obtain ⟨q2, hq2⟩ : ∃ q2, (Zg G2 s).ld[dn]? = some q2 := ⟨_, List.getElem?_eq_getElem (by rw [hok2.ld]; exact hd6)⟩
   have hv2 := Za5 hm2 hq2
   obtain ⟨A, B, eA, eB⟩ := Zgc hm2 hq2
   have htE : tryE s dn M.w a = none := by
    unfold tryE
    rw [Zf3 hM h0 h1 hd (by omega)]
    simp only
    rw [if_neg (by omega)]
   have kt := fun L hG hR => Zrx T E s dn aw2 capw2 M.w a L hG hR (by omega)
   rw [htE] at kt
   have hNI : LdI M.w s.toNat dn (Zk s dn M.w a 4) := by
    have := Zih (w := M.w) (s := s.toNat) (d := dn) (a := a) (k := 4) (by omega) (by omega)
    rw [show ((s.toNat : Nat) : Int) = s by omega] at this
    exact this
   have hsl := Zew (Zk s dn M.w a 4)
   have hslw : (Zk s dn M.w a 4).w = M.w := rfl
   rw [hslw] at hsl
   have hsh := fun G' M1 g' m' a b c d e f => Zk2 (G := G2) (G' := G') (M := M2) (M1 := M1) (s := s) (g' := g') (m' := m') L hl2 h0 h1' a b c d e f
   have hlvs : (Yk (Zg G2 s) (Zf M2 s)).length = 6 := by simp [Yk, hni2.leads, hok2.ld]
   refine Zcf (L' := Xh G2 s (Zg G2 s) (Zf M2 s) (X5 G2.nd M2.n 0 s.toNat) (c :: L)) ?_ (Zep hl2 h0 h1' _)
   simp only [← hnp2]
   have hGP : ∀ L L', Zdl G2 { Xa M2 s { Zf M2 s with leads := (Zf M2 s).leads.set dn (some (Z7 (Zk s dn M.w a 4) told).1) } with l := M2.l ++ Xs (Zk s dn M.w a 4) ++ (Z7 (Zk s dn M.w a 4) told).2 } L L' →
     Zdl G { Xa M2 s { Zf M2 s with leads := (Zf M2 s).leads.set dn (some (Z7 (Zk s dn M.w a 4) told).1) } with l := M2.l ++ Xs (Zk s dn M.w a 4) ++ (Z7 (Zk s dn M.w a 4) told).2 } L L' := fun L L' h => by
    obtain ⟨G3, f1, f2, f3, f4⟩ := h
    exact ⟨G3, f1.trans e1, f2.trans e2, f3, f4⟩
   generalize X5 G2.nd M2.n 0 s.toNat = X at *
   generalize hmm : Zf M2 s = m at *
   generalize hgg : Zg G2 s = g at *
   simp only [Xh, Zab, Qc, Ut, e1]
   rw [hwv2, hlv2]
   repeat' (first | refine uN ?_ | refine Yb S ?_ | refine Yv S ?_ | refine uC (hab) ?_ | refine Yx (fun _ => hab) ?_ | refine Y0 (fun _ => hab) ?_ | refine Yz (fun _ => hab) ?_ | refine Yy (fun _ => hab) ?_ | (refine uB ?_; intro b) | (refine uP ?_ ?_ <;> (intro h; ((try simp only [zs, ne_eq, and_true, true_and, eq_self, reduceCtorEq] at h); try exact zx))) | refine da 101 ?_ | fail)
   refine gc (kt _ (by repeat (first | exact hG | exact hG.sub | apply Errs.cons)) ?_) ?_
   ·repeat (first | exact hwr2 _ | apply Rd.cons)
   rintro v L' ⟨lp, wv', wc', rfl, hLd, rfl⟩
   have gP := Zks (sv := Zdr g m.site) (bp := g.bp) (lv := Yk g m) (dn := m.done) (d := dn) (pt lp 0) (by omega)
   have kst := fun L => Zdw lp wv' wc' (Zk s dn M.w a 4) L hLd
   repeat' (first | refine uN ?_ | refine Yb S ?_ | refine Yv S ?_ | refine uC (hab) ?_ | refine Yx (fun _ => hab) ?_ | refine Y0 (fun _ => hab) ?_ | refine Yz (fun _ => hab) ?_ | refine Yy (fun _ => hab) ?_ | (refine uB ?_; intro b) | (refine uP ?_ ?_ <;> (intro h; ((try simp only [zs, ne_eq, and_true, true_and, eq_self, reduceCtorEq] at h); try exact zx))) | refine da 101 ?_ | fail)
   refine gc (kst _) ?_
   rintro v L' ⟨c2, hv2, rfl⟩
   obtain ⟨a7, cap7, rfl, -, hR7⟩ := hv2.rd Zs
   repeat' (first | refine uN ?_ | refine Yb S ?_ | refine Yv S ?_ | refine uC (hab) ?_ | refine Yx (fun _ => hab) ?_ | refine Y0 (fun _ => hab) ?_ | refine Yz (fun _ => hab) ?_ | refine Yy (fun _ => hab) ?_ | (refine uB ?_; intro b) | (refine uP ?_ ?_ <;> (intro h; ((try simp only [zs, ne_eq, and_true, true_and, eq_self, reduceCtorEq] at h); try exact zx))) | refine da 101 ?_ | fail)
   refine fo 10 ?_
   refine wpA S hvl (Rd.cons (hR7 _) _) Zs Uz ?_ (hby := by rw [hRL]; omega) (hmax := by rw [hRL]; omega)
   intro v'' c'' hv''
   obtain ⟨a8, cap8, rfl, -, -⟩ := hv''.rd Zs
   repeat' (first | refine uN ?_ | refine Yb S ?_ | refine Yv S ?_ | refine uC (hab) ?_ | refine Yx (fun _ => hab) ?_ | refine Y0 (fun _ => hab) ?_ | refine Yz (fun _ => hab) ?_ | refine Yy (fun _ => hab) ?_ | (refine uB ?_; intro b) | (refine uP ?_ ?_ <;> (intro h; ((try simp only [zs, ne_eq, and_true, true_and, eq_self, reduceCtorEq] at h); try exact zx))) | refine da 101 ?_ | fail)
   have hho := fun i => Zde (w := M.w) (s := s.toNat) (d := dn) (by omega) hwl hd6 (told.take i) (Zk s dn M.w a 4) [] hNI (fun f hf => hfo f (List.mem_of_mem_take hf)) (fun f hf => by cases hf)
   change ∀ i, LdI M.w s.toNat dn (Z7 (Zk s dn M.w a 4) (told.take i)).1 ∧ ∀ f ∈ (Z7 (Zk s dn M.w a 4) (told.take i)).2, Zfr M.w.length f at hho
   refine Zx (σ := Nat × Value × List Zn) (fun r => [(0, pt G.wp 0), (16, pt lp 0), (96, .slice af told.length capf), (97, iv told.length), (98, iv r.1)])
    (fun r => r.2.2 :: Vr lp wv' wc' (Z7 (Zk s dn M.w a 4) (told.take r.1)).1 :: [(G.wp, .cells ⟨[.slice aw2 M.w.length capw2, G2.nv, .map (some G2.mb), r.2.1, G2.ev]⟩ 87)] :: G2.ec :: [(g.np, .cells ⟨X2 (Zdr g m.site) g.bp ((Yk g m).set dn (pt lp 0)) m.done⟩ 99)] :: Zhc g s m.site :: Zhj g m.site :: Yo g.bp g.ba m.pl :: Zhq g m.site :: Qe g m :: G2.wc :: G2.nc :: [(G2.mb, .map ⟨G2.es⟩ G2.ck)] :: X :: c :: L)
    (fun r => r.1 ≤ told.length ∧ (Z7 (Zk s dn M.w a 4) (told.take r.1)).2.length ≤ 7 * r.1 ∧ Xq r.2.1 (M2.l ++ Xs (Zk s dn M.w a 4) ++ (Z7 (Zk s dn M.w a 4) (told.take r.1)).2) r.2.2) (fun r => told.length - r.1) (0, .slice a8 (M2.l ++ Xs (Zk s dn M.w a 4)).length cap8, c'') uS (by refine List.Sublist.cons_cons _ (List.Sublist.cons _ (List.Sublist.refl _))) ⟨by simp, by simp [Z7], by simpa [Z7] using hv''⟩ ?_
   rintro ⟨i, lv3, lc3⟩ ⟨hi, hlen, hv3⟩
   simp only at hi hlen hv3 ⊢
   obtain ⟨hI3, hF3⟩ := hho i
   have hlast : i = told.length → Z7 (Zk s dn M.w a 4) (told.take i) = Z7 (Zk s dn M.w a 4) told := fun e => by rw [e, List.take_length]
   have hsucc := fun h => Zk5 (Zk s dn M.w a 4) told i h
   have hLO3 : LdOk wv' wc' (Z7 (Zk s dn M.w a 4) (told.take i)).1 := hLd.of hI3.ww (by rw [hI3.told]; rfl)
   have hhd3 : (Z7 (Zk s dn M.w a 4) (told.take i)).1.heard < 2 ^ (Z7 (Zk s dn M.w a 4) (told.take i)).1.w.length := by rw [hI3.ww]; exact hI3.heard
   obtain ⟨al3, capl3, hlv3, -, -⟩ := hv3.rd Zs
   subst hlv3
   by_cases hit : i < told.length
   ·specialize hsucc hit
    have hq := hho (i + 1)
    have hl3 := Zcn (Z7 (Zk s dn M.w a 4) (told.take i)).1 told[i]
    rw [hI3.ww] at hl3
    rw [hsucc] at hq
    have kh := fun L hG => Zfi T E lp wv' wc' (Z7 (Zk s dn M.w a 4) (told.take i)).1 told[i] L hG hLO3 hhd3
    obtain ⟨b5, i5, l5, F5, fr5, e6, hb5, hg5⟩ := (hRf L).at (j := (i : Int)) (by omega) (by omega)
    subst e6
    have hgi : told[(i : Int).toNat]'(by omega) = told[i] := rfl
    rw [hgi] at hg5
    clear hlast hI3 hF3 hho
    generalize Z7 (Zk s dn M.w a 4) (told.take i) = Q at *
    obtain ⟨x3, fs3⟩ := Q
    simp only at hlen hv3 hLO3 hhd3 hl3 kh hsucc ⊢
    generalize told[i] = f at *
    obtain ⟨ffr, fto, fdl, fkd, fatt, fys, fs⟩ := f
    repeat' (first | refine uN ?_ | refine Yb S ?_ | refine Yv S ?_ | refine uC (hab) ?_ | refine Yx (fun _ => hab) ?_ | refine Y0 (fun _ => hab) ?_ | refine Yz (fun _ => hab) ?_ | refine Yy (fun _ => hab) ?_ | (refine uB ?_; intro b) | (refine uP ?_ ?_ <;> (intro h; ((try simp only [zs, ne_eq, and_true, true_and, eq_self, reduceCtorEq] at h); try exact zx))) | refine da 101 ?_ | fail)
    refine fo 2 ?_
    refine gc (kh _ (by repeat (first | exact hG | exact hG.sub | apply Errs.cons))) ?_
    rintro v L' ⟨c4, hv4, rfl⟩
    obtain ⟨a9, cap9, rfl, -, hR9⟩ := hv4.rd Zs
    repeat' (first | refine uN ?_ | refine Yb S ?_ | refine Yv S ?_ | refine uC (hab) ?_ | refine Yx (fun _ => hab) ?_ | refine Y0 (fun _ => hab) ?_ | refine Yz (fun _ => hab) ?_ | refine Yy (fun _ => hab) ?_ | (refine uB ?_; intro b) | (refine uP ?_ ?_ <;> (intro h; ((try simp only [zs, ne_eq, and_true, true_and, eq_self, reduceCtorEq] at h); try exact zx))) | refine da 101 ?_ | fail)
    refine fo 3 ?_
    refine wpA S hv3 (Rd.cons (hR9 _) _) Zs Uz ?_ (hby := by simp only [List.length_append, hRL]; omega) (hmax := by simp only [List.length_append, hRL]; omega)
    intro v5 c5 hv5
    obtain ⟨a10, cap10, rfl, -, -⟩ := hv5.rd Zs
    repeat' (first | refine uN ?_ | refine Yb S ?_ | refine Yv S ?_ | refine uC (hab) ?_ | refine Yx (fun _ => hab) ?_ | refine Y0 (fun _ => hab) ?_ | refine Yz (fun _ => hab) ?_ | refine Yy (fun _ => hab) ?_ | (refine uB ?_; intro b) | (refine uP ?_ ?_ <;> (intro h; ((try simp only [zs, ne_eq, and_true, true_and, eq_self, reduceCtorEq] at h); try exact zx))) | refine da 101 ?_ | fail)
    refine Z5 (i + 1, .slice a10 (M2.l ++ Xs (Zk s dn M.w a 4) ++ fs3 ++ (Yc x3 ⟨ffr, fto, fdl, fkd, fatt, fys, fs⟩).2).length cap10, c5) uS ?_ ⟨by simp only; omega, ?_, ?_⟩ (by simp only; omega)
    ·simp only [hsucc, Vr]
     exact uL
    ·simp only [hsucc, List.length_append]
     omega
    ·simp only [hsucc]
     rw [← List.append_assoc]
     exact hv5
   ·obtain rfl : i = told.length := by omega
    rw [hlast rfl] at hv3 hI3 ⊢
    have hLO4 := hlast rfl ▸ hLO3
    repeat' (first | refine uN ?_ | refine Yb S ?_ | refine Yv S ?_ | refine uC (hab) ?_ | refine Yx (fun _ => hab) ?_ | refine Y0 (fun _ => hab) ?_ | refine Yz (fun _ => hab) ?_ | refine Yy (fun _ => hab) ?_ | (refine uB ?_; intro b) | (refine uP ?_ ?_ <;> (intro h; ((try simp only [zs, ne_eq, and_true, true_and, eq_self, reduceCtorEq] at h); try exact zx))) | refine da 101 ?_ | fail)
    obtain ⟨L2, hw2, hls2⟩ := hsh { G2 with lv := .slice al3 (M2.l ++ Xs (Zk s dn M.w a 4) ++ (Z7 (Zk s dn M.w a 4) told).2).length capl3, lc := lc3 } { M2 with l := M2.l ++ Xs (Zk s dn M.w a 4) ++ (Z7 (Zk s dn M.w a 4) told).2 } { g with ld := g.ld.set dn (lp, wv', wc') } { m with leads := m.leads.set dn (some (Z7 (Zk s dn M.w a 4) told).1) }
     (hW2.setL hv3) rfl rfl rfl (hok2.lead (q := (lp, wv', wc')) hLO4) rfl
    refine Xm (LS.trans hls2 ?_) ⟨rfl, hGP _ _ hw2⟩
    have eB2 := eB (some (Z7 (Zk s dn M.w a 4) told).1) (lp, wv', wc') { m with leads := m.leads.set dn (some (Z7 (Zk s dn M.w a 4) told).1) } { g with ld := g.ld.set dn (lp, wv', wc') } rfl rfl
    have eV2 := Zfo (g := g) (g' := { g with ld := g.ld.set dn (lp, wv', wc') }) (m := m) (m' := { m with leads := m.leads.set dn (some (Z7 (Zk s dn M.w a 4) told).1) }) (o' := some (Z7 (Zk s dn M.w a 4) told).1) (q' := (lp, wv', wc')) rfl rfl
    simp only [Xh, Zab, Qc, Ut, eV2]
    rw [eB2, eA, hwv2, e1]
    simp only [ldB, Vr, Zp1]
    refine LS.trans ls7 (LS.cutAt 9 ?_)
    exact uL
 ·have hst2 : ¬ (ab' + 1 + j) % M.w.length = s := fun h => hlt (hst.1 h)
  repeat' (first | refine uN ?_ | refine Yb S ?_ | refine Yv S ?_ | refine uC (hab) ?_ | refine Yx (fun _ => hab) ?_ | refine Y0 (fun _ => hab) ?_ | refine Yz (fun _ => hab) ?_ | refine Yy (fun _ => hab) ?_ | (refine uB ?_; intro b) | (refine uP ?_ ?_ <;> (intro h; ((try simp only [zs, ne_eq, and_true, true_and, eq_self, reduceCtorEq] at h); try exact zx))) | refine da 101 ?_ | fail)
  refine Z5 (ab' + 1 + (j : Int) + 1) uS (LS.refl _) ⟨j + 1, by push_cast; omega, by push_cast; omega⟩ (by omega)
end Go.HL
end

/-! StE -/
section
namespace Go.HL
open Go Go.Proofs
set_option linter.unusedVariables false
set_option linter.unusedSimpArgs false
theorem si_new {n : Nat} (h : 216 ≤ n) (h2 : n ≤ 1000000) : SI ⟨Z2 n, false, -1⟩ ⟨Zv (Z2 n), false⟩ := by
 refine ⟨⟨by simpa [Z2] using h, by simpa [Z2] using h2, by simp, by simp, rfl, rfl⟩, fun d hd => ?_⟩
 have : Y2 ⟨Zv (Z2 n), false⟩ d = W3 := by
  unfold Y2
  rw [Zn4 h]
  show ((List.replicate 6 Zm).getD d Zm).s = W3
  rw [List.getD, List.getElem?_replicate]
  split <;> rfl
 rw [this]
 exact ⟨by decide, by decide, by decide, by decide, by decide⟩
set_option maxHeartbeats 2000000 attribute [local irreducible] HW HO HQ HD HC QOp Has Upd Zp Gets Yf Z8 Zr X3 Z9 Zj Wa Zy
attribute [local irreducible] Zz Yo Z2 Zv Wt Yr Z3
end Go.HL
end

/-! WoJ -/
section
namespace Go.HL
open Go Go.Proofs
set_option linter.unusedVariables false
set_option linter.unusedSimpArgs false
theorem WI.at {M : Wm} (h : WI M) {s : Int} (h0 : 0 ≤ s) (h1 : s < M.n.length) : NdI M.w s.toNat (Zf M s) := h.nd s.toNat _ (getD_some (by omega))
theorem Zci {M : Wm} {s : Int} {m : Nd} (h0 : 0 ≤ s) (h1 : s < M.n.length) : Zf (Xa M s m) s = m := by
 unfold Zf Xa
 simp only
 rw [List.getD, List.getElem?_set_self (by omega)]
 rfl
theorem Zd0 {M : Wm} {s q : Int} {m : Nd} (h : q.toNat ≠ s.toNat) : Zf (Xa M s m) q = Zf M q := by
 unfold Zf Xa
 simp only [List.getD]
 rw [List.getElem?_set_ne (Ne.symm h)]
structure Same (M M' : Wm) : Prop where
 w : M'.w = M.w
 n : M'.n.length = M.n.length
theorem Same.refl (M : Wm) : Same M M := ⟨rfl, rfl⟩
theorem Same.trans {A B C : Wm} (h : Same A B) (h' : Same B C) : Same A C := ⟨h'.w.trans h.w, h'.n.trans h.n⟩
theorem Zfa (M : Wm) (s : Int) (m : Nd) : Same M (Xa M s m) := ⟨rfl, by simp [Xa]⟩
theorem Zdd (M : Wm) (s : Int) (f : Fr) : Same M (Y4 M s f).1 := ⟨rfl, by simp [Y4, Xa]⟩
theorem hearW_l (M : Wm) (s : Int) (f : Fr) : (Y4 M s f).1.l = M.l := rfl
theorem Zm6 {M : Wm} {s : Int} {f : Fr} (h0 : 0 ≤ s) (h1 : s < M.n.length) (h : (Y4 M s f).2.2 = true) : (Zf (Y4 M s f).1 s).site ≠ none := by
 have e : Zf (Y4 M s f).1 s = (Xr s (Zf M s) M.ev f).1 := by
  unfold Y4
  exact Zci h0 h1
 rw [e]
 unfold Y4 at h
 simp only at h
 unfold Xr at h ⊢
 split at h
 ·cases h
 ·split at h
  ·cases h
  ·rename_i hoff
   simp only [if_neg hoff]
   simp
theorem Zho (M : Wm) (s : Int) (f : Fr) : (Y4 M s f).2.1.length ≤ 1 := by
 unfold Y4 Xr
 split
 ·simp
 ·rename_i j ref _
  split
  ·simp
  ·simp only
   unfold Z3
   split
   ·simp
   split
   ·simp
   split
   ·simp
   ·simp only
    split <;> simp
theorem Zgg {w : List Int} {s d : Nat} (hs : s < w.length) (hw : w.length ≤ 7) (hd : d < 6) : ∀ (l : List Fr) (x : Ld) (acc : List Fr), LdI w s d x → (∀ f ∈ l, Zfr w.length f) → (l.foldl (fun q f => ((Yc q.1 f).1, q.2 ++ (Yc q.1 f).2)) (x, acc)).2.length ≤ acc.length + 7 * l.length
 | [], x, acc, hx, _ => by simp
 | f :: l, x, acc, hx, hl => by
  rw [List.foldl_cons]
  have k1 := (hx.hear hs hw hd (hl f (by simp)).1).1
  have k2 := Zcn x f
  rw [hx.ww] at k2
  have := Zgg hs hw hd l _ (acc ++ (Yc x f).2) k1 (fun g hg => hl g (by simp [hg]))
  simp only [List.length_append, List.length_cons] at this ⊢
  omega
theorem Zhe (m : Ld) : (Xs m).length ≤ m.w.length := by
 unfold Xs
 split <;> exact Vp _ (Zei m _ _) _
structure TryOk (M M' : Wm) (s : Int) (b : Bool) : Prop where
 wi : WI M'
 same : Same M M'
 len : M'.l.length ≤ M.l.length + 14
 up : b = true → (Zf M' s).site ≠ none
theorem Zj0 {w : List Int} {s : Nat} {m : Nd} (hm : NdI w s m) {d p : Int} (hd : 0 ≤ d ∧ d < 6) (hp : 0 ≤ p ∧ p ≤ 1048576) : 0 ≤ Y1 m d p ∧ Y1 m d p ≤ 1048576 := by
 unfold Y1
 split
 ·exact hp
 ·rename_i x hx
  have := hm.ldi d.toNat x (by
   have h6 := hm.leads
   rw [getD_some (x := none) (l := m.leads) (i := d.toNat) (by omega), hx])
  have h1 := this.seen0
  have h2 := this.seen1
  omega
theorem try_ok {M : Wm} (h : WI M) {s d p : Int} (h0 : 0 ≤ s) (h1 : s < M.n.length) (hs : (Zf M s).site ≠ none) (hd : 0 ≤ d ∧ d < 6) (hp : 0 ≤ p ∧ p ≤ 1048576) : TryOk M (Zbg M s d p).1 s (Zbg M s d p).2 := by
 have hn := h.wn
 have hw := h.wl
 have hw1 := h.w1
 have hab := Zj0 (h.at h0 h1) hd hp
 unfold Zbg
 simp only
 generalize ha : Zby M.w.length s (Y1 (Zf M s) d p + 1) = a
 have ha1 : 1 ≤ a := by
  unfold Zby at ha
  have := Int.emod_nonneg (s - (Y1 (Zf M s) d p + 1)) (by omega : (M.w.length : Int) ≠ 0)
  omega
 split
 ·exact ⟨h, .refl _, by simp, fun _ => hs⟩
 rename_i hle
 obtain ⟨hI, hF⟩ := h.hear (f := Zai s d a) h0 h1 (by show s < _; omega)
 have hS := Zdd M s (Zai s d a)
 have hone := Zho M s (Zai s d a)
 have hl := hearW_l M s (Zai s d a)
 have hst := Zm6 (f := Zai s d a) h0 h1
 generalize Y4 M s (Zai s d a) = R at *
 split
 ·rename_i hr
  exact ⟨hI, hS, by rw [hl]; omega, fun e => by cases e⟩
 rename_i hr
 have hr' : R.2.2 = true := by simpa using hr
 have h1' : s < R.1.n.length := by rw [hS.n]; exact h1
 have hx := hI.at h0 h1'
 have hNI : LdI M.w s.toNat d.toNat (Zk s d M.w a 4) := by
  have := Zih (w := M.w) (s := s.toNat) (d := d.toNat) (a := a) (k := 4) (by omega) (by omega)
  rw [show ((s.toNat : Nat) : Int) = s by omega, show ((d.toNat : Nat) : Int) = d by omega] at this
  exact this
 have hho := Zde (w := M.w) (s := s.toNat) (d := d.toNat) (by omega) hw (by omega) R.2.1 (Zk s d M.w a 4) [] hNI hF (fun f hf => by cases hf)
 have hhl := Zgg (w := M.w) (s := s.toNat) (d := d.toNat) (by omega) hw (by omega) R.2.1 (Zk s d M.w a 4) [] hNI hF
 change LdI M.w s.toNat d.toNat (Z7 (Zk s d M.w a 4) R.2.1).1 ∧ ∀ f ∈ (Z7 (Zk s d M.w a 4) R.2.1).2, Zfr M.w.length f at hho
 change (Z7 (Zk s d M.w a 4) R.2.1).2.length ≤ _ at hhl
 have hso := Zhz hNI (by omega) hw (by omega)
 have hsl := Zhe (Zk s d M.w a 4)
 rw [show (Zk s d M.w a 4).w = M.w from rfl] at hsl
 have hset := hI.set (m := { Zf R.1 s with leads := (Zf R.1 s).leads.set d.toNat (some (Z7 (Zk s d M.w a 4) R.2.1).1) }) h0 (hx.lead (by rw [hS.w]; exact hho.1))
 refine ⟨hset.setL fun f hf => ?_, hS.trans ⟨rfl, by simp [Xa]⟩, ?_, fun _ => ?_⟩
 ·show Zfr R.1.w.length f
  rw [hS.w]
  rw [hl] at hf
  rcases List.mem_append.1 hf with hf | hf
  ·rcases List.mem_append.1 hf with hf | hf
   ·exact h.fr f hf
   ·exact hso f hf
  ·exact hho.2 f hf
 ·simp only [List.length_append, hl]
  simp only [List.length_nil] at hhl
  omega
 ·have e : (Zf (Xa R.1 s { Zf R.1 s with leads := (Zf R.1 s).leads.set d.toNat (some (Z7 (Zk s d M.w a 4) R.2.1).1) }) s).site ≠ none := by
   rw [Zci h0 h1']
   exact hst hr'
  exact e
theorem Zoe {M : Wm} (h : WI M) {s : Int} {d : Nat} (h0 : 0 ≤ s) (h1 : s < M.n.length) (hd : d < 6) {st : St} (hst : Zge st) : ∀ f ∈ Uu M s d st, Zfr M.w.length f := by
 intro f hf
 have hn := h.wn
 have hw := h.wl
 unfold Uu at hf
 obtain ⟨i, hi, rfl⟩ := List.mem_map.1 hf
 have := List.mem_range.1 hi
 obtain ⟨g1, g2, g3, g4, g5⟩ := hst
 unfold Zfr Ws
 simp only
 omega
theorem Zdt (M : Wm) (s d : Int) (st : St) : (Uu M s d st).length = M.w.length := by simp [Uu]
structure TickOk (M : Wm) (q : Wm × Bool) (s : Int) (k : Nat) : Prop where
 wi : WI q.1
 same : Same M q.1
 len : q.1.l.length ≤ M.l.length + 14 * k
 up : q.2 = true → (Zf q.1 s).site ≠ none
theorem tickD_ok {M : Wm} {q : Wm × Bool} {s : Int} {k d : Nat} (h : TickOk M q s k) (h0 : 0 ≤ s) (h1 : s < M.n.length) (hd : d < 6) : TickOk M (Uq s q d) s (k + 1) := by
 obtain ⟨M1, b⟩ := q
 have hl := h.len
 have hwl := h.wi.wl
 have hn := h.same.n
 simp only at hl hn hwl
 unfold Uq
 split
 ·exact ⟨h.wi, h.same, by simp only; omega, h.up⟩
 split
 ·exact ⟨h.wi, h.same, by simp only; omega, fun e => by cases e⟩
 rename_i hb _ j ref hs
 have hs' : (Zf M1 s).site = some (j, ref) := hs
 have hni := h.wi.at (s := s) h0 (by simp only; omega)
 have hS := (hni.jn hs').st d hd
 split
 ·exact ⟨h.wi, h.same, by simp only; omega, h.up⟩
 split
 ·refine ⟨h.wi.setL fun f hf => ?_, ⟨h.same.w, h.same.n⟩, ?_, fun _ => h.up (by simpa using hb)⟩
  ·rcases List.mem_append.1 hf with hf | hf
   ·exact h.wi.fr f hf
   ·exact Zoe h.wi h0 (by simp only; omega) hd hS f hf
  ·simp only [List.length_append, Zdt]
   omega
 ·obtain ⟨g1, g2, g3, g4, g5⟩ := hS
  have ht := try_ok h.wi (s := s) (d := d) (p := (Y2 j d).pr) h0 (by simp only; omega) (h.up (by simpa using hb)) (by omega) (by omega)
  have h4 : (Zbg M1 s d (Y2 j d).pr).1.l.length ≤ M1.l.length + 14 := ht.len
  have h5 : (Zbg M1 s d (Y2 j d).pr).1.l.length ≤ M.l.length + 14 * (k + 1) := by omega
  exact ⟨ht.wi, h.same.trans ht.same, h5, ht.up⟩
theorem Zcg {M : Wm} (h : WI M) {s : Int} (h0 : 0 ≤ s) (h1 : s < M.n.length) (hs : (Zf M s).site ≠ none) : ∀ k, k ≤ 6 → TickOk M ((List.range k).foldl (Uq s) (M, true)) s k
 | 0, _ => ⟨h, .refl _, by simp, fun _ => hs⟩
 | k + 1, hk => by
  rw [List.range_succ, List.foldl_append]
  exact tickD_ok (Zcg h h0 h1 hs k (by omega)) h0 h1 (by omega)
structure StepOk (M M' : Wm) (k : Nat) : Prop where
 wi : WI M'
 same : Same M M'
 len : M'.l.length ≤ M.l.length + k
theorem StepOk.refl {M : Wm} (h : WI M) (k : Nat) : StepOk M M k := ⟨h, .refl _, by omega⟩
theorem StepOk.mono {M M' : Wm} {k k' : Nat} (h : StepOk M M' k) (hk : k ≤ k') : StepOk M M' k' := ⟨h.wi, h.same, by have := h.len; omega⟩
theorem Uo {M : Wm} {s : Int} (h : Zgu M s = none) : 0 ≤ s ∧ s < M.n.length ∧ (Zf M s).site ≠ none := by
 unfold Zgu at h
 split at h
 ·cases h
 ·rename_i hn
  obtain ⟨h0, h1⟩ := Yp hn
  split at h
  ·cases h
  ·rename_i hs
   exact ⟨h0, h1, fun e => hs (by rw [e]; rfl)⟩
theorem tick_ok {M : Wm} (h : WI M) (s : Int) : StepOk M (Us M s).1 84 := by
 unfold Us
 split
 ·exact .refl h _
 ·rename_i hu
  obtain ⟨h0, h1, hs⟩ := Uo hu
  have := Zcg h h0 h1 hs 6 (by omega)
  exact ⟨this.wi, this.same, this.len⟩
theorem begin_ok {M : Wm} (h : WI M) (s d : Int) : StepOk M (Vc M s d).1 7 := by
 have hn := h.wn
 have hw := h.wl
 unfold Vc
 split
 ·exact .refl h _
 rename_i hb
 split
 ·exact .refl h _
 split
 ·exact .refl h _
 have hNI : LdI M.w s.toNat d.toNat (Zk s d M.w 0 2) := by
  have := Zih (w := M.w) (s := s.toNat) (d := d.toNat) (a := 0) (k := 2) (by omega) (by omega)
  rw [show ((s.toNat : Nat) : Int) = s by omega, show ((d.toNat : Nat) : Int) = d by omega] at this
  exact this
 have hso := Zhz hNI (by omega) hw (by omega)
 have hsl := Zhe (Zk s d M.w 0 2)
 rw [show (Zk s d M.w 0 2).w = M.w from rfl] at hsl
 have hset := h.set (m := { Zf M s with leads := (Zf M s).leads.set d.toNat (some (Zk s d M.w 0 2)) }) (s := s) (by omega) ((h.at (by omega) (by omega)).lead hNI)
 refine ⟨hset.setL fun f hf => ?_, ⟨rfl, by simp [Xa]⟩, by simp; omega⟩
 rcases List.mem_append.1 hf with hf | hf
 ·exact h.fr f hf
 ·exact hso f hf
theorem Zrl {M : Wm} (h : WI M) (s d : Int) : StepOk M (Wq M s d).1 0 := by
 unfold Wq
 split
 ·exact .refl h _
 split
 ·exact .refl h _
 rename_i hu
 obtain ⟨h0, h1, hs⟩ := Uo hu
 have hx := h.at h0 h1
 refine ⟨h.set h0 ?_, Zfa _ _ _, by simp [Xa]⟩
 unfold Qz
 split
 ·exact hx
 ·rename_i j ref hj
  exact ⟨hx.leads, hx.done, hx.b512, hx.si, fun j2 r2 e => by cases e; exact hx.up j ref hj, fun e => (by cases e), hx.ldi⟩
theorem Zgj {M : Wm} (h : WI M) {k : Int} (hk : Zqv M k = none) : Zfr M.w.length (M.l.getD k.toNat Wn) ∧ 0 ≤ k ∧ k < M.l.length := by
 unfold Zqv at hk
 split at hk
 ·cases hk
 ·have hlt : k.toNat < M.l.length := by omega
  have e : M.l.getD k.toNat Wn = M.l[k.toNat] := by rw [List.getD, List.getElem?_eq_getElem hlt]; rfl
  rw [e]
  exact ⟨h.fr _ (List.getElem_mem _), by omega, by omega⟩
theorem Qu {M : Wm} (h : WI M) (k : Int) : StepOk M (Z4 M k).1 6 := by
 have hn := h.wn
 have hw := h.wl
 unfold Z4
 split
 ·exact .refl h _
 rename_i hk
 obtain ⟨⟨hbad, hto, hfr⟩, hk0, hk1⟩ := Zgj h hk
 generalize M.l.getD k.toNat Wn = f at *
 have hE := h.erase k.toNat
 have hel : (M.l.eraseIdx k.toNat).length = M.l.length - 1 := by rw [List.length_eraseIdx, if_pos (by omega)]
 have hS1 : Same M { M with l := M.l.eraseIdx k.toNat } := ⟨rfl, rfl⟩
 have hb2 := hbad
 unfold Ws at hb2
 simp only
 split
 ·exact ⟨hE, hS1, by simp only [hel]; omega⟩
 split
 ·split
  ·exact ⟨hE, hS1, by simp only [hel]; omega⟩
  ·rename_i x hx
   have hni := hE.at (s := f.to) (by omega) (by simp only; omega)
   have h6 := hni.leads
   have hLI := hni.ldi f.dl.toNat x (by rw [getD_some (x := none) (by omega), hx])
   obtain ⟨k1, k2⟩ := hLI.hear (by simp only; omega) hw (by omega) hbad
   have k3 := Zcn x f
   rw [hLI.ww] at k3
   have hset := hE.set (m := { Zf { M with l := M.l.eraseIdx k.toNat } f.to with leads := (Zf { M with l := M.l.eraseIdx k.toNat } f.to).leads.set f.dl.toNat (some (Yc x f).1) }) (s := f.to) (by omega) (hni.lead k1)
   refine ⟨hset.setL fun g hg => ?_, ⟨rfl, by simp [Xa]⟩, ?_⟩
   ·rcases List.mem_append.1 hg with hg | hg
    ·exact hE.fr g hg
    ·exact k2 g hg
   ·simp only [List.length_append, hel]
    simp only at k3
    omega
 ·obtain ⟨k1, k2⟩ := hE.hear (s := f.to) (f := f) (by omega) (by simp only; omega) hfr
  have k3 := Zho { M with l := M.l.eraseIdx k.toNat } f.to f
  have k4 := Zdd { M with l := M.l.eraseIdx k.toNat } f.to f
  refine ⟨k1.setL fun g hg => ?_, ⟨k4.w, k4.n⟩, ?_⟩
  ·show Zfr (Y4 { M with l := M.l.eraseIdx k.toNat } f.to f).1.w.length g
   rw [k4.w]
   rcases List.mem_append.1 hg with hg | hg
   ·exact hE.fr g hg
   ·exact k2 g hg
  ·simp only [List.length_append, hel]
   omega
theorem drop_ok {M : Wm} (h : WI M) (k : Int) : StepOk M (Q3 M k).1 0 := by
 unfold Q3
 split
 ·exact .refl h _
 ·exact ⟨h.erase _, ⟨rfl, rfl⟩, by simp only [List.length_eraseIdx]; split <;> omega⟩
theorem twice_ok {M : Wm} (h : WI M) (k : Int) : StepOk M (Vq M k).1 1 := by
 unfold Vq
 split
 ·exact .refl h _
 rename_i hk
 obtain ⟨hf, hk0, hk1⟩ := Zgj h hk
 refine ⟨h.setL fun g hg => ?_, ⟨rfl, rfl⟩, ?_⟩
 ·rcases List.mem_append.1 hg with hg | hg
  ·exact h.fr g (List.mem_of_mem_take hg)
  ·rcases List.mem_cons.1 hg with hg | hg
   ·rw [hg]; exact hf
   ·exact h.fr g (List.mem_of_mem_drop hg)
 ·simp only [List.length_append, List.length_take, List.length_cons, List.length_drop]
  omega
theorem Zpj {M : Wm} (h : WI M) (a b : Int) (c : Bool) : StepOk M (Ue M a b c).1 0 := by
 unfold Ue
 split
 ·exact .refl h _
 ·exact ⟨h.setB _, ⟨rfl, rfl⟩, by simp⟩
theorem cut_ok {M : Wm} (h : WI M) (s n : Int) (hn : n ≤ 9223372036854775807) : StepOk M (Zec M s n).1 0 := by
 unfold Zec
 split
 ·exact .refl h _
 split
 ·exact .refl h _
 rename_i hn0 _ hu
 obtain ⟨h0, h1, hs⟩ := Uo hu
 have hx := h.at h0 h1
 refine ⟨h.set h0 ⟨hx.leads, hx.done, hx.b512, hx.si.cut (by omega) hn, hx.up, hx.dn, hx.ldi⟩, Zfa _ _ _, by simp [Xa]⟩
theorem SI.down {m : Pl} {b : Bool} (h : SI m ⟨Zv m.b, b⟩) : SI { m with off := true } ⟨Zv m.b, true⟩ := ⟨⟨h.ji.lo, h.ji.hi, h.ji.c0, h.ji.c1, rfl, rfl⟩, h.st⟩
theorem down_ok {M : Wm} (h : WI M) (s : Int) : StepOk M (Q5 M s).1 0 := by
 unfold Q5
 split
 ·exact .refl h _
 rename_i hu
 obtain ⟨h0, h1, hs⟩ := Uo hu
 have hx := h.at h0 h1
 exact ⟨h.set h0 (hx.fall hx.b512 hx.si.down rfl), Zfa _ _ _, by simp [Xa]⟩
theorem NdI.boot {w : List Int} {s : Nat} {m : Nd} (h : NdI w s m) (dn : List Bool) (hd : dn.length = 6) : NdI w s { U5 m with done := dn } :=
 ⟨h.leads, hd, h.b512, h.si.boot, fun j ref e => by cases e; exact ⟨rfl, rfl⟩, fun e => (by cases e), h.ldi⟩
theorem up_ok {M : Wm} (h : WI M) (s : Int) : StepOk M (Zr9 M s).1 0 := by
 unfold Zr9
 split
 ·exact .refl h _
 split
 ·exact .refl h _
 rename_i hu _
 obtain ⟨h0, h1⟩ := Yp hu
 have hx := h.at h0 h1
 exact ⟨(h.set h0 (hx.boot _ (by rw [Zhy]; exact hx.done))).setE (Zl5 _ _ _ h.evl), ⟨rfl, by simp [Xa]⟩, by simp [Xa]⟩
theorem newNd_I (w : List Int) (s : Nat) : NdI w s newNd := by
 have hS := si_new (n := 512) (by omega) (by omega)
 refine ⟨rfl, rfl, (by show (Z2 512).length = 512; unfold Z2; exact List.length_replicate), hS, fun j ref e => by cases e; exact ⟨rfl, rfl⟩, fun e => (by cases e), fun d x hx => ?_⟩
 simp only [newNd, Yn, List.getElem?_replicate] at hx
 split at hx <;> cases hx
theorem new_ok {w : List Int} (h : X1 w = none) : WI (Zaa w) := by
 obtain ⟨c1, c2, -⟩ := Ub h
 refine ⟨h, c2, c1, by simp [Zaa], fun f hf => (by cases hf), by simp [Zaa], fun s m hm => ?_⟩
 simp only [Zaa, List.getElem?_replicate] at hm
 split at hm
 ·cases hm
  exact newNd_I _ _
 ·cases hm
end Go.HL
end

/-! WoV -/
section
namespace Go.HL
open Go Go.Proofs
set_option linter.unusedVariables false
set_option linter.unusedSimpArgs false
def Vl (s : Int) (M : Wm) (k : Nat) : Wm × Bool := (List.range k).foldl (Uq s) (M, true)
theorem Zfs (s : Int) (M : Wm) (k : Nat) : Vl s M (k + 1) = Uq s (Vl s M k) k := by
 unfold Vl
 rw [List.range_succ, List.foldl_append]
 rfl
theorem Zf7 {s : Int} {M : Wm} {k : Nat} (h : (Vl s M k).2 = false) : ∀ j, Vl s M (k + j) = Vl s M k
 | 0 => rfl
 | j + 1 => by
  rw [← Nat.add_assoc, Zfs, Zf7 h j]
  unfold Uq
  rw [if_pos h]
theorem Ziv (M : Wm) (s d : Int) (st : St) (i : Nat) : ((List.range (i + 1)).map fun (i : Nat) => (⟨s, (i : Int), d, 7, st.pr, false, ⟨st.ph, 0, 0⟩⟩ : Fr)) = ((List.range i).map fun (i : Nat) => (⟨s, (i : Int), d, 7, st.pr, false, ⟨st.ph, 0, 0⟩⟩ : Fr)) ++ [⟨s, (i : Int), d, 7, st.pr, false, ⟨st.ph, 0, 0⟩⟩] := by
 rw [List.range_succ, List.map_append]
 rfl
theorem ls_out {A L : Zb} {c : List Zn} : LS (A ++ L).flatten (c :: (A ++ L)).flatten := by
 rw [List.flatten_cons]
 exact LS.skips c (LS.refl _)
theorem ls_in {A L : Zb} {c : List Zn} : LS (A ++ (c :: L)).flatten (c :: (A ++ L)).flatten := by
 simp only [List.flatten_cons, List.flatten_append]
 refine LS.of_perm ?_
 rw [← List.append_assoc, ← List.append_assoc]
 exact List.perm_append_comm.append_right _
set_option maxHeartbeats 2000000 attribute [local irreducible] HW HO HQ HD HC QOp Has Upd Zp Gets Yf Z8 Zr X3 Z9 Zj Wa Zy
attribute [local irreducible] X2 Zz Yo Z3 Y5 Zv Zbg
theorem Zj6 (T : Nat) (E : Nat → Addr) (G : WdG) (M : Wm) (s : Int) (L : Zb) (hG : Er T E [2, 3, 4, 5, 6] L) (hW : WdOk G M) (hM : WI M) (hl : M.l.length ≤ 99999000) :
  HC Tryz.prog 40 [pt G.wp 0, iv s] (Ym G M ++ L) (fun v L' => v = eV T E (Us M s).2 ∧ Zdl G (Us M s).1 L L') := by
 unfold Us
 have hself := Wb hW L
 rcases Zgm (M := M) (s := s) with ⟨e, he⟩ | ⟨he, hn, h0, h1, j, ref, hs⟩
 ·have ku := Zey s hG.sub hW
  have hG' := Xp hG G M
  generalize Ym G M ++ L = H at *
  simp only [he] at ku ⊢
  refine Za (fun _ _ => Tryz.call40 _ _) Tryz.func40 rfl Tryz.ntmps40 (Nat.le_of_ble_eq_true rfl) ?_; simp only [Ze, Nat.reduceAdd]
  repeat' (first | refine uN ?_ | refine Yb S ?_ | refine Yv S ?_ | refine uC (ku) ?_ | refine Yx (fun _ => ku) ?_ | refine Y0 (fun _ => ku) ?_ | refine Yz (fun _ => ku) ?_ | refine Yy (fun _ => ku) ?_ | (refine uB ?_; intro b) | (refine uP ?_ ?_ <;> (intro h; ((try simp only [zs, ne_eq, and_true, true_and, eq_self, reduceCtorEq] at h); try exact zx))) | refine da 101 ?_ | fail)
  exact Qd rfl ⟨rfl, hself⟩
 ·have ku := Zey s hG.sub hW
  simp only [he, Zn1 hn] at ku ⊢
  have hticks := fun k hk => Zcg hM h0 h1 (by rw [hs]; simp) k hk
  change ∀ k, k ≤ 6 → TickOk M (Vl s M k) s k at hticks
  change HC _ _ _ _ (fun v L' => v = eV T E none ∧ Zdl G (Vl s M 6).1 L L')
  refine Za (fun _ _ => Tryz.call40 _ _) Tryz.func40 rfl Tryz.ntmps40 (Nat.le_of_ble_eq_true rfl) ?_; simp only [Ze, Nat.reduceAdd]
  repeat' (first | refine uN ?_ | refine Yb S ?_ | refine Yv S ?_ | refine uC (ku) ?_ | refine Yx (fun _ => ku) ?_ | refine Y0 (fun _ => ku) ?_ | refine Yz (fun _ => ku) ?_ | refine Yy (fun _ => ku) ?_ | (refine uB ?_; intro b) | (refine uP ?_ ?_ <;> (intro h; ((try simp only [zs, ne_eq, and_true, true_and, eq_self, reduceCtorEq] at h); try exact zx))) | refine da 101 ?_ | fail)
  refine Zx (σ := Nat × WdG) (fun r => [(0, pt G.wp 0), (1, iv s), (5, pt (Zg G s).np 0), (20, iv r.1)]) (fun r => Ym r.2 (Vl s M r.1).1 ++ L)
   (fun r => r.1 ≤ 6 ∧ (Vl s M r.1).2 = true ∧ WdOk r.2 (Vl s M r.1).1 ∧ r.2.wp = G.wp ∧ r.2.nd.map (·.np) = G.nd.map (·.np)) (fun r => 6 - r.1) (0, G) uS (List.Sublist.refl _) ⟨by simp, rfl, hW, rfl, rfl⟩ ?_
  rintro ⟨d, G1⟩ ⟨hd, hon, hW1, e1, e2⟩
  simp only at hd hon hW1 e1 e2 ⊢
  obtain ⟨hM1, hsame, hlen, hsite⟩ := hticks d hd
  have hsite1 := hsite hon
  have hnx := Zfs s M d
  by_cases hd6 : d < 6
  ·have hnx2 := hticks (d + 1) (by omega)
   have hstop := fun h => Zf7 (s := s) (M := M) (k := d + 1) h (5 - d)
   rw [show d + 1 + (5 - d) = 6 by omega] at hstop
   generalize Vl s M d = q at *
   obtain ⟨M1, b⟩ := q
   simp only at hon hW1 hM1 hsame hlen hsite1 ⊢
   subst hon
   have h1' : s < M1.n.length := by rw [hsame.n]; exact h1
   have hnp2 := Zpx e2 h0 (by rw [hW.ndl]; exact h1)
   have hok := Wr hW1 h0 h1'
   have hni := U6 hM1 h0 h1'
   obtain ⟨⟨j1, ref1⟩, hs1⟩ := Option.ne_none_iff_exists'.1 hsite1
   have hj := hni.jn hs1
   have hst := hj.st d hd6
   have hB : ∀ {b : Nat} {o : Obj}, (b, o) ∈ Zfm (Zg G1 s) s (Zf M1 s) → Has (Ym G1 M1 ++ L) b o := fun {b o} hb => by
    have := Zdj hW1.ndl h0 h1' hb L
    unfold Has Ym at *
    rw [List.append_assoc, List.flatten_append]
    exact List.mem_append_right _ this
   have hN : Has (Ym G1 M1 ++ L) (Zg G1 s).np (Qc (Zg G1 s) (Zf M1 s)) := Ql hW1.ndl h0 h1' L
   have hA1 : Has (Ym G1 M1 ++ L) (Zg G1 s).sp (.cells ⟨[pt (Zg G1 s).bj 0, iv s, .map (some (Zg G1 s).mb)]⟩ 150) := hB (by simp [Zfm, hs1, siB, Zed])
   have hA2 : Has (Ym G1 M1 ++ L) (Zg G1 s).bj (.cells ⟨Zz (Zg G1 s).bp j1⟩ 197) := hB (by simp [Zfm, hs1, siB, jC])
   have kst := Zbn (Zg G1 s).sp (Zg G1 s).bj (Zg G1 s).mb (Zg G1 s).bp s j1 d _ hA1 hA2 hj.ji.jn.len hd6
   have htd : Vl s M (d + 1) = if Y2 j1 d = W3 then (M1, true) else if (Y2 j1 d).ph = 2 ∨ (Y2 j1 d).ph = 3 then ({ M1 with l := M1.l ++ Uu M1 s d (Y2 j1 d) }, true) else Zbg M1 s d (Y2 j1 d).pr := by
    rw [hnx]
    unfold Uq
    simp only [hs1, Bool.true_eq_false, if_false]
   have g0 : (X2 (pt (Zg G1 s).sp 0) (Zg G1 s).bp (Yk (Zg G1 s) (Zf M1 s)) (Zf M1 s).done)[0 + 0]? = some (pt (Zg G1 s).sp 0) := Xd rfl
   unfold Qc at hN
   rw [hs1] at hN
   simp only [Zdr, hnp2] at hN
   change HC _ _ _ _ (fun v L' => v = .tuple ⟨[.agg ⟨sc (Y2 j1 d)⟩, .nilIface]⟩ ∧ _) at kst
   have hdl := Zdt M1 s d (Y2 j1 d)
   have hdF : Uu M1 s d (Y2 j1 d) = (List.range M1.w.length).map fun (i : Nat) => (⟨s, (i : Int), d, 7, (Y2 j1 d).pr, false, ⟨(Y2 j1 d).ph, 0, 0⟩⟩ : Fr) := rfl
   have hsuccF := fun i => Ziv M1 s d (Y2 j1 d) i
   generalize Y2 j1 d = st at *
   obtain ⟨ph, pr, att⟩ := st
   obtain ⟨q1, q2, q3, q4, q5⟩ := hst
   simp only at q1 q2 q3 q4 q5 hdF hsuccF
   have hwn := hM1.wn
   have hwl := hM1.wl
   by_cases hz : ph = 0 ∧ pr = 0 ∧ att = 0
   ·obtain ⟨rfl, rfl, rfl⟩ := hz
    rw [if_pos (show (⟨0, 0, 0⟩ : St) = W3 from rfl)] at htd
    clear hA1 hA2 hB
    generalize hH : Ym G1 M1 ++ L = H at *
    repeat' (first | refine uN ?_ | refine Yb S ?_ | refine Yv S ?_ | refine uC (kst) ?_ | refine Yx (fun _ => kst) ?_ | refine Y0 (fun _ => kst) ?_ | refine Yz (fun _ => kst) ?_ | refine Yy (fun _ => kst) ?_ | (refine uB ?_; intro b) | (refine uP ?_ ?_ <;> (intro h; ((try simp only [zs, ne_eq, and_true, true_and, eq_self, reduceCtorEq] at h); try exact zx))) | refine da 101 ?_ | fail)
    all_goals subst hH
    all_goals refine Z5 (d + 1, G1) uS ?_ ⟨by simp only; omega, by simp only [htd], by simp only [htd]; exact hW1, e1, e2⟩ (by simp only; omega)
    all_goals simp only [htd]
    all_goals exact ls_out
   have hz2 : ¬ ((⟨ph, pr, att⟩ : St) = W3) := fun e => by cases e; exact hz ⟨rfl, rfl, rfl⟩
   rw [if_neg hz2] at htd
   by_cases hf : ph = 2 ∨ ph = 3
   ·rw [if_pos hf] at htd
    obtain ⟨aw2, capw2, hwv2, -, -⟩ := hW1.w.rd Xl
    obtain ⟨al2, capl2, hlv2, -, -⟩ := hW1.l.rd Zs
    have hvl := hW1.l
    rw [hlv2] at hvl
    have hwp := (V6 hW1 L).wp
    unfold Ut at hwp
    rw [hwv2, hlv2] at hwp
    rw [e1] at hwp
    clear hA1 hA2 hB
    generalize hH : Ym G1 M1 ++ L = H at *
    repeat' (first | refine uN ?_ | refine Yb S ?_ | refine Yv S ?_ | refine uC (kst) ?_ | refine Yx (fun _ => kst) ?_ | refine Y0 (fun _ => kst) ?_ | refine Yz (fun _ => kst) ?_ | refine Yy (fun _ => kst) ?_ | (refine uB ?_; intro b) | (refine uP ?_ ?_ <;> (intro h; ((try simp only [zs, ne_eq, and_true, true_and, eq_self, reduceCtorEq] at h); try exact zx))) | refine da 101 ?_ | fail)
    all_goals subst hH
    all_goals refine Zcu (L' := [(b, .cells ⟨sc ⟨ph, pr, att⟩⟩ 106)] :: G1.lc :: [(G.wp, .cells ⟨[.slice aw2 M1.w.length capw2, G1.nv, .map (some G1.mb), .slice al2 M1.l.length capl2, G1.ev]⟩ 87)] :: G1.wc :: G1.nc :: [(G1.mb, .map ⟨G1.es⟩ G1.ck)] :: G1.ec :: Vi G1.nd M1.n 0 :: L) ?_ (by simp only [Ym, Zcc, Ut, List.cons_append, List.nil_append, hwv2, hlv2, e1]; exact uL)
    all_goals refine Zx (σ := Nat × Value × List Zn) (fun r => [(0, pt G.wp 0), (1, iv s), (5, pt (Zg G s).np 0), (7, iv d), (8, pt b 0), (20, iv d), (49, iv M1.w.length), (50, iv r.1)]) (fun r => [(b, .cells ⟨sc ⟨ph, pr, att⟩⟩ 106)] :: r.2.2 :: [(G.wp, .cells ⟨[.slice aw2 M1.w.length capw2, G1.nv, .map (some G1.mb), r.2.1, G1.ev]⟩ 87)] :: G1.wc :: G1.nc :: [(G1.mb, .map ⟨G1.es⟩ G1.ck)] :: G1.ec :: Vi G1.nd M1.n 0 :: L) (fun r => r.1 ≤ M1.w.length ∧ Xq r.2.1 (M1.l ++ (List.range r.1).map fun (i : Nat) => (⟨s, (i : Int), d, 7, pr, false, ⟨ph, 0, 0⟩⟩ : Fr)) r.2.2) (fun r => M1.w.length - r.1) (0, .slice al2 M1.l.length capl2, G1.lc) uS (List.Sublist.refl _) ⟨by simp, by simpa using hvl⟩ ?_
    all_goals rintro ⟨i, lv3, lc3⟩ ⟨hi, hv3⟩
    all_goals simp only at hi hv3 ⊢
    all_goals obtain ⟨al3, capl3, hlv3, -, -⟩ := hv3.rd Zs
    all_goals subst hlv3
    all_goals
     by_cases hit : i < M1.w.length
     ·repeat' (first | refine uN ?_ | refine Yb S ?_ | refine Yv S ?_ | (refine uB ?_; intro b) | (refine uP ?_ ?_ <;> (intro h; ((try simp only [zs, ne_eq, and_true, true_and, eq_self, reduceCtorEq] at h); try exact zx))) | refine da 101 ?_ | fail)
      refine fo 2 ?_
      refine wp1 S (⟨s, (i : Int), d, 7, pr, false, ⟨ph, 0, 0⟩⟩ : Fr) hv3 Zs Uz ?_ (hby := by simp only [List.length_append, List.length_map, List.length_range]; omega) (hmax := by simp only [List.length_append, List.length_map, List.length_range]; omega)
      intro v' c' hv'
      obtain ⟨a6, cap6, he6, -, -⟩ := hv'.rd Zs
      subst he6
      rw [List.append_assoc, ← hsuccF i] at hv'
      repeat' (first | refine uN ?_ | refine Yb S ?_ | refine Yv S ?_ | (refine uB ?_; intro b) | (refine uP ?_ ?_ <;> (intro h; ((try simp only [zs, ne_eq, and_true, true_and, eq_self, reduceCtorEq] at h); try exact zx))) | refine da 101 ?_ | fail)
      refine Z5 (i + 1, _, c') uS ?_ ⟨by simp only; omega, hv'⟩ (by simp only; omega)
      rw [List.append_assoc, ← hsuccF i]
      exact uL
     ·obtain rfl : i = M1.w.length := by omega
      rw [← hdF] at hv3
      repeat' (first | refine uN ?_ | refine Yb S ?_ | refine Yv S ?_ | (refine uB ?_; intro b) | (refine uP ?_ ?_ <;> (intro h; ((try simp only [zs, ne_eq, and_true, true_and, eq_self, reduceCtorEq] at h); try exact zx))) | refine da 101 ?_ | fail)
      refine Z5 (d + 1, { G1 with lv := .slice al3 (M1.l ++ Uu M1 s d ⟨ph, pr, att⟩).length capl3, lc := lc3 }) uS ?_ ⟨by simp only; omega, by simp only [htd], by simp only [htd]; exact hW1.setL hv3, e1, e2⟩ (by simp only; omega)
      simp only [htd, Ym, Zcc, Ut, List.cons_append, List.nil_append, hwv2, e1, hdF]
      exact uL
   ·rw [if_neg hf] at htd
    have hk := fun L hG => Zom T E G1 M1 s d pr L hG hW1 hM1 (by omega) h0 h1' hsite1 (by omega) (by omega)
    rw [← htd] at hk
    simp only [e1] at hk
    have ho : (Vl s M (d + 1)).2 = true ∨ (Vl s M (d + 1)).2 = false := by cases (Vl s M (d + 1)).2 <;> simp
    clear hA1 hA2 hB
    generalize hH : Ym G1 M1 ++ L = H at *
    rcases ho with ho | ho
    ·rw [ho] at hk
     repeat' (first | refine uN ?_ | refine Yb S ?_ | refine Yv S ?_ | refine uC (kst) ?_ | refine Yx (fun _ => kst) ?_ | refine Y0 (fun _ => kst) ?_ | refine Yz (fun _ => kst) ?_ | refine Yy (fun _ => kst) ?_ | (refine uB ?_; intro b) | (refine uP ?_ ?_ <;> (intro h; ((try simp only [zs, ne_eq, and_true, true_and, eq_self, reduceCtorEq] at h); try exact zx))) | refine da 101 ?_ | fail)
     all_goals subst hH
     all_goals refine Zcf (L' := Ym G1 M1 ++ ([(b, .cells ⟨sc ⟨ph, pr, att⟩⟩ 106)] :: L)) ?_ ls_in
     all_goals refine gc (hk _ (hG.cons _)) ?_
     all_goals rintro v L' ⟨rfl, G3, f1, f2, f3, rfl⟩
     all_goals repeat' (first | refine uN ?_ | refine Yb S ?_ | refine Yv S ?_ | refine uC (kst) ?_ | refine Yx (fun _ => kst) ?_ | refine Y0 (fun _ => kst) ?_ | refine Yz (fun _ => kst) ?_ | refine Yy (fun _ => kst) ?_ | (refine uB ?_; intro b) | (refine uP ?_ ?_ <;> (intro h; ((try simp only [zs, ne_eq, and_true, true_and, eq_self, reduceCtorEq] at h); try exact zx))) | refine da 101 ?_ | fail)
     all_goals refine Z5 (d + 1, G3) uS ?_ ⟨by simp only; omega, ho, f3, f1.trans e1, f2.trans e2⟩ (by simp only; omega)
     all_goals simp only [List.flatten_append, List.flatten_cons]
     all_goals exact LS.boths _ (LS.skips _ (LS.refl _))
    ·rw [ho] at hk
     rw [hstop ho]
     repeat' (first | refine uN ?_ | refine Yb S ?_ | refine Yv S ?_ | refine uC (kst) ?_ | refine Yx (fun _ => kst) ?_ | refine Y0 (fun _ => kst) ?_ | refine Yz (fun _ => kst) ?_ | refine Yy (fun _ => kst) ?_ | (refine uB ?_; intro b) | (refine uP ?_ ?_ <;> (intro h; ((try simp only [zs, ne_eq, and_true, true_and, eq_self, reduceCtorEq] at h); try exact zx))) | refine da 101 ?_ | fail)
     all_goals subst hH
     all_goals refine Zcf (L' := Ym G1 M1 ++ ([(b, .cells ⟨sc ⟨ph, pr, att⟩⟩ 106)] :: L)) ?_ ls_in
     all_goals refine gc (hk _ (hG.cons _)) ?_
     all_goals rintro v L' ⟨rfl, G3, f1, f2, f3, rfl⟩
     all_goals repeat' (first | refine uN ?_ | refine Yb S ?_ | refine Yv S ?_ | refine uC (kst) ?_ | refine Yx (fun _ => kst) ?_ | refine Y0 (fun _ => kst) ?_ | refine Yz (fun _ => kst) ?_ | refine Yy (fun _ => kst) ?_ | (refine uB ?_; intro b) | (refine uP ?_ ?_ <;> (intro h; ((try simp only [zs, ne_eq, and_true, true_and, eq_self, reduceCtorEq] at h); try exact zx))) | refine da 101 ?_ | fail)
     all_goals refine Xm (L' := Ym G3 (Vl s M (d + 1)).1 ++ L) ?_ ⟨rfl, G3, f1.trans e1, f2.trans e2, f3, rfl⟩
     all_goals simp only [List.flatten_append, List.flatten_cons]
     all_goals exact LS.boths _ (LS.skips _ (LS.refl _))
  ·obtain rfl : d = 6 := by omega
   repeat' (first | refine uN ?_ | refine Yb S ?_ | refine Yv S ?_ | (refine uB ?_; intro b) | (refine uP ?_ ?_ <;> (intro h; ((try simp only [zs, ne_eq, and_true, true_and, eq_self, reduceCtorEq] at h); try exact zx))) | refine da 101 ?_ | fail)
   exact Qd rfl ⟨rfl, G1, e1, e2, hW1, rfl⟩
end Go.HL
end

/-! WoW -/
section
namespace Go.HL
open Go Go.Proofs
set_option linter.unusedVariables false
set_option linter.unusedSimpArgs false
def Zju (np bp ba sp bj mb : Nat) : NdG := ⟨np, bp, ba, sp, bj, mb, [], 0, List.replicate 6 (0, .pointer none, [])⟩
theorem Zka : ∀ {gs : List NdG} {ms : List Nd} {i : Nat} {g : NdG} {m : Nd}, gs.length = ms.length → Vi (gs ++ [g]) (ms ++ [m]) i = Vi gs ms i ++ Zfm g ((i + gs.length : Nat) : Int) m
 | [], [], i, g, m, _ => by simp [Vi]
 | [], _ :: _, _, _, _, h => by simp at h
 | _ :: _, [], _, _, _, h => by simp at h
 | g0 :: gs, m0 :: ms, i, g, m, h => by
  have ih := Zka (gs := gs) (ms := ms) (i := i + 1) (g := g) (m := m) (by simpa using h)
  simp only [List.cons_append, Vi, ih, List.append_assoc, List.length_cons]
  rw [show i + 1 + gs.length = i + (gs.length + 1) by omega]
theorem newNd_ok (np bp ba sp bj mb : Nat) : NdOk (Zju np bp ba sp bj mb) newNd := by
 refine ⟨rfl, fun d x hx => ?_, fun j ref e => by cases e; exact Zgh⟩
 simp only [newNd, Yn, List.getElem?_replicate] at hx
 split at hx <;> cases hx
theorem Zq2 (np bp ba sp bj mb : Nat) : Qe (Zju np bp ba sp bj mb) newNd = [] := rfl
theorem Zqi (np bp ba sp bj mb : Nat) : X2 (Zdr (Zju np bp ba sp bj mb) newNd.site) bp (Yk (Zju np bp ba sp bj mb) newNd) newNd.done = [pt sp 0, pt bp 0, .pointer none, .pointer none, .pointer none, .pointer none, .pointer none, .pointer none, .bool false, .bool false, .bool false, .bool false, .bool false, .bool false] := rfl
theorem nds_new {gs : List NdG} {i : Nat} (np bp ba sp bj mb : Nat) (h : gs.length = i) : Vi (gs ++ [Zju np bp ba sp bj mb]) (List.replicate (i + 1) newNd) 0 = Vi gs (List.replicate i newNd) 0 ++ (Zab (Zju np bp ba sp bj mb) newNd ++ (Yo bp ba ⟨Z2 512, false, -1⟩ ++ (Zed sp bj mb i ++ (Zej mb [] 0 ++ jC bj bp ⟨Zv (Z2 512), false⟩)))) := by
 rw [List.replicate_succ', Zka (show gs.length = (List.replicate i newNd).length by rw [List.length_replicate, h]), h]
 unfold Zfm
 rw [Zq2, List.append_nil, Nat.zero_add]
 have : siB (Zju np bp ba sp bj mb) i newNd.site = Zed sp bj mb i ++ Zej mb [] 0 ++ jC bj bp ⟨Zv (Z2 512), false⟩ := rfl
 rw [this]
 simp only [List.append_assoc]
 rfl
set_option maxHeartbeats 2000000 attribute [local irreducible] HW HO HQ HD HC QOp Has Upd Zp Gets Yf Z8 Zr X3 Z9 Zj Wa Zy
attribute [local irreducible] Yo Zv Z2
theorem Zm4 (T : Nat) (E : Nat → Addr) (v : Value) (w : List Int) (c : List Zn) (L : Zb) (hG : Er T E [2, 3, 4, 6] L) (hv : Vec 3 1 ic v w c) (hl : w.length ≤ 1000000) :
  HC Tryz.prog 16 [v] (c :: L) (fun u L' => match X1 w with
   | some e => u = .tuple ⟨[.pointer none, eV T E (some e)]⟩ ∧ L' = c :: L
   | none => ∃ G, u = .tuple ⟨[pt G.wp 0, .nilIface]⟩ ∧ WdOk G (Zaa w) ∧ L' = Ym G (Zaa w) ++ (c :: L)) := by
 obtain ⟨aw, capw, rfl, -, hR⟩ := hv.rd Xl
 have kc := Zah T E aw capw w (c :: L) (hG.sub.cons c) (hR L) hl
 have kcl := fun L => Zno _ w c L hv (by omega)
 cases hc : X1 w with
 | some e =>
  rw [hc] at kc
  refine Za (fun _ _ => Tryz.call16 _ _) Tryz.func16 rfl Tryz.ntmps16 (Nat.le_of_ble_eq_true rfl) ?_; simp only [Ze, Nat.reduceAdd]
  repeat' (first | refine uN ?_ | refine uC (kc) ?_ | (refine uB ?_; intro b) | (refine uP ?_ ?_ <;> (intro h; ((try simp only [zs, ne_eq, and_true, true_and, eq_self, reduceCtorEq] at h); try exact zx))) | fail)
  exact Zbm rfl ⟨rfl, rfl⟩
 | none =>
  rw [hc] at kc
  obtain ⟨c1, c2, -⟩ := Ub hc
  have kp := fun L hG => Zhp T E 512 L hG
  rw [show Zkn 512 = some ⟨Z2 512, false, -1⟩ from rfl] at kp
  have hz := Zqh 512
  have ks := fun (i : Nat) (hi : i < 7) bp ba L hG => Ze9 T E (i : Int) bp ba ⟨Z2 512, false, -1⟩ L hG (by simp only; omega)
  have hse : ∀ i : Nat, i < 7 → Zia (i : Int) ⟨Z2 512, false, -1⟩ = none := fun i hi => by
   unfold Zia
   rw [if_neg (by omega)]
   simp only
   rw [if_neg (by omega)]
   simp
  refine Za (fun _ _ => Tryz.call16 _ _) Tryz.func16 rfl Tryz.ntmps16 (Nat.le_of_ble_eq_true rfl) ?_; simp only [Ze, Nat.reduceAdd]
  repeat' (first | refine uN ?_ | refine uC (kc) ?_ | (refine uB ?_; intro b) | (refine uP ?_ ?_ <;> (intro h; ((try simp only [zs, ne_eq, and_true, true_and, eq_self, reduceCtorEq] at h); try exact zx))) | fail)
  refine gc (kcl _) ?_
  rintro u L' ⟨cw, hvw, rfl⟩
  obtain ⟨aw2, capw2, rfl, -, -⟩ := hvw.rd Xl
  repeat' (first | refine uN ?_ | refine uC (kc) ?_ | (refine uB ?_; intro b) | (refine uP ?_ ?_ <;> (intro h; ((try simp only [zs, ne_eq, and_true, true_and, eq_self, reduceCtorEq] at h); try exact zx))) | fail)
  rename_i mb
  obtain ⟨wp, rfl⟩ : ∃ wp, wp = b := ⟨b, rfl⟩
  refine Zcu (L' := [(wp, .cells ⟨[.slice aw2 w.length capw2, Wo, .map (some mb), Wo, Wo]⟩ 87)] :: [] :: [(mb, .map ⟨[]⟩ 0)] :: cw :: [] :: c :: L) ?_ uL
  refine Zx (σ := Nat × Value × List Zn × List NdG) (fun r => [(5, pt wp 0), (20, .slice aw w.length capw), (21, iv w.length), (22, iv r.1)])
   (fun r => [(wp, .cells ⟨[.slice aw2 w.length capw2, r.2.1, .map (some mb), Wo, Wo]⟩ 87)] :: r.2.2.1 :: [(mb, .map ⟨[]⟩ 0)] :: cw :: Vi r.2.2.2 (List.replicate r.1 newNd) 0 :: c :: L)
   (fun r => r.1 ≤ w.length ∧ r.2.2.2.length = r.1 ∧ Vec 94 1 pc r.2.1 (r.2.2.2.map (·.np)) r.2.2.1 ∧ ∀ (k : Nat) (g : NdG), r.2.2.2[k]? = some g → NdOk g newNd) (fun r => w.length - r.1) (0, Wo, [], []) uS (List.Sublist.refl _) ⟨by simp, rfl, Yh, fun k g h => by simp at h⟩ ?_
  rintro ⟨i, nv, nc, gs⟩ ⟨hi, hgl, hnv, hgk⟩
  simp only at hi hgl hnv hgk ⊢
  obtain ⟨an, capn, he, -, -⟩ := hnv.rd Ze7
  subst he
  have hml : (gs.map (·.np)).length = i := by simp [hgl]
  by_cases hit : i < w.length
  ·have ks2 := ks i (by omega)
   rw [hse i (by omega)] at ks2
   repeat' (first | refine uN ?_ | refine uC (kc) ?_ | (refine uB ?_; intro b) | (refine uP ?_ ?_ <;> (intro h; ((try simp only [zs, ne_eq, and_true, true_and, eq_self, reduceCtorEq] at h); try exact zx))) | fail)
   refine gc (kp _ (by repeat (first | exact hG | exact hG.sub | apply Errs.cons))) ?_
   rintro v L' ⟨bp, ba, rfl, rfl⟩
   repeat' (first | refine uN ?_ | refine uC (kc) ?_ | (refine uB ?_; intro b) | (refine uP ?_ ?_ <;> (intro h; ((try simp only [zs, ne_eq, and_true, true_and, eq_self, reduceCtorEq] at h); try exact zx))) | fail)
   refine gc (ks2 bp ba _ (by repeat (first | exact hG | exact hG.sub | apply Errs.cons))) ?_
   rintro v L' ⟨sp, bj, mb2, rfl, rfl⟩
   repeat' (first | refine uN ?_ | refine uC (kc) ?_ | (refine uB ?_; intro b) | (refine uP ?_ ?_ <;> (intro h; ((try simp only [zs, ne_eq, and_true, true_and, eq_self, reduceCtorEq] at h); try exact zx))) | fail)
   rename_i np
   refine fo 7 ?_
   refine wp1 S np hnv Ze7 pc_one ?_ (hby := by rw [hml]; omega) (hmax := by rw [hml]; omega)
   intro v' c' hv'
   obtain ⟨an2, capn2, he2, -, -⟩ := hv'.rd Ze7
   subst he2
   have hnew := newNd_ok np bp ba sp bj mb2
   repeat' (first | refine uN ?_ | refine uC (kc) ?_ | (refine uB ?_; intro b) | (refine uP ?_ ?_ <;> (intro h; ((try simp only [zs, ne_eq, and_true, true_and, eq_self, reduceCtorEq] at h); try exact zx))) | fail)
   refine Z5 (i + 1, .slice an2 (gs.map (·.np) ++ [np]).length capn2, c', gs ++ [Zju np bp ba sp bj mb2]) uS ?_ ⟨by simp only; omega, by simp [hgl], by rw [List.map_append]; exact hv', fun k g hk => ?_⟩ (by simp only; omega)
   ·simp only [nds_new np bp ba sp bj mb2 hgl]
    refine LS.trans (b := ([(wp, .cells ⟨[.slice aw2 w.length capw2, .slice an2 (gs.map (·.np) ++ [np]).length capn2, .map (some mb), Wo, Wo]⟩ 87)] :: c' :: [(mb, .map ⟨[]⟩ 0)] :: cw :: Vi gs (List.replicate i newNd) 0 :: Zab (Zju np bp ba sp bj mb2) newNd :: Yo bp ba ⟨Z2 512, false, -1⟩ :: Zed sp bj mb2 i :: Zej mb2 [] 0 :: jC bj bp ⟨Zv (Z2 512), false⟩ :: c :: L).flatten) (LS.of_eq ?_) ?_
    ·simp only [List.flatten_cons, List.append_assoc]
    ·simp only [Zab, Qc, Zqi]
     exact uL
   ·rw [List.getElem?_append] at hk
    split at hk
    ·exact hgk k g hk
    ·rename_i hk2
     have : k - gs.length = 0 := by
      by_cases e : k - gs.length = 0
      ·exact e
      ·simp [e] at hk
     rw [this] at hk
     cases hk
     exact hnew
  ·obtain rfl : i = w.length := by omega
   repeat' (first | refine uN ?_ | refine uC (kc) ?_ | (refine uB ?_; intro b) | (refine uP ?_ ?_ <;> (intro h; ((try simp only [zs, ne_eq, and_true, true_and, eq_self, reduceCtorEq] at h); try exact zx))) | fail)
   refine Ve (L' := Ym ⟨wp, .slice aw2 w.length capw2, cw, .slice an (gs.map (·.np)).length capn, nc, mb, [], 0, Wo, [], Wo, [], gs⟩ (Zaa w) ++ (c :: L)) ?_ ⟨⟨wp, .slice aw2 w.length capw2, cw, .slice an (gs.map (·.np)).length capn, nc, mb, [], 0, Wo, [], Wo, [], gs⟩, rfl, ⟨hvw, hnv, by simp [Zaa, hgl], Zgh, Yh, Yh, fun s g m h1 h2 => ?_⟩, rfl⟩
   ·simp only [Ym, Zcc, Ut, List.cons_append, List.nil_append, Zaa]
    exact uL
   ·simp only [Zaa, List.getElem?_replicate] at h2
    split at h2
    ·cases h2
     exact hgk s g h1
    ·cases h2
end Go.HL
end

/-! PwA -/
section
namespace Go.HL
open Go Go.Proofs
set_option linter.unusedVariables false
set_option linter.unusedSimpArgs false
def oneW (M : Wm) (v : Int) : Wm × Option Nat :=
 if v % 16 < 9 ∧ M.l.length = 0 then (M, some 4) else
 if v % 16 = 7 then Q3 M (v / 16 % M.l.length) else
 if v % 16 = 8 then Vq M (v / 16 % M.l.length) else
 if v % 16 = 9 then Vc M (v / 16 % 7) (v / 16 / 7 % 6) else
 if v % 16 = 10 then Us M (v / 16 % 7) else
 if v % 16 = 11 then Wq M (v / 16 % 7) (v / 16 / 7 % 6) else
 if v % 16 = 12 then Ue M (v / 16 % 7) (v / 16 / 7 % 6) (decide (v / 16 % 2 = 0)) else
 if v % 16 = 13 then Zec M (v / 16 % 7) (v / 16 % 40) else
 if v % 16 = 14 then Q5 M (v / 16 % 7) else
 if v % 16 = 15 then Zr9 M (v / 16 % 7) else
 Z4 M (v / 16 % M.l.length)
def okW (e : Option Nat) : Prop := e = none ∨ e = some 2 ∨ e = some 4 ∨ e = some 6 ∨ e = some 8
theorem Zel (M : Wm) (s : Int) : okW (Xz M s) := by unfold Xz okW; split <;> simp
theorem Zl4 (M : Wm) (s : Int) : okW (Zgu M s) := by
 unfold Zgu
 have := Zel M s
 split
 ·rename_i e he
  rw [he] at this
  exact this
 ·unfold okW; split <;> simp
theorem wat_w (M : Wm) (k : Int) : okW (Zqv M k) := by unfold Zqv okW; split <;> simp
theorem begin_w (M : Wm) (s d : Int) : okW (Vc M s d).2 := by
 unfold Vc
 split
 ·unfold okW; simp
 have := Zl4 M s
 split
 ·rename_i e he
  rw [he] at this
  exact this
 split <;> (unfold okW; simp)
theorem refuse_w (M : Wm) (s d : Int) : okW (Wq M s d).2 := by
 unfold Wq
 split
 ·unfold okW; simp
 have := Zl4 M s
 split
 ·rename_i e he
  rw [he] at this
  exact this
 ·unfold okW; simp
theorem tick_w (M : Wm) (s : Int) : okW (Us M s).2 := by
 unfold Us
 have := Zl4 M s
 split
 ·rename_i e he
  rw [he] at this
  exact this
 ·unfold okW; simp
theorem Zqj (M : Wm) (k : Int) : okW (Z4 M k).2 := by
 unfold Z4
 have := wat_w M k
 split
 ·rename_i e he
  rw [he] at this
  exact this
 ·simp only
  split
  ·unfold okW; simp
  split
  ·split <;> (unfold okW; simp)
  ·unfold okW; simp
theorem drop_w (M : Wm) (k : Int) : okW (Q3 M k).2 := by
 unfold Q3
 have := wat_w M k
 split
 ·rename_i e he
  rw [he] at this
  exact this
 ·unfold okW; simp
theorem twice_w (M : Wm) (k : Int) : okW (Vq M k).2 := by
 unfold Vq
 have := wat_w M k
 split
 ·rename_i e he
  rw [he] at this
  exact this
 ·unfold okW; simp
theorem link_w (M : Wm) (a b : Int) (c : Bool) : okW (Ue M a b c).2 := by unfold Ue; split <;> (unfold okW; simp)
theorem cut_w (M : Wm) (s n : Int) : okW (Zec M s n).2 := by
 unfold Zec
 split
 ·unfold okW; simp
 have := Zl4 M s
 split
 ·rename_i e he
  rw [he] at this
  exact this
 ·unfold okW; simp
theorem down_w (M : Wm) (s : Int) : okW (Q5 M s).2 := by
 unfold Q5
 have := Zl4 M s
 split
 ·rename_i e he
  rw [he] at this
  exact this
 ·unfold okW; simp
theorem up_w (M : Wm) (s : Int) : okW (Zr9 M s).2 := by
 unfold Zr9
 have := Zel M s
 split
 ·rename_i e he
  rw [he] at this
  exact this
 ·split <;> (unfold okW; simp)
theorem okW.ok {e : Option Nat} (h : okW e) : okE e := by
 rcases h with h | h | h | h | h <;> (rw [h]; first | exact .inl rfl | (refine .inr ⟨_, rfl, ?_⟩; decide) | trivial | decide)
set_option maxHeartbeats 2000000 attribute [local irreducible] HW HO HQ HD HC QOp Has Upd Zp Gets Yf Z8 Zr X3 Z9 Zj Wa Zy
attribute [local irreducible] X2 Zz Yo Z3 Y5 Zv Zbg Us Vc Z4 Zr9
end Go.HL
end

/-! PwB -/
section
namespace Go.HL
open Go Go.Proofs
set_option linter.unusedVariables false
set_option linter.unusedSimpArgs false
def runV (q : Wm × List Int) (v : Int) : Wm × List Int := if 0 ≤ v then ((oneW q.1 v).1, q.2 ++ [Zm9 (oneW q.1 v).2]) else (q.1, q.2 ++ [-1])
def runW (M : Wm) (l : List Int) : Wm × List Int := (l.take 3000).foldl runV (M, [])
theorem Zet {A L : Zb} {b : Nat} {o : Obj} (h : Has L b o) : Has (A ++ L) b o := by
 unfold Has at *
 rw [List.flatten_append]
 exact List.mem_append_right _ h
set_option maxHeartbeats 2000000 attribute [local irreducible] HW HO HQ HD HC QOp Has Upd Zp Gets Yf Z8 Zr X3 Z9 Zj Wa Zy
attribute [local irreducible] oneW
end Go.HL
end

/-! ErD3 -/
section
namespace Go.HL
open Go Go.Proofs
set_option linter.unusedVariables false
set_option linter.unusedSimpArgs false
set_option maxHeartbeats 2000000 attribute [local irreducible] HW HO HQ HD HC QOp Has Upd Zp Gets Yf Z8 Zr X3 Z9 Zj Wa Zy
theorem Ziz (T : Nat) (E : Nat → Addr) (e : Option Nat) (k : Int) (L : Zb) (hE : Ez T E L) (he : okE e) : HC Tryz.prog 6 [eV T E e, iv k] L (fun v L' => v = .bool (decide (Zm9 e = k)) ∧ L' = L) := by
 have hc := code_all T E e L hE he
 refine Za (fun _ _ => Tryz.call6 _ _) Tryz.func6 rfl Tryz.ntmps6 (Nat.le_of_ble_eq_true rfl) ?_; simp only [Ze, Nat.reduceAdd]
 repeat' (first | refine uN ?_ | refine uC (hc) ?_ | (refine uP ?_ ?_ <;> (intro h; ((try simp only [zs, ne_eq, and_true, true_and, eq_self, reduceCtorEq] at h); try exact zx))) | fail)
 all_goals (refine Xm uZ ⟨?_, rfl⟩; simp [*])
end Go.HL
end

/-! PwC -/
section
namespace Go.HL
open Go Go.Proofs
set_option linter.unusedVariables false
set_option linter.unusedSimpArgs false
set_option maxHeartbeats 2000000 attribute [local irreducible] HW HO HQ HD HC QOp Has Upd Zp Gets Yf Z8 Zr X3 Z9 Zj Wa Zy
attribute [local irreducible] Vc Zaa
end Go.HL
end

/-! PwD -/
section
namespace Go.HL
open Go Go.Proofs
set_option linter.unusedVariables false
set_option linter.unusedSimpArgs false
def Xg (G : WdG) (M : Wm) : List Zn := (Ym G M).flatten
theorem Qi (G : WdG) (M : Wm) (L : Zb) : (Xg G M :: L).flatten = (Ym G M ++ L).flatten := by
 unfold Xg
 rw [List.flatten_cons, List.flatten_append]
def Zo3 (G : WdG) (M' : Wm) (L L' : Zb) : Prop := ∃ G', G'.wp = G.wp ∧ WdOk G' M' ∧ L' = Xg G' M' :: L
theorem HC.shut {F : Nat} {args : List Value} {G : WdG} {M M' : Wm} {L : Zb} {V : Value → Prop} (h : HC Tryz.prog F args (Ym G M ++ L) (fun v L' => V v ∧ Zdl G M' L L')) : HC Tryz.prog F args (Xg G M :: L) (fun v L' => V v ∧ Zo3 G M' L L') := by
 refine HC.post (HC.fl h (Qi G M L).symm) ?_
 rintro v L' ⟨hv, G', e1, e2, e3, rfl⟩
 exact ⟨Xg G' M' :: L, LS.of_eq (Qi G' M' L), hv, G', e1, e3, rfl⟩
theorem HC.shutR {F : Nat} {args : List Value} {G : WdG} {M : Wm} {L : Zb} {V : Value → List Zn → Prop} (h : HC Tryz.prog F args (Ym G M ++ L) (fun v L' => ∃ c, V v c ∧ L' = c :: (Ym G M ++ L))) : HC Tryz.prog F args (Xg G M :: L) (fun v L' => ∃ c, V v c ∧ L' = c :: Xg G M :: L) := by
 refine HC.post (HC.fl h (Qi G M L).symm) ?_
 rintro v L' ⟨c, hv, rfl⟩
 refine ⟨c :: Xg G M :: L, ?_, c, hv, rfl⟩
 rw [List.flatten_cons, Qi, List.flatten_cons]
 exact LS.refl _
theorem HC.shutN {F : Nat} {args : List Value} {M : Wm} {L : Zb} {V : Value → WdG → Prop} {K : Zb} (h : HC Tryz.prog F args K (fun v L' => ∃ G, V v G ∧ WdOk G M ∧ L' = Ym G M ++ L)) : HC Tryz.prog F args K (fun v L' => ∃ G, V v G ∧ WdOk G M ∧ L' = Xg G M :: L) := by
 refine HC.post h ?_
 rintro v L' ⟨G, hv, hW, rfl⟩
 exact ⟨Xg G M :: L, LS.of_eq (Qi G M L), G, hv, hW, rfl⟩
theorem HC.shutQ {F : Nat} {args : List Value} {G : WdG} {M : Wm} {L : Zb} {V : Value} (h : HC Tryz.prog F args (Ym G M ++ L) (fun v L' => v = V ∧ L' = Ym G M ++ L)) : HC Tryz.prog F args (Xg G M :: L) (fun v L' => v = V ∧ L' = Xg G M :: L) := by
 refine HC.post (HC.fl h (Qi G M L).symm) ?_
 rintro v L' ⟨hv, rfl⟩
 exact ⟨Xg G M :: L, LS.of_eq (Qi G M L), hv, rfl⟩
set_option maxHeartbeats 2000000 attribute [local irreducible] HW HO HQ HD HC QOp Has Upd Zp Gets Yf Z8 Zr X3 Z9 Zj Wa Zy
attribute [local irreducible] runW Zaa
end Go.HL
end

/-! ScB -/
section
namespace Go.HL
open Go Go.Proofs
set_option linter.unusedVariables false
set_option linter.unusedSimpArgs false
def Wj (k : Nat) (M : Wm) (n : List Int) : Wm × Option Nat :=
 match k with
 | 0 => Vc M (n.getD 0 0) (n.getD 1 0)
 | 1 => Wq M (n.getD 0 0) (n.getD 1 0)
 | 2 => Us M (n.getD 0 0)
 | 3 => Z4 M (n.getD 0 0)
 | 4 => Q3 M (n.getD 0 0)
 | 5 => Vq M (n.getD 0 0)
 | 6 => Ue M (n.getD 0 0) (n.getD 1 0) true
 | 7 => Ue M (n.getD 0 0) (n.getD 1 0) false
 | 8 => Zec M (n.getD 0 0) (n.getD 1 0)
 | 9 => Q5 M (n.getD 0 0)
 | _ => Zr9 M (n.getD 0 0)
theorem cmdW_ok {M : Wm} (h : WI M) (k : Nat) (n : List Int) (h0 : n.getD 1 0 ≤ 9223372036854775807) : StepOk M (Wj k M n).1 84 := by
 unfold Wj
 split
 ·exact (begin_ok h _ _).mono (by omega)
 ·exact (Zrl h _ _).mono (by omega)
 ·exact (tick_ok h _).mono (by omega)
 ·exact (Qu h _).mono (by omega)
 ·exact (drop_ok h _).mono (by omega)
 ·exact (twice_ok h _).mono (by omega)
 ·exact (Zpj h _ _ _).mono (by omega)
 ·exact (Zpj h _ _ _).mono (by omega)
 ·exact (cut_ok h _ _ h0).mono (by omega)
 ·exact (down_ok h _).mono (by omega)
 ·exact (up_ok h _).mono (by omega)
theorem cmdW_w (k : Nat) (M : Wm) (n : List Int) : okW (Wj k M n).2 := by
 unfold Wj
 split
 ·exact begin_w _ _ _
 ·exact refuse_w _ _ _
 ·exact tick_w _ _
 ·exact Zqj _ _
 ·exact drop_w _ _
 ·exact twice_w _ _
 ·exact link_w _ _ _ _
 ·exact link_w _ _ _ _
 ·exact cut_w _ _ _
 ·exact down_w _ _
 ·exact up_w _ _
def Zi (p : Nat) (wp : Value) : List Zn := [(p, .cells ⟨[wp]⟩ 37)]
theorem Zpz {L : Zb} {a : Option Addr} {ns : List Int} (h : Rd ic 1 L a ns) (hn : 1 ≤ ns.length) : ∃ b i q F fr, a = some ⟨b, i, none⟩ ∧ Has L b (.cells ⟨q⟩ F fr) ∧ Gets q (i + (0 : Int).toNat) [iv (ns.getD 0 0)] ∧ (2 ≤ ns.length → Gets q (i + (1 : Int).toNat) [iv (ns.getD 1 0)]) := by
 rcases h with h | ⟨b, i, l, E, fr, h2, h3, h4⟩
 ·subst h; simp at hn
 ·refine ⟨b, i, l, E, fr, h2, h3, h4 0 _ ?_, fun h => h4 1 _ ?_⟩
  ·cases ns with
   | nil => simp at hn
   | cons a r => rfl
  ·match ns, h with
   | a :: c :: r, _ => rfl
set_option maxHeartbeats 2000000 attribute [local irreducible] HW HO HQ HD HC QOp Has Upd Zp Gets Yf Z8 Zr X3 Z9 Zj Wa Zy
attribute [local irreducible] Xg Us Z4 Vc Wq Q3 Vq Ue Zec Q5 Zr9
section
variable (T : Nat) (E : Nat → Addr) (G : WdG) (M : Wm) (p : Nat) (a : Option Addr) (cap : Nat) (ns : List Int) (L : Zb)
theorem Zoi (hE : Ez T E L) (hW : WdOk G M) (hM : WI M) (hl : M.l.length ≤ 99999000) (hR : Rd ic 1 L a ns) (hn : 2 ≤ ns.length) (hcap : ns.length ≤ cap) (h48 : ns.length ≤ 1000) :
  HC Tryz.prog 35 [pt p 0, .slice a ns.length cap] (Xg G M :: Zi p (pt G.wp 0) :: L) (fun v L' => v = eV T E (Wj 0 M ns).2 ∧ Zo3 G (Wj 0 M ns).1 (Zi p (pt G.wp 0) :: L) L') := by
 have hG := (hE.er [2, 3, 4, 5, 6, 8]).cons (Zi p (pt G.wp 0))
 have k := HC.shut (Zik T E G M (ns.getD 0 0) (ns.getD 1 0) _ hG.sub hW hM (by omega))
 obtain ⟨b1, i1, q1, F1, f1, rfl, hb1, hg1, hg2⟩ := Zpz hR (by omega)
 have hg2 := hg2 (by omega)
 have hb1 := (Zc (Zc hb1) : Has (Xg G M :: Zi p (pt G.wp 0) :: L) _ _)
 unfold Zi at *
 refine Za (fun _ _ => Tryz.call35 _ _) Tryz.func35 rfl Tryz.ntmps35 (Nat.le_of_ble_eq_true rfl) ?_; simp only [Ze, Nat.reduceAdd]
 repeat' (first | refine uN ?_ | refine Z0 S ?_ | refine da 101 ?_ | fail)
 refine gc k ?_
 rintro v L' ⟨rfl, G2, e1, hW2, rfl⟩
 repeat' (first | refine uN ?_ | refine Z0 S ?_ | refine da 101 ?_ | fail)
 exact Qd rfl ⟨rfl, G2, e1, hW2, rfl⟩
theorem Zmx (hE : Ez T E L) (hW : WdOk G M) (hM : WI M) (hl : M.l.length ≤ 99999000) (hR : Rd ic 1 L a ns) (hn : 2 ≤ ns.length) (hcap : ns.length ≤ cap) (h48 : ns.length ≤ 1000) :
  HC Tryz.prog 37 [pt p 0, .slice a ns.length cap] (Xg G M :: Zi p (pt G.wp 0) :: L) (fun v L' => v = eV T E (Wj 1 M ns).2 ∧ Zo3 G (Wj 1 M ns).1 (Zi p (pt G.wp 0) :: L) L') := by
 have hG := (hE.er [2, 3, 4, 5, 6, 8]).cons (Zi p (pt G.wp 0))
 have k := HC.shut (Zgy T E G M (ns.getD 0 0) (ns.getD 1 0) _ hG.sub hW hM)
 obtain ⟨b1, i1, q1, F1, f1, rfl, hb1, hg1, hg2⟩ := Zpz hR (by omega)
 have hg2 := hg2 (by omega)
 have hb1 := (Zc (Zc hb1) : Has (Xg G M :: Zi p (pt G.wp 0) :: L) _ _)
 unfold Zi at *
 refine Za (fun _ _ => Tryz.call37 _ _) Tryz.func37 rfl Tryz.ntmps37 (Nat.le_of_ble_eq_true rfl) ?_; simp only [Ze, Nat.reduceAdd]
 repeat' (first | refine uN ?_ | refine Z0 S ?_ | refine da 101 ?_ | fail)
 refine gc k ?_
 rintro v L' ⟨rfl, G2, e1, hW2, rfl⟩
 repeat' (first | refine uN ?_ | refine Z0 S ?_ | refine da 101 ?_ | fail)
 exact Qd rfl ⟨rfl, G2, e1, hW2, rfl⟩
theorem Zna (hE : Ez T E L) (hW : WdOk G M) (hM : WI M) (hl : M.l.length ≤ 99999000) (hR : Rd ic 1 L a ns) (hn : 1 ≤ ns.length) (hcap : ns.length ≤ cap) (h48 : ns.length ≤ 1000) :
  HC Tryz.prog 39 [pt p 0, .slice a ns.length cap] (Xg G M :: Zi p (pt G.wp 0) :: L) (fun v L' => v = eV T E (Wj 2 M ns).2 ∧ Zo3 G (Wj 2 M ns).1 (Zi p (pt G.wp 0) :: L) L') := by
 have hG := (hE.er [2, 3, 4, 5, 6, 8]).cons (Zi p (pt G.wp 0))
 have k := HC.shut (Zj6 T E G M (ns.getD 0 0) _ hG.sub hW hM (by omega))
 obtain ⟨b1, i1, q1, F1, f1, rfl, hb1, hg1, hg2⟩ := Zpz hR (by omega)
 clear hg2
 have hb1 := (Zc (Zc hb1) : Has (Xg G M :: Zi p (pt G.wp 0) :: L) _ _)
 unfold Zi at *
 refine Za (fun _ _ => Tryz.call39 _ _) Tryz.func39 rfl Tryz.ntmps39 (Nat.le_of_ble_eq_true rfl) ?_; simp only [Ze, Nat.reduceAdd]
 repeat' (first | refine uN ?_ | refine Z0 S ?_ | refine da 101 ?_ | fail)
 refine gc k ?_
 rintro v L' ⟨rfl, G2, e1, hW2, rfl⟩
 repeat' (first | refine uN ?_ | refine Z0 S ?_ | refine da 101 ?_ | fail)
 exact Qd rfl ⟨rfl, G2, e1, hW2, rfl⟩
theorem Znu (hE : Ez T E L) (hW : WdOk G M) (hM : WI M) (hl : M.l.length ≤ 99999000) (hR : Rd ic 1 L a ns) (hn : 1 ≤ ns.length) (hcap : ns.length ≤ cap) (h48 : ns.length ≤ 1000) :
  HC Tryz.prog 41 [pt p 0, .slice a ns.length cap] (Xg G M :: Zi p (pt G.wp 0) :: L) (fun v L' => v = eV T E (Wj 3 M ns).2 ∧ Zo3 G (Wj 3 M ns).1 (Zi p (pt G.wp 0) :: L) L') := by
 have hG := (hE.er [2, 3, 4, 5, 6, 8]).cons (Zi p (pt G.wp 0))
 have k := HC.shut (Zat T E G M (ns.getD 0 0) _ hG.sub hW hM (by omega))
 obtain ⟨b1, i1, q1, F1, f1, rfl, hb1, hg1, hg2⟩ := Zpz hR (by omega)
 clear hg2
 have hb1 := (Zc (Zc hb1) : Has (Xg G M :: Zi p (pt G.wp 0) :: L) _ _)
 unfold Zi at *
 refine Za (fun _ _ => Tryz.call41 _ _) Tryz.func41 rfl Tryz.ntmps41 (Nat.le_of_ble_eq_true rfl) ?_; simp only [Ze, Nat.reduceAdd]
 repeat' (first | refine uN ?_ | refine Z0 S ?_ | refine da 101 ?_ | fail)
 refine gc k ?_
 rintro v L' ⟨rfl, G2, e1, hW2, rfl⟩
 repeat' (first | refine uN ?_ | refine Z0 S ?_ | refine da 101 ?_ | fail)
 exact Qd rfl ⟨rfl, G2, e1, hW2, rfl⟩
theorem Zok (hE : Ez T E L) (hW : WdOk G M) (hM : WI M) (hl : M.l.length ≤ 99999000) (hR : Rd ic 1 L a ns) (hn : 1 ≤ ns.length) (hcap : ns.length ≤ cap) (h48 : ns.length ≤ 1000) :
  HC Tryz.prog 43 [pt p 0, .slice a ns.length cap] (Xg G M :: Zi p (pt G.wp 0) :: L) (fun v L' => v = eV T E (Wj 4 M ns).2 ∧ Zo3 G (Wj 4 M ns).1 (Zi p (pt G.wp 0) :: L) L') := by
 have hG := (hE.er [2, 3, 4, 5, 6, 8]).cons (Zi p (pt G.wp 0))
 have k := HC.shut (Zln T E G M (ns.getD 0 0) _ hG.sub hW (by omega))
 obtain ⟨b1, i1, q1, F1, f1, rfl, hb1, hg1, hg2⟩ := Zpz hR (by omega)
 clear hg2
 have hb1 := (Zc (Zc hb1) : Has (Xg G M :: Zi p (pt G.wp 0) :: L) _ _)
 unfold Zi at *
 refine Za (fun _ _ => Tryz.call43 _ _) Tryz.func43 rfl Tryz.ntmps43 (Nat.le_of_ble_eq_true rfl) ?_; simp only [Ze, Nat.reduceAdd]
 repeat' (first | refine uN ?_ | refine Z0 S ?_ | refine da 101 ?_ | fail)
 refine gc k ?_
 rintro v L' ⟨rfl, G2, e1, hW2, rfl⟩
 repeat' (first | refine uN ?_ | refine Z0 S ?_ | refine da 101 ?_ | fail)
 exact Qd rfl ⟨rfl, G2, e1, hW2, rfl⟩
theorem Zmz (hE : Ez T E L) (hW : WdOk G M) (hM : WI M) (hl : M.l.length ≤ 99999000) (hR : Rd ic 1 L a ns) (hn : 1 ≤ ns.length) (hcap : ns.length ≤ cap) (h48 : ns.length ≤ 1000) :
  HC Tryz.prog 45 [pt p 0, .slice a ns.length cap] (Xg G M :: Zi p (pt G.wp 0) :: L) (fun v L' => v = eV T E (Wj 5 M ns).2 ∧ Zo3 G (Wj 5 M ns).1 (Zi p (pt G.wp 0) :: L) L') := by
 have hG := (hE.er [2, 3, 4, 5, 6, 8]).cons (Zi p (pt G.wp 0))
 have k := HC.shut (Zjv T E G M (ns.getD 0 0) _ hG.sub hW (by omega))
 obtain ⟨b1, i1, q1, F1, f1, rfl, hb1, hg1, hg2⟩ := Zpz hR (by omega)
 clear hg2
 have hb1 := (Zc (Zc hb1) : Has (Xg G M :: Zi p (pt G.wp 0) :: L) _ _)
 unfold Zi at *
 refine Za (fun _ _ => Tryz.call45 _ _) Tryz.func45 rfl Tryz.ntmps45 (Nat.le_of_ble_eq_true rfl) ?_; simp only [Ze, Nat.reduceAdd]
 repeat' (first | refine uN ?_ | refine Z0 S ?_ | refine da 101 ?_ | fail)
 refine gc k ?_
 rintro v L' ⟨rfl, G2, e1, hW2, rfl⟩
 repeat' (first | refine uN ?_ | refine Z0 S ?_ | refine da 101 ?_ | fail)
 exact Qd rfl ⟨rfl, G2, e1, hW2, rfl⟩
theorem Zm0 (hE : Ez T E L) (hW : WdOk G M) (hM : WI M) (hl : M.l.length ≤ 99999000) (hR : Rd ic 1 L a ns) (hn : 2 ≤ ns.length) (hcap : ns.length ≤ cap) (h48 : ns.length ≤ 1000) :
  HC Tryz.prog 47 [pt p 0, .slice a ns.length cap] (Xg G M :: Zi p (pt G.wp 0) :: L) (fun v L' => v = eV T E (Wj 6 M ns).2 ∧ Zo3 G (Wj 6 M ns).1 (Zi p (pt G.wp 0) :: L) L') := by
 have hG := (hE.er [2, 3, 4, 5, 6, 8]).cons (Zi p (pt G.wp 0))
 have k := HC.shut (Zd8 T E G M (ns.getD 0 0) (ns.getD 1 0) true _ hG.sub hW)
 obtain ⟨b1, i1, q1, F1, f1, rfl, hb1, hg1, hg2⟩ := Zpz hR (by omega)
 have hg2 := hg2 (by omega)
 have hb1 := (Zc (Zc hb1) : Has (Xg G M :: Zi p (pt G.wp 0) :: L) _ _)
 unfold Zi at *
 refine Za (fun _ _ => Tryz.call47 _ _) Tryz.func47 rfl Tryz.ntmps47 (Nat.le_of_ble_eq_true rfl) ?_; simp only [Ze, Nat.reduceAdd]
 repeat' (first | refine uN ?_ | refine Z0 S ?_ | refine da 101 ?_ | fail)
 refine gc k ?_
 rintro v L' ⟨rfl, G2, e1, hW2, rfl⟩
 repeat' (first | refine uN ?_ | refine Z0 S ?_ | refine da 101 ?_ | fail)
 exact Qd rfl ⟨rfl, G2, e1, hW2, rfl⟩
theorem Zm7 (hE : Ez T E L) (hW : WdOk G M) (hM : WI M) (hl : M.l.length ≤ 99999000) (hR : Rd ic 1 L a ns) (hn : 2 ≤ ns.length) (hcap : ns.length ≤ cap) (h48 : ns.length ≤ 1000) :
  HC Tryz.prog 49 [pt p 0, .slice a ns.length cap] (Xg G M :: Zi p (pt G.wp 0) :: L) (fun v L' => v = eV T E (Wj 7 M ns).2 ∧ Zo3 G (Wj 7 M ns).1 (Zi p (pt G.wp 0) :: L) L') := by
 have hG := (hE.er [2, 3, 4, 5, 6, 8]).cons (Zi p (pt G.wp 0))
 have k := HC.shut (Zd8 T E G M (ns.getD 0 0) (ns.getD 1 0) false _ hG.sub hW)
 obtain ⟨b1, i1, q1, F1, f1, rfl, hb1, hg1, hg2⟩ := Zpz hR (by omega)
 have hg2 := hg2 (by omega)
 have hb1 := (Zc (Zc hb1) : Has (Xg G M :: Zi p (pt G.wp 0) :: L) _ _)
 unfold Zi at *
 refine Za (fun _ _ => Tryz.call49 _ _) Tryz.func49 rfl Tryz.ntmps49 (Nat.le_of_ble_eq_true rfl) ?_; simp only [Ze, Nat.reduceAdd]
 repeat' (first | refine uN ?_ | refine Z0 S ?_ | refine da 101 ?_ | fail)
 refine gc k ?_
 rintro v L' ⟨rfl, G2, e1, hW2, rfl⟩
 repeat' (first | refine uN ?_ | refine Z0 S ?_ | refine da 101 ?_ | fail)
 exact Qd rfl ⟨rfl, G2, e1, hW2, rfl⟩
theorem Zni (hE : Ez T E L) (hW : WdOk G M) (hM : WI M) (hl : M.l.length ≤ 99999000) (hR : Rd ic 1 L a ns) (hn : 2 ≤ ns.length) (hcap : ns.length ≤ cap) (h48 : ns.length ≤ 1000) :
  HC Tryz.prog 50 [pt p 0, .slice a ns.length cap] (Xg G M :: Zi p (pt G.wp 0) :: L) (fun v L' => v = eV T E (Wj 8 M ns).2 ∧ Zo3 G (Wj 8 M ns).1 (Zi p (pt G.wp 0) :: L) L') := by
 have hG := (hE.er [2, 3, 4, 5, 6, 8]).cons (Zi p (pt G.wp 0))
 have k := HC.shut (Zod T E G M (ns.getD 0 0) (ns.getD 1 0) _ hG.sub hW hM)
 obtain ⟨b1, i1, q1, F1, f1, rfl, hb1, hg1, hg2⟩ := Zpz hR (by omega)
 have hg2 := hg2 (by omega)
 have hb1 := (Zc (Zc hb1) : Has (Xg G M :: Zi p (pt G.wp 0) :: L) _ _)
 unfold Zi at *
 refine Za (fun _ _ => Tryz.call50 _ _) Tryz.func50 rfl Tryz.ntmps50 (Nat.le_of_ble_eq_true rfl) ?_; simp only [Ze, Nat.reduceAdd]
 repeat' (first | refine uN ?_ | refine Z0 S ?_ | refine da 101 ?_ | fail)
 refine gc k ?_
 rintro v L' ⟨rfl, G2, e1, hW2, rfl⟩
 repeat' (first | refine uN ?_ | refine Z0 S ?_ | refine da 101 ?_ | fail)
 exact Qd rfl ⟨rfl, G2, e1, hW2, rfl⟩
theorem Zn2 (hE : Ez T E L) (hW : WdOk G M) (hM : WI M) (hl : M.l.length ≤ 99999000) (hR : Rd ic 1 L a ns) (hn : 1 ≤ ns.length) (hcap : ns.length ≤ cap) (h48 : ns.length ≤ 1000) :
  HC Tryz.prog 52 [pt p 0, .slice a ns.length cap] (Xg G M :: Zi p (pt G.wp 0) :: L) (fun v L' => v = eV T E (Wj 9 M ns).2 ∧ Zo3 G (Wj 9 M ns).1 (Zi p (pt G.wp 0) :: L) L') := by
 have hG := (hE.er [2, 3, 4, 5, 6, 8]).cons (Zi p (pt G.wp 0))
 have k := HC.shut (Zlx T E G M (ns.getD 0 0) _ hG.sub hW hM)
 obtain ⟨b1, i1, q1, F1, f1, rfl, hb1, hg1, hg2⟩ := Zpz hR (by omega)
 clear hg2
 have hb1 := (Zc (Zc hb1) : Has (Xg G M :: Zi p (pt G.wp 0) :: L) _ _)
 unfold Zi at *
 refine Za (fun _ _ => Tryz.call52 _ _) Tryz.func52 rfl Tryz.ntmps52 (Nat.le_of_ble_eq_true rfl) ?_; simp only [Ze, Nat.reduceAdd]
 repeat' (first | refine uN ?_ | refine Z0 S ?_ | refine da 101 ?_ | fail)
 refine gc k ?_
 rintro v L' ⟨rfl, G2, e1, hW2, rfl⟩
 repeat' (first | refine uN ?_ | refine Z0 S ?_ | refine da 101 ?_ | fail)
 exact Qd rfl ⟨rfl, G2, e1, hW2, rfl⟩
theorem Zlt (hE : Ez T E L) (hW : WdOk G M) (hM : WI M) (hl : M.l.length ≤ 99999000) (hR : Rd ic 1 L a ns) (hn : 1 ≤ ns.length) (hcap : ns.length ≤ cap) (h48 : ns.length ≤ 1000) :
  HC Tryz.prog 54 [pt p 0, .slice a ns.length cap] (Xg G M :: Zi p (pt G.wp 0) :: L) (fun v L' => v = eV T E (Wj 10 M ns).2 ∧ Zo3 G (Wj 10 M ns).1 (Zi p (pt G.wp 0) :: L) L') := by
 have hG := (hE.er [2, 3, 4, 5, 6, 8]).cons (Zi p (pt G.wp 0))
 have k := HC.shut (Zn6 T E G M (ns.getD 0 0) _ hG.sub hW hM)
 obtain ⟨b1, i1, q1, F1, f1, rfl, hb1, hg1, hg2⟩ := Zpz hR (by omega)
 clear hg2
 have hb1 := (Zc (Zc hb1) : Has (Xg G M :: Zi p (pt G.wp 0) :: L) _ _)
 unfold Zi at *
 refine Za (fun _ _ => Tryz.call54 _ _) Tryz.func54 rfl Tryz.ntmps54 (Nat.le_of_ble_eq_true rfl) ?_; simp only [Ze, Nat.reduceAdd]
 repeat' (first | refine uN ?_ | refine Z0 S ?_ | refine da 101 ?_ | fail)
 refine gc k ?_
 rintro v L' ⟨rfl, G2, e1, hW2, rfl⟩
 repeat' (first | refine uN ?_ | refine Z0 S ?_ | refine da 101 ?_ | fail)
 exact Qd rfl ⟨rfl, G2, e1, hW2, rfl⟩
end
end Go.HL
end

/-! HLSh -/
section
namespace Go.HL
open Go Go.RowKit
set_option linter.unusedVariables false
theorem Zhv {w : World} {L : Zb} (h : ∀ p ∈ L.flatten, w.heap[p.1]? = some p.2) {p : Zn} (hp : p ∈ L.flatten) : p.1 < w.heap.size := (Array.getElem?_eq_some_iff.1 (h p hp)).1
theorem Sat.below {k : Zgr} {w w' : World} {L : Zb} (hs : Sat k w L) (hb : Below w.heap.size w w') : Sat k w' L :=
 ⟨hb.os.trans hs.os, hb.output.trans hs.out, hb.tape.trans hs.tape, fun p hp => by rw [hb.block p.1 (Zhv hs.has hp)]; exact hs.has p hp, hs.nodup⟩
theorem Zas {P : Program} {f : Nat} {args : List Value} {L : Zb} {V : Value → Prop} (he : Zgb P f) (h : ∀ w, (∀ p ∈ L.flatten, w.heap[p.1]? = some p.2) → Calls P f ⟨args⟩ w fun e w' => ∃ v, e = .returned v ∧ V v ∧ Below w.heap.size w w') : HC P f args L (fun v L' => V v ∧ L' = L) :=
 ⟨he, fun k w hs => (h w hs.has).mono fun e w' ⟨v, e1, hv, hb⟩ => ⟨v, L, e1, hs.below hb, hv, rfl⟩⟩
theorem hc_alloc {P : Program} {f : Nat} {args : List Value} {L : Zb} {V : Nat → Value} {o : Obj} (he : Zgb P f) (h : ∀ w, (∀ p ∈ L.flatten, w.heap[p.1]? = some p.2) → Calls P f ⟨args⟩ w fun e w' => e = .returned (V w.heap.size) ∧ w' = w.alloc o) : HC P f args L (fun v L' => ∃ b, v = V b ∧ L' = [(b, o)] :: L) :=
 ⟨he, fun k w hs => (h w hs.has).mono fun e w' ⟨e1, hw⟩ => ⟨_, [(w.heap.size, o)] :: L, e1, hw ▸ hs.new o, _, rfl, rfl⟩⟩
theorem Zlu {w : World} {L : Zb} (h : ∀ p ∈ L.flatten, w.heap[p.1]? = some p.2) {b i : Nat} {l : List Value} {F : TypeId} {fr : Nat × Nat} {v : Value} (hb : Has L b (.cells ⟨l⟩ F fr)) (hi : l[i]? = some v) : w.cell? ⟨b, i, none⟩ = some v := by
 have h1 := h _ hb
 simp only at h1
 simp [World.cell?, h1, hi]
end Go.HL
end

/-! Shf -/
section
namespace Go.Proofs
open Go.Shelf
def Tryz.lays156_ren : Go.Shelf.Ren := ⟨fun | 156 => 69 | 165 => 26 | 166 => 27 | 169 => 29 | 240 => 86 | 241 => 87 | 276 => 125 | 277 => 126 | n => n, fun | 31 => 22 | 9 => 9 | 3 => 3 | 4 => 4 | 0 => 0 | 20 => 20 | 72 => 75 | 76 => 77 | 70 => 72 | 37 => 73 | 75 => 25 | 127 => 139 | 164 => 117 | 5 => 5 | 80 => 41 | n => n, fun | n => n⟩
theorem Tryz.lays156 : Go.Proofs.Lays.n156 Tryz.prog Tryz.lays156_ren := {
 mixed := by kernel_rfl
 f156 := Tryz.func69.trans (congrArg some (by kernel_rfl))
 f165 := Tryz.func26.trans (congrArg some (by kernel_rfl))
 f166 := Tryz.func27.trans (congrArg some (by kernel_rfl))
 f169 := Tryz.func29.trans (congrArg some (by kernel_rfl))
 f240 := Tryz.func86.trans (congrArg some (by kernel_rfl))
 f241 := Tryz.func87.trans (congrArg some (by kernel_rfl))
 f276 := Tryz.func125.trans (congrArg some (by kernel_rfl))
 f277 := Tryz.func126.trans (congrArg some (by kernel_rfl))
 t0 := Tryz.underlying0
 a0 := Tryz.isAgg0
 z0 := Tryz.sizeOf0
 v0 := Tryz.zeroValue0
 t3 := Tryz.underlying3
 a3 := Tryz.isAgg3
 z3 := Tryz.sizeOf3
 v3 := Tryz.zeroValue3
 t4 := Tryz.underlying4
 a4 := Tryz.isAgg4
 z4 := Tryz.sizeOf4
 v4 := Tryz.zeroValue4
 t9 := Tryz.underlying9
 a9 := Tryz.isAgg9
 z9 := Tryz.sizeOf9
 v9 := Tryz.zeroValue9
 t20 := Tryz.underlying20
 a20 := Tryz.isAgg20
 z20 := Tryz.sizeOf20
 v20 := Tryz.zeroValue20
 t31 := Tryz.underlying22
 a31 := Tryz.isAgg22
 z31 := Tryz.sizeOf22
 v31 := Tryz.zeroValue22
 t37 := Tryz.underlying73
 a37 := Tryz.isAgg73
 z37 := Tryz.sizeOf73
 v37 := Tryz.zeroValue73
 t70 := Tryz.underlying72
 a70 := Tryz.isAgg72
 z70 := Tryz.sizeOf72
 v70 := Tryz.zeroValue72
 t72 := Tryz.underlying75
 a72 := Tryz.isAgg75
 z72 := Tryz.sizeOf75
 v72 := Tryz.zeroValue75
 t75 := Tryz.underlying25
 a75 := Tryz.isAgg25
 z75 := Tryz.sizeOf25
 v75 := Tryz.zeroValue25
 t76 := Tryz.underlying77
 a76 := Tryz.isAgg77
 z76 := Tryz.sizeOf77
 v76 := Tryz.zeroValue77
 t127 := Tryz.underlying139
 a127 := Tryz.isAgg139
 z127 := Tryz.sizeOf139
 v127 := Tryz.zeroValue139
 t164 := Tryz.underlying117
 a164 := Tryz.isAgg117
 z164 := Tryz.sizeOf117
 v164 := Tryz.zeroValue117 }
theorem Tryz.Builder_Extra_156 : Builder.Extra Tryz.prog Tryz.lays156_ren := {
 sizeBuilder := by kernel_rfl
 liesBuilder := by kernel_rfl
 t5 := Tryz.underlying5
 a5 := Tryz.isAgg5
 z5 := Tryz.sizeOf5
 v5 := Tryz.zeroValue5
 infoByte := by kernel_rfl
 cellsByte := by kernel_rfl
 sizeByte := by kernel_rfl
 neB5 := by decide }
open Go.RowKit in
theorem Tryz.strings_Join (bk o c : Nat) (xs : List ByteArray) (sep : ByteArray) (w : World) (hcells : ∀ (j : Nat) x, xs[j]? = some x → w.cell? ⟨bk, o + j, none⟩ = some (.string x)) (hbk : bk < w.heap.size) (hN : xs.length ≤ 140737488355328) (hcap : xs.length ≤ c) (hlen : (Lib.join (xs.map (·.data.toList)) sep.data.toList).length ≤ 140737488355328) :
  Calls Tryz.prog 69 #[.slice (some ⟨bk, o, none⟩) xs.length c, .string sep] w fun e w' => e = .returned (.string ⟨(Lib.join (xs.map (·.data.toList)) sep.data.toList).toArray⟩) ∧ Below w.heap.size w w' := Any.strings_Join Tryz.lays156 Tryz.Builder_Extra_156 bk o c xs sep w hcells hbk hN hcap hlen
def Tryz.laysM171_ren : Go.Shelf.Ren := ⟨fun | 171 => 57 | 243 => 110 | 246 => 146 | 283 => 169 | 284 => 170 | 285 => 171 | 286 => 172 | 129 => 185 | 317 => 184 | 318 => 186 | 319 => 187 | 320 => 188 | 337 => 193 | 338 => 194 | n => n, fun | 3 => 3 | 9 => 9 | 2 => 2 | 4 => 4 | 171 => 231 | 0 => 0 | 53 => 136 | 37 => 73 | 5 => 5 | 173 => 234 | 212 => 255 | 51 => 133 | 20 => 20 | 213 => 256 | 46 => 68 | 232 => 264 | 233 => 265 | n => n, fun | 17 => 15 | 18 => 16 | 19 => 17 | n => n⟩
theorem Tryz.laysM171 : Go.Proofs.LaysM.n171 Tryz.prog Tryz.laysM171_ren := {
 mixed := by kernel_rfl
 f129 := Tryz.func185.trans (congrArg some (by kernel_rfl))
 f171 := Tryz.func57.trans (congrArg some (by kernel_rfl))
 f243 := Tryz.func110.trans (congrArg some (by kernel_rfl))
 f246 := Tryz.func146.trans (congrArg some (by kernel_rfl))
 f283 := Tryz.func169.trans (congrArg some (by kernel_rfl))
 f284 := Tryz.func170.trans (congrArg some (by kernel_rfl))
 f285 := Tryz.func171.trans (congrArg some (by kernel_rfl))
 f286 := Tryz.func172.trans (congrArg some (by kernel_rfl))
 f317 := Tryz.func184.trans (congrArg some (by kernel_rfl))
 f318 := Tryz.func186.trans (congrArg some (by kernel_rfl))
 f319 := Tryz.func187.trans (congrArg some (by kernel_rfl))
 f320 := Tryz.func188.trans (congrArg some (by kernel_rfl))
 f337 := Tryz.func193.trans (congrArg some (by kernel_rfl))
 f338 := Tryz.func194.trans (congrArg some (by kernel_rfl))
 t0 := Tryz.underlying0
 a0 := Tryz.isAgg0
 z0 := Tryz.sizeOf0
 v0 := Tryz.zeroValue0
 t2 := Tryz.underlying2
 a2 := Tryz.isAgg2
 z2 := Tryz.sizeOf2
 v2 := Tryz.zeroValue2
 t3 := Tryz.underlying3
 a3 := Tryz.isAgg3
 z3 := Tryz.sizeOf3
 v3 := Tryz.zeroValue3
 t4 := Tryz.underlying4
 a4 := Tryz.isAgg4
 z4 := Tryz.sizeOf4
 v4 := Tryz.zeroValue4
 t5 := Tryz.underlying5
 a5 := Tryz.isAgg5
 z5 := Tryz.sizeOf5
 v5 := Tryz.zeroValue5
 t9 := Tryz.underlying9
 a9 := Tryz.isAgg9
 z9 := Tryz.sizeOf9
 v9 := Tryz.zeroValue9
 t20 := Tryz.underlying20
 a20 := Tryz.isAgg20
 z20 := Tryz.sizeOf20
 v20 := Tryz.zeroValue20
 t37 := Tryz.underlying73
 a37 := Tryz.isAgg73
 z37 := Tryz.sizeOf73
 v37 := Tryz.zeroValue73
 t46 := Tryz.underlying68
 a46 := Tryz.isAgg68
 z46 := Tryz.sizeOf68
 v46 := Tryz.zeroValue68
 t51 := Tryz.underlying133
 a51 := Tryz.isAgg133
 z51 := Tryz.sizeOf133
 v51 := Tryz.zeroValue133
 t53 := Tryz.underlying136
 a53 := Tryz.isAgg136
 z53 := Tryz.sizeOf136
 v53 := Tryz.zeroValue136
 t171 := Tryz.underlying231
 a171 := Tryz.isAgg231
 z171 := Tryz.sizeOf231
 v171 := Tryz.zeroValue231
 t173 := Tryz.underlying234
 a173 := Tryz.isAgg234
 z173 := Tryz.sizeOf234
 v173 := Tryz.zeroValue234
 t212 := Tryz.underlying255
 a212 := Tryz.isAgg255
 z212 := Tryz.sizeOf255
 v212 := Tryz.zeroValue255
 t213 := Tryz.underlying256
 a213 := Tryz.isAgg256
 z213 := Tryz.sizeOf256
 t232 := Tryz.underlying264
 a232 := Tryz.isAgg264
 z232 := Tryz.sizeOf264
 v232 := Tryz.zeroValue264
 t233 := Tryz.underlying265
 a233 := Tryz.isAgg265
 z233 := Tryz.sizeOf265
 v233 := Tryz.zeroValue265
 g17 := by kernel_rfl
 g18 := by kernel_rfl
 g19 := by kernel_rfl
 i0 := by kernel_rfl
 i2 := by kernel_rfl
 i3 := by kernel_rfl
 i4 := by kernel_rfl
 i5 := by kernel_rfl
 i9 := by kernel_rfl
 i20 := by kernel_rfl
 i37 := by kernel_rfl
 i46 := by kernel_rfl
 i51 := by kernel_rfl
 i53 := by kernel_rfl
 i171 := by kernel_rfl
 i173 := by kernel_rfl
 i212 := by kernel_rfl
 i232 := by kernel_rfl
 i233 := by kernel_rfl
 m17 := by kernel_rfl
 m18 := by kernel_rfl
 m19 := by kernel_rfl }
open Go.RowKit Go.Sort Go.Lib in
theorem Tryz.strconv_Itoa (n : Int) (h0 : -9223372036854775808 ≤ n) (h1 : n ≤ 9223372036854775807) (w : World) (htab : Lib.TabIs Tryz.prog w "internal/strconv.uint64pow10" .u64 Lib.pow10Tab) :
  Calls Tryz.prog 57 #[.int .i64 n] w fun e w' => e = .returned (.string ⟨(Lib.itoa n).toArray⟩) ∧ ∃ k os, w' = grow (w.drewN k) os := Any.strconv_Itoa Tryz.laysM171 n h0 h1 w htab
def Tryz.laysC172_ren : Go.Shelf.Ren := ⟨fun | 172 => 82 | 244 => 123 | 245 => 124 | 247 => 153 | 279 => 154 | 280 => 155 | 281 => 156 | 282 => 157 | 287 => 175 | 316 => 176 | 171 => 57 | 205 => 177 | 321 => 189 | 322 => 190 | 243 => 110 | 246 => 146 | 283 => 169 | 284 => 170 | 285 => 171 | 286 => 172 | 129 => 185 | 317 => 184 | 318 => 186 | 319 => 187 | 320 => 188 | 337 => 193 | 338 => 194 | n => n, fun | 9 => 9 | 3 => 3 | 75 => 25 | 76 => 77 | 4 => 4 | 5 => 5 | 167 => 217 | 37 => 73 | 0 => 0 | 85 => 218 | 2 => 2 | 168 => 220 | 53 => 136 | 175 => 241 | 46 => 68 | 210 => 245 | 127 => 139 | 145 => 261 | 143 => 259 | 21 => 21 | 171 => 231 | 173 => 234 | 212 => 255 | 51 => 133 | 20 => 20 | 213 => 256 | 232 => 264 | 233 => 265 | 80 => 41 | n => n, fun | 15 => 13 | 16 => 14 | 17 => 15 | 18 => 16 | 19 => 17 | n => n⟩
theorem Tryz.laysC172 : Go.Proofs.LaysC.n172 Tryz.prog Tryz.laysC172_ren := {
 mixed := by kernel_rfl
 f129 := Tryz.func185.trans (congrArg some (by kernel_rfl))
 f171 := Tryz.func57.trans (congrArg some (by kernel_rfl))
 f172 := Tryz.func82.trans (congrArg some (by kernel_rfl))
 f205 := Tryz.func177.trans (congrArg some (by kernel_rfl))
 f243 := Tryz.func110.trans (congrArg some (by kernel_rfl))
 f244 := Tryz.func123.trans (congrArg some (by kernel_rfl))
 f245 := Tryz.func124.trans (congrArg some (by kernel_rfl))
 f246 := Tryz.func146.trans (congrArg some (by kernel_rfl))
 f247 := Tryz.func153.trans (congrArg some (by kernel_rfl))
 f279 := Tryz.func154.trans (congrArg some (by kernel_rfl))
 f280 := Tryz.func155.trans (congrArg some (by kernel_rfl))
 f281 := Tryz.func156.trans (congrArg some (by kernel_rfl))
 f282 := Tryz.func157.trans (congrArg some (by kernel_rfl))
 f283 := Tryz.func169.trans (congrArg some (by kernel_rfl))
 f284 := Tryz.func170.trans (congrArg some (by kernel_rfl))
 f285 := Tryz.func171.trans (congrArg some (by kernel_rfl))
 f286 := Tryz.func172.trans (congrArg some (by kernel_rfl))
 f287 := Tryz.func175.trans (congrArg some (by kernel_rfl))
 f316 := Tryz.func176.trans (congrArg some (by kernel_rfl))
 f317 := Tryz.func184.trans (congrArg some (by kernel_rfl))
 f318 := Tryz.func186.trans (congrArg some (by kernel_rfl))
 f319 := Tryz.func187.trans (congrArg some (by kernel_rfl))
 f320 := Tryz.func188.trans (congrArg some (by kernel_rfl))
 f321 := Tryz.func189.trans (congrArg some (by kernel_rfl))
 f322 := Tryz.func190.trans (congrArg some (by kernel_rfl))
 f337 := Tryz.func193.trans (congrArg some (by kernel_rfl))
 f338 := Tryz.func194.trans (congrArg some (by kernel_rfl))
 t0 := Tryz.underlying0
 a0 := Tryz.isAgg0
 z0 := Tryz.sizeOf0
 v0 := Tryz.zeroValue0
 t2 := Tryz.underlying2
 a2 := Tryz.isAgg2
 z2 := Tryz.sizeOf2
 v2 := Tryz.zeroValue2
 t3 := Tryz.underlying3
 a3 := Tryz.isAgg3
 z3 := Tryz.sizeOf3
 v3 := Tryz.zeroValue3
 t4 := Tryz.underlying4
 a4 := Tryz.isAgg4
 z4 := Tryz.sizeOf4
 v4 := Tryz.zeroValue4
 t5 := Tryz.underlying5
 a5 := Tryz.isAgg5
 z5 := Tryz.sizeOf5
 v5 := Tryz.zeroValue5
 t9 := Tryz.underlying9
 a9 := Tryz.isAgg9
 z9 := Tryz.sizeOf9
 v9 := Tryz.zeroValue9
 t20 := Tryz.underlying20
 a20 := Tryz.isAgg20
 z20 := Tryz.sizeOf20
 v20 := Tryz.zeroValue20
 t21 := Tryz.underlying21
 a21 := Tryz.isAgg21
 z21 := Tryz.sizeOf21
 v21 := Tryz.zeroValue21
 t37 := Tryz.underlying73
 a37 := Tryz.isAgg73
 z37 := Tryz.sizeOf73
 v37 := Tryz.zeroValue73
 t46 := Tryz.underlying68
 a46 := Tryz.isAgg68
 z46 := Tryz.sizeOf68
 v46 := Tryz.zeroValue68
 t51 := Tryz.underlying133
 a51 := Tryz.isAgg133
 z51 := Tryz.sizeOf133
 v51 := Tryz.zeroValue133
 t53 := Tryz.underlying136
 a53 := Tryz.isAgg136
 z53 := Tryz.sizeOf136
 v53 := Tryz.zeroValue136
 t75 := Tryz.underlying25
 a75 := Tryz.isAgg25
 z75 := Tryz.sizeOf25
 v75 := Tryz.zeroValue25
 t76 := Tryz.underlying77
 a76 := Tryz.isAgg77
 z76 := Tryz.sizeOf77
 v76 := Tryz.zeroValue77
 t85 := Tryz.underlying218
 a85 := Tryz.isAgg218
 z85 := Tryz.sizeOf218
 v85 := Tryz.zeroValue218
 t127 := Tryz.underlying139
 a127 := Tryz.isAgg139
 z127 := Tryz.sizeOf139
 v127 := Tryz.zeroValue139
 t143 := Tryz.underlying259
 a143 := Tryz.isAgg259
 z143 := Tryz.sizeOf259
 v143 := Tryz.zeroValue259
 t145 := Tryz.underlying261
 a145 := Tryz.isAgg261
 z145 := Tryz.sizeOf261
 v145 := Tryz.zeroValue261
 t167 := Tryz.underlying217
 a167 := Tryz.isAgg217
 z167 := Tryz.sizeOf217
 v167 := Tryz.zeroValue217
 t168 := Tryz.underlying220
 a168 := Tryz.isAgg220
 z168 := Tryz.sizeOf220
 v168 := Tryz.zeroValue220
 t171 := Tryz.underlying231
 a171 := Tryz.isAgg231
 z171 := Tryz.sizeOf231
 v171 := Tryz.zeroValue231
 t173 := Tryz.underlying234
 a173 := Tryz.isAgg234
 z173 := Tryz.sizeOf234
 v173 := Tryz.zeroValue234
 t175 := Tryz.underlying241
 a175 := Tryz.isAgg241
 z175 := Tryz.sizeOf241
 v175 := Tryz.zeroValue241
 t210 := Tryz.underlying245
 a210 := Tryz.isAgg245
 z210 := Tryz.sizeOf245
 v210 := Tryz.zeroValue245
 t212 := Tryz.underlying255
 a212 := Tryz.isAgg255
 z212 := Tryz.sizeOf255
 v212 := Tryz.zeroValue255
 t213 := Tryz.underlying256
 a213 := Tryz.isAgg256
 z213 := Tryz.sizeOf256
 t232 := Tryz.underlying264
 a232 := Tryz.isAgg264
 z232 := Tryz.sizeOf264
 v232 := Tryz.zeroValue264
 t233 := Tryz.underlying265
 a233 := Tryz.isAgg265
 z233 := Tryz.sizeOf265
 v233 := Tryz.zeroValue265
 g15 := by kernel_rfl
 g16 := by kernel_rfl
 g17 := by kernel_rfl
 g18 := by kernel_rfl
 g19 := by kernel_rfl
 t80 := Tryz.underlying41
 a80 := Tryz.isAgg41
 z80 := Tryz.sizeOf41
 v80 := Tryz.zeroValue41
 i0 := by kernel_rfl
 i2 := by kernel_rfl
 i3 := by kernel_rfl
 i4 := by kernel_rfl
 i5 := by kernel_rfl
 i9 := by kernel_rfl
 i20 := by kernel_rfl
 i21 := by kernel_rfl
 i37 := by kernel_rfl
 i46 := by kernel_rfl
 i51 := by kernel_rfl
 i53 := by kernel_rfl
 i75 := by kernel_rfl
 i76 := by kernel_rfl
 i80 := by kernel_rfl
 i85 := by kernel_rfl
 i127 := by kernel_rfl
 i143 := by kernel_rfl
 i145 := by kernel_rfl
 i167 := by kernel_rfl
 i168 := by kernel_rfl
 i171 := by kernel_rfl
 i173 := by kernel_rfl
 i175 := by kernel_rfl
 i210 := by kernel_rfl
 i212 := by kernel_rfl
 i232 := by kernel_rfl
 i233 := by kernel_rfl
 m15 := by kernel_rfl
 m16 := by kernel_rfl
 m17 := by kernel_rfl
 m18 := by kernel_rfl
 m19 := by kernel_rfl
 c0 := by kernel_rfl
 c2 := by kernel_rfl
 c3 := by kernel_rfl
 c4 := by kernel_rfl
 c5 := by kernel_rfl
 c9 := by kernel_rfl
 c20 := by kernel_rfl
 c21 := by kernel_rfl
 c37 := by kernel_rfl
 c46 := by kernel_rfl
 c51 := by kernel_rfl
 c53 := by kernel_rfl
 c75 := by kernel_rfl
 c76 := by kernel_rfl
 c80 := by kernel_rfl
 c85 := by kernel_rfl
 c127 := by kernel_rfl
 c143 := by kernel_rfl
 c145 := by kernel_rfl
 c167 := by kernel_rfl
 c168 := by kernel_rfl
 c171 := by kernel_rfl
 c173 := by kernel_rfl
 c175 := by kernel_rfl
 c210 := by kernel_rfl
 c212 := by kernel_rfl
 c213 := by kernel_rfl
 c232 := by kernel_rfl
 c233 := by kernel_rfl }
def Tryz.lays146_ren : Go.Shelf.Ren := ⟨fun | 146 => 13 | 221 => 22 | 268 => 79 | 138 => 80 | 143 => 81 | 195 => 119 | 197 => 120 | 218 => 121 | 219 => 122 | 260 => 148 | 217 => 149 | 225 => 150 | 224 => 151 | 267 => 152 | 266 => 173 | 314 => 174 | n => n, fun | 9 => 9 | 31 => 22 | 3 => 3 | 4 => 4 | 0 => 0 | 105 => 186 | 21 => 21 | 5 => 5 | 46 => 68 | 119 => 236 | 139 => 239 | 138 => 238 | 146 => 134 | 51 => 133 | n => n, fun | 1 => 10 | 3 => 11 | 4 => 12 | n => n⟩
theorem Tryz.lays146 : Go.Proofs.Lays.n146 Tryz.prog Tryz.lays146_ren := {
 mixed := by kernel_rfl
 f138 := Tryz.func80.trans (congrArg some (by kernel_rfl))
 f143 := Tryz.func81.trans (congrArg some (by kernel_rfl))
 f146 := Tryz.func13.trans (congrArg some (by kernel_rfl))
 f195 := Tryz.func119.trans (congrArg some (by kernel_rfl))
 f197 := Tryz.func120.trans (congrArg some (by kernel_rfl))
 f217 := Tryz.func149.trans (congrArg some (by kernel_rfl))
 f218 := Tryz.func121.trans (congrArg some (by kernel_rfl))
 f219 := Tryz.func122.trans (congrArg some (by kernel_rfl))
 f221 := Tryz.func22.trans (congrArg some (by kernel_rfl))
 f224 := Tryz.func151.trans (congrArg some (by kernel_rfl))
 f225 := Tryz.func150.trans (congrArg some (by kernel_rfl))
 f260 := Tryz.func148.trans (congrArg some (by kernel_rfl))
 f266 := Tryz.func173.trans (congrArg some (by kernel_rfl))
 f267 := Tryz.func152.trans (congrArg some (by kernel_rfl))
 f268 := Tryz.func79.trans (congrArg some (by kernel_rfl))
 f314 := Tryz.func174.trans (congrArg some (by kernel_rfl))
 t0 := Tryz.underlying0
 a0 := Tryz.isAgg0
 z0 := Tryz.sizeOf0
 v0 := Tryz.zeroValue0
 t3 := Tryz.underlying3
 a3 := Tryz.isAgg3
 z3 := Tryz.sizeOf3
 v3 := Tryz.zeroValue3
 t4 := Tryz.underlying4
 a4 := Tryz.isAgg4
 z4 := Tryz.sizeOf4
 v4 := Tryz.zeroValue4
 t5 := Tryz.underlying5
 a5 := Tryz.isAgg5
 z5 := Tryz.sizeOf5
 v5 := Tryz.zeroValue5
 t9 := Tryz.underlying9
 a9 := Tryz.isAgg9
 z9 := Tryz.sizeOf9
 v9 := Tryz.zeroValue9
 t21 := Tryz.underlying21
 a21 := Tryz.isAgg21
 z21 := Tryz.sizeOf21
 v21 := Tryz.zeroValue21
 t31 := Tryz.underlying22
 a31 := Tryz.isAgg22
 z31 := Tryz.sizeOf22
 v31 := Tryz.zeroValue22
 t46 := Tryz.underlying68
 a46 := Tryz.isAgg68
 z46 := Tryz.sizeOf68
 v46 := Tryz.zeroValue68
 t51 := Tryz.underlying133
 a51 := Tryz.isAgg133
 z51 := Tryz.sizeOf133
 v51 := Tryz.zeroValue133
 t105 := Tryz.underlying186
 a105 := Tryz.isAgg186
 z105 := Tryz.sizeOf186
 v105 := Tryz.zeroValue186
 t119 := Tryz.underlying236
 a119 := Tryz.isAgg236
 z119 := Tryz.sizeOf236
 t138 := Tryz.underlying238
 a138 := Tryz.isAgg238
 z138 := Tryz.sizeOf238
 v138 := Tryz.zeroValue238
 t139 := Tryz.underlying239
 a139 := Tryz.isAgg239
 z139 := Tryz.sizeOf239
 v139 := Tryz.zeroValue239
 t146 := Tryz.underlying134
 a146 := Tryz.isAgg134
 z146 := Tryz.sizeOf134
 v146 := Tryz.zeroValue134
 g1 := by kernel_rfl
 g3 := by kernel_rfl
 g4 := by kernel_rfl }
open Go.RowKit Go.Lib in
theorem Tryz.strings_Split (s sep : ByteArray) (m : Int) (w : World) (hs : s.size < 4294967281) (hm : w.cell? ⟨10, 0, none⟩ = some (.int .i64 m)) (h1 : 1 ≤ sep.size) :
  Calls Tryz.prog 13 #[.string s, .string sep] w fun e w' =>
   e = .returned (.slice (some ⟨w.heap.size, 0, none⟩) (Lib.countB s sep + 1) (Lib.countB s sep + 1)) ∧ w' = w.alloc (.cells ((Lib.splitB sep 0 (Lib.countB s sep) s).map Value.string).toArray 9) := Any.strings_Split Tryz.lays146 (by kernel_rfl) s sep m w hs hm h1
def Tryz.lays105_ren : Go.Shelf.Ren := ⟨fun | 105 => 15 | 212 => 24 | 99 => 25 | 165 => 26 | 166 => 27 | 170 => 28 | 169 => 29 | 263 => 83 | 264 => 84 | 206 => 85 | 240 => 86 | 241 => 87 | 276 => 125 | 277 => 126 | n => n, fun | 9 => 9 | 3 => 3 | 4 => 4 | 20 => 20 | 0 => 0 | 46 => 68 | 109 => 69 | 5 => 5 | 72 => 75 | 76 => 77 | 51 => 133 | 146 => 134 | 53 => 136 | 148 => 137 | 70 => 72 | 37 => 73 | 75 => 25 | 127 => 139 | 164 => 117 | 80 => 41 | n => n, fun | n => n⟩
theorem Tryz.lays105 : Go.Proofs.Lays.n105 Tryz.prog Tryz.lays105_ren := {
 mixed := by kernel_rfl
 f99 := Tryz.func25.trans (congrArg some (by kernel_rfl))
 f105 := Tryz.func15.trans (congrArg some (by kernel_rfl))
 f165 := Tryz.func26.trans (congrArg some (by kernel_rfl))
 f166 := Tryz.func27.trans (congrArg some (by kernel_rfl))
 f169 := Tryz.func29.trans (congrArg some (by kernel_rfl))
 f170 := Tryz.func28.trans (congrArg some (by kernel_rfl))
 f206 := Tryz.func85.trans (congrArg some (by kernel_rfl))
 f212 := Tryz.func24.trans (congrArg some (by kernel_rfl))
 f240 := Tryz.func86.trans (congrArg some (by kernel_rfl))
 f241 := Tryz.func87.trans (congrArg some (by kernel_rfl))
 f263 := Tryz.func83.trans (congrArg some (by kernel_rfl))
 f264 := Tryz.func84.trans (congrArg some (by kernel_rfl))
 f276 := Tryz.func125.trans (congrArg some (by kernel_rfl))
 f277 := Tryz.func126.trans (congrArg some (by kernel_rfl))
 t0 := Tryz.underlying0
 a0 := Tryz.isAgg0
 z0 := Tryz.sizeOf0
 v0 := Tryz.zeroValue0
 t3 := Tryz.underlying3
 a3 := Tryz.isAgg3
 z3 := Tryz.sizeOf3
 v3 := Tryz.zeroValue3
 t4 := Tryz.underlying4
 a4 := Tryz.isAgg4
 z4 := Tryz.sizeOf4
 v4 := Tryz.zeroValue4
 t5 := Tryz.underlying5
 a5 := Tryz.isAgg5
 z5 := Tryz.sizeOf5
 v5 := Tryz.zeroValue5
 t9 := Tryz.underlying9
 a9 := Tryz.isAgg9
 z9 := Tryz.sizeOf9
 v9 := Tryz.zeroValue9
 t20 := Tryz.underlying20
 a20 := Tryz.isAgg20
 z20 := Tryz.sizeOf20
 v20 := Tryz.zeroValue20
 t37 := Tryz.underlying73
 a37 := Tryz.isAgg73
 z37 := Tryz.sizeOf73
 v37 := Tryz.zeroValue73
 t46 := Tryz.underlying68
 a46 := Tryz.isAgg68
 z46 := Tryz.sizeOf68
 v46 := Tryz.zeroValue68
 t51 := Tryz.underlying133
 a51 := Tryz.isAgg133
 z51 := Tryz.sizeOf133
 v51 := Tryz.zeroValue133
 t53 := Tryz.underlying136
 a53 := Tryz.isAgg136
 z53 := Tryz.sizeOf136
 v53 := Tryz.zeroValue136
 t70 := Tryz.underlying72
 a70 := Tryz.isAgg72
 z70 := Tryz.sizeOf72
 v70 := Tryz.zeroValue72
 t72 := Tryz.underlying75
 a72 := Tryz.isAgg75
 z72 := Tryz.sizeOf75
 v72 := Tryz.zeroValue75
 t75 := Tryz.underlying25
 a75 := Tryz.isAgg25
 z75 := Tryz.sizeOf25
 v75 := Tryz.zeroValue25
 t76 := Tryz.underlying77
 a76 := Tryz.isAgg77
 z76 := Tryz.sizeOf77
 v76 := Tryz.zeroValue77
 t109 := Tryz.underlying69
 a109 := Tryz.isAgg69
 z109 := Tryz.sizeOf69
 v109 := Tryz.zeroValue69
 t127 := Tryz.underlying139
 a127 := Tryz.isAgg139
 z127 := Tryz.sizeOf139
 v127 := Tryz.zeroValue139
 t146 := Tryz.underlying134
 a146 := Tryz.isAgg134
 z146 := Tryz.sizeOf134
 v146 := Tryz.zeroValue134
 t148 := Tryz.underlying137
 a148 := Tryz.isAgg137
 z148 := Tryz.sizeOf137
 v148 := Tryz.zeroValue137
 t164 := Tryz.underlying117
 a164 := Tryz.isAgg117
 z164 := Tryz.sizeOf117
 v164 := Tryz.zeroValue117 }
theorem Tryz.Builder_Extra_105 : Builder.Extra Tryz.prog Tryz.lays105_ren := {
 sizeBuilder := by kernel_rfl
 liesBuilder := by kernel_rfl
 t5 := Tryz.underlying5
 a5 := Tryz.isAgg5
 z5 := Tryz.sizeOf5
 v5 := Tryz.zeroValue5
 infoByte := by kernel_rfl
 cellsByte := by kernel_rfl
 sizeByte := by kernel_rfl
 neB5 := by decide }
open Go.RowKit Go.Lib in
theorem Tryz.strings_Repeat (s : ByteArray) (c : Nat) (w : World) (hc : c ≤ 9223372036854775807) (hlen : s.size * c ≤ 140737488355328) :
  Calls Tryz.prog 15 #[.string s, .int .i64 c] w fun e w' => e = .returned (.string ⟨(Lib.repeatL s.data.toList c).toArray⟩) ∧ Below w.heap.size w w' := Any.strings_Repeat Tryz.lays105 Tryz.Builder_Extra_105 s c w hc hlen
end Go.Proofs
end

/-! ScA -/
section
namespace Go.HL
open Go Go.Proofs Go.RowKit
set_option linter.unusedVariables false
set_option linter.unusedSimpArgs false
def Zg0 (F : Nat) (fr : Nat × Nat) : Obj := .cells ⟨Lib.pow10Tab.map fun z => Value.int .u64 z⟩ F fr
structure Sz (L : Zb) : Prop where
 ml : ∃ m, Gl L 10 (iv m)
 tb : ∃ F fr, Has L 15 (Zg0 F fr)
 es : ∃ t v, Gl L 13 (.iface t v)
 er : ∃ t v, Gl L 14 (.iface t v)
theorem Sz.mono {L L' : Zb} (h : Sz L) (hl : ∀ b o, Has L b o → Has L' b o) : Sz L' := by
 obtain ⟨⟨m, h1⟩, ⟨F, fr, h2⟩, ⟨t, v, h3⟩, ⟨u, x, h4⟩⟩ := h
 exact ⟨⟨m, h1.mono hl⟩, ⟨F, fr, hl _ _ h2⟩, ⟨t, v, h3.mono hl⟩, ⟨u, x, h4.mono hl⟩⟩
theorem Sz.cons {L : Zb} (h : Sz L) (c : List Zn) : Sz (c :: L) := h.mono fun _ _ hb => Zc hb
theorem Zjf {w : World} {L : Zb} (h : ∀ p ∈ L.flatten, w.heap[p.1]? = some p.2) {g : Nat} {v : Value} (hg : Gl L g v) : w.cell? ⟨g, 0, none⟩ = some v := by
 obtain ⟨l, E, fr, h1, h2⟩ := hg
 exact Zlu h h1 h2
theorem Zk7 (w : World) (e : TypeId) (s : ByteArray) : Below w.heap.size w (Lib.bytesWorld w e s) := Lib.bytesWorld_below w e s
theorem Zk6 (w : World) (k : Nat) (os : Array Obj) : Below w.heap.size w (Sort.grow (w.drewN k) os) :=
 ⟨rfl, rfl, rfl, by show w.heap.size ≤ (w.heap ++ os).size; rw [Array.size_append]; omega, fun j hj => by
  show (w.heap ++ os)[j]? = _
  rw [Array.getElem?_append, if_pos hj]⟩
theorem W2 (n : Int) (h0 : -9223372036854775808 ≤ n) (h1 : n ≤ 9223372036854775807) {F : Nat} {fr : Nat × Nat} (L : Zb) (ht : Has L 15 (Zg0 F fr)) : HC Tryz.prog 57 [iv n] L (fun v L' => v = bs (Lib.itoa n) ∧ L' = L) := by
 refine Zas (V := fun v => v = bs (Lib.itoa n)) (fun _ _ => Tryz.call57 _ _) fun w hw => ?_
 refine (Tryz.strconv_Itoa n h0 h1 w ?_).mono ?_
 ·show World.var? _ _ _ = _
  have h9 := hw _ ht
  unfold Zg0 at h9
  simp only at h9
  have hg : Program.globalNamed Tryz.prog "internal/strconv.uint64pow10" = some 15 := by kernel_rfl
  simp [World.var?, hg, h9]
 ·rintro e w' ⟨rfl, k, os, rfl⟩
  exact ⟨_, rfl, rfl, Zk6 w k os⟩
theorem Zbz (n : Int) (h0 : -9223372036854775808 ≤ n) (h1 : n ≤ 9223372036854775807) (L : Zb) (hS : Sz L) : HC Tryz.prog 57 [iv n] L (fun v L' => v = bs (Lib.itoa n) ∧ L' = L) := by
 obtain ⟨F, fr, ht⟩ := hS.tb
 exact W2 n h0 h1 L ht
def Zb5 (s : List UInt8) : Option Int :=
 match Lib.atoiAll s with
 | .ok v => if s.length ≤ 5 ∧ 0 ≤ v ∧ Lib.itoa v = s then some v else none
 | _ => none
theorem Zn5 (s : List UInt8) (hs : s.length ≤ 1000000) (L : Zb) (hS : Sz L) : HC Tryz.prog 82 [bs s] L (fun v L' => (∃ k e, v = .tuple ⟨[iv k, e]⟩ ∧ ((Lib.atoiAll s = .ok k ∧ e = .nilIface) ∨ ((∀ n, Lib.atoiAll s ≠ .ok n) ∧ ∃ t N, e = .iface t (pt N 0)))) ∧ L' = L) := by
 obtain ⟨t1, v1, h1⟩ := hS.es
 obtain ⟨t2, v2, h2⟩ := hS.er
 have hz : (⟨⟨s⟩⟩ : ByteArray).size ≤ 1000000 := by simpa [ByteArray.size] using hs
 refine Zas (V := fun v => ∃ k e, v = .tuple ⟨[iv k, e]⟩ ∧ ((Lib.atoiAll s = .ok k ∧ e = .nilIface) ∨ ((∀ n, Lib.atoiAll s ≠ .ok n) ∧ ∃ t N, e = .iface t (pt N 0)))) (fun _ _ => Tryz.call82 _ _) fun w hw => ?_
 cases ha : Lib.atoiAll s with
 | ok k =>
  refine (Any.strconv_Atoi_ok Tryz.laysC172 ⟨⟨s⟩⟩ (by omega) k ha w).mono ?_
  rintro e w' ⟨rfl, hb⟩
  refine ⟨_, rfl, ⟨k, _, rfl, .inl ⟨rfl, rfl⟩⟩, ?_⟩
  rcases hb with rfl | ⟨t, rfl⟩
  ·exact Below.refl _ _
  ·exact Zk7 _ _ _
 | range =>
  refine (Any.strconv_Atoi_range Tryz.laysC172 ⟨⟨s⟩⟩ (by omega) ha _ w (Zjf hw h2) (.inr ⟨_, _, rfl⟩)).mono ?_
  rintro e w' ⟨N, rfl, -, -, hb⟩
  exact ⟨_, rfl, ⟨_, _, rfl, .inr ⟨fun n h => (by cases h), _, _, rfl⟩⟩, hb⟩
 | _ =>
  refine (Any.strconv_Atoi_syntax Tryz.laysC172 ⟨⟨s⟩⟩ (by omega) ha _ w (Zjf hw h1) (.inr ⟨_, _, rfl⟩)).mono ?_
  rintro e w' ⟨N, rfl, -, -, hb⟩
  exact ⟨_, rfl, ⟨_, _, rfl, .inr ⟨fun n h => (by cases h), _, _, rfl⟩⟩, hb⟩
def Yg : List UInt8 → List (List UInt8)
 | [] => [[]]
 | c :: r => if c = 32 then [] :: Yg r else match Yg r with
  | x :: q => (c :: x) :: q
  | [] => [[c]]
theorem Zds : ∀ s : List UInt8, Lib.split s [32] = Yg s
 | [] => by simp [Lib.split, Lib.count_miss (s := []) (sub := [32]) rfl, Lib.splitK, Yg]
 | c :: r => by
  have ih := Zds r
  unfold Lib.split at *
  by_cases h : c = 32
  ·subst h
   have hix : Lib.index (32 :: r) [32] = ((0 : Nat) : Int) := by rw [Lib.index]; simp [List.isPrefixOf]
   rw [Lib.count_cons_eq, Nat.add_comm, Lib.splitK, hix]
   simp [Yg, ih]
  ·rw [Lib.count_cons_ne c 32 r h]
   have hp : ([32] : List UInt8).isPrefixOf (c :: r) = false := by simp [List.isPrefixOf, Ne.symm h]
   have hix : Lib.index (c :: r) [32] = if Lib.index r [32] == -1 then -1 else Lib.index r [32] + 1 := by rw [Lib.index, hp]; simp
   simp only [Yg, if_neg h]
   rw [← ih]
   cases hk : Lib.count r [32] with
   | zero => simp [Lib.splitK]
   | succ k =>
    simp only [Lib.splitK, hix]
    have hge := Lib.index_ge r [32]
    by_cases hm : Lib.index r [32] = -1
    ·simp [hm]
    ·obtain ⟨j, hj⟩ : ∃ j : Nat, Lib.index r [32] = j := ⟨(Lib.index r [32]).toNat, by omega⟩
     have e1 : ((Lib.index r [32] == -1) = true) = False := by simp [hm]
     have e2 : ((j : Int) + 1 == -1) = false := by
      rw [beq_eq_false_iff_ne]
      omega
     have e3 : ((j : Int) + 1).toNat = j + 1 := by omega
     have e4 : ((j : Int) == -1) = false := by
      rw [beq_eq_false_iff_ne]
      omega
     simp [hj, e2, e3, e4]
theorem Zc9 : ∀ s : List UInt8, (Yg s).length ≤ s.length + 1 ∧ ∀ x ∈ Yg s, x.length ≤ s.length
 | [] => by simp [Yg]
 | c :: r => by
  obtain ⟨h1, h2⟩ := Zc9 r
  unfold Yg
  split
  ·refine ⟨by simp only [List.length_cons]; omega, fun x hx => ?_⟩
   rcases List.mem_cons.1 hx with rfl | hx
   ·simp
   ·have := h2 x hx
    simp only [List.length_cons]; omega
  ·split
   ·rename_i x q hq
    rw [hq] at h1 h2
    refine ⟨by simp only [List.length_cons] at *; omega, fun y hy => ?_⟩
    rcases List.mem_cons.1 hy with rfl | hy
    ·have := h2 x (List.mem_cons_self)
     simp only [List.length_cons]; omega
    ·have := h2 y (List.mem_cons_of_mem _ hy)
     simp only [List.length_cons]; omega
   ·exact ⟨by simp, fun y hy => by simp at hy; subst hy; simp⟩
def V7 (s : List UInt8) : List Value := [bs s]
theorem Wh (s : List UInt8) : (V7 s).length = 1 := rfl
theorem Zer (s : List UInt8) : (V7 s).all Value.oneCell' = true := rfl
theorem Zdx (s : List UInt8) (hs : s.length ≤ 1000000) (L : Zb) (hS : Sz L) : HC Tryz.prog 13 [bs s, bs [32]] L (fun v L' => ∃ b, v = sl b 0 (Yg s).length (Yg s).length ∧ L' = [(b, .cells ⟨((Yg s).map V7).flatten⟩ 9)] :: L) := by
 obtain ⟨m, hm⟩ := hS.ml
 have hz : (⟨⟨s⟩⟩ : ByteArray).size = s.length := by simp [ByteArray.size]
 have e1 : Lib.countB ⟨⟨s⟩⟩ ⟨⟨[32]⟩⟩ = Lib.count s [32] := rfl
 have e2 := Lib.splitB_data ⟨⟨[32]⟩⟩ 0 (Lib.count s [32]) ⟨⟨s⟩⟩
 have e3 : Lib.splitK [32] 0 (Lib.count s [32]) s = Yg s := Zds s
 have e4 : (Lib.splitB ⟨⟨[32]⟩⟩ 0 (Lib.count s [32]) ⟨⟨s⟩⟩).length = Lib.count s [32] + 1 := Lib.splitB_all ⟨⟨[32]⟩⟩ (by decide) 0 _ ⟨⟨s⟩⟩ rfl
 have e5 : (Lib.splitB ⟨⟨[32]⟩⟩ 0 (Lib.count s [32]) ⟨⟨s⟩⟩).map (·.data.toList) = Yg s := e2.trans e3
 have e6 : (Yg s).length = Lib.count s [32] + 1 := by rw [← e5, List.length_map, e4]
 have e7 : (Lib.splitB ⟨⟨[32]⟩⟩ 0 (Lib.count s [32]) ⟨⟨s⟩⟩).map Value.string = ((Yg s).map V7).flatten := by
  rw [← e5, List.map_map]
  generalize Lib.splitB ⟨⟨[32]⟩⟩ 0 (Lib.count s [32]) ⟨⟨s⟩⟩ = l
  induction l with
  | nil => rfl
  | cons x l ih => simp only [List.map_cons, List.flatten_cons, Function.comp, V7, List.singleton_append, ih]
 refine hc_alloc (V := fun b => sl b 0 (Yg s).length (Yg s).length) (fun _ _ => Tryz.call13 _ _) fun w hw => ?_
 refine (Tryz.strings_Split ⟨⟨s⟩⟩ ⟨⟨[32]⟩⟩ m w (by omega) (Zjf hw hm) (by decide)).mono ?_
 rintro e w' ⟨rfl, rfl⟩
 rw [e1, e6, e7]
 exact ⟨rfl, rfl⟩
theorem Zi5 (k : Nat) (hk : k ≤ 1000000) (L : Zb) : HC Tryz.prog 15 [bs [110], iv k] L (fun v L' => v = bs (List.replicate k 110) ∧ L' = L) := by
 refine Zas (V := fun v => v = bs (List.replicate k 110)) (fun _ _ => Tryz.call15 _ _) fun w hw => ?_
 refine (Tryz.strings_Repeat ⟨⟨[110]⟩⟩ k w (by omega) (by show 1 * k ≤ _; omega)).mono ?_
 rintro e w' ⟨rfl, hb⟩
 refine ⟨_, rfl, ?_, hb⟩
 have := Lib.repeatL_replicate 110 1 k
 rw [show List.replicate 1 (110 : UInt8) = [110] from rfl, Nat.mul_one] at this
 show Value.string ⟨⟨Lib.repeatL [110] k⟩⟩ = _
 rw [this]
def Vn : List (List UInt8) → List UInt8
 | [] => []
 | [x] => x
 | x :: y :: r => x ++ ([44, 32] ++ Vn (y :: r))
theorem Zp4 : ∀ l : List (List UInt8), Lib.join l [44, 32] = Vn l
 | [] => rfl
 | [x] => by simp [Lib.join, List.intercalate, Vn]
 | x :: y :: r => by
  have ih := Zp4 (y :: r)
  show [44, 32].intercalate (x :: y :: r) = x ++ ([44, 32] ++ Vn (y :: r))
  rw [← ih]
  simp [Lib.join, List.intercalate, List.intersperse]
theorem Zmy (a : Option Addr) (cap : Nat) (l : List (List UInt8)) (L : Zb) (hR : Rd V7 1 L a l) (hl : l.length ≤ cap) (h1 : l.length ≤ 100000000) (h2 : (Vn l).length ≤ 100000000000) : HC Tryz.prog 69 [.slice a l.length cap, bs [44, 32]] L (fun v L' => v = bs (Vn l) ∧ L' = L) := by
 have he : (l.map fun x => (⟨⟨x⟩⟩ : ByteArray)).map (·.data.toList) = l := by
  rw [List.map_map]
  exact List.map_id' l
 have hj : Lib.join ((l.map fun x => (⟨⟨x⟩⟩ : ByteArray)).map (·.data.toList)) [44, 32] = Vn l := by rw [he, Zp4]
 rcases hR with rfl | ⟨b, i, q, E, fr, rfl, hb, hg⟩
 ·refine Zas (V := fun v => v = bs (Vn [])) (fun _ _ => Tryz.call69 _ _) fun w hw => ?_
  refine (Any.strings_Join_none Tryz.lays156 Tryz.Builder_Extra_156 a cap ⟨⟨[44, 32]⟩⟩ w).mono ?_
  rintro e w' ⟨rfl, rfl⟩
  exact ⟨_, rfl, rfl, Below.refl _ _⟩
 ·refine Zas (V := fun v => v = bs (Vn l)) (fun _ _ => Tryz.call69 _ _) fun w hw => ?_
  have hlen : (l.map fun x => (⟨⟨x⟩⟩ : ByteArray)).length = l.length := by rw [List.length_map]
  rw [← hlen]
  refine (Tryz.strings_Join b i cap (l.map fun x => (⟨⟨x⟩⟩ : ByteArray)) ⟨⟨[44, 32]⟩⟩ w ?_ (Zhv hw hb) (by rw [hlen]; omega) (by rw [hlen]; exact hl) ?_).mono ?_
  ·intro j x hx
   rw [List.getElem?_map, Option.map_eq_some_iff] at hx
   obtain ⟨y, hy, rfl⟩ := hx
   refine Zlu hw hb ?_
   have h9 := hg j y hy
   rw [Nat.mul_one] at h9
   exact h9.at0 rfl
  ·show (Lib.join _ [44, 32]).length ≤ _
   rw [hj]
   omega
  ·rintro e w' ⟨rfl, hb⟩
   refine ⟨_, rfl, ?_, hb⟩
   show Value.string ⟨⟨Lib.join _ [44, 32]⟩⟩ = _
   rw [hj]
end Go.HL
end

/-! HLMs -/
section
namespace Go.HL
open Go
set_option linter.unusedVariables false
set_option linter.unusedSimpArgs false
set_option linter.unusedSectionVars false
def Zee (es : List MapEntry) (l : List (List UInt8 × Value)) : Prop := es.map (fun e => (e.key, e.val)) = l.map fun p => (bs p.1, p.2)
def Zcw (a : List UInt8) : List (List UInt8 × Value) → Nat → Option (Nat × Value)
 | [], _ => none
 | (x, v) :: r, i => if a = x then some (i, v) else Zcw a r (i + 1)
def W0 (a : List UInt8) : List (List UInt8 × Value) → Option Value
 | [] => none
 | (x, v) :: r => if a = x then some v else W0 a r
theorem Zb7 (a : List UInt8) : ∀ (l : List (List UInt8 × Value)) (i : Nat), (Zcw a l i).map (·.2) = W0 a l
 | [], i => rfl
 | (x, v) :: r, i => by
  simp only [Zcw, W0]
  split
  ·rfl
  ·exact Zb7 a r (i + 1)
theorem Zro (a b : List UInt8) : ((⟨⟨a⟩⟩ : ByteArray) == ⟨⟨b⟩⟩) = decide (a = b) := by
 by_cases h : a = b
 ·subst h
  simp only [decide_true]
  show ByteArray.beq _ _ = true
  unfold ByteArray.beq
  simp
 ·simp only [h, decide_false]
  show ByteArray.beq _ _ = false
  unfold ByteArray.beq
  simp [h]
section k
variable {P : Program} (S : Tab P) {n : Nat} {ops : List Oper} {Q : Exit → Zq → Zb → Prop} {rest : List Oper} {ρ : Zq} {L : Zb} {ty : TypeId} {pos : String} {af : Array Edge}
theorem Zhx {kt : TypeId} (hd : P.underlying kt = some .string) (w : World) (a : List UInt8) {es : List MapEntry} {l : List (List UInt8 × Value)} (h : Zee es l) : (Instr.findKey kt (bs a) es).run P w = .ok (Zcw a l 0) w := by
 refine MapKept.run_findKey hd ?_
 have key : ∀ (es : List MapEntry) (l : List (List UInt8 × Value)) (i : Nat), Zee es l → Instr.findNow .string (bs a) es i = some (Zcw a l i) := by
  intro es
  induction es with
  | nil =>
   intro l i h
   cases l with
   | nil => rfl
   | cons p r => simp [Zee] at h
  | cons e es ih =>
   intro l i h
   cases l with
   | nil => simp [Zee] at h
   | cons p r =>
    obtain ⟨x, b⟩ := p
    simp only [Zee, List.map_cons, List.cons.injEq, Prod.mk.injEq] at h
    obtain ⟨⟨h1, h2⟩, h3⟩ := h
    simp only [Instr.findNow, h1, bs, Instr.sameNow, Zro, Zcw]
    by_cases hax : a = x
    ·subst hax; simp [h2]
    ·simp [hax, ← ih r (i + 1) h3, bs]
 exact key es l 0 h
theorem Zkt (a : List UInt8) : MapKept.IsKey .string (bs a) := trivial
theorem qmS {d : Option Tmp} {g : Option (Nat × Bool)} {t kt et s0 b0 x1 y1 s1 b1 r ck : Nat} {x y : Operand} {es : List MapEntry} {l : List (List UInt8 × Value)} {a : List UInt8} {z : Value} (hF : Zee es l) (h00 : Y9 ρ = true := by exact rfl) (hx : ev ρ x = some (.map (some r)) := by exact rfl) (hy : ev ρ y = some (bs a) := by exact rfl)
  (ht : Zt S.ty t = some ⟨8, kt, et, s0, b0⟩ := by exact rfl) (hk : Zt S.ty kt = some ⟨3, x1, y1, s1, b1⟩ := by exact rfl) (hz : Zt S.zr et = some z := by exact rfl) (hb : Has L r (.map ⟨es⟩ ck) := by (repeat (first | assumption | exact Zh | exact Yi (by assumption) | apply Xn | apply Zc))) :
  QOp P ⟨d, .lookup t x y true, ty, pos, af, g⟩ ρ L (.tuple ⟨[(W0 a l).getD z, .bool (W0 a l).isSome]⟩) :=
 Ye fun ρe he k w hs => by
  have hm := Zjd (S.tyI ht) rfl
  have hd := Wz (S.tyI hk) rfl
  have hzero := Vm (S.zeroI hz) w
  have hh := MapKept.run_getObj_map (P := P) (hs.heap hb)
  have hfind := Zhx hd w a hF
  have hl : (Instr.lookup t (.map (some r)) (bs a) true).run P w = .ok (.tuple ⟨[(W0 a l).getD z, .bool (W0 a l).isSome]⟩) w := by
   unfold Instr.lookup
   simp only [Sem.run_bind, run_underlying hm, Result.andThen_ok, hh, Sem.run_pure, MapKept.run_checkKey hd (Zkt a) _ 9999, hfind]
   rw [← Zb7 a l 0]
   cases Zcw a l 0 with
   | none => simp [hzero]
   | some q => simp
  simp only [execOp, he x (by simp [Op.operands]) _ hx, he y (by simp [Op.operands]) _ hy, Sem.run_bind, hl, Result.andThen_ok, Sem.run_pure]
theorem Zjx {t kt et s0 b0 x1 y1 s1 b1 r ck : Nat} {x y z : Operand} {es : List MapEntry} {l : List (List UInt8 × Value)} {a : List UInt8} {v : Value} (hF : Zee es l) (hn : W0 a l = none) (h : ∀ es' ck', Zee es' (l ++ [(a, v)]) → HO P n ops Q rest ρ ([(r, .map ⟨es'⟩ ck')] :: L)) (h00 : Y9 ρ = true := by exact rfl) (hx : ev ρ x = some (.map (some r)) := by exact rfl) (hy : ev ρ y = some (bs a) := by exact rfl) (hzz : ev ρ z = some v := by exact rfl)
  (ht : Zt S.ty t = some ⟨8, kt, et, s0, b0⟩ := by exact rfl) (hk : Zt S.ty kt = some ⟨3, x1, y1, s1, b1⟩ := by exact rfl) :
  HO P n ops Q (⟨none, .insert t x y z, ty, pos, af, none⟩ :: rest) ρ ([(r, .map ⟨es⟩ ck)] :: L) := by
 refine Zou rfl rfl fun ρe he k w hs => ?_
 have hm := Zjd (S.tyI ht) rfl
 have hd := Wz (S.tyI hk) rfl
 have hb0 : w.heap[r]? = some (.map ⟨es⟩ ck) := hs.heap Zh
 have hh := MapKept.run_getObj_map (P := P) hb0
 have hfind := Zhx hd w a hF
 have e1 := he x (by simp [Op.operands]) _ hx
 have e2 := he y (by simp [Op.operands]) _ hy
 have e3 := he z (by simp [Op.operands]) _ hzz
 have hfb : Zcw a l 0 = none := by
  have := Zb7 a l 0
  rw [hn] at this
  cases hf : Zcw a l 0 with
  | none => rfl
  | some q => rw [hf] at this; cases this
 rw [hfb] at hfind
 have hs2 := MapKept.heap_set (o' := .map ⟨es ++ [{ key := bs a, val := v, born := ck }]⟩ (ck + 1)) hb0
 refine ⟨_, _, .inl ?_, hs.upd (w' := { w with heap := w.heap.setIfInBounds r (.map ⟨es ++ [{ key := bs a, val := v, born := ck }]⟩ (ck + 1)) }) Xo rfl rfl rfl hs2.1 (fun j hj => hs2.2 j hj), h _ _ ?_⟩
 ·have hr : (Instr.mapUpdate t (.map (some r)) (bs a) v).run P w = .ok () { w with heap := w.heap.setIfInBounds r (.map ⟨es ++ [{ key := bs a, val := v, born := ck }]⟩ (ck + 1)) } := by
   unfold Instr.mapUpdate
   simp only [Sem.run_bind, run_underlying hm, Result.andThen_ok, hh, MapKept.run_checkKey hd (Zkt a) _ 9999, hfind, MapKept.run_setObj_map _ hb0]
   simp
  simp [execOp, e1, e2, e3, hr]
 ·unfold Zee at *
  simp [hF]
theorem qLF {d : Option Tmp} {g : Option (Nat × Bool)} {t b i E : Nat} {x : Operand} {l : List Value} {fr : Nat × Nat} {v : Value} (hn : ∀ w, (isAgg t).run P w = .ok false w) (h00 : Y9 ρ = true := by exact rfl) (hx : ev ρ x = some (pt b i) := by exact rfl)
  (hb : Has L b (.cells ⟨l⟩ E fr) := by (repeat (first | assumption | exact Zh | exact Yi (by assumption) | apply Xn | apply Zc))) (hv : l[i]? = some v := by exact rfl) : QOp P ⟨d, .load t x, ty, pos, af, g⟩ ρ L v :=
 Ye fun ρe he k w hs => by
  have h1 := hn w
  have h2 : w.cell? ⟨b, i, none⟩ = some v := by rw [hs.cell hb, hv]
  simp [execOp, he x (by simp [Op.operands]) _ hx, Instr.loadAt, Instr.sureAddr, loadVar, h1, h2]
theorem gi {d : Nat} {x : Operand} {name : String} {ts : Array TypeId} {F t : Nat} {pv : Value} {R : Value → Zb → Prop} (hm : ∀ w, (callMethod (.iface t pv) name #[]).run P w = .ok (.enter F #[pv]) w) (hc : HC P F [pv] L R) (h : ∀ v L', R v L' → HO P n ops Q rest ((d, v) :: ρ) L')
  (h00 : Y9 ρ = true := by exact rfl) (hx : ev ρ x = some (.iface t pv) := by exact rfl) (hn : Nat.blt d n = true := by exact rfl) : HO P n ops Q (⟨some d, .call { callee := .invoke x name, args := #[], argTypes := ts }, ty, pos, af, none⟩ :: rest) ρ L := by
 intro k w a hs haa
 have hlt : d < n := Nat.le_of_ble_eq_true hn
 unfold wpList
 rw [if_pos (X8 _ rfl _)]
 refine .inl ?_
 unfold Oper.wp
 have e1 : a.eval x = .iface t pv := haa.ev hx
 have hr : (execOp a.eval ⟨some d, .call { callee := .invoke x name, args := #[], argTypes := ts }, ty, pos, af, none⟩).run P w = .ok (.enter F #[pv]) w := by
  simp only [execOp, resolve, e1]
  simp [invoke, hm]
 rw [hr]
 refine (hc.2 k w hs).mono fun e w' ⟨u, L', h1, h2, h3⟩ => ?_
 subst h1
 exact h u L' h3 k w' _ h2 (haa.put hlt u)
end k
section d
variable {P : Program} (S : Tab P) {n : Nat} {ops : List Oper} {Q : Exit → Zq → Zb → Prop} {Ss : List (Nat × Zn)} {rem rem' : List (Nat × Oper)} {ρ : Zq} {L : Zb} {ty : TypeId} {pos : String} {af : Array Edge} {g : Option (Nat × Bool)} {d i : Nat}
theorem dqS {t kt et s0 b0 x1 y1 s1 b1 r ck : Nat} {x y : Operand} {es : List MapEntry} {l : List (List UInt8 × Value)} {a : List UInt8} {z : Value} (k : Nat) (hF : Zee es l) (hb : Has L r (.map ⟨es⟩ ck)) (hr : HD P n ops Q ((i, (r, .map ⟨es⟩ ck)) :: Ss) rem' ((d, .tuple ⟨[(W0 a l).getD z, .bool (W0 a l).isSome]⟩) :: ρ) L)
  (h00 : Y9 ρ = true := by exact rfl) (hp : Wc k rem = some ((i, ⟨some d, .lookup t x y true, ty, pos, af, g⟩), rem') := by exact rfl) (hx : ev ρ x = some (.map (some r)) := by exact rfl) (hy : ev ρ y = some (bs a) := by exact rfl) (ht : Zt S.ty t = some ⟨8, kt, et, s0, b0⟩ := by exact rfl) (hk : Zt S.ty kt = some ⟨3, x1, y1, s1, b1⟩ := by exact rfl) (hz : Zt S.zr et = some z := by exact rfl)
  (hg : Zu ops ρ g = some true := by exact rfl) (hn : Nat.blt d n = true := by exact rfl) (hc : Q8 ops rem' i ⟨some d, .lookup t x y true, ty, pos, af, g⟩ = true := by decide +kernel) : HD P n ops Q Ss rem ρ L :=
 d_l k (fun L h => qmS S hF h00 hx hy ht hk hz h) hb hr h00 hp hg hn hc
end d
end Go.HL
end

/-! ScC -/
section
namespace Go.HL
open Go Go.Proofs
set_option linter.unusedVariables false
set_option linter.unusedSimpArgs false
def actTab : List (List UInt8 × List UInt8 × Nat) := [([98, 101, 103, 105, 110], [100, 100], 35),
 ([114, 101, 102, 117, 115, 101], [100, 100], 37),
 ([116, 105, 99, 107], [100], 39),
 ([103, 111], [110], 41),
 ([108, 111, 115, 101], [110], 43),
 ([116, 119, 105, 99, 101], [110], 45),
 ([108, 105, 110, 107], [100, 100], 47),
 ([98, 114, 101, 97, 107], [100, 100], 49),
 ([99, 117, 116], [100, 110], 50),
 ([100, 111, 119, 110], [100], 52),
 ([117, 112], [100], 54)]
def lookTab : List (List UInt8 × List UInt8 × Nat) := [([97, 108, 108], [], 56),
 ([102, 108, 121], [], 58),
 ([115, 116, 97, 116, 101], [100, 100], 60),
 ([108, 101, 97, 100], [100, 100], 63),
 ([105, 115], [100], 65),
 ([101, 118, 101, 110, 116, 115], [], 67),
 ([99, 104, 101, 99, 107], [], 70)]
def Zrr (F : Nat) : Value := .func (.func F) #[] #[]
def Zgp (F : Nat) : Obj := .cells ⟨[Zrr F]⟩ 102
def Za9 (f : List UInt8) (b : Nat) : Value := .agg ⟨[bs f, .func (.func 92) #[] ⟨[pt b 0]⟩]⟩
def actL : List (List UInt8 × List UInt8 × Nat) → List Nat → List (List UInt8 × Value)
 | (w, f, _) :: r, b :: q => (w, Za9 f b) :: actL r q
 | _, _ => []
def W9 : List (List UInt8 × List UInt8 × Nat) → List Nat → List Zn
 | (_, _, F) :: r, b :: q => (b, Zgp F) :: W9 r q
 | _, _ => []
def Zkm : List (List UInt8 × Value) := lookTab.map fun x => (x.1, .agg ⟨[bs x.2.1, Zrr x.2.2]⟩)
set_option maxHeartbeats 2000000 attribute [local irreducible] HW HO HQ HD HC QOp Has Upd Zp Gets Yf Z8 Zr X3 Z9 Zj Wa Zy
theorem Zcy (v : Value) (L : Zb) : HC Tryz.prog 17 [v] L (fun u L' => u = .tuple ⟨[bs [111, 107], v]⟩ ∧ L' = L) := by
 refine Za (fun _ _ => Tryz.call17 _ _) Tryz.func17 rfl Tryz.ntmps17 (Nat.le_of_ble_eq_true rfl) ?_; simp only [Ze, Nat.reduceAdd]
 repeat' (first | refine uN ?_)
 exact Zbm rfl ⟨rfl, rfl⟩
theorem one_form (f : List UInt8) (F : Nat) (L : Zb) : HC Tryz.prog 34 [bs f, Zrr F] L (fun u L' => ∃ b, u = Za9 f b ∧ L' = [(b, Zgp F)] :: L) := by
 unfold Zrr
 refine Za (fun _ _ => Tryz.call34 _ _) Tryz.func34 rfl Tryz.ntmps34 (Nat.le_of_ble_eq_true rfl) ?_; simp only [Ze, Nat.reduceAdd]
 repeat' (first | refine uN ?_ | (refine uB ?_; intro b) | fail)
 rename_i b1
 exact Xm (L' := [(b1, Zgp F)] :: L) uL ⟨b1, rfl, rfl⟩ (hv := Vu S (hg := Za2 _))
theorem Zd2 (L : Zb) : HC Tryz.prog 19 [] L (fun u L' => ∃ r es ck, u = .map (some r) ∧ Zee es Zkm ∧ L' = [(r, .map ⟨es⟩ ck)] :: L) := by
 refine Za (fun _ _ => Tryz.call19 _ _) Tryz.func19 rfl Tryz.ntmps19 (Nat.le_of_ble_eq_true rfl) ?_; simp only [Ze, Nat.reduceAdd]
 repeat' (first | refine uN ?_ | (refine uB ?_; intro b) | fail)
 refine Zjx S (es := []) (l := []) rfl rfl ?_
 intro es1 ck1 h1
 repeat' (first | refine uN ?_ | (refine uB ?_; intro b) | fail)
 refine Zjx S h1 rfl ?_
 intro es2 ck2 h2
 repeat' (first | refine uN ?_ | (refine uB ?_; intro b) | fail)
 refine Zjx S h2 rfl ?_
 intro es3 ck3 h3
 repeat' (first | refine uN ?_ | (refine uB ?_; intro b) | fail)
 refine Zjx S h3 rfl ?_
 intro es4 ck4 h4
 repeat' (first | refine uN ?_ | (refine uB ?_; intro b) | fail)
 refine Zjx S h4 rfl ?_
 intro es5 ck5 h5
 repeat' (first | refine uN ?_ | (refine uB ?_; intro b) | fail)
 refine Zjx S h5 rfl ?_
 intro es6 ck6 h6
 repeat' (first | refine uN ?_ | (refine uB ?_; intro b) | fail)
 refine Zjx S h6 rfl ?_
 intro es7 ck7 h7
 repeat' (first | refine uN ?_ | (refine uB ?_; intro b) | fail)
 exact Qd rfl ⟨_, _, _, rfl, h7, rfl⟩
theorem Qw (L : Zb) : HC Tryz.prog 18 [] L (fun u L' => ∃ (r : Nat) (es : List MapEntry) (ck : Nat) (q : List Nat), u = .map (some r) ∧ Zee es (actL actTab q) ∧ q.length = 11 ∧ L' = ((r, .map ⟨es⟩ ck) :: (W9 actTab q).reverse) :: L) := by
 have ko := fun f F L => one_form f F L
 unfold Zrr at ko
 refine Za (fun _ _ => Tryz.call18 _ _) Tryz.func18 rfl Tryz.ntmps18 (Nat.le_of_ble_eq_true rfl) ?_; simp only [Ze, Nat.reduceAdd]
 repeat' (first | refine uN ?_ | (refine uB ?_; intro b) | fail)
 refine gc (ko [100, 100] 35 _) ?_
 rintro v1 L1 ⟨b1, rfl, rfl⟩
 unfold Za9
 refine fo 1 ?_
 refine Zjx S (es := []) (l := []) rfl rfl ?_
 intro es1 ck1 h1
 repeat' (first | refine uN ?_ | (refine uB ?_; intro b) | fail)
 refine gc (ko [100, 100] 37 _) ?_
 rintro v2 L2 ⟨b2, rfl, rfl⟩
 unfold Za9
 refine fo 1 ?_
 refine Zjx S h1 rfl ?_
 intro es2 ck2 h2
 repeat' (first | refine uN ?_ | (refine uB ?_; intro b) | fail)
 refine gc (ko [100] 39 _) ?_
 rintro v3 L3 ⟨b3, rfl, rfl⟩
 unfold Za9
 refine fo 1 ?_
 refine Zjx S h2 rfl ?_
 intro es3 ck3 h3
 repeat' (first | refine uN ?_ | (refine uB ?_; intro b) | fail)
 refine gc (ko [110] 41 _) ?_
 rintro v4 L4 ⟨b4, rfl, rfl⟩
 unfold Za9
 refine fo 1 ?_
 refine Zjx S h3 rfl ?_
 intro es4 ck4 h4
 repeat' (first | refine uN ?_ | (refine uB ?_; intro b) | fail)
 refine gc (ko [110] 43 _) ?_
 rintro v5 L5 ⟨b5, rfl, rfl⟩
 unfold Za9
 refine fo 1 ?_
 refine Zjx S h4 rfl ?_
 intro es5 ck5 h5
 repeat' (first | refine uN ?_ | (refine uB ?_; intro b) | fail)
 refine gc (ko [110] 45 _) ?_
 rintro v6 L6 ⟨b6, rfl, rfl⟩
 unfold Za9
 refine fo 1 ?_
 refine Zjx S h5 rfl ?_
 intro es6 ck6 h6
 repeat' (first | refine uN ?_ | (refine uB ?_; intro b) | fail)
 refine gc (ko [100, 100] 47 _) ?_
 rintro v7 L7 ⟨b7, rfl, rfl⟩
 unfold Za9
 refine fo 1 ?_
 refine Zjx S h6 rfl ?_
 intro es7 ck7 h7
 repeat' (first | refine uN ?_ | (refine uB ?_; intro b) | fail)
 refine gc (ko [100, 100] 49 _) ?_
 rintro v8 L8 ⟨b8, rfl, rfl⟩
 unfold Za9
 refine fo 1 ?_
 refine Zjx S h7 rfl ?_
 intro es8 ck8 h8
 repeat' (first | refine uN ?_ | (refine uB ?_; intro b) | fail)
 refine gc (ko [100, 110] 50 _) ?_
 rintro v9 L9 ⟨b9, rfl, rfl⟩
 unfold Za9
 refine fo 1 ?_
 refine Zjx S h8 rfl ?_
 intro es9 ck9 h9
 repeat' (first | refine uN ?_ | (refine uB ?_; intro b) | fail)
 refine gc (ko [100] 52 _) ?_
 rintro v10 L10 ⟨b10, rfl, rfl⟩
 unfold Za9
 refine fo 1 ?_
 refine Zjx S h9 rfl ?_
 intro es10 ck10 h10
 repeat' (first | refine uN ?_ | (refine uB ?_; intro b) | fail)
 refine gc (ko [100] 54 _) ?_
 rintro v11 L11 ⟨b11, rfl, rfl⟩
 unfold Za9
 refine fo 1 ?_
 refine Zjx S h10 rfl ?_
 intro es11 ck11 h11
 repeat' (first | refine uN ?_ | (refine uB ?_; intro b) | fail)
 exact Qd (L' := ((b, .map ⟨es11⟩ ck11) :: (W9 actTab [b1, b2, b3, b4, b5, b6, b7, b8, b9, b10, b11]).reverse) :: L) rfl ⟨b, es11, ck11, [b1, b2, b3, b4, b5, b6, b7, b8, b9, b10, b11], rfl, h11, rfl, rfl⟩
end Go.HL
end

/-! ScD -/
section
namespace Go.HL
open Go Go.Proofs
set_option linter.unusedVariables false
set_option linter.unusedSimpArgs false
theorem Zp5 {s : List UInt8} {k : Int} (ha : Lib.atoiAll s = .ok k) : Zb5 s = if (s.length : Int) ≤ 5 ∧ 0 ≤ k ∧ Lib.itoa k = s then some k else none := by
 unfold Zb5
 rw [ha]
 simp only
 congr 1
 exact propext ⟨fun ⟨h1, h2, h3⟩ => ⟨by omega, h2, h3⟩, fun ⟨h1, h2, h3⟩ => ⟨by omega, h2, h3⟩⟩
theorem numC_no {s : List UInt8} (ha : ∀ n, Lib.atoiAll s ≠ .ok n) : Zb5 s = none := by
 unfold Zb5
 split
 ·rename_i v hv
  exact absurd hv (ha v)
 ·rfl
def W7 : List UInt8 → List (List UInt8) → Option (List Int)
 | f :: fr, w :: wr => match Zb5 w with
  | none => none
  | some k => if f.toNat = 100 ∧ 9 < k then none else (W7 fr wr).map (k :: ·)
 | _, _ => some []
def W6 (form : List UInt8) (ws : List (List UInt8)) : Option (List Int) := if form.length = ws.length then W7 form ws else none
theorem Qg : ∀ (f1 : List UInt8) (w1 : List (List UInt8)) (f2 : List UInt8) (w2 : List (List UInt8)), f1.length = w1.length → W7 (f1 ++ f2) (w1 ++ w2) = (W7 f1 w1).bind fun a => (W7 f2 w2).map (a ++ ·)
 | [], [], f2, w2, _ => by simp [W7]
 | f :: fr, w :: wr, f2, w2, h => by
  have ih := Qg fr wr f2 w2 (by simpa using h)
  simp only [List.cons_append, W7, ih]
  cases Zb5 w with
  | none => rfl
  | some k =>
   simp only
   split
   ·rfl
   ·cases W7 fr wr with
    | none => rfl
    | some m => cases W7 f2 w2 <;> simp
theorem Qb : ∀ {f : List UInt8} {w : List (List UInt8)} {n : List Int}, f.length = w.length → W7 f w = some n → n.length = w.length ∧ ∀ x ∈ n, 0 ≤ x ∧ x ≤ 99999
 | [], [], n, _, h => by cases h; simp
 | f :: fr, w :: wr, n, hl, h => by
  simp only [W7] at h
  cases hk : Zb5 w with
  | none => rw [hk] at h; cases h
  | some k =>
   rw [hk] at h
   simp only at h
   split at h
   ·cases h
   ·rw [Option.map_eq_some_iff] at h
    obtain ⟨m, hm, rfl⟩ := h
    obtain ⟨h1, h2⟩ := Qb (by simpa using hl) hm
    refine ⟨by simp [h1], fun x hx => ?_⟩
    rcases List.mem_cons.1 hx with rfl | hx
    ·unfold Zb5 at hk
     split at hk
     ·rename_i v hv
      split at hk
      ·rename_i hc
       cases hk
       obtain ⟨c1, c2, c3⟩ := hc
       refine ⟨c2, ?_⟩
       obtain ⟨u, rfl⟩ := Int.eq_ofNat_of_zero_le c2
       have h9 := congrArg List.length c3
       have h8 : Lib.itoa (u : Int) = Lib.decDigits u := by unfold Lib.itoa; rw [if_neg (by omega)]; simp
       rw [h8, Lib.decDigits_length] at h9
       have h7 := Lib.lt_pow_nDigits u
       have h6 : 10 ^ Lib.nDigits u ≤ 10 ^ 5 := Nat.pow_le_pow_right (by decide) (by omega)
       omega
      ·cases hk
     ·cases hk
    ·exact h2 x hx
theorem V0 {α : Type} {l : List α} {i : Nat} (h : i < l.length) : l.take (i + 1) = l.take i ++ [l[i]] := by
 rw [List.take_add_one, List.getElem?_eq_getElem h, Option.toList_some]
theorem Zoo {f : List UInt8} {w : List (List UInt8)} {i : Nat} (hl : f.length = w.length) (h : W7 (f.take i) (w.take i) = none) : W7 f w = none := by
 have := Qg (f.take i) (w.take i) (f.drop i) (w.drop i) (by simp [hl])
 rw [List.take_append_drop, List.take_append_drop, h] at this
 exact this
theorem Znw {f : List UInt8} {w : List (List UInt8)} {i : Nat} {a : List Int} (hl : f.length = w.length) (hi : i < w.length) (h : W7 (f.take i) (w.take i) = some a) :
  W7 (f.take (i + 1)) (w.take (i + 1)) = match Zb5 (w[i]) with
   | none => none
   | some k => if (f.getD i 0).toNat = 100 ∧ 9 < k then none else some (a ++ [k]) := by
 have hg : f.getD i 0 = f[i]'(by omega) := by simp [List.getD, List.getElem?_eq_getElem (show i < f.length by omega)]
 rw [V0 hi, V0 (show i < f.length by omega), Qg _ _ _ _ (by simp [hl]), h, hg]
 simp only [Option.bind_some, W7]
 cases Zb5 w[i] with
 | none => rfl
 | some k =>
  simp only
  split <;> simp
set_option maxHeartbeats 2000000 attribute [local irreducible] HW HO HQ HD HC QOp Has Upd Zp Gets Yf Z8 Zr X3 Z9 Zj Wa Zy
theorem Zgv (s : List UInt8) (hs : s.length ≤ 1000000) (L : Zb) (hS : Sz L) : HC Tryz.prog 23 [bs s] L (fun v L' => (∃ k, v = .tuple ⟨[iv k, .bool (Zb5 s).isSome]⟩ ∧ ∀ n, Zb5 s = some n → k = n) ∧ L' = L) := by
 refine Za (fun _ _ => Tryz.call23 _ _) Tryz.func23 rfl Tryz.ntmps23 (Nat.le_of_ble_eq_true rfl) ?_; simp only [Ze, Nat.reduceAdd]
 repeat' (first | refine uN ?_ | (refine uP ?_ ?_ <;> (intro h; ((try simp only [zs, ne_eq, and_true, true_and, eq_self, reduceCtorEq] at h); try exact zx))) | fail)
 refine gc (Zn5 s hs _ hS) ?_
 rintro v L' ⟨⟨k, e, rfl, h⟩, rfl⟩
 rcases h with ⟨ha, rfl⟩ | ⟨ha, t, N, rfl⟩
 ·obtain ⟨h0, h1⟩ := Lib.atoiAll_bounds ha
  have kI := Zbz k h0 h1 L' hS
  have hk : ∀ n, Zb5 s = some n → k = n := fun n hn => by
   rw [Zp5 ha] at hn
   split at hn
   ·exact Option.some.inj hn
   ·cases hn
  have hb : (Zb5 s).isSome = decide ((s.length : Int) ≤ 5 ∧ 0 ≤ k ∧ Lib.itoa k = s) := by
   rw [Zp5 ha]
   split <;> simp_all
  rw [hb]
  repeat' (first | refine uN ?_ | refine uC (kI) ?_ | (refine uP ?_ ?_ <;> (intro h; ((try simp only [zs, ne_eq, and_true, true_and, eq_self, reduceCtorEq] at h); try exact zx))) | fail)
  all_goals (refine Zbm rfl ⟨⟨k, ?_, hk⟩, rfl⟩; simp [*])
 ·rw [numC_no ha]
  repeat' (first | refine uN ?_ | (refine uP ?_ ?_ <;> (intro h; ((try simp only [zs, ne_eq, and_true, true_and, eq_self, reduceCtorEq] at h); try exact zx))) | fail)
  exact Zbm rfl ⟨⟨k, rfl, fun n h => by cases h⟩, rfl⟩
theorem Zaj (form : List UInt8) (a : Option Addr) (cap : Nat) (ws : List (List UInt8)) (L : Zb) (hS : Sz L) (hR : Rd V7 1 L a ws) (hcap : ws.length ≤ cap) (hl : ws.length ≤ 1000000) (hf : form.length ≤ 1000000) (hw : ∀ x ∈ ws, x.length ≤ 1000000) :
  HC Tryz.prog 14 [bs form, .slice a ws.length cap] L (fun v L' => ∃ c u, v = .tuple ⟨[u, .bool (W6 form ws).isSome]⟩ ∧ Vec 3 1 ic u ((W6 form ws).getD []) c ∧ L' = c :: L) := by
 by_cases he : form.length = ws.length
 ·have hrb : W6 form ws = W7 form ws := if_pos he
  rw [hrb]
  refine Za (fun _ _ => Tryz.call14 _ _) Tryz.func14 rfl Tryz.ntmps14 (Nat.le_of_ble_eq_true rfl) ?_; simp only [Ze, Nat.reduceAdd]
  repeat' (first | refine uN ?_ | (refine uB ?_; intro b) | (refine uP ?_ ?_ <;> (intro h; ((try simp only [zs, ne_eq, and_true, true_and, eq_self, reduceCtorEq] at h); try exact zx))) | fail)
  refine Zcu (L' := [] :: L) ?_ (LS.refl _)
  refine Zx (σ := Nat × Value × List Zn × List Int) (fun r => [(0, bs form), (4, r.2.1), (15, .slice a ws.length cap), (16, iv ws.length), (17, iv r.1)])
   (fun r => r.2.2.1 :: L)
   (fun r => r.1 ≤ ws.length ∧ Vec 3 1 ic r.2.1 r.2.2.2 r.2.2.1 ∧ W7 (form.take r.1) (ws.take r.1) = some r.2.2.2) (fun r => ws.length - r.1) (0, Wo, [], []) uS (List.Sublist.refl _) ⟨by simp, Yh, by simp [W7]⟩ ?_
  rintro ⟨i, u, c, q⟩ ⟨hi, hv, hz⟩
  simp only at hi hv hz ⊢
  obtain ⟨a5, cap5, he5, -, -⟩ := hv.rd Xl
  subst he5
  have hql : q.length = i := by
   have := (Qb (by simp [he]) hz).1
   rw [List.length_take] at this
   omega
  by_cases hit : i < ws.length
  ·obtain ⟨b, bi, l, F, fr, rfl, hb, hg⟩ := hR.at1 (j := (i : Int)) (by omega) (by omega)
   have eg : ws[(i : Int).toNat]'(by omega) = ws[i] := rfl
   rw [eg] at hg
   have hwi := hw ws[i] (List.getElem_mem _)
   have hstep := Znw he hit hz
   have hfail := Zoo (f := form) (w := ws) (i := i + 1) he
   repeat' (first | refine uN ?_ | (refine uB ?_; intro b) | (refine uP ?_ ?_ <;> (intro h; ((try simp only [zs, ne_eq, and_true, true_and, eq_self, reduceCtorEq] at h); try exact zx))) | fail)
   ·refine gc (Zgv _ hwi _ (hS.cons c)) ?_
    rintro v L' ⟨⟨k, rfl, hk⟩, rfl⟩
    cases hn : Zb5 ws[i] with
    | none =>
     rw [hn] at hstep
     rw [hfail hstep]
     repeat' (first | refine uN ?_ | (refine uB ?_; intro b) | (refine uP ?_ ?_ <;> (intro h; ((try simp only [zs, ne_eq, and_true, true_and, eq_self, reduceCtorEq] at h); try exact zx))) | fail)
     exact Ve (L' := [] :: L) (LS.c (LS.refl _)) ⟨[], Wo, rfl, Yh, rfl⟩
    | some n =>
     obtain rfl := hk n hn
     rw [hn] at hstep
     simp only at hstep
     have ei : (i : Int).toNat = i := Int.toNat_natCast i
     have e : i + 1 ≤ ws.length := hit
     repeat' (first | refine uN ?_ | (refine uB ?_; intro b) | (refine uP ?_ ?_ <;> (intro h; ((try simp only [zs, ne_eq, and_true, true_and, eq_self, reduceCtorEq] at h); try exact zx))) | fail)
     all_goals rw [ei] at *
     ·rw [if_pos ⟨by omega, by omega⟩] at hstep
      rw [hfail hstep]
      exact Ve (L' := [] :: L) (LS.c (LS.refl _)) ⟨[], Wo, rfl, Yh, rfl⟩
     all_goals
      rw [if_neg (by omega)] at hstep
      refine fo 1 ?_
      refine wp1 S k hv Xl Zoa ?_
      intro v' c' hv'
      repeat' (first | refine uN ?_ | (refine uB ?_; intro b) | (refine uP ?_ ?_ <;> (intro h; ((try simp only [zs, ne_eq, and_true, true_and, eq_self, reduceCtorEq] at h); try exact zx))) | fail)
      exact Z5 (i + 1, v', c', q ++ [k]) uS uL ⟨hit, hv', hstep⟩ (by simp only; omega)
  ·obtain rfl : i = ws.length := by omega
   rw [List.take_length, show form.take ws.length = form from by rw [← he, List.take_length]] at hz
   rw [hz]
   repeat' (first | refine uN ?_ | (refine uB ?_; intro b) | (refine uP ?_ ?_ <;> (intro h; ((try simp only [zs, ne_eq, and_true, true_and, eq_self, reduceCtorEq] at h); try exact zx))) | fail)
   exact Zbm rfl ⟨c, _, rfl, hv, rfl⟩
 ·have hrb : W6 form ws = none := if_neg he
  rw [hrb]
  refine Za (fun _ _ => Tryz.call14 _ _) Tryz.func14 rfl Tryz.ntmps14 (Nat.le_of_ble_eq_true rfl) ?_; simp only [Ze, Nat.reduceAdd]
  repeat' (first | refine uN ?_ | (refine uB ?_; intro b) | (refine uP ?_ ?_ <;> (intro h; ((try simp only [zs, ne_eq, and_true, true_and, eq_self, reduceCtorEq] at h); try exact zx))) | fail)
  all_goals first | (exfalso; omega) | exact Zbm (L' := [] :: L) rfl ⟨[], Wo, rfl, Yh, rfl⟩
end Go.HL
end

/-! WoZ -/
section
namespace Go.HL
open Go Go.Proofs
set_option linter.unusedVariables false
set_option linter.unusedSimpArgs false
theorem HC.ro {F : Nat} {args : List Value} {H H' : Zb} {V : Value → Prop} (h1 : LS H.flatten H'.flatten) (h2 : LS H'.flatten H.flatten) (h : HC Tryz.prog F args H (fun v L' => V v ∧ L' = H)) : HC Tryz.prog F args H' (fun v L' => V v ∧ L' = H') :=
 HC.post (HC.sp h h1) (by rintro v L' ⟨hv, rfl⟩; exact ⟨H', h2, hv, rfl⟩)
theorem lsW {G : WdG} {M : Wm} {X : Zb} : LS (Ym G M ++ X).flatten (Xg G M :: X).flatten := LS.of_eq (Qi G M X).symm
theorem lsW' {G : WdG} {M : Wm} {X : Zb} : LS (Xg G M :: X).flatten (Ym G M ++ X).flatten := LS.of_eq (Qi G M X)
theorem Zbj (T : Nat) (E : Nat → Addr) (G : WdG) (M : Wm) (s d : Int) (L : Zb) (hG : Er T E [2, 6] L) (hW : WdOk G M) (hM : WI M) : HC Tryz.prog 61 [pt G.wp 0, iv s, iv d] (Ym G M ++ L) (fun v L' => v = .tuple ⟨[.agg ⟨sc (Uc M s d)⟩, eV T E (Wl M s d)]⟩ ∧ L' = Ym G M ++ L) := by
 refine Zc0 T E G M s d _ (Xp hG G M) (V6 hW L) hW.ndl (fun hn => ?_) (fun hn => ?_)
 ·exact Ql hW.ndl (Yp hn).1 (Yp hn).2 L
 ·have hni := U6 hM (Yp hn).1 (Yp hn).2
  refine ⟨by rw [hni.b512]; omega, by rw [hni.b512]; omega, fun p hp => ?_⟩
  have := Zdj hW.ndl (Yp hn).1 (Yp hn).2 (b := p.1) (o := p.2) (by
   unfold Zfm Yo
   simp only [List.mem_cons, List.not_mem_nil, or_false] at hp
   rcases hp with rfl | rfl
   ·simp [plB]
   ·simp [plD]) L
  unfold Has Ym at *
  rw [List.append_assoc, List.flatten_append]
  exact List.mem_append_right _ this
end Go.HL
end

/-! SfA -/
section
namespace Go.HL
open Go Go.Proofs
set_option linter.unusedVariables false
set_option linter.unusedSimpArgs false
structure Vd where
 st : Nat → St
 ld : Nat → Option Ld
 fr : Fr → Prop
structure Gh where
 prep : Int → Option Int
 acc : Nat → Int → Prop
 ref : Nat → Prop
def bit (q i : Nat) : Prop := q / 2 ^ i % 2 = 1
instance (q i : Nat) : Decidable (bit q i) := by unfold bit; infer_instance
section inv
variable (w : List Int)
def Zen (g : Gh) (a : Int) : Prop := ∃ q, q < 2 ^ w.length ∧ quor w q = true ∧ ∀ i, i < w.length → bit q i → g.acc i a
def dec (g : Gh) (p : Int) : Prop := (p = 2 ∧ ∃ a, g.prep a = some 4 ∧ Zen w g a) ∨ (p = 3 ∧ ((∃ a, g.prep a = some 5 ∧ Zen w g a) ∨ ∃ s, s < w.length ∧ g.ref s))
def Zcx (v : Vd) (g : Gh) (a : Int) : Prop := ∃ q, q < 2 ^ w.length ∧ quor w q = true ∧ ∀ i, i < w.length → bit q i → a < (v.st i).pr ∧ ¬ g.acc i a
def Zmn (v : Vd) (g : Gh) (s : Nat) : Prop := (v.st s).ph ≠ 0 ∧ ¬ g.ref s
def fin (p : Int) : Prop := p = 2 ∨ p = 3
structure TellOk (v : Vd) (g : Gh) (s : Nat) (b : Int) (t : St) : Prop where
 pr : b ≤ (v.st s).pr
 fi : fin t.ph → dec w g t.ph
 pe : t.ph = 4 ∨ t.ph = 5 → t.att < b ∧ g.prep t.att = some t.ph ∧ 0 ≤ t.att
 ac : ∀ a, 0 ≤ a → a < b → g.acc s a → fin t.ph ∨ ((t.ph = 4 ∨ t.ph = 5) ∧ a ≤ t.att)
def frOk (v : Vd) (g : Gh) (f : Fr) : Prop :=
 (f.kd = 2 → if f.yes then Zmn v g f.fr.toNat else dec w g 3) ∧
 (f.kd = 4 → f.yes = true → TellOk w v g f.fr.toNat f.att f.s) ∧
 (f.kd = 5 → g.prep f.att = some f.s.ph) ∧
 (f.kd = 6 → f.yes = true → g.acc f.fr.toNat f.att) ∧
 (f.kd = 7 → fin f.s.ph → dec w g f.s.ph)
structure LeadOk (v : Vd) (g : Gh) (s : Nat) (x : Ld) : Prop where
 two : x.wait = 2 → x.att = 0 ∧ ∀ i, i < w.length → bit x.heard i → Zmn v g i
 four : x.wait = 4 → 1 ≤ x.att ∧ x.att % w.length = s ∧ g.prep x.att = none ∧ x.att ≤ (v.st s).pr ∧ ∀ i, i < w.length → bit x.heard i → TellOk w v g i x.att (x.told.getD i W3)
 six : x.wait = 6 → g.prep x.att = some x.phase ∧ ∀ i, i < w.length → bit x.heard i → g.acc i x.att
 wt : x.wait = 0 ∨ x.wait = 2 ∨ x.wait = 4 ∨ x.wait = 6
structure SiteOk (v : Vd) (g : Gh) (s : Nat) : Prop where
 ok : Zge (v.st s)
 fi : fin (v.st s).ph → dec w g (v.st s).ph
 pe : (v.st s).ph = 4 ∨ (v.st s).ph = 5 → g.prep (v.st s).att = some (v.st s).ph
 ac : ∀ a, g.acc s a → a ≤ (v.st s).pr ∧ (fin (v.st s).ph ∨ ((v.st s).ph = 4 ∨ (v.st s).ph = 5) ∧ a ≤ (v.st s).att)
 rf : g.ref s → (v.st s).ph = 3
structure SInv (v : Vd) (g : Gh) : Prop where
 site : ∀ s, s < w.length → SiteOk w v g s
 lead : ∀ s x, s < w.length → v.ld s = some x → LeadOk w v g s x
 fr : ∀ f, v.fr f → frOk w v g f
 p0 : ∀ p, g.prep 0 = some p → p = 4
 pp : ∀ a p, g.prep a = some p → (p = 4 ∨ p = 5) ∧ 0 ≤ a
 own : ∀ a p, 1 ≤ a → g.prep a = some p → a ≤ (v.st (a % w.length).toNat).pr
 com : ∀ a, g.prep a = some 4 → ∀ s, s < w.length → Zmn v g s
 safe : ∀ b q, g.prep b = some q → ∀ a, 0 ≤ a → a < b → Zcx w v g a ∨ g.prep a = some q
end inv
structure GLe (w : List Int) (v v' : Vd) (g g' : Gh) : Prop where
 prep : ∀ a p, g.prep a = some p → g'.prep a = some p
 acc : ∀ s a, g.acc s a → g'.acc s a
 ref : ∀ s, g.ref s → g'.ref s
 st : ∀ s, s < w.length → (v.st s).pr ≤ (v'.st s).pr ∧ ((v.st s).ph ≠ 0 → (v'.st s).ph ≠ 0)
 nref : ∀ s, s < w.length → (v.st s).ph ≠ 0 → ¬ g.ref s → ¬ g'.ref s
 nacc : ∀ s a, s < w.length → a < (v.st s).pr → ¬ g.acc s a → ¬ g'.acc s a
theorem GLe.refl (w : List Int) (v : Vd) (g : Gh) : GLe w v v g g := ⟨fun _ _ h => h, fun _ _ h => h, fun _ h => h, fun _ _ => ⟨Int.le_refl _, fun h => h⟩, fun _ _ _ h => h, fun _ _ _ _ h => h⟩
theorem Zcp {w : List Int} {v v' : Vd} {g g' : Gh} (h : GLe w v v' g g') {a : Int} (hq : Zen w g a) : Zen w g' a := by
 obtain ⟨q, h1, h2, h3⟩ := hq
 exact ⟨q, h1, h2, fun i hi hb => h.acc i a (h3 i hi hb)⟩
theorem Zb9 {w : List Int} {v v' : Vd} {g g' : Gh} (h : GLe w v v' g g') {p : Int} (hd : dec w g p) : dec w g' p := by
 rcases hd with ⟨h1, a, h2, h3⟩ | ⟨h1, ⟨a, h2, h3⟩ | ⟨s, h2, h3⟩⟩
 ·exact .inl ⟨h1, a, h.prep _ _ h2, Zcp h h3⟩
 ·exact .inr ⟨h1, .inl ⟨a, h.prep _ _ h2, Zcp h h3⟩⟩
 ·exact .inr ⟨h1, .inr ⟨s, h2, h.ref _ h3⟩⟩
theorem Ziu {w : List Int} {v v' : Vd} {g g' : Gh} (h : GLe w v v' g g') {a : Int} (hb : Zcx w v g a) : Zcx w v' g' a := by
 obtain ⟨q, h1, h2, h3⟩ := hb
 refine ⟨q, h1, h2, fun i hi hq => ?_⟩
 obtain ⟨h4, h5⟩ := h3 i hi hq
 exact ⟨by have := (h.st i hi).1; omega, h.nacc i a hi h4 h5⟩
theorem Zb1 {w : List Int} {v v' : Vd} {g g' : Gh} (h : GLe w v v' g g') {s : Nat} (hs : s < w.length) (hv : Zmn v g s) : Zmn v' g' s := ⟨(h.st s hs).2 hv.1, h.nref s hs hv.1 hv.2⟩
theorem Zhd {w : List Int} {v v' : Vd} {g g' : Gh} (h : GLe w v v' g g') {s : Nat} (hs : s < w.length) {b : Int} {t : St} (ht : TellOk w v g s b t) : TellOk w v' g' s b t := by
 have hst := (h.st s hs).1
 refine ⟨by have := ht.pr; omega, fun hf => Zb9 h (ht.fi hf), fun hp => ⟨(ht.pe hp).1, h.prep _ _ (ht.pe hp).2.1, (ht.pe hp).2.2⟩, fun a h0 ha hacc => ?_⟩
 by_cases hg : g.acc s a
 ·exact ht.ac a h0 ha hg
 ·exact absurd hacc (h.nacc s a hs (by have := ht.pr; omega) hg)
theorem Zr4 {w : List Int} {v v' : Vd} {g g' : Gh} (h : GLe w v v' g g') {f : Fr} (hfr : 0 ≤ f.fr ∧ f.fr < w.length) (hf : frOk w v g f) : frOk w v' g' f := by
 obtain ⟨h2, h4, h5, h6, h7⟩ := hf
 have hi : f.fr.toNat < w.length := by omega
 refine ⟨fun hk => ?_, fun hk hy => Zhd h hi (h4 hk hy), fun hk => h.prep _ _ (h5 hk), fun hk hy => h.acc _ _ (h6 hk hy), fun hk hp => Zb9 h (h7 hk hp)⟩
 have := h2 hk
 split at this
 ·rename_i hy
  rw [if_pos hy]
  exact Zb1 h hi this
 ·rename_i hy
  rw [if_neg hy]
  exact Zb9 h this
theorem Zku {w : List Int} {v v' : Vd} {g g' : Gh} (h : GLe w v v' g g') {s : Nat} (hs : s < w.length) {x : Ld} (hx : LeadOk w v g s x) (hn : x.wait = 4 → g'.prep x.att = none) : LeadOk w v' g' s x := by
 refine ⟨fun e => ⟨(hx.two e).1, fun i hi hb => Zb1 h hi ((hx.two e).2 i hi hb)⟩, fun e => ?_, fun e => ⟨h.prep _ _ (hx.six e).1, fun i hi hb => h.acc _ _ ((hx.six e).2 i hi hb)⟩, hx.wt⟩
 obtain ⟨h1, h2, h3, h4, h5⟩ := hx.four e
 exact ⟨h1, h2, hn e, by have := (h.st s hs).1; omega, fun i hi hb => Zhd h hi (h5 i hi hb)⟩
theorem Zqg {w : List Int} {v v' : Vd} {g g' : Gh} (h : GLe w v v' g g') (hp : g'.prep = g.prep) (hi : ∀ b q, g.prep b = some q → ∀ a, 0 ≤ a → a < b → Zcx w v g a ∨ g.prep a = some q) : ∀ b q, g'.prep b = some q → ∀ a, 0 ≤ a → a < b → Zcx w v' g' a ∨ g'.prep a = some q := fun b q hb a h0 ha => by
 rw [hp] at hb ⊢
 rcases hi b q hb a h0 ha with h1 | h1
 ·exact .inl (Ziu h h1)
 ·exact .inr h1
end Go.HL
end

/-! SfB -/
section
namespace Go.HL
open Go Go.Proofs
set_option linter.unusedVariables false
set_option linter.unusedSimpArgs false
def upd {α : Type} (f : Nat → α) (s : Nat) (x : α) : Nat → α := fun i => if i = s then x else f i
theorem Zk9 {w : List Int} {v v' : Vd} {g g' : Gh} (h : GLe w v v' g g') {t : Nat} (hs : v'.st t = v.st t) (ha : ∀ a, g'.acc t a → g.acc t a) (hr : g'.ref t → g.ref t) (hx : SiteOk w v g t) : SiteOk w v' g' t := by
 refine ⟨by rw [hs]; exact hx.ok, fun hf => ?_, fun hp => ?_, fun a hacc => ?_, fun hrf => ?_⟩
 ·rw [hs] at hf ⊢; exact Zb9 h (hx.fi hf)
 ·rw [hs] at hp ⊢; exact h.prep _ _ (hx.pe hp)
 ·rw [hs]; exact hx.ac a (ha a hacc)
 ·rw [hs]; exact hx.rf (hr hrf)
end Go.HL
end

/-! LdF -/
section
namespace Go.HL
open Go Go.Proofs
set_option linter.unusedVariables false
set_option linter.unusedSimpArgs false
section d
variable {w : List Int} {att : Int} {m : Ld} {acks : Nat} {no : Bool} {fin ph : Int} {f : Fr}
end d
end Go.HL
end

/-! TabC -/
section
namespace Go.HL
open Go Go.Proofs
set_option linter.unusedVariables false
set_option linter.unusedSimpArgs false
set_option maxHeartbeats 2000000 attribute [local irreducible] HW HO HQ HD HC QOp Has Upd Zp Gets Yf Z8 Zr X3 Z9 Zj Wa Zy

end Go.HL
end

/-! SfC -/
section
namespace Go.HL
open Go Go.Proofs
set_option linter.unusedVariables false
set_option linter.unusedSimpArgs false
theorem gle_st {w : List Int} {v v' : Vd} (g : Gh) (h : v'.st = v.st) : GLe w v v' g g := ⟨fun _ _ e => e, fun _ _ e => e, fun _ e => e, fun s _ => by rw [h]; exact ⟨Int.le_refl _, fun e => e⟩, fun _ _ _ e => e, fun _ _ _ _ e => e⟩
theorem inv_of {w : List Int} {v v' : Vd} {g : Gh} (h : SInv w v g) (hst : v'.st = v.st) (hl : ∀ t x, t < w.length → v'.ld t = some x → LeadOk w v g t x) (hb : ∀ f, v'.fr f → 0 ≤ f.fr ∧ f.fr < w.length) (hf : ∀ f, v'.fr f → frOk w v g f) : SInv w v' g := by
 have hle := gle_st (w := w) g hst
 refine ⟨fun t ht => Zk9 hle (by rw [hst]) (fun _ e => e) (fun e => e) (h.site t ht), fun t x ht hx => Zku hle ht (hl t x ht hx) (fun e => ((hl t x ht hx).four e).2.2.1), fun f hx => Zr4 hle (hb f hx) (hf f hx), h.p0, h.pp, fun a p h1 ha => by rw [hst]; exact h.own a p h1 ha, fun a ha t ht => Zb1 hle ht (h.com a ha t ht), Zqg hle rfl h.safe⟩
end Go.HL
end

/-! SfD -/
section
namespace Go.HL
open Go Go.Proofs
set_option linter.unusedVariables false
set_option linter.unusedSimpArgs false
def vdW (M : Wm) (d : Nat) : Vd := ⟨fun s => Zcr (Zf M (s : Int)).pl d, fun s => (Zf M (s : Int)).leads.getD d none, fun f => f ∈ M.l ∧ f.dl = d⟩
structure SD (M : Wm) (d : Nat) (g : Gh) : Prop where
 inv : SInv M.w (vdW M d) g
 ev : ∀ e ∈ M.ev, e.deal = d → dec M.w g e.ph
theorem fr_bound {M : Wm} (h : WI M) {d : Nat} : ∀ f, (vdW M d).fr f → 0 ≤ f.fr ∧ f.fr < M.w.length := fun f hf => by
 obtain ⟨h1, h2, h3⟩ := h.fr f hf.1
 unfold Ws at h1
 omega
theorem SD_of {M M' : Wm} {d : Nat} {g : Gh} (hI' : WI M') (h : SD M d g) (hw : M'.w = M.w) (hst : ∀ s : Nat, Zcr (Zf M' (s : Int)).pl d = Zcr (Zf M (s : Int)).pl d)
  (hld : ∀ s : Nat, (Zf M' (s : Int)).leads.getD d none = (Zf M (s : Int)).leads.getD d none ∨ (Zf M' (s : Int)).leads.getD d none = none) (hl : ∀ f ∈ M'.l, f.dl = d → f ∈ M.l ∨ frOk M.w (vdW M d) g f)
  (hev : ∀ e ∈ M'.ev, e ∈ M.ev ∨ (e.deal = d → ∃ s, s < M.w.length ∧ e.ph = (Zcr (Zf M (s : Int)).pl d).ph ∧ fin e.ph)) : SD M' d g := by
 have hs : (vdW M' d).st = (vdW M d).st := funext hst
 refine ⟨?_, fun e he hed => ?_⟩
 ·rw [hw]
  refine inv_of h.inv hs (fun t x ht hx => ?_) (fun f hf => by have := fr_bound hI' f hf; rw [hw] at this; exact this) (fun f hf => ?_)
  ·rcases hld t with e | e
   ·exact h.inv.lead t x ht (by rw [← hx]; exact e.symm)
   ·have hx' : (Zf M' (t : Int)).leads.getD d none = some x := hx
    rw [e] at hx'; cases hx'
  ·rcases hl f hf.1 hf.2 with h1 | h1
   ·exact h.inv.fr f ⟨h1, hf.2⟩
   ·exact h1
 ·rw [hw]
  rcases hev e he with h1 | h1
  ·exact h.ev e h1 hed
  ·obtain ⟨s, hs1, hs2, hs3⟩ := h1 hed
   have := (h.inv.site s hs1).fi
   change fin (Zcr (Zf M (s : Int)).pl d).ph → dec M.w g (Zcr (Zf M (s : Int)).pl d).ph at this
   rw [hs2]
   exact this (by rw [← hs2]; exact hs3)
theorem Zrh {s : Int} {ph : Nat → Int} {q : List Bool × List Evt} {k : Nat} {e : Evt} (h : e ∈ (Wp s ph q k).2) : e ∈ q.2 ∨ (e = ⟨s, k, ph k⟩ ∧ fin (ph k)) := by
 unfold Wp at h
 split at h
 ·exact .inl h
 ·rename_i hc
  simp only at h
  split at h
  ·rcases List.mem_append.1 h with h | h
   ·exact .inl h
   ·simp only [List.mem_singleton] at h
    refine .inr ⟨h, ?_⟩
    unfold fin
    by_cases h2 : ph k = 2
    ·exact .inl h2
    ·by_cases h3 : ph k = 3
     ·exact .inr h3
     ·exact absurd (.inr ⟨h2, h3⟩) hc
  ·exact .inl h
theorem Zg7 {s : Int} {ph : Nat → Int} {q : List Bool × List Evt} {e : Evt} : ∀ k, e ∈ (Ud s ph q k).2 → e ∈ q.2 ∨ ∃ d, d < k ∧ e = ⟨s, d, ph d⟩ ∧ fin (ph d)
 | 0, h => .inl h
 | k + 1, h => by
  rw [Uf] at h
  rcases Zrh h with h | ⟨h1, h2⟩
  ·rcases Zg7 k h with h | ⟨d, h1, h2, h3⟩
   ·exact .inl h
   ·exact .inr ⟨d, by omega, h2, h3⟩
  ·exact .inr ⟨k, by omega, h1, h2⟩
theorem Zrm {s : Int} {m : Nd} {ev : List Evt} {e : Evt} (h : e ∈ (Xi s m ev).2) : e ∈ ev ∨ ∃ j ref d, m.site = some (j, ref) ∧ d < 6 ∧ e = ⟨s, (d : Nat), (Y2 j d).ph⟩ ∧ fin (Y2 j d).ph := by
 unfold Xi at h
 split at h
 ·exact .inl h
 ·rename_i j ref hs
  rcases Zg7 6 h with h | ⟨d, h1, h2, h3⟩
  ·exact .inl h
  ·exact .inr ⟨j, ref, d, hs, h1, h2, h3⟩
end Go.HL
end

/-! SfE -/
section
namespace Go.HL
open Go Go.Proofs
set_option linter.unusedVariables false
set_option linter.unusedSimpArgs false
def SafeW (M : Wm) : Prop := ∀ d, d < 6 → ∃ g, SD M d g
theorem SafeW.of {M M' : Wm} (h : SafeW M) (hI' : WI M') (hw : M'.w = M.w) (hst : ∀ (d s : Nat), Zcr (Zf M' (s : Int)).pl d = Zcr (Zf M (s : Int)).pl d)
  (hld : ∀ d s : Nat, (Zf M' (s : Int)).leads.getD d none = (Zf M (s : Int)).leads.getD d none ∨ (Zf M' (s : Int)).leads.getD d none = none) (hl : ∀ f ∈ M'.l, f ∈ M.l)
  (hev : ∀ e ∈ M'.ev, e ∈ M.ev ∨ (∃ s d : Nat, s < M.w.length ∧ e.deal = d ∧ e.ph = (Zcr (Zf M (s : Int)).pl d).ph ∧ fin e.ph)) : SafeW M' := fun d hd => by
 obtain ⟨g, hg⟩ := h d hd
 exact ⟨g, SD_of hI' hg hw (hst d) (hld d) (fun f hf _ => .inl (hl f hf)) fun e he => (hev e he).imp id fun ⟨s, d2, h1, h2, h3, h4⟩ hed => ⟨s, h1, by
  have : d2 = d := by omega
  rw [← this]; exact h3, h4⟩⟩
theorem getD_set_ne {l : List (Option Ld)} {i k : Nat} {o : Option Ld} (h : i ≠ k) : (l.set k o).getD i none = l.getD i none := by
 simp only [List.getD, List.getElem?_set]
 rw [if_neg (fun e => h e.symm)]
end Go.HL
end

/-! SfF -/
section
namespace Go.HL
open Go Go.Proofs
set_option linter.unusedVariables false
set_option linter.unusedSimpArgs false
end Go.HL
end

/-! SfG -/
section
namespace Go.HL
open Go Go.Proofs
set_option linter.unusedVariables false
set_option linter.unusedSimpArgs false
structure EvW (M : Wm) : Prop where
 pw : M.ev.Pairwise fun a b => ¬ (a.site = b.site ∧ a.deal = b.deal)
 rg : ∀ e ∈ M.ev, 0 ≤ e.site ∧ e.site < M.w.length ∧ 0 ≤ e.deal ∧ e.deal < 6 ∧ fin e.ph
 dn : ∀ e ∈ M.ev, (Zf M e.site).done.getD e.deal.toNat false = true
theorem EvW.same {M M' : Wm} (h : EvW M) (hw : M'.w = M.w) (he : M'.ev = M.ev) (hd : ∀ s, (Zf M' s).done = (Zf M s).done) : EvW M' :=
 ⟨by rw [he]; exact h.pw, fun e h2 => by rw [he] at h2; rw [hw]; exact h.rg e h2, fun e h2 => by rw [he] at h2; rw [hd]; exact h.dn e h2⟩
theorem Zrt {s : Int} {ph : Nat → Int} {q : List Bool × List Evt} {k : Nat} (hk : k < q.1.length) (h1 : q.2.Pairwise fun a b => ¬ (a.site = b.site ∧ a.deal = b.deal)) (h2 : ∀ e ∈ q.2, e.site = s → 0 ≤ e.deal ∧ q.1.getD e.deal.toNat false = true) :
  (Wp s ph q k).2.Pairwise (fun a b => ¬ (a.site = b.site ∧ a.deal = b.deal)) ∧ (∀ e ∈ (Wp s ph q k).2, e.site = s → 0 ≤ e.deal ∧ (Wp s ph q k).1.getD e.deal.toNat false = true) ∧ (∀ i, q.1.getD i false = true → (Wp s ph q k).1.getD i false = true) := by
 have hset : ∀ i, (q.1.set k true).getD i false = if i = k then true else q.1.getD i false := fun i => by
  simp only [List.getD, List.getElem?_set]
  by_cases e : k = i
  ·subst e; simp [hk]
  ·rw [if_neg e, if_neg (fun e2 => e e2.symm)]
 unfold Wp
 split
 ·exact ⟨h1, h2, fun i hi => hi⟩
 ·rename_i hc
  have hf : q.1.getD k false = false := by
   have e : q.1.getD k true ≠ true := fun e => hc (.inl e)
   simp only [List.getD, List.getElem?_eq_getElem hk, Option.getD_some] at e ⊢
   simpa using e
  simp only
  refine ⟨?_, fun e he hes => ?_, fun i hi => by rw [hset]; split <;> simp_all⟩
  ·split
   ·rw [List.pairwise_append]
    refine ⟨h1, List.pairwise_singleton _ _, fun a ha b hb => ?_⟩
    simp only [List.mem_singleton] at hb
    subst hb
    rintro ⟨e1, e2⟩
    simp only at e1 e2
    have := (h2 a ha e1).2
    rw [e2] at this
    simp only [Int.toNat_natCast] at this
    rw [hf] at this
    cases this
   ·exact h1
  ·rw [hset]
   split at he
   ·rcases List.mem_append.1 he with he | he
    ·exact ⟨(h2 e he hes).1, by split; rfl; exact (h2 e he hes).2⟩
    ·simp only [List.mem_singleton] at he
     subst he
     exact ⟨by simp, by simp⟩
   ·exact ⟨(h2 e he hes).1, by split; rfl; exact (h2 e he hes).2⟩
theorem Zh7 {s : Int} {ph : Nat → Int} {q : List Bool × List Evt} (hq : q.1.length = 6) (h1 : q.2.Pairwise fun a b => ¬ (a.site = b.site ∧ a.deal = b.deal)) (h2 : ∀ e ∈ q.2, e.site = s → 0 ≤ e.deal ∧ q.1.getD e.deal.toNat false = true) : ∀ k, k ≤ 6 →
  (Ud s ph q k).2.Pairwise (fun a b => ¬ (a.site = b.site ∧ a.deal = b.deal)) ∧ (∀ e ∈ (Ud s ph q k).2, e.site = s → 0 ≤ e.deal ∧ (Ud s ph q k).1.getD e.deal.toNat false = true)
 | 0, _ => ⟨h1, h2⟩
 | k + 1, hk => by
  obtain ⟨a1, a2⟩ := Zh7 (ph := ph) hq h1 h2 k (by omega)
  rw [Uf]
  obtain ⟨b1, b2, -⟩ := Zrt (ph := ph) (k := k) (by rw [Zaz, hq]; omega) a1 a2
  exact ⟨b1, b2⟩
theorem EvW.note {M : Wm} (h : EvW M) (hI : WI M) {s : Int} (h0 : 0 ≤ s) (h1 : s < M.n.length) {m m' : Nd} (hm : m.done = (Zf M s).done) (hm' : m'.done = (Xi s m M.ev).1) : EvW { Xa M s m' with ev := (Xi s m M.ev).2 } := by
 have hn := hI.wn
 have hd6 : m.done.length = 6 := by rw [hm]; exact (hI.at h0 h1).done
 have hpre : ∀ e ∈ M.ev, e.site = s → 0 ≤ e.deal ∧ m.done.getD e.deal.toNat false = true := fun e he hes => ⟨(h.rg e he).2.2.1, by rw [hm, ← hes]; exact h.dn e he⟩
 have key : (Xi s m M.ev).2.Pairwise (fun a b => ¬ (a.site = b.site ∧ a.deal = b.deal)) ∧ (∀ e ∈ (Xi s m M.ev).2, e.site = s → 0 ≤ e.deal ∧ (Xi s m M.ev).1.getD e.deal.toNat false = true) := by
  unfold Xi
  split
  ·exact ⟨h.pw, hpre⟩
  ·exact Zh7 hd6 h.pw hpre 6 (Nat.le_refl _)
 have hmem : ∀ e ∈ (Xi s m M.ev).2, e ∈ M.ev ∨ (e.site = s ∧ 0 ≤ e.deal ∧ e.deal < 6 ∧ fin e.ph) := fun e he => by
  rcases Zrm he with he | ⟨j, ref, d, -, e2, rfl, e4⟩
  ·exact .inl he
  ·exact .inr ⟨rfl, by simp, by simp only; omega, e4⟩
 refine ⟨key.1, fun e he => ?_, fun e he => ?_⟩
 ·rcases hmem e he with h2 | ⟨e1, e2, e3, e4⟩
  ·exact h.rg e h2
  ·exact ⟨by omega, by rw [e1]; show s < (M.w.length : Int); omega, e2, e3, e4⟩
 ·show (Zf (Xa M s m') e.site).done.getD _ _ = true
  by_cases hes : e.site = s
  ·rw [hes, Zci h0 h1, hm']
   exact (key.2 e he hes).2
  ·rcases hmem e he with h2 | ⟨e1, -⟩
   ·rw [Zd0 (by have := (h.rg e h2).1; omega)]
    exact h.dn e h2
   ·exact absurd e1 hes
theorem EvW.set {M : Wm} (h : EvW M) {s : Int} {m : Nd} (h0 : 0 ≤ s) (h1 : s < M.n.length) (hm : m.done = (Zf M s).done) : EvW (Xa M s m) := by
 refine ⟨h.pw, h.rg, fun e he => ?_⟩
 by_cases hes : e.site = s
 ·rw [hes, Zci h0 h1, hm, ← hes]
  exact h.dn e he
 ·rw [Zd0 (by have := (h.rg e he).1; omega)]
  exact h.dn e he
theorem EvW.setL {M : Wm} (h : EvW M) (l : List Fr) : EvW { M with l := l } := ⟨h.pw, h.rg, h.dn⟩
theorem EvW.lead {M : Wm} (h : EvW M) {s : Int} (h0 : 0 ≤ s) (h1 : s < M.n.length) (ls : List (Option Ld)) (l : List Fr) : EvW { Xa M s { Zf M s with leads := ls } with l := l } := (h.set (m := { Zf M s with leads := ls }) h0 h1 rfl).setL l
theorem EvW.hear {M : Wm} (h : EvW M) (hI : WI M) {s : Int} (h0 : 0 ≤ s) (h1 : s < M.n.length) (f : Fr) : EvW (Y4 M s f).1 := by
 unfold Y4
 simp only
 have e : (Xr s (Zf M s) M.ev f).2.1 = M.ev ∧ (Xr s (Zf M s) M.ev f).1.done = (Zf M s).done ∨ ∃ m : Nd, m.done = (Zf M s).done ∧ (Xr s (Zf M s) M.ev f).1.done = (Xi s m M.ev).1 ∧ (Xr s (Zf M s) M.ev f).2.1 = (Xi s m M.ev).2 := by
  unfold Xr
  split
  ·exact .inl ⟨rfl, rfl⟩
  ·rename_i j ref hs
   split
   ·exact .inl ⟨rfl, rfl⟩
   ·exact .inr ⟨⟨(Z3 s ref (Zf M s).pl j f).1, some ((Z3 s ref (Zf M s).pl j f).2.1, ref), (Zf M s).leads, (Zf M s).done⟩, rfl, rfl, rfl⟩
 rcases e with ⟨e1, e2⟩ | ⟨m, e1, e2, e3⟩
 ·rw [e1]
  exact h.set h0 h1 e2
 ·rw [e3]
  exact h.note hI h0 h1 e1 e2
theorem ev_try {M : Wm} (h : EvW M) (hI : WI M) {s d p : Int} (h0 : 0 ≤ s) (h1 : s < M.n.length) : EvW (Zbg M s d p).1 := by
 unfold Zbg
 simp only
 split
 ·exact h
 have h2 := h.hear hI h0 h1 (Zai s d (Zby M.w.length s (Y1 (Zf M s) d p + 1)))
 have hS := Zdd M s (Zai s d (Zby M.w.length s (Y1 (Zf M s) d p + 1)))
 split
 ·exact h2
 ·exact h2.lead h0 (by rw [hS.n]; exact h1) _ _
theorem ev_tickD {M : Wm} {q : Wm × Bool} {s : Int} {k d : Nat} (hT : TickOk M q s k) (h : EvW q.1) (h0 : 0 ≤ s) (h1 : s < M.n.length) : EvW (Uq s q d).1 := by
 have hn := hT.same.n
 unfold Uq
 split
 ·exact h
 split
 ·exact h
 split
 ·exact h
 split
 ·exact h.setL _
 ·exact ev_try h hT.wi h0 (by omega)
theorem Zmp {M : Wm} (hI : WI M) (h : EvW M) {s : Int} (h0 : 0 ≤ s) (h1 : s < M.n.length) (hs : (Zf M s).site ≠ none) : ∀ k, k ≤ 6 → EvW ((List.range k).foldl (Uq s) (M, true)).1
 | 0, _ => h
 | k + 1, hk => by
  rw [List.range_succ, List.foldl_append]
  exact ev_tickD (Zcg hI h0 h1 hs k (by omega)) (Zmp hI h h0 h1 hs k (by omega)) h0 h1
theorem ev_tick {M : Wm} (hI : WI M) (h : EvW M) (s : Int) : EvW (Us M s).1 := by
 unfold Us
 split
 ·exact h
 ·rename_i hu
  obtain ⟨h0, h1, hs⟩ := Uo hu
  exact Zmp hI h h0 h1 hs 6 (by omega)
theorem Zft {M : Wm} (hI : WI M) (h : EvW M) (k : Int) : EvW (Z4 M k).1 := by
 have hn := hI.wn
 unfold Z4
 split
 ·exact h
 rename_i hk
 obtain ⟨⟨hbad, hto, hfr⟩, hk0, hk1⟩ := Zgj hI hk
 unfold Ws at hbad
 have hE := h.setL (M.l.eraseIdx k.toNat)
 simp only
 split
 ·exact hE
 split
 ·split
  ·exact hE
  ·exact hE.lead (s := (M.l.getD k.toNat Wn).to) (by omega) (by simp only; omega) _ _
 ·exact (hE.hear (hI.erase _) (by omega) (by simp only; omega) _).setL _
theorem ev_new (w : List Int) : EvW (Zaa w) := ⟨by simp [Zaa], fun e he => (by cases he), fun e he => (by cases he)⟩
end Go.HL
end

/-! FvA -/
section
namespace Go.HL
open Go Go.Proofs
set_option linter.unusedVariables false
def FV (T : Nat) (E : Nat → Addr) (v : Value) (code at_ : Int) (c : List Zn) : Prop := (∃ e, okE e ∧ v = eV T E e ∧ code = Zm9 e ∧ (e = none ∨ at_ = -1) ∧ c = []) ∨ ∃ (pb k : Nat), List.elem k all9 = true ∧ v = .iface 58 (pt pb 0) ∧ code = k ∧ c = faC pb at_ T E (some k)
theorem FV.nil {T : Nat} {E : Nat → Addr} {at_ : Int} : FV T E .nilIface 0 at_ [] := .inl ⟨none, trivial, rfl, rfl, .inl rfl, rfl⟩
theorem FV.bare {T : Nat} {E : Nat → Addr} {k : Nat} (h : List.elem k all9 = true) : FV T E (eV T E (some k)) k (-1) [] := .inl ⟨some k, h, rfl, rfl, .inr rfl, rfl⟩
theorem FV.at {T : Nat} {E : Nat → Addr} {k : Nat} (h : List.elem k all9 = true) (pb : Nat) (x : Int) : FV T E (.iface 58 (pt pb 0)) k x (faC pb x T E (some k)) := .inr ⟨pb, k, h, rfl, rfl, rfl⟩
theorem FV.zero {T : Nat} {E : Nat → Addr} {v : Value} {at_ : Int} {c : List Zn} (h : FV T E v 0 at_ c) : v = .nilIface ∧ c = [] := by
 rcases h with ⟨e, he, rfl, hc, -, rfl⟩ | ⟨pb, k, hk, -, hc, -⟩
 ·cases e with
  | none => exact ⟨rfl, rfl⟩
  | some k =>
   have : k = 0 := by simp only [Zm9] at hc; omega
   subst this
   exact absurd (show List.elem 0 all9 = true from he) (by decide)
 ·have : k = 0 := by omega
  subst this
  exact absurd hk (by decide)
end Go.HL
end

/-! JgA -/
section
namespace Go.HL
open Go Go.Proofs
set_option linter.unusedVariables false
set_option linter.unusedSimpArgs false
structure Ev where
 s : Int
 d : Int
 p : Int
def evc (e : Ev) : List Value := [iv e.s, iv e.d, iv e.p]
def Za7 (p : Int) : Bool := decide (p = 2 ∨ p = 3)
def badE (sites : Int) (e : Ev) : Prop := e.s < 0 ∨ sites ≤ e.s ∨ e.d < 0 ∨ 6 ≤ e.d ∨ Za7 e.p = false
instance (sites : Int) (e : Ev) : Decidable (badE sites e) := by unfold badE; infer_instance
def spl (e : Ev) (a : Ev) : Bool := decide (a.d = e.d ∧ a.p ≠ e.p)
def Zsg (e : Ev) (a : Ev) : Bool := decide (a.d = e.d ∧ a.s = e.s)
def evM (sites : Int) (e : Ev) (l : List Ev) : Option Nat := if badE sites e then some 2 else if l.any (spl e) then some 9 else if l.any (Zsg e) then some 8 else none
def Zdg (sites : Int) (xs : List Ev) : Nat → Option (Nat × Nat)
 | i => if h : i < xs.length then (match evM sites xs[i] (xs.take i) with
   | some c => some (i, c)
   | none => Zdg sites xs (i + 1)) else none
 termination_by i => xs.length - i
theorem chkM_hit {sites : Int} {xs : List Ev} {i c : Nat} (h : i < xs.length) (hc : evM sites xs[i] (xs.take i) = some c) : Zdg sites xs i = some (i, c) := by
 rw [Zdg, dif_pos h, hc]
theorem Zhm {sites : Int} {xs : List Ev} {i : Nat} (h : i < xs.length) (hc : evM sites xs[i] (xs.take i) = none) : Zdg sites xs i = Zdg sites xs (i + 1) := by
 rw [Zdg, dif_pos h, hc]
theorem Zj5 {sites : Int} {xs : List Ev} {i : Nat} (h : xs.length ≤ i) : Zdg sites xs i = none := by
 rw [Zdg, dif_neg (by omega)]
theorem evM_nine {sites : Int} {e : Ev} {l : List Ev} {c : Nat} (h : evM sites e l = some c) : List.elem c all9 = true := by
 unfold evM at h
 split at h
 ·cases h; rfl
 split at h
 ·cases h; rfl
 split at h
 ·cases h; rfl
 ·cases h
theorem Zmo {α : Type} {p : α → Bool} {l : List α} {k : Nat} (h : k < l.length) : (l.take (k + 1)).any p = ((l.take k).any p || p l[k]) := by
 rw [List.take_succ_eq_append_getElem h, List.any_append]; simp
theorem any_yes {α : Type} {p : α → Bool} {l : List α} {k : Nat} (h : k < l.length) (hp : p l[k] = true) : l.any p = true := List.any_eq_true.2 ⟨_, List.getElem_mem h, hp⟩
theorem any_all {α : Type} {p : α → Bool} {l : List α} {k : Nat} (h : l.length ≤ k) : (l.take k).any p = l.any p := by rw [List.take_of_length_le h]
set_option maxHeartbeats 2000000 attribute [local irreducible] HW HO HQ HD HC QOp Has Upd Zp Gets Yf Z8 Zr X3 Z9 Zj Wa Zy
theorem Zcs (p : Int) (L : Zb) : HC Tryz.prog 147 [iv p] L (fun v L' => v = .bool (Za7 p) ∧ L' = L) := by
 refine Za (fun _ _ => Tryz.call147 _ _) Tryz.func147 rfl Tryz.ntmps147 (Nat.le_of_ble_eq_true rfl) ?_; simp only [Ze, Nat.reduceAdd]
 repeat' (first | refine uN ?_ | (refine uP ?_ ?_ <;> (intro h; ((try simp only [zs, ne_eq, and_true, true_and, eq_self, reduceCtorEq] at h); try exact zx))) | fail)
 all_goals (refine Xm (LS.refl _) ⟨congrArg Value.bool ?_, rfl⟩; unfold Za7; first | (refine Eq.symm (decide_eq_true ?_); omega) | (refine Eq.symm (decide_eq_false ?_); omega) | (refine decide_eq_decide.2 ?_; omega))
theorem Zj8 (T : Nat) (E : Nat → Addr) (e : Ev) (a : Option Addr) (cap : Nat) (l : List Ev) (sites : Int) (L : Zb) (hG : Er T E [2, 8, 9] L) (hR : Rd evc 3 L a l) (hl : l.length ≤ 1000000) :
  HC Tryz.prog 116 [.agg ⟨evc e⟩, .slice a l.length cap, iv sites] L (fun v L' => v = eV T E (evM sites e l) ∧ L' = L) := by
 unfold evM
 refine Za (fun _ _ => Tryz.call116 _ _) Tryz.func116 rfl Tryz.ntmps116 (Nat.le_of_ble_eq_true rfl) ?_; simp only [Ze, Nat.reduceAdd]
 by_cases hb : badE sites e
 ·rw [if_pos hb]
  repeat' (first | refine uN ?_ | refine uC (Zcs _ _) ?_ | (refine uB ?_; intro b) | (refine uP ?_ ?_ <;> (intro h; ((try simp only [zs, ne_eq, and_true, true_and, eq_self, reduceCtorEq] at h); try exact zx))) | fail)
  all_goals first
   | exact Xm uZ ⟨rfl, rfl⟩
   | (exfalso; rcases hb with h1 | h1 | h1 | h1 | h1 <;> first | omega | simp_all)
 rw [if_neg hb]
 have hb1 : ¬e.s < 0 := fun h => hb (.inl h)
 have hb2 : ¬sites ≤ e.s := fun h => hb (.inr (.inl h))
 have hb3 : ¬e.d < 0 := fun h => hb (.inr (.inr (.inl h)))
 have hb4 : ¬6 ≤ e.d := fun h => hb (.inr (.inr (.inr (.inl h))))
 have hb5 : Za7 e.p = true := by
  cases hf : Za7 e.p with
  | true => rfl
  | false => exact absurd (.inr (.inr (.inr (.inr hf)))) hb
 have kf := fun L => Zcs e.p L
 rw [hb5] at kf
 repeat' (first | refine uN ?_ | refine uC (kf _) ?_ | (refine uB ?_; intro b) | (refine uP ?_ ?_ <;> (intro h; ((try simp only [zs, ne_eq, and_true, true_and, eq_self, reduceCtorEq] at h); try exact zx))) | fail)
 generalize b = be
 have e0 : (Value.nilIface) = eV T E (if (l.take 0).any (Zsg e) then some 8 else none) := rfl
 rw [e0]
 refine Zx (σ := Nat) (fun k => [(3, pt be 0), (7, eV T E (if (l.take k).any (Zsg e) then some 8 else none)), (36, .slice a l.length cap), (37, iv l.length), (38, iv k)]) (fun _ => [(be, .cells ⟨evc e⟩ 114)] :: L) (fun k => k ≤ l.length ∧ (l.take k).any (spl e) = false) (fun k => l.length - k) 0 uS (List.Sublist.refl _) ⟨by omega, by simp⟩ ?_
 rintro k ⟨h1, h2⟩
 by_cases hlt : k < l.length
 ·obtain ⟨b0, i0, l0, E0, fr0, rfl, hb0, hg0⟩ := hR.at (j := (k : Int)) (by omega) (by omega)
  have ex : l[(k : Int).toNat]'(by omega) = l[k] := rfl
  rw [ex] at hg0
  have h3 := Zmo (p := spl e) hlt
  have h4 := Zmo (p := Zsg e) hlt
  have h5 := any_yes (p := spl e) hlt
  rw [h2, Bool.false_or] at h3
  generalize l[k] = x at *
  by_cases hd : x.d = e.d
  ·by_cases hp : x.p = e.p
   ·have h6 : spl e x = false := by unfold spl; exact decide_eq_false (fun h => h.2 hp)
    by_cases hs : x.s = e.s
    ·have h7 : Zsg e x = true := by unfold Zsg; exact decide_eq_true ⟨hd, hs⟩
     rw [h7, Bool.or_true] at h4
     have e1 : Value.iface T (.pointer (some (E 8))) = eV T E (if (l.take (k + 1)).any (Zsg e) then some 8 else none) := by rw [h4]; rfl
     repeat' (first | refine uN ?_ | (refine uB ?_; intro b) | (refine uP ?_ ?_ <;> (intro h; ((try simp only [zs, ne_eq, and_true, true_and, eq_self, reduceCtorEq] at h); try exact zx))) | fail)
     all_goals first | contradiction | (rw [e1]; exact Z5 (k + 1) uS uL ⟨by omega, by rw [h3, h6]⟩ (by omega))
    ·have h7 : Zsg e x = false := by unfold Zsg; exact decide_eq_false (fun h => hs h.2)
     rw [h7, Bool.or_false] at h4
     rw [← h4]
     repeat' (first | refine uN ?_ | (refine uB ?_; intro b) | (refine uP ?_ ?_ <;> (intro h; ((try simp only [zs, ne_eq, and_true, true_and, eq_self, reduceCtorEq] at h); try exact zx))) | fail)
     all_goals first | contradiction | exact Z5 (k + 1) uS uL ⟨by omega, by rw [h3, h6]⟩ (by omega)
   ·have h6 : spl e x = true := by unfold spl; exact decide_eq_true ⟨hd, hp⟩
    rw [if_pos (h5 h6)]
    repeat' (first | refine uN ?_ | (refine uB ?_; intro b) | (refine uP ?_ ?_ <;> (intro h; ((try simp only [zs, ne_eq, and_true, true_and, eq_self, reduceCtorEq] at h); try exact zx))) | fail)
    all_goals first | contradiction | exact Xm uZ ⟨rfl, rfl⟩
  ·have h6 : spl e x = false := by unfold spl; exact decide_eq_false (fun h => hd h.1)
   have h7 : Zsg e x = false := by unfold Zsg; exact decide_eq_false (fun h => hd h.1)
   rw [h7, Bool.or_false] at h4
   rw [← h4]
   repeat' (first | refine uN ?_ | (refine uB ?_; intro b) | (refine uP ?_ ?_ <;> (intro h; ((try simp only [zs, ne_eq, and_true, true_and, eq_self, reduceCtorEq] at h); try exact zx))) | fail)
   all_goals first | contradiction | exact Z5 (k + 1) uS uL ⟨by omega, by rw [h3, h6]⟩ (by omega)
 ·rw [any_all (by omega)] at h2 ⊢
  rw [h2]
  repeat' (first | refine uN ?_ | (refine uB ?_; intro b) | (refine uP ?_ ?_ <;> (intro h; ((try simp only [zs, ne_eq, and_true, true_and, eq_self, reduceCtorEq] at h); try exact zx))) | fail)
  exact Xm uZ ⟨rfl, rfl⟩
def efM (sites : Int) (xs : List Ev) : Int × Int := if sites < 1 ∨ 7 < sites then (2, -1) else match Zdg sites xs 0 with
 | none => (0, -1)
 | some (i, c) => (c, i)
theorem Rd.cut {α : Type} {enc : α → List Value} {sz : Nat} {L : Zb} {a : Option Addr} {l : List α} (h : Rd enc sz L a l) (i : Nat) : Rd enc sz L a (l.take i) := Rd.take h
theorem Zjw (T : Nat) (E : Nat → Addr) (a : Option Addr) (cap : Nat) (xs : List Ev) (sites : Int) (L : Zb) (hG : Er T E [2, 8, 9] L) (hR : Rd evc 3 L a xs) (hl : xs.length ≤ 1000000) (hcap : xs.length ≤ cap) :
  HC Tryz.prog 71 [.slice a xs.length cap, iv sites] L (fun v L' => ∃ c, FV T E v (efM sites xs).1 (efM sites xs).2 c ∧ L' = c :: L) := by
 unfold efM
 refine Za (fun _ _ => Tryz.call71 _ _) Tryz.func71 rfl Tryz.ntmps71 (Nat.le_of_ble_eq_true rfl) ?_; simp only [Ze, Nat.reduceAdd]
 by_cases hs : sites < 1 ∨ 7 < sites
 ·simp only [if_pos hs]
  repeat' (first | refine uN ?_ | refine Yb S ?_ | (refine uB ?_; intro b) | (refine uP ?_ ?_ <;> (intro h; ((try simp only [zs, ne_eq, and_true, true_and, eq_self, reduceCtorEq] at h); try exact zx))) | fail)
  all_goals first | exact Xm (L' := [] :: L) (LS.refl _) ⟨[], FV.bare rfl, rfl⟩ | omega
 simp only [if_neg hs]
 repeat' (first | refine uN ?_ | refine Yb S ?_ | (refine uB ?_; intro b) | (refine uP ?_ ?_ <;> (intro h; ((try simp only [zs, ne_eq, and_true, true_and, eq_self, reduceCtorEq] at h); try exact zx))) | fail)
 refine Zx (σ := Nat) (fun k => [(0, .slice a xs.length cap), (1, iv sites), (15, .slice a xs.length cap), (16, iv xs.length), (17, iv k)]) (fun _ => L) (fun k => k ≤ xs.length ∧ Zdg sites xs 0 = Zdg sites xs k) (fun k => xs.length - k) 0 uS (List.Sublist.refl _) ⟨by omega, rfl⟩ ?_
 rintro k ⟨h1, h2⟩
 rw [h2]
 by_cases hlt : k < xs.length
 ·obtain ⟨b0, i0, l0, E0, fr0, rfl, hb0, hg0⟩ := hR.at (j := (k : Int)) (by omega) (by omega)
  have ex : xs[(k : Int).toNat]'(by omega) = xs[k] := rfl
  rw [ex] at hg0
  have ke := fun L hG hR => Zj8 T E xs[k] (some ⟨b0, i0, none⟩) cap (xs.take k) sites L hG hR (by simp; omega)
  rw [show (xs.take k).length = k by simp; omega] at ke
  cases hev : evM sites xs[k] (xs.take k) with
  | some c =>
   rw [chkM_hit hlt hev]
   rw [hev] at ke
   generalize xs[k] = x at *
   repeat' (first | refine uN ?_ | refine Yb S ?_ | refine Vk (qC (ke _ (hG.cons _) ((hR.cut _).cons _))) ?_ | refine Zdf (qC (ke _ (hG.cons _) ((hR.cut _).cons _))) ?_ | (refine uB ?_; intro b) | (refine uP ?_ ?_ <;> (intro h; ((try simp only [zs, ne_eq, and_true, true_and, eq_self, reduceCtorEq] at h); try exact zx))) | fail)
   exact Xm (L' := faC b k T E (some c) :: L) uL ⟨_, FV.at (evM_nine hev) b k, rfl⟩
  | none =>
   have h3 := Zhm hlt hev
   rw [hev] at ke
   generalize xs[k] = x at *
   repeat' (first | refine uN ?_ | refine Yb S ?_ | refine Vk (qC (ke _ (hG.cons _) ((hR.cut _).cons _))) ?_ | refine Zdf (qC (ke _ (hG.cons _) ((hR.cut _).cons _))) ?_ | (refine uB ?_; intro b) | (refine uP ?_ ?_ <;> (intro h; ((try simp only [zs, ne_eq, and_true, true_and, eq_self, reduceCtorEq] at h); try exact zx))) | fail)
   exact Z5 (k + 1) uS uL ⟨by omega, by rw [h3]⟩ (by omega)
 ·rw [Zj5 (by omega)]
  repeat' (first | refine uN ?_ | refine Yb S ?_ | (refine uB ?_; intro b) | (refine uP ?_ ?_ <;> (intro h; ((try simp only [zs, ne_eq, and_true, true_and, eq_self, reduceCtorEq] at h); try exact zx))) | fail)
  exact Xm (L' := [] :: L) (LS.refl _) ⟨[], FV.nil, rfl⟩
def cfl (x : St) (a : St) : Bool := Za7 x.ph && (Za7 a.ph && decide (x.ph ≠ a.ph))
def AgI (l : List St) (ph : Int) : Prop := (ph = 0 ∧ ∀ a ∈ l, Za7 a.ph = false) ∨ (Za7 ph = true ∧ (∃ a ∈ l, a.ph = ph) ∧ ∀ a ∈ l, Za7 a.ph = true → a.ph = ph)
theorem finP_ne {p : Int} (h : Za7 p = true) : p ≠ 0 := by
 unfold Za7 at h
 have := of_decide_eq_true h
 omega
theorem AgI.first {l : List St} (h : AgI l 0) {x : St} (hx : Za7 x.ph = true) : AgI (l ++ [x]) x.ph ∧ l.any (cfl x) = false := by
 have h1 : ∀ a ∈ l, Za7 a.ph = false := by
  rcases h with ⟨_, h⟩ | ⟨h, _⟩
  ·exact h
  ·exact absurd rfl (finP_ne h)
 refine ⟨.inr ⟨hx, ⟨x, by simp, rfl⟩, fun a ha hf => ?_⟩, ?_⟩
 ·rcases List.mem_append.1 ha with ha | ha
  ·rw [h1 a ha] at hf; cases hf
  ·rw [List.mem_singleton.1 ha]
 ·rw [List.any_eq_false]
  intro a ha
  simp [cfl, h1 a ha]
theorem AgI.same {l : List St} {ph : Int} (h : AgI l ph) (h0 : ph ≠ 0) {x : St} (hx : ph = x.ph) : AgI (l ++ [x]) ph ∧ l.any (cfl x) = false := by
 rcases h with ⟨h1, _⟩ | ⟨hf, ⟨a, ha, e⟩, h2⟩
 ·exact absurd h1 h0
 refine ⟨.inr ⟨hf, ⟨a, List.mem_append_left _ ha, e⟩, fun b hb hfb => ?_⟩, ?_⟩
 ·rcases List.mem_append.1 hb with hb | hb
  ·exact h2 b hb hfb
  ·rw [List.mem_singleton.1 hb, hx]
 ·rw [List.any_eq_false]
  intro b hb
  simp only [cfl, Bool.and_eq_true, decide_eq_true_eq, not_and]
  intro _ hfb hne
  exact hne (by rw [← hx, h2 b hb hfb])
end Go.HL
end

/-! SfH -/
section
namespace Go.HL
open Go Go.Proofs
set_option linter.unusedVariables false
set_option linter.unusedSimpArgs false
def toEv (e : Evt) : Ev := ⟨e.site, e.deal, e.ph⟩
theorem Zh4 {sites : Int} {xs : List Ev} (h : ∀ i (hi : i < xs.length), evM sites xs[i] (xs.take i) = none) : ∀ k i, k = xs.length - i → Zdg sites xs i = none
 | 0, i, hk => Zj5 (by omega)
 | k + 1, i, hk => by
  have hi : i < xs.length := by omega
  rw [Zhm hi (h i hi)]
  exact Zh4 h k (i + 1) (by omega)
theorem take_mem {α : Type} {xs : List α} {i : Nat} {x : α} (h : x ∈ xs.take i) : ∃ k, ∃ hk : k < xs.length, k < i ∧ xs[k] = x := by
 obtain ⟨k, hk, e⟩ := List.mem_iff_getElem.1 h
 rw [List.length_take] at hk
 refine ⟨k, by omega, by omega, ?_⟩
 rw [← e, List.getElem_take]
structure WellE (n : Nat) (xs : List Ev) : Prop where
 rg : ∀ e ∈ xs, 0 ≤ e.s ∧ e.s < n ∧ 0 ≤ e.d ∧ e.d < 6 ∧ Za7 e.p = true
 pw : xs.Pairwise fun a b => ¬ (a.s = b.s ∧ a.d = b.d)
 ag : ∀ a ∈ xs, ∀ b ∈ xs, a.d = b.d → a.p = b.p
theorem evM_well {n : Nat} {xs : List Ev} (h1 : ∀ e ∈ xs, 0 ≤ e.s ∧ e.s < n ∧ 0 ≤ e.d ∧ e.d < 6 ∧ Za7 e.p = true) (h2 : xs.Pairwise fun a b => ¬ (a.s = b.s ∧ a.d = b.d)) {i : Nat} (hi : i < xs.length) (h3 : ∀ a ∈ xs.take i, a.d = xs[i].d → a.p = xs[i].p) : evM n xs[i] (xs.take i) = none := by
 have hr := h1 xs[i] (List.getElem_mem hi)
 unfold evM
 rw [if_neg (by unfold badE; rw [hr.2.2.2.2]; simp; omega)]
 rw [if_neg, if_neg]
 ·rw [Bool.not_eq_true, List.any_eq_false]
  intro a ha
  obtain ⟨k, hk, hki, rfl⟩ := take_mem ha
  have := List.pairwise_iff_getElem.1 h2 k i hk hi hki
  unfold Zsg
  simp only [decide_eq_true_eq]
  exact fun e => this ⟨e.2, e.1⟩
 ·rw [Bool.not_eq_true, List.any_eq_false]
  intro a ha
  unfold spl
  simp only [decide_eq_true_eq]
  exact fun e => e.2 (h3 a ha e.1)
theorem WellE.chk {n : Nat} {xs : List Ev} (h : WellE n xs) (i : Nat) : Zdg n xs i = none :=
 Zh4 (fun i hi => evM_well h.rg h.pw hi fun a ha e => h.ag a (List.mem_of_mem_take ha) xs[i] (List.getElem_mem hi) e) _ i rfl
end Go.HL
end

/-! FlD3 -/
section
namespace Go.HL
open Go Go.Proofs
set_option linter.unusedVariables false
set_option linter.unusedSimpArgs false
set_option maxHeartbeats 2000000 attribute [local irreducible] HW HO HQ HD HC QOp Has Upd Zp Gets Yf Z8 Zr X3 Z9 Zj Wa Zy
end Go.HL
end

/-! JgB -/
section
namespace Go.HL
open Go Go.Proofs
set_option linter.unusedVariables false
set_option linter.unusedSimpArgs false
set_option maxHeartbeats 2000000 attribute [local irreducible] HW HO HQ HD HC QOp Has Upd Zp Gets Yf Z8 Zr X3 Z9 Zj Wa Zy
attribute [local irreducible] faC
end Go.HL
end

/-! PwF -/
section
namespace Go.HL
open Go Go.Proofs
set_option linter.unusedVariables false
set_option linter.unusedSimpArgs false
theorem rd_ev {L : Zb} {a : Option Addr} {xs : List Evt} (h : Rd ec 3 L a xs) : Rd evc 3 L a (xs.map toEv) := by
 rcases h with h | ⟨b, i, l, E, fr, h1, hb, hg⟩
 ·exact .inl (by rw [h]; rfl)
 ·refine .inr ⟨b, i, l, E, fr, h1, hb, fun k x hx => ?_⟩
  rw [List.getElem?_map, Option.map_eq_some_iff] at hx
  obtain ⟨y, hy, rfl⟩ := hx
  exact hg k y hy
set_option maxHeartbeats 2000000 attribute [local irreducible] HW HO HQ HD HC QOp Has Upd Zp Gets Yf Z8 Zr X3 Z9 Zj Wa Zy
attribute [local irreducible] runW Zaa
end Go.HL
end

/-! ScE -/
section
namespace Go.HL
open Go Go.Proofs
set_option linter.unusedVariables false
set_option linter.unusedSimpArgs false
def nmL : List (List UInt8) := [[110, 111, 116, 104, 105, 110, 103], [118, 111, 116, 101, 100], [99, 111, 109, 109, 105, 116, 116, 101, 100], [97, 98, 111, 114, 116, 101, 100], [112, 114, 101, 99, 111, 109, 109, 105, 116], [112, 114, 101, 97, 98, 111, 114, 116]]
def nmP (p : Int) : List UInt8 := if p < 0 ∨ 6 ≤ p then Lib.itoa p else nmL.getD p.toNat []
set_option maxHeartbeats 2000000 attribute [local irreducible] HW HO HQ HD HC QOp Has Upd Zp Gets Yf Z8 Zr X3 Z9 Zj Wa Zy
theorem Zdo (p : Int) (h0 : -9223372036854775808 ≤ p) (h1 : p ≤ 9223372036854775807) {F : Nat} {fr : Nat × Nat} (L : Zb) (hT : Has L 15 (Zg0 F fr)) : HC Tryz.prog 62 [iv p] L (fun v L' => v = bs (nmP p) ∧ L' = L) := by
 have kI := fun c => W2 p h0 h1 (c :: L) (Zc hT)
 by_cases h : p < 0 ∨ 6 ≤ p
 ·rw [nmP, if_pos h]
  refine Za (fun _ _ => Tryz.call62 _ _) Tryz.func62 rfl Tryz.ntmps62 (Nat.le_of_ble_eq_true rfl) ?_; simp only [Ze, Nat.reduceAdd]
  repeat' (first | refine uN ?_ | refine uC (kI _) ?_ | (refine uB ?_; intro b) | (refine uP ?_ ?_ <;> (intro h; ((try simp only [zs, ne_eq, and_true, true_and, eq_self, reduceCtorEq] at h); try exact zx))) | fail)
  all_goals exact Xm (L' := L) (LS.c (LS.refl _)) ⟨rfl, rfl⟩
 ·rw [nmP, if_neg h]
  rcases (show p = 0 ∨ p = 1 ∨ p = 2 ∨ p = 3 ∨ p = 4 ∨ p = 5 by omega) with rfl | rfl | rfl | rfl | rfl | rfl
  all_goals
   refine Za (fun _ _ => Tryz.call62 _ _) Tryz.func62 rfl Tryz.ntmps62 (Nat.le_of_ble_eq_true rfl) ?_; simp only [Ze, Nat.reduceAdd]
   repeat' (first | refine uN ?_ | refine uC (kI _) ?_ | (refine uB ?_; intro b) | (refine uP ?_ ?_ <;> (intro h; ((try simp only [zs, ne_eq, and_true, true_and, eq_self, reduceCtorEq] at h); try exact zx))) | fail)
  all_goals exact Xm (L' := L) (LS.c (LS.refl _)) ⟨rfl, rfl⟩
def Ug : Nat → Wm → Wm × Nat
 | 0, M => (M, 0)
 | k + 1, M => if (Z4 M 0).2 = none then ((Ug k (Z4 M 0).1).1, (Ug k (Z4 M 0).1).2 + 1) else ((Z4 M 0).1, 0)
theorem Zjl : ∀ (k : Nat) {M : Wm}, WI M → StepOk M (Ug k M).1 (84 * k) ∧ (Ug k M).2 ≤ k
 | 0, M, h => ⟨.refl h _, Nat.le_refl _⟩
 | k + 1, M, h => by
  have h1 := (Qu h 0).mono (show _ ≤ 84 by omega)
  unfold Ug
  split
  ·obtain ⟨h2, h3⟩ := Zjl k h1.wi
   have e1 := h1.len
   have e2 := h2.len
   exact ⟨⟨h2.wi, h1.same.trans h2.same, by simp only; omega⟩, by simp only; omega⟩
  ·exact ⟨h1.mono (by omega), by simp⟩
theorem Zc6 (k : Nat) (M : Wm) : Ug (k + 1) M = if (Z4 M 0).2 = none then ((Ug k (Z4 M 0).1).1, (Ug k (Z4 M 0).1).2 + 1) else ((Z4 M 0).1, 0) := rfl
theorem Zr7 (M : Wm) : Ug 0 M = (M, 0) := rfl
theorem Zry {M : Wm} (h : WI M) (s d : Int) : Zge (Uc M s d) := by
 unfold Uc
 have hz : Zge W3 := by unfold Zge W3; decide
 split
 ·exact hz
 ·rename_i he
  unfold Wl at he
  split at he
  ·cases he
  ·rename_i hn
   split at he
   ·cases he
   ·have h2 := Yp hn
    obtain ⟨k, rfl⟩ := Int.eq_ofNat_of_zero_le (show 0 ≤ d by omega)
    exact (h.at h2.1 h2.2).si.st k (by omega)
theorem Zi1 (p : Int) (h0 : -9223372036854775808 ≤ p) (h1 : p ≤ 9223372036854775807) : (nmP p).length ≤ 21 := by
 unfold nmP
 split
 ·exact Lib.itoa_length_le p h0 h1
 ·rcases (show p = 0 ∨ p = 1 ∨ p = 2 ∨ p = 3 ∨ p = 4 ∨ p = 5 by omega) with rfl | rfl | rfl | rfl | rfl | rfl <;> decide
theorem hFs {L : Zb} {g : Nat} {o : Obj} (h : Has L g o) : ∀ q ∈ [(g, o)], Has L q.1 q.2 := fun q hq => by rw [List.mem_singleton.1 hq]; exact h
def stT (s : St) : List UInt8 := nmP s.ph ++ [32] ++ Lib.itoa s.pr ++ [32] ++ Lib.itoa s.att
def evT (e : Evt) : List UInt8 := Lib.itoa e.site ++ [32] ++ Lib.itoa e.deal ++ [32] ++ nmP e.ph
def evsT (l : List Evt) : List UInt8 := if l = [] then [110, 111, 116, 104, 105, 110, 103] else Vn (l.map evT)
theorem Zl0 (N : Nat) : ∀ l : List (List UInt8), (∀ x ∈ l, x.length ≤ N) → (Vn l).length ≤ l.length * (N + 2)
 | [], _ => by simp [Vn]
 | [x], h => by
  have := h x (List.mem_singleton.2 rfl)
  simp only [Vn, List.length_singleton]
  omega
 | x :: y :: r, h => by
  have h1 := h x (List.mem_cons_self)
  have h2 := Zl0 N (y :: r) fun z hz => h z (List.mem_cons_of_mem _ hz)
  simp only [Vn, List.length_append, List.length_cons, List.length_nil] at h2 ⊢
  rw [Nat.add_mul (r.length + 1) 1]
  omega
section
variable (T : Nat) (E : Nat → Addr) (G : WdG) (M : Wm) (p : Nat) (a : Option Addr) (cap : Nat) (ns : List Int) (L : Zb)
attribute [local irreducible] Xg Z4 Ug
set_option maxRecDepth 20000 in
theorem Zkq (nv : Value) (hE : Ez T E L) (hS : Sz L) (hW : WdOk G M) (hM : WI M) (hl : M.l.length ≤ 99000000) :
  HC Tryz.prog 56 [pt p 0, nv] (Xg G M :: Zi p (pt G.wp 0) :: L) (fun v L' => v = .tuple ⟨[bs (Lib.itoa (Ug 3000 M).2), .nilIface]⟩ ∧ Zo3 G (Ug 3000 M).1 (Zi p (pt G.wp 0) :: L) L') := by
 have hG := (hE.er [2, 3, 4, 5, 6, 8]).cons (Zi p (pt G.wp 0))
 have hok := fun i => Zjl i hM
 refine Za (fun _ _ => Tryz.call56 _ _) Tryz.func56 rfl Tryz.ntmps56 (Nat.le_of_ble_eq_true rfl) ?_; simp only [Ze, Nat.reduceAdd]
 repeat' (first | refine uN ?_ | (refine uP ?_ ?_ <;> (intro h; ((try simp only [zs, ne_eq, and_true, true_and, eq_self, reduceCtorEq] at h); try exact zx))) | fail)
 refine Zx (σ := Nat × WdG × Wm) (fun r => [(0, pt p 0), (6, iv r.1), (5, .nilIface)])
  (fun r => Xg r.2.1 r.2.2 :: Zi p (pt G.wp 0) :: L)
  (fun r => r.1 ≤ 3000 ∧ r.2.1.wp = G.wp ∧ WdOk r.2.1 r.2.2 ∧ StepOk M r.2.2 (84 * r.1) ∧ (Ug 3000 M).1 = (Ug (3000 - r.1) r.2.2).1 ∧ (Ug 3000 M).2 = (Ug (3000 - r.1) r.2.2).2 + r.1) (fun r => 3000 - r.1) (0, G, M) uS (List.Sublist.refl _) ⟨by simp, rfl, hW, .refl hM _, rfl, rfl⟩ ?_
 rintro ⟨i, G1, M1⟩ ⟨hi, hwp, hW1, ⟨hM1, hsame, hlen⟩, e1, e2⟩
 simp only at hi hwp hW1 hM1 hlen e1 e2 ⊢
 have k := HC.shut (Zat T E G1 M1 0 _ hG.sub hW1 hM1 (by omega))
 have hd := (Qu hM1 0).mono (show _ ≤ 84 by omega)
 rw [hwp] at k
 have kI := fun (c : List Zn) (j : Nat) (hj : j ≤ 3000) => Zbz (j : Int) (by omega) (by omega) (c :: Zi p (pt G.wp 0) :: L) ((hS.cons _).cons c)
 unfold Zi at *
 by_cases hi3 : i < 3000
 ·have es := Zc6 (3000 - i - 1) M1
  rw [show 3000 - i - 1 + 1 = 3000 - i by omega] at es
  rw [es] at e1 e2
  clear es
  generalize Z4 M1 0 = R at *
  obtain ⟨M2, e⟩ := R
  simp only at k hd e1 e2
  cases e with
  | none =>
   simp only [if_pos] at e1 e2
   repeat' (first | refine uN ?_ | (refine uP ?_ ?_ <;> (intro h; ((try simp only [zs, ne_eq, and_true, true_and, eq_self, reduceCtorEq] at h); try exact zx))) | fail)
   refine gc k ?_
   rintro v L' ⟨rfl, G2, f1, hW2, rfl⟩
   repeat' (first | refine uN ?_ | (refine uP ?_ ?_ <;> (intro h; ((try simp only [zs, ne_eq, and_true, true_and, eq_self, reduceCtorEq] at h); try exact zx))) | fail)
   exact Z5 (i + 1, G2, M2) uS (LS.refl _) ⟨by simp only; omega, by simp only; rw [f1, hwp], hW2, ⟨hd.wi, hsame.trans hd.same, by have := hd.len; simp only; omega⟩, by simp only; rw [e1, show 3000 - (i + 1) = 3000 - i - 1 by omega], by simp only; rw [e2, show 3000 - (i + 1) = 3000 - i - 1 by omega]; omega⟩ (by simp only; omega)
  | some g =>
   simp only [reduceCtorEq, if_false] at e1 e2
   repeat' (first | refine uN ?_ | (refine uP ?_ ?_ <;> (intro h; ((try simp only [zs, ne_eq, and_true, true_and, eq_self, reduceCtorEq] at h); try exact zx))) | fail)
   refine gc k ?_
   rintro v L' ⟨rfl, G2, f1, hW2, rfl⟩
   have kJ := kI (Xg G2 M2) i hi
   rw [e1, show (Ug 3000 M).2 = i by omega]
   repeat' (first | refine uN ?_ | refine uC (kJ) ?_ | (refine uP ?_ ?_ <;> (intro h; ((try simp only [zs, ne_eq, and_true, true_and, eq_self, reduceCtorEq] at h); try exact zx))) | fail)
   exact Zbm rfl ⟨rfl, G2, by rw [f1, hwp], hW2, rfl⟩
 ·obtain rfl : i = 3000 := by omega
  rw [show (3000 : Nat) - 3000 = 0 from rfl, Zr7] at e1 e2
  have kJ := kI (Xg G1 M1) 3000 hi
  rw [e1, show (Ug 3000 M).2 = 3000 by simp only at e2; omega]
  repeat' (first | refine uN ?_ | refine uC (kJ) ?_ | (refine uP ?_ ?_ <;> (intro h; ((try simp only [zs, ne_eq, and_true, true_and, eq_self, reduceCtorEq] at h); try exact zx))) | fail)
  all_goals first | (exfalso; omega) | exact Zbm rfl ⟨rfl, G1, hwp, hW1, rfl⟩
theorem Zmb (nv : Value) (hE : Ez T E L) (hS : Sz L) (hW : WdOk G M) (hl : M.l.length ≤ 100000000) :
  HC Tryz.prog 58 [pt p 0, nv] (Xg G M :: Zi p (pt G.wp 0) :: L) (fun v L' => v = .tuple ⟨[bs (Lib.itoa M.l.length), .nilIface]⟩ ∧ L' = Xg G M :: Zi p (pt G.wp 0) :: L) := by
 have k := HC.shutQ (Znz G M _ (V6 hW (Zi p (pt G.wp 0) :: L)))
 have kI := Zbz (M.l.length : Int) (by omega) (by omega) (Xg G M :: Zi p (pt G.wp 0) :: L) ((hS.cons _).cons _)
 unfold Zi at *
 refine Za (fun _ _ => Tryz.call58 _ _) Tryz.func58 rfl Tryz.ntmps58 (Nat.le_of_ble_eq_true rfl) ?_; simp only [Ze, Nat.reduceAdd]
 repeat' (first | refine uN ?_ | refine uC (k) ?_ | refine uC (kI) ?_ | fail)
 exact Zbm rfl ⟨rfl, rfl⟩
theorem Zmi (hE : Ez T E L) (hW : WdOk G M) (hM : WI M) (hR : Rd ic 1 L a ns) (hn : 2 ≤ ns.length) (hcap : ns.length ≤ cap) (h48 : ns.length ≤ 1000) :
  HC Tryz.prog 63 [pt p 0, .slice a ns.length cap] (Xg G M :: Zi p (pt G.wp 0) :: L) (fun v L' => v = .tuple ⟨[bs (Zak M (ns.getD 0 0) (ns.getD 1 0)).1, eV T E (Zak M (ns.getD 0 0) (ns.getD 1 0)).2]⟩ ∧ L' = Xg G M :: Zi p (pt G.wp 0) :: L) := by
 have hG := (hE.er [2]).cons (Zi p (pt G.wp 0))
 have k := HC.shutQ (Zkh T E G M (ns.getD 0 0) (ns.getD 1 0) (Zi p (pt G.wp 0) :: L) hG hW hM)
 obtain ⟨b1, i1, q1, F1, f1, rfl, hb1, hg1, hg2⟩ := Zpz hR (by omega)
 have hg2 := hg2 (by omega)
 have hb1 := (Zc (Zc hb1) : Has (Xg G M :: Zi p (pt G.wp 0) :: L) _ _)
 unfold Zi at *
 refine Za (fun _ _ => Tryz.call63 _ _) Tryz.func63 rfl Tryz.ntmps63 (Nat.le_of_ble_eq_true rfl) ?_; simp only [Ze, Nat.reduceAdd]
 repeat' (first | refine uN ?_ | refine Yb S ?_ | refine uC (k) ?_ | fail)
 exact Zbm rfl ⟨rfl, rfl⟩
theorem Zmm (hE : Ez T E L) (hW : WdOk G M) (hR : Rd ic 1 L a ns) (hn : 1 ≤ ns.length) (hcap : ns.length ≤ cap) (h48 : ns.length ≤ 1000) :
  HC Tryz.prog 65 [pt p 0, .slice a ns.length cap] (Xg G M :: Zi p (pt G.wp 0) :: L) (fun v L' => v = .tuple ⟨[bs (if (Zor M (ns.getD 0 0)).1 then [117, 112] else [100, 111, 119, 110]), if (Zor M (ns.getD 0 0)).1 then .nilIface else eV T E (Zor M (ns.getD 0 0)).2]⟩ ∧ L' = Xg G M :: Zi p (pt G.wp 0) :: L) := by
 have hG := (hE.er [2]).cons (Zi p (pt G.wp 0))
 have k := HC.shutQ (Zr3 T E G M (ns.getD 0 0) (Ym G M ++ (Zi p (pt G.wp 0) :: L)) (Xp hG G M) (V6 hW _) hW.ndl (fun hn => Ql hW.ndl (Yp hn).1 (Yp hn).2 _))
 obtain ⟨b1, i1, q1, F1, f1, rfl, hb1, hg1, hg2⟩ := Zpz hR (by omega)
 clear hg2
 have hb1 := (Zc (Zc hb1) : Has (Xg G M :: Zi p (pt G.wp 0) :: L) _ _)
 unfold Zi at *
 generalize Zor M (ns.getD 0 0) = R at *
 obtain ⟨up, e⟩ := R
 simp only at k ⊢
 refine Za (fun _ _ => Tryz.call65 _ _) Tryz.func65 rfl Tryz.ntmps65 (Nat.le_of_ble_eq_true rfl) ?_; simp only [Ze, Nat.reduceAdd]
 repeat' (first | refine uN ?_ | refine Yb S ?_ | refine uC (k) ?_ | (refine uP ?_ ?_ <;> (intro h; ((try simp only [zs, ne_eq, and_true, true_and, eq_self, reduceCtorEq] at h); try exact zx))) | fail)
 all_goals (subst_vars; exact Zbm rfl ⟨rfl, rfl⟩)
theorem Zle (nv : Value) (hE : Ez T E L) (hW : WdOk G M) (hev : M.ev.length ≤ 1000000) :
  HC Tryz.prog 70 [pt p 0, nv] (Xg G M :: Zi p (pt G.wp 0) :: L) (fun v L' => ∃ c fv, v = .tuple ⟨[bs [111, 107], fv]⟩ ∧ FV T E fv (efM M.n.length (M.ev.map toEv)).1 (efM M.n.length (M.ev.map toEv)).2 c ∧ L' = c :: Xg G M :: Zi p (pt G.wp 0) :: L) := by
 have kEv := HC.shutR (V := fun v c => Vec 114 3 ec v M.ev c) (Zbl G M (Zi p (pt G.wp 0) :: L) hW (by omega))
 have kSi := fun c : List Zn => HC.ro (V := fun v => v = iv M.n.length) (H' := c :: Xg G M :: Zi p (pt G.wp 0) :: L) (LS.trans lsW uL) (LS.trans (b := (Xg G M :: c :: Zi p (pt G.wp 0) :: L : Zb).flatten) uL lsW') (Zii G M (Ym G M ++ (c :: Zi p (pt G.wp 0) :: L)) (V6 hW _))
 unfold Zi at *
 refine Za (fun _ _ => Tryz.call70 _ _) Tryz.func70 rfl Tryz.ntmps70 (Nat.le_of_ble_eq_true rfl) ?_; simp only [Ze, Nat.reduceAdd]
 repeat' (first | refine uN ?_ | refine Z0 S ?_ | refine da 101 ?_ | fail)
 refine gc kEv ?_
 rintro v L' ⟨ce, hve, rfl⟩
 obtain ⟨a1, cap1, rfl, hcap1, hR1⟩ := hve.rd Qy
 repeat' (first | refine uN ?_ | refine Z0 S ?_ | refine da 101 ?_ | fail)
 refine gc (kSi ce) ?_
 rintro v L' ⟨rfl, rfl⟩
 have kj := Zjw T E a1 cap1 (M.ev.map toEv) M.n.length (ce :: Xg G M :: [(p, .cells ⟨[pt G.wp 0]⟩ 37)] :: L) ((((hE.er [2, 8, 9]).cons _).cons _).cons _) (rd_ev (hR1 _)) (by rw [List.length_map]; omega) (by rw [List.length_map]; exact hcap1)
 rw [List.length_map] at kj
 repeat' (first | refine uN ?_ | refine Z0 S ?_ | refine da 101 ?_ | fail)
 refine gc kj ?_
 rintro v L' ⟨cf, hf, rfl⟩
 repeat' (first | refine uN ?_ | refine Z0 S ?_ | refine da 101 ?_ | fail)
 refine gc (Zcy v _) ?_
 rintro v2 L' ⟨rfl, rfl⟩
 repeat' (first | refine uN ?_ | refine Z0 S ?_ | refine da 101 ?_ | fail)
 exact Ve (L' := cf :: Xg G M :: [(p, .cells ⟨[pt G.wp 0]⟩ 37)] :: L) uL ⟨cf, v, rfl, hf, rfl⟩
theorem Zkg (hE : Ez T E L) (hS : Sz L) (hW : WdOk G M) (hM : WI M) (hR : Rd ic 1 L a ns) (hn : 2 ≤ ns.length) (hcap : ns.length ≤ cap) (h48 : ns.length ≤ 1000) :
  HC Tryz.prog 60 [pt p 0, .slice a ns.length cap] (Xg G M :: Zi p (pt G.wp 0) :: L) (fun v L' => v = .tuple ⟨[bs (stT (Uc M (ns.getD 0 0) (ns.getD 1 0))), eV T E (Wl M (ns.getD 0 0) (ns.getD 1 0))]⟩ ∧ L' = Xg G M :: Zi p (pt G.wp 0) :: L) := by
 have hG := (hE.er [2, 6]).cons (Zi p (pt G.wp 0))
 have k := HC.shutQ (Zbj T E G M (ns.getD 0 0) (ns.getD 1 0) (Zi p (pt G.wp 0) :: L) hG hW hM)
 have k2 := fun c : List Zn => HC.ro (V := fun v => v = .tuple ⟨[.agg ⟨sc (Uc M (ns.getD 0 0) (ns.getD 1 0))⟩, eV T E (Wl M (ns.getD 0 0) (ns.getD 1 0))]⟩) (H' := c :: Xg G M :: Zi p (pt G.wp 0) :: L) (LS.trans lsW uL) (LS.trans (b := (Xg G M :: c :: Zi p (pt G.wp 0) :: L : Zb).flatten) uL lsW') (Zbj T E G M (ns.getD 0 0) (ns.getD 1 0) (c :: Zi p (pt G.wp 0) :: L) (hG.cons c) hW hM)
 obtain ⟨o1, o2, o3, o4, o5⟩ := Zry hM (ns.getD 0 0) (ns.getD 1 0)
 obtain ⟨b1, i1, q1, F1, f1, rfl, hb1, hg1, hg2⟩ := Zpz hR (by omega)
 have hg2 := hg2 (by omega)
 have hb1 := (Zc (Zc hb1) : Has (Xg G M :: Zi p (pt G.wp 0) :: L) _ _)
 obtain ⟨Ft, ft, hT⟩ := hS.tb
 have hT : Has (Xg G M :: Zi p (pt G.wp 0) :: L) _ _ := Zc (Zc hT)
 unfold Zi stT at *
 generalize Uc M (ns.getD 0 0) (ns.getD 1 0) = s0 at *
 generalize Wl M (ns.getD 0 0) (ns.getD 1 0) = e0 at *
 obtain ⟨ph, pr, att⟩ := s0
 simp only [sc] at *
 have kN := fun L (h : ∀ q ∈ [(15, Zg0 Ft ft)], Has L q.1 q.2) => Zdo ph (by omega) (by omega) L (h _ (List.mem_singleton.2 rfl))
 have kP := fun L (h : ∀ q ∈ [(15, Zg0 Ft ft)], Has L q.1 q.2) => W2 pr (by omega) (by omega) L (h _ (List.mem_singleton.2 rfl))
 have kA := fun L (h : ∀ q ∈ [(15, Zg0 Ft ft)], Has L q.1 q.2) => W2 att (by omega) (by omega) L (h _ (List.mem_singleton.2 rfl))
 have l1 := Zi1 ph (by omega) (by omega)
 have l2 := Lib.itoa_length_le pr (by omega) (by omega)
 have l3 := Lib.itoa_length_le att (by omega) (by omega)
 refine Za (fun _ _ => Tryz.call60 _ _) Tryz.func60 rfl Tryz.ntmps60 (Nat.le_of_ble_eq_true rfl) ?_; simp only [Ze, Nat.reduceAdd]
 repeat' (first | refine uN ?_ | refine Z0 S ?_ | (refine uB ?_; intro b) | refine da 101 ?_ | fail)
 refine Znh ?_ ?_
 ·refine gc k ?_
  rintro v L' ⟨rfl, rfl⟩
  repeat' (first | refine uN ?_ | refine Z0 S ?_ | (refine uB ?_; intro b) | refine da 101 ?_ | fail)
  refine dcF 0 _ kN (hFs (Zc hT)) ?_
  repeat' (first | refine uN ?_ | refine Z0 S ?_ | (refine uB ?_; intro b) | refine da 101 ?_ | fail)
  refine dcF 0 _ kP (hFs (Zc hT)) ?_
  repeat' (first | refine uN ?_ | refine Z0 S ?_ | (refine uB ?_; intro b) | refine da 101 ?_ | fail)
  refine dcF 0 _ kA (hFs (Zc hT)) ?_
  repeat' (first | refine uN ?_ | refine Z0 S ?_ | (refine uB ?_; intro b) | refine da 101 ?_ | fail)
  exact Ve (L' := Xg G M :: [(p, .cells ⟨[pt G.wp 0]⟩ 37)] :: L) uL ⟨rfl, rfl⟩
 ·repeat' (first | refine uN ?_ | refine Z0 S ?_ | (refine uB ?_; intro b) | refine da 101 ?_ | fail)
  refine gc (k2 _) ?_
  rintro v L' ⟨rfl, rfl⟩
  repeat' (first | refine uN ?_ | refine Z0 S ?_ | (refine uB ?_; intro b) | refine da 101 ?_ | fail)
  refine dcF 0 _ kN (hFs (Zc hT)) ?_
  repeat' (first | refine uN ?_ | refine Z0 S ?_ | (refine uB ?_; intro b) | refine da 101 ?_ | fail)
  refine dcF 0 _ kP (hFs (Zc hT)) ?_
  repeat' (first | refine uN ?_ | refine Z0 S ?_ | (refine uB ?_; intro b) | refine da 101 ?_ | fail)
  refine dcF 0 _ kA (hFs (Zc hT)) ?_
  repeat' (first | refine uN ?_ | refine Z0 S ?_ | (refine uB ?_; intro b) | refine da 101 ?_ | fail)
  exact Ve (L' := Xg G M :: [(p, .cells ⟨[pt G.wp 0]⟩ 37)] :: L) uL ⟨rfl, rfl⟩
theorem Zly (nv : Value) (hS : Sz L) (hW : WdOk G M) (hM : WI M) (hv : EvW M) :
  HC Tryz.prog 67 [pt p 0, nv] (Xg G M :: Zi p (pt G.wp 0) :: L) (fun v L' => v = .tuple ⟨[bs (evsT M.ev), .nilIface]⟩ ∧ L' = Xg G M :: Zi p (pt G.wp 0) :: L) := by
 have hel := hM.evl
 have hwl := hM.wl
 have hrg := hv.rg
 have kEv := HC.shutR (V := fun v c => Vec 114 3 ec v M.ev c) (Zbl G M (Zi p (pt G.wp 0) :: L) hW (by omega))
 obtain ⟨Ft, ft, hT⟩ := hS.tb
 have hT : Has (Xg G M :: Zi p (pt G.wp 0) :: L) _ _ := Zc (Zc hT)
 have hjl : (Vn (M.ev.map evT)).length ≤ 100000 := by
  have h1 := Zl0 65 (M.ev.map evT) fun x hx => by
   obtain ⟨e, he, rfl⟩ := List.mem_map.1 hx
   obtain ⟨r1, r2, r3, r4, r5⟩ := hrg e he
   have l1 := Lib.itoa_length_le e.site (by omega) (by omega)
   have l2 := Lib.itoa_length_le e.deal (by omega) (by omega)
   have l3 := Zi1 e.ph (by unfold fin at r5; omega) (by unfold fin at r5; omega)
   unfold evT
   simp only [List.length_append, List.length_cons, List.length_nil]
   omega
  rw [List.length_map] at h1
  have h2 := Nat.mul_le_mul_right (65 + 2) hel
  omega
 unfold Zi at *
 refine Za (fun _ _ => Tryz.call67 _ _) Tryz.func67 rfl Tryz.ntmps67 (Nat.le_of_ble_eq_true rfl) ?_; simp only [Ze, Nat.reduceAdd]
 repeat' (first | refine uN ?_ | refine Yb S ?_ | refine Yv S ?_ | (refine uB ?_; intro b) | (refine uP ?_ ?_ <;> (intro h; ((try simp only [zs, ne_eq, and_true, true_and, eq_self, reduceCtorEq] at h); try exact zx))) | refine da 101 ?_ | fail)
 refine gc kEv ?_
 rintro v L' ⟨ce, hve, rfl⟩
 obtain ⟨a1, cap1, rfl, hcap1, hR1⟩ := hve.rd Qy
 repeat' (first | refine uN ?_ | refine Yb S ?_ | refine Yv S ?_ | (refine uB ?_; intro b) | (refine uP ?_ ?_ <;> (intro h; ((try simp only [zs, ne_eq, and_true, true_and, eq_self, reduceCtorEq] at h); try exact zx))) | refine da 101 ?_ | fail)
 refine Zcu (L' := [] :: ce :: Xg G M :: [(p, .cells ⟨[pt G.wp 0]⟩ 37)] :: L) ?_ (LS.refl _)
 refine Zx (σ := Nat × Value × List Zn) (fun r => [(6, r.2.1), (13, .slice a1 M.ev.length cap1), (14, iv M.ev.length), (15, iv r.1), (5, .nilIface)])
  (fun r => r.2.2 :: ce :: Xg G M :: [(p, .cells ⟨[pt G.wp 0]⟩ 37)] :: L)
  (fun r => r.1 ≤ M.ev.length ∧ Vec 9 1 V7 r.2.1 ((M.ev.take r.1).map evT) r.2.2 ∧ (r.1 = 0 → r.2.1 = Wo)) (fun r => M.ev.length - r.1) (0, Wo, []) uS (List.Sublist.refl _) ⟨by simp, Yh, fun _ => rfl⟩ ?_
 rintro ⟨i, u, c⟩ ⟨hi, hu, hu0⟩
 simp only at hi hu hu0 ⊢
 by_cases hit : i < M.ev.length
 ·obtain ⟨b1, bi, l, F, fr, rfl, hb, hg⟩ := (hR1 (Xg G M :: [(p, .cells ⟨[pt G.wp 0]⟩ 37)] :: L)).at (j := (i : Int)) (by omega) (by omega)
  have eg : M.ev[(i : Int).toNat]'(by omega) = M.ev[i] := rfl
  rw [eg] at hg
  obtain ⟨r1, r2, r3, r4, r5⟩ := hrg M.ev[i] (List.getElem_mem _)
  have hs : (M.ev.take (i + 1)).map evT = (M.ev.take i).map evT ++ [evT M.ev[i]] := by rw [V0 hit, List.map_append]; rfl
  unfold ec at hg
  generalize M.ev[i] = e at *
  obtain ⟨es, ed, ep⟩ := e
  simp only at hs hg r1 r2 r3 r4 r5
  have kN := fun L (h : ∀ q ∈ [(15, Zg0 Ft ft)], Has L q.1 q.2) => Zdo ep (by unfold fin at r5; omega) (by unfold fin at r5; omega) L (h _ (List.mem_singleton.2 rfl))
  have kP := fun L (h : ∀ q ∈ [(15, Zg0 Ft ft)], Has L q.1 q.2) => W2 es (by omega) (by omega) L (h _ (List.mem_singleton.2 rfl))
  have kA := fun L (h : ∀ q ∈ [(15, Zg0 Ft ft)], Has L q.1 q.2) => W2 ed (by omega) (by omega) L (h _ (List.mem_singleton.2 rfl))
  have l1 := Zi1 ep (by unfold fin at r5; omega) (by unfold fin at r5; omega)
  have l2 := Lib.itoa_length_le es (by omega) (by omega)
  have l3 := Lib.itoa_length_le ed (by omega) (by omega)
  repeat' (first | refine uN ?_ | refine Z0 S ?_ | (refine uB ?_; intro b) | (refine uP ?_ ?_ <;> (intro h; ((try simp only [zs, ne_eq, and_true, true_and, eq_self, reduceCtorEq] at h); try exact zx))) | refine da 101 ?_ | fail)
  refine dcF 0 _ kP (hFs (Zc (Zc (Zc hT)))) ?_
  repeat' (first | refine uN ?_ | refine Z0 S ?_ | (refine uB ?_; intro b) | (refine uP ?_ ?_ <;> (intro h; ((try simp only [zs, ne_eq, and_true, true_and, eq_self, reduceCtorEq] at h); try exact zx))) | refine da 101 ?_ | fail)
  refine dcF 0 _ kA (hFs (Zc (Zc (Zc hT)))) ?_
  repeat' (first | refine uN ?_ | refine Z0 S ?_ | (refine uB ?_; intro b) | (refine uP ?_ ?_ <;> (intro h; ((try simp only [zs, ne_eq, and_true, true_and, eq_self, reduceCtorEq] at h); try exact zx))) | refine da 101 ?_ | fail)
  refine gc (kN _ (hFs (Zc (Zc (Zc hT))))) ?_
  rintro v L' ⟨rfl, rfl⟩
  repeat' (first | refine uN ?_ | refine Z0 S ?_ | (refine uB ?_; intro b) | (refine uP ?_ ?_ <;> (intro h; ((try simp only [zs, ne_eq, and_true, true_and, eq_self, reduceCtorEq] at h); try exact zx))) | refine da 101 ?_ | fail)
  refine fo 2 ?_
  refine wp1 S (Lib.itoa es ++ [32] ++ Lib.itoa ed ++ [32] ++ nmP ep) hu Wh Zer ?_ (hby := by rw [List.length_map, List.length_take]; omega) (hmax := by rw [List.length_map, List.length_take]; omega)
  intro v' c' hv'
  repeat' (first | refine uN ?_ | refine Z0 S ?_ | (refine uB ?_; intro b) | (refine uP ?_ ?_ <;> (intro h; ((try simp only [zs, ne_eq, and_true, true_and, eq_self, reduceCtorEq] at h); try exact zx))) | refine da 101 ?_ | fail)
  exact Z5 (i + 1, v', c') uS uL ⟨hit, by rw [hs]; exact hv', fun h => by simp at h⟩ (by simp only; omega)
 ·obtain rfl : i = M.ev.length := by omega
  rw [List.take_length] at hu
  obtain ⟨a3, cap3, rfl, hcap3, hR3⟩ := hu.rd Wh
  rw [List.length_map] at hcap3
  have kj := Zmy a3 cap3 (M.ev.map evT) _ (hR3 (ce :: Xg G M :: [(p, .cells ⟨[pt G.wp 0]⟩ 37)] :: L)) (by rw [List.length_map]; exact hcap3) (by rw [List.length_map]; omega) (by omega)
  unfold evsT
  by_cases he : M.ev = []
  ·rw [if_pos he]
   have h0 : M.ev.length = 0 := by rw [he]; rfl
   have := hu0 h0
   rw [this]
   repeat' (first | refine uN ?_ | refine Yb S ?_ | refine Yv S ?_ | refine uC (kj) ?_ | refine Yx (fun _ => kj) ?_ | refine Y0 (fun _ => kj) ?_ | refine Yz (fun _ => kj) ?_ | refine Yy (fun _ => kj) ?_ | (refine uB ?_; intro b) | (refine uP ?_ ?_ <;> (intro h; ((try simp only [zs, ne_eq, and_true, true_and, eq_self, reduceCtorEq] at h); try exact zx))) | refine da 101 ?_ | fail)
   exact Ve (L' := Xg G M :: [(p, .cells ⟨[pt G.wp 0]⟩ 37)] :: L) uL ⟨rfl, rfl⟩
  ·rw [if_neg he]
   rcases hR3 [] with h9 | ⟨b3, i3, q3, F3, f3, rfl, -⟩
   ·exact absurd (List.map_eq_nil_iff.1 h9) he
   repeat' (first | refine uN ?_ | refine Yb S ?_ | refine Yv S ?_ | refine uC (kj) ?_ | refine Yx (fun _ => kj) ?_ | refine Y0 (fun _ => kj) ?_ | refine Yz (fun _ => kj) ?_ | refine Yy (fun _ => kj) ?_ | (refine uB ?_; intro b) | (refine uP ?_ ?_ <;> (intro h; ((try simp only [zs, ne_eq, and_true, true_and, eq_self, reduceCtorEq] at h); try exact zx))) | refine da 101 ?_ | fail)
   exact Ve (L' := Xg G M :: [(p, .cells ⟨[pt G.wp 0]⟩ 37)] :: L) uL ⟨rfl, rfl⟩
end
end Go.HL
end

/-! ScF -/
section
namespace Go.HL
open Go Go.Proofs
set_option linter.unusedVariables false
set_option linter.unusedSimpArgs false
def Zhu (k : Nat) (M : Wm) (n : List Int) : List UInt8 × Int × Wm :=
 if k < 11 then ([111, 107], Zm9 (Wj k M n).2, (Wj k M n).1) else
 match k with
 | 11 => (Lib.itoa (Ug 3000 M).2, 0, (Ug 3000 M).1)
 | 12 => (Lib.itoa M.l.length, 0, M)
 | 13 => (stT (Uc M (n.getD 0 0) (n.getD 1 0)), Zm9 (Wl M (n.getD 0 0) (n.getD 1 0)), M)
 | 14 => ((Zak M (n.getD 0 0) (n.getD 1 0)).1, Zm9 (Zak M (n.getD 0 0) (n.getD 1 0)).2, M)
 | 15 => (if (Zor M (n.getD 0 0)).1 then [117, 112] else [100, 111, 119, 110], if (Zor M (n.getD 0 0)).1 then 0 else Zm9 (Zor M (n.getD 0 0)).2, M)
 | 16 => (evsT M.ev, 0, M)
 | _ => ([111, 107], (efM M.n.length (M.ev.map toEv)).1, M)
def cmdT : List (List UInt8 × List UInt8 × Nat) := actTab ++ lookTab
def fnOf (k : Nat) : Nat := if k < 11 then 92 else (cmdT.getD k ([], [], 0)).2.2
def capOf (k bx : Nat) : List Value := if k < 11 then [pt bx 0] else []
set_option maxHeartbeats 2000000 attribute [local irreducible] HW HO HQ HD HC QOp Has Upd Zp Gets Yf Z8 Zr X3 Z9 Zj Wa Zy
theorem Zog (p : Nat) (nv : Value) (bx F : Nat) (H : Zb) (R : Value → Zb → Prop) (hb : Has H bx (Zgp F)) (h : HC Tryz.prog F [pt p 0, nv] H R) : HC Tryz.prog 92 [pt p 0, nv, pt bx 0] H (fun v L' => ∃ u, v = .tuple ⟨[bs [111, 107], u]⟩ ∧ R u L') := by
 unfold Zgp Zrr at hb
 refine Za (fun _ _ => Tryz.call92 _ _) Tryz.func92 rfl Tryz.ntmps92 (Nat.le_of_ble_eq_true rfl) ?_; simp only [Ze, Nat.reduceAdd]
 repeat' (first | refine uN ?_)
 refine Vk (qLF Tryz.isAgg102) ?_
 repeat' (first | refine uN ?_)
 refine gc h ?_
 rintro v L' hR
 repeat' (first | refine uN ?_)
 refine gc (Zcy v _) ?_
 rintro v2 L2 ⟨rfl, rfl⟩
 repeat' (first | refine uN ?_)
 exact Zbm rfl ⟨v, rfl, hR⟩
def DoQ (T : Nat) (E : Nat → Addr) (G : WdG) (p : Nat) (X : Zb) (r : List UInt8 × Int × Wm) (v : Value) (L' : Zb) : Prop :=
 ∃ c fv at_, v = .tuple ⟨[bs r.1, fv]⟩ ∧ FV T E fv r.2.1 at_ c ∧ ∃ G', G'.wp = G.wp ∧ WdOk G' r.2.2 ∧ L' = c :: Xg G' r.2.2 :: Zi p (pt G.wp 0) :: X
theorem Zbc {T : Nat} {E : Nat → Addr} {e : Option Nat} (h : okE e) : FV T E (eV T E e) (Zm9 e) (-1) [] := .inl ⟨e, h, rfl, rfl, .inr rfl, rfl⟩
theorem HC.emp {F : Nat} {args : List Value} {H : Zb} {Q Q' : Value → Zb → Prop} (h : HC Tryz.prog F args H Q) (hq : ∀ v L', Q v L' → Q' v ([] :: L')) : HC Tryz.prog F args H Q' := HC.post h fun v L' hv => ⟨[] :: L', LS.refl _, hq v L' hv⟩
section
variable (T : Nat) (E : Nat → Addr) (G : WdG) (M : Wm) (p : Nat) (a : Option Addr) (cap : Nat) (ns : List Int) (X : Zb)
theorem Ui (k bx F : Nat) (hk : k < 11) (hb : Has X bx (Zgp F)) (h : HC Tryz.prog F [pt p 0, .slice a ns.length cap] (Xg G M :: Zi p (pt G.wp 0) :: X) (fun v L' => v = eV T E (Wj k M ns).2 ∧ Zo3 G (Wj k M ns).1 (Zi p (pt G.wp 0) :: X) L')) :
  HC Tryz.prog 92 ([pt p 0, .slice a ns.length cap] ++ [pt bx 0]) (Xg G M :: Zi p (pt G.wp 0) :: X) (DoQ T E G p X (Zhu k M ns)) := by
 refine HC.emp (Zog p _ bx F _ _ (Zc (Zc hb)) h) ?_
 rintro v L' ⟨u, rfl, rfl, G2, e1, hW2, rfl⟩
 unfold Zhu
 rw [if_pos hk]
 exact ⟨[], _, -1, rfl, Zbc (cmdW_w k M ns).ok, G2, e1, hW2, rfl⟩
theorem sstE_ok (s d : Int) : okE (Wl M s d) := by
 unfold Wl
 have := (Zel M s).ok
 split
 ·rename_i e he
  rw [he] at this
  exact this
 ·split
  ·exact (show List.elem 2 all9 = true from rfl)
  ·trivial
theorem Zqo (s d : Int) : okE (Zak M s d).2 := by
 unfold Zak
 split
 ·exact (show List.elem 2 all9 = true from rfl)
 ·split <;> trivial
theorem sisE_ok (s : Int) : okE (Zor M s).2 := by
 unfold Zor
 have := (Zel M s).ok
 split
 ·rename_i e he
  rw [he] at this
  exact this
 ·trivial
theorem Zgq (k bx : Nat) (hk : k < 18) (hE : Ez T E X) (hS : Sz X) (hW : WdOk G M) (hM : WI M) (hV : EvW M) (hl : M.l.length ≤ 99000000) (hR : Rd ic 1 X a ns) (hn : ns.length = (cmdT.getD k ([], [], 0)).2.1.length) (hcap : ns.length ≤ cap)
  (hbx : k < 11 → Has X bx (Zgp (cmdT.getD k ([], [], 0)).2.2)) : HC Tryz.prog (fnOf k) ([pt p 0, .slice a ns.length cap] ++ capOf k bx) (Xg G M :: Zi p (pt G.wp 0) :: X) (DoQ T E G p X (Zhu k M ns)) := by
 have hel := hM.evl
 have hcase : k = 0 ∨ k = 1 ∨ k = 2 ∨ k = 3 ∨ k = 4 ∨ k = 5 ∨ k = 6 ∨ k = 7 ∨ k = 8 ∨ k = 9 ∨ k = 10 ∨ k = 11 ∨ k = 12 ∨ k = 13 ∨ k = 14 ∨ k = 15 ∨ k = 16 ∨ k = 17 := by omega
 rcases hcase with rfl | rfl | rfl | rfl | rfl | rfl | rfl | rfl | rfl | rfl | rfl | rfl | rfl | rfl | rfl | rfl | rfl | rfl
 ·exact Ui T E G M p a cap ns X 0 bx _ (by decide) (hbx (by decide)) (Zoi T E G M p a cap ns X hE hW hM (by omega) hR (by rw [hn]; decide) hcap (by rw [hn]; decide))
 ·exact Ui T E G M p a cap ns X 1 bx _ (by decide) (hbx (by decide)) (Zmx T E G M p a cap ns X hE hW hM (by omega) hR (by rw [hn]; decide) hcap (by rw [hn]; decide))
 ·exact Ui T E G M p a cap ns X 2 bx _ (by decide) (hbx (by decide)) (Zna T E G M p a cap ns X hE hW hM (by omega) hR (by rw [hn]; decide) hcap (by rw [hn]; decide))
 ·exact Ui T E G M p a cap ns X 3 bx _ (by decide) (hbx (by decide)) (Znu T E G M p a cap ns X hE hW hM (by omega) hR (by rw [hn]; decide) hcap (by rw [hn]; decide))
 ·exact Ui T E G M p a cap ns X 4 bx _ (by decide) (hbx (by decide)) (Zok T E G M p a cap ns X hE hW hM (by omega) hR (by rw [hn]; decide) hcap (by rw [hn]; decide))
 ·exact Ui T E G M p a cap ns X 5 bx _ (by decide) (hbx (by decide)) (Zmz T E G M p a cap ns X hE hW hM (by omega) hR (by rw [hn]; decide) hcap (by rw [hn]; decide))
 ·exact Ui T E G M p a cap ns X 6 bx _ (by decide) (hbx (by decide)) (Zm0 T E G M p a cap ns X hE hW hM (by omega) hR (by rw [hn]; decide) hcap (by rw [hn]; decide))
 ·exact Ui T E G M p a cap ns X 7 bx _ (by decide) (hbx (by decide)) (Zm7 T E G M p a cap ns X hE hW hM (by omega) hR (by rw [hn]; decide) hcap (by rw [hn]; decide))
 ·exact Ui T E G M p a cap ns X 8 bx _ (by decide) (hbx (by decide)) (Zni T E G M p a cap ns X hE hW hM (by omega) hR (by rw [hn]; decide) hcap (by rw [hn]; decide))
 ·exact Ui T E G M p a cap ns X 9 bx _ (by decide) (hbx (by decide)) (Zn2 T E G M p a cap ns X hE hW hM (by omega) hR (by rw [hn]; decide) hcap (by rw [hn]; decide))
 ·exact Ui T E G M p a cap ns X 10 bx _ (by decide) (hbx (by decide)) (Zlt T E G M p a cap ns X hE hW hM (by omega) hR (by rw [hn]; decide) hcap (by rw [hn]; decide))
 ·refine HC.emp (Zkq T E G M p X _ hE hS hW hM hl) ?_
  rintro v L' ⟨rfl, G2, e1, hW2, rfl⟩
  exact ⟨[], _, -1, rfl, FV.nil, G2, e1, hW2, rfl⟩
 ·refine HC.emp (Zmb T E G M p X _ hE hS hW (by omega)) ?_
  rintro v L' ⟨rfl, rfl⟩
  exact ⟨[], _, -1, rfl, FV.nil, G, rfl, hW, rfl⟩
 ·refine HC.emp (Zkg T E G M p a cap ns X hE hS hW hM hR (by rw [hn]; decide) hcap (by rw [hn]; decide)) ?_
  rintro v L' ⟨rfl, rfl⟩
  exact ⟨[], _, -1, rfl, Zbc (sstE_ok M _ _), G, rfl, hW, rfl⟩
 ·refine HC.emp (Zmi T E G M p a cap ns X hE hW hM hR (by rw [hn]; decide) hcap (by rw [hn]; decide)) ?_
  rintro v L' ⟨rfl, rfl⟩
  exact ⟨[], _, -1, rfl, Zbc (Zqo M _ _), G, rfl, hW, rfl⟩
 ·refine HC.emp (Zmm T E G M p a cap ns X hE hW hR (by rw [hn]; decide) hcap (by rw [hn]; decide)) ?_
  rintro v L' ⟨rfl, rfl⟩
  refine ⟨[], _, -1, rfl, ?_, G, rfl, hW, rfl⟩
  show FV T E _ (if (Zor M (ns.getD 0 0)).1 then 0 else Zm9 (Zor M (ns.getD 0 0)).2) _ _
  split
  ·exact FV.nil
  ·exact Zbc (sisE_ok M _)
 ·refine HC.emp (Zly G M p X _ hS hW hM hV) ?_
  rintro v L' ⟨rfl, rfl⟩
  exact ⟨[], _, -1, rfl, FV.nil, G, rfl, hW, rfl⟩
 ·refine HC.mono (Zle T E G M p X _ hE hW (by omega)) ?_
  rintro v L' ⟨c, fv, rfl, hf, rfl⟩
  exact ⟨c, fv, _, rfl, hf, G, rfl, hW, rfl⟩
end
end Go.HL
end
