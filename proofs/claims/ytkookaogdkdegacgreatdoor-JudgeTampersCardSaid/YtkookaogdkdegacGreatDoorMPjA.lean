/- Texts laid into one, without what the claim does not use. Conditions: none. -/
import Derived.Test.YtkookaogdkdegacGreatDoorMCoE
/-! PwG -/
section
namespace Go.HL
open Go Go.Proofs
set_option linter.unusedVariables false
set_option linter.unusedSimpArgs false
theorem chkM_pos {sites : Int} {xs : List Ev} : ∀ {k i c j : Nat}, chkM sites xs i = some (j, c) → k = xs.length - i → c ≠ 0
  | 0, i, c, j, h, hk => by rw [chkM_end (by omega)] at h; cases h
  | k + 1, i, c, j, h, hk => by
    have hi : i < xs.length := by omega
    cases hev : evM sites xs[i] (xs.take i) with
    | some c2 =>
      rw [chkM_hit hi hev] at h
      cases h
      intro e
      have := evM_nine hev
      rw [e] at this
      exact absurd this (by decide)
    | none =>
      rw [chkM_miss hi hev] at h
      exact chkM_pos (k := k) h (by omega)
set_option maxHeartbeats 2000000 attribute [local irreducible] HW HO HQ HD HC QOp Has Upd Puts Gets seqQ blkQ loopQ fnQ actQ nextP unQ MapF
attribute [local irreducible] runW newW
theorem judgeTampers_calls (T : Nat) (E : Nat → Addr) (a a2 : Option Addr) (cap cap2 : Nat) (w l : List Int) (which : Int) (L : Heap) (hE : Ez T E L) (hR : Rd ic 1 L a w) (hR2 : Rd ic 1 L a2 l) (hd : ∀ v ∈ l, v ≤ 9223372036854775807) (hwh : which ≤ 9223372036854775807) :
    HC Tryz.prog 11 [.slice a w.length cap, .slice a2 l.length cap2, iv which] L (fun v L' => v = .bool true ∧ L' = L) := by
  have kb := judged_calls T E L hE
  have kw := weightsError_calls a cap w L hR
  cases hc : checkW w with
  | some e =>
    rw [hc] at kw
    have hpos : ¬ cdN' (some e) ≤ 0 := by
      obtain ⟨k, hk⟩ : ∃ k, e = k + 1 := ⟨e - 1, by have := check_pos hc; omega⟩
      subst hk
      simp only [cdN']
      omega
    generalize cdN' (some e) = z at *
    refine Za (fun _ _ => Tryz.call11 _ _) Tryz.func11 rfl Tryz.ntmps11 (Nat.le_of_ble_eq_true rfl) ?_; simp only [args0, Nat.reduceAdd]
    repeat' (first | refine uN ?_ | refine g_k S ?_ | refine uC (kb) ?_ | refine uC (kw) ?_ | (refine uP ?_ ?_ <;> (intro h; ((try simp only [zs, ne_eq, and_true, true_and, eq_self, reduceCtorEq] at h); try exact zx))) | fail)
    all_goals exact sp1 (LS.refl _) ⟨rfl, rfl⟩
  | none =>
    rw [hc] at kw
    simp only [cdN'] at kw
    by_cases hlc : l.length ≤ 400 ∧ 0 ≤ which
    · obtain ⟨hl1, hw0⟩ := hlc
      obtain ⟨c1, c2, -⟩ := check_none hc
      have ko := fun L hR => ownInts_calls a cap w L hR (by omega)
      have ko2 := fun L hR => ownInts_calls a2 cap2 l L hR (by omega)
      have kn0 := fun v c L hG hv => wnew_calls T E v w c L hG hv (by omega)
      simp only [hc] at kn0
      have hM := new_ok hc
      have hnl : (newW w).l.length = 0 := by unfold newW; rfl
      have kn := fun v c L hG hv => HC.shutN (V := fun u G => u = .tuple ⟨[pt G.wp 0, .nilIface]⟩) (kn0 v c L hG hv)
      have kr1 := fun G a cap L hE hW hR hcap => HC.shutC (V := fun v c => Vec 3 1 ic v (runW (newW w) l).2 c) (run_calls T E G (newW w) a cap l L hE hW hM (by omega) hR hcap hd)
      obtain ⟨g1, g2, g3, g4⟩ := run_all hc l
      have hwell := ev_well g1 g2 g3
      rw [g4] at hwell
      have hef := efM_well (n := w.length) c1 c2 hwell
      have hevl := g1.evl
      generalize runW (newW w) l = R1 at *
      obtain ⟨M1, s1⟩ := R1
      simp only at kr1 hef hevl g1 hwell
      have kev := fun G L hW => HC.shutR (V := fun v c => Vec 81 3 ec v M1.ev c) (wevents_calls G M1 L hW (by omega))
      refine Za (fun _ _ => Tryz.call11 _ _) Tryz.func11 rfl Tryz.ntmps11 (Nat.le_of_ble_eq_true rfl) ?_; simp only [args0, Nat.reduceAdd]
      repeat' (first | refine uN ?_ | refine g_k S ?_ | refine uC (kb) ?_ | refine uC (kw) ?_ | (refine uP ?_ ?_ <;> (intro h; ((try simp only [zs, ne_eq, and_true, true_and, eq_self, reduceCtorEq] at h); try exact zx))) | fail)
      refine gc (ko _ hR) ?_
      rintro v L' ⟨o1, ho1, rfl⟩
      repeat' (first | refine uN ?_ | refine g_k S ?_ | refine uC (kb) ?_ | refine uC (kw) ?_ | (refine uP ?_ ?_ <;> (intro h; ((try simp only [zs, ne_eq, and_true, true_and, eq_self, reduceCtorEq] at h); try exact zx))) | fail)
      refine gc (kn _ _ _ (hE.er [2, 3, 4, 6]) ho1) ?_
      rintro v L' ⟨Ga, rfl, hWa, rfl⟩
      repeat' (first | refine uN ?_ | refine g_k S ?_ | refine uC (kb) ?_ | refine uC (kw) ?_ | (refine uP ?_ ?_ <;> (intro h; ((try simp only [zs, ne_eq, and_true, true_and, eq_self, reduceCtorEq] at h); try exact zx))) | fail)
      refine gc (ko2 _ ((hR2.cons _).cons _)) ?_
      rintro v L' ⟨o3, ho3, rfl⟩
      obtain ⟨a3, cap3, rfl, hcap3, hR3⟩ := Vec.rd ho3 ic_len
      refine fo 1 ?_
      refine gc (kr1 Ga a3 cap3 _ ((hE.cons _).cons _) hWa (hR3 _) hcap3) ?_
      rintro v L' ⟨f1, hf1, Ga1, e1, hWa1, rfl⟩
      rw [← e1]
      repeat' (first | refine uN ?_ | refine g_k S ?_ | refine uC (kb) ?_ | refine uC (kw) ?_ | (refine uP ?_ ?_ <;> (intro h; ((try simp only [zs, ne_eq, and_true, true_and, eq_self, reduceCtorEq] at h); try exact zx))) | fail)
      refine gc (kev Ga1 _ hWa1) ?_
      rintro v L' ⟨c12, hv12, rfl⟩
      have hv12' := hv12
      rcases hv12 with ⟨he, hlen0, hcl0, rfl⟩ | ⟨b, cap9, sp, he, rfl, hcs, hle, hall⟩
      · -- nothing was told
        subst he
        have hnil : M1.ev = [] := List.eq_nil_of_length_eq_zero (by assumption)
        have kj := jcheck_calls T E none 0 (M1.ev.map toEv) w.length ([] :: wdC Ga1 M1 :: f1 :: o3 :: o1 :: L) ((((((hE.er [2, 8, 9]).cons _).cons _).cons _).cons _).cons _) (.inl (by rw [hnil]; rfl)) (by rw [List.length_map]; omega) (by rw [hnil]; simp)
        rw [List.length_map, hef, hnil] at kj
        repeat' (first | refine uN ?_ | refine g_k S ?_ | refine uC (kb) ?_ | refine uC (kw) ?_ | (refine uP ?_ ?_ <;> (intro h; ((try simp only [zs, ne_eq, and_true, true_and, eq_self, reduceCtorEq] at h); try exact zx))) | fail)
        refine gc kj ?_
        rintro v L' ⟨c, hfv, rfl⟩
        obtain ⟨rfl, rfl⟩ := hfv.zero
        repeat' (first | refine uN ?_ | refine g_k S ?_ | refine uC (kb) ?_ | refine uC (kw) ?_ | (refine uP ?_ ?_ <;> (intro h; ((try simp only [zs, ne_eq, and_true, true_and, eq_self, reduceCtorEq] at h); try exact zx))) | fail)
        refine sp1 (L' := L) ?_ ⟨rfl, rfl⟩
        repeat (first | exact LS.refl _ | refine LS.c ?_)
      · subst he
        obtain ⟨a12, cap12, he12, hcap12, -⟩ := hv12'.rd ec_len
        obtain ⟨rfl, -, rfl⟩ := Value.slice.inj he12
        by_cases hlt0 : M1.ev.length = 0
        · have hnil : M1.ev = [] := List.eq_nil_of_length_eq_zero hlt0
          have kj := jcheck_calls T E (some ⟨b, 0, none⟩) cap9 (M1.ev.map toEv) w.length ([(b, .cells ⟨(M1.ev.map ec).flatten ++ sp⟩ 81)] :: wdC Ga1 M1 :: f1 :: o3 :: o1 :: L) ((((((hE.er [2, 8, 9]).cons _).cons _).cons _).cons _).cons _) (.inl (by rw [hnil]; rfl)) (by rw [List.length_map]; omega) (by rw [hnil]; simp)
          rw [List.length_map, hef] at kj
          repeat' (first | refine uN ?_ | refine g_k S ?_ | refine uC (kb) ?_ | refine uC (kw) ?_ | (refine uP ?_ ?_ <;> (intro h; ((try simp only [zs, ne_eq, and_true, true_and, eq_self, reduceCtorEq] at h); try exact zx))) | fail)
          refine gc kj ?_
          rintro v L' ⟨c, hfv, rfl⟩
          obtain ⟨rfl, rfl⟩ := hfv.zero
          repeat' (first | refine uN ?_ | refine g_k S ?_ | refine uC (kb) ?_ | refine uC (kw) ?_ | (refine uP ?_ ?_ <;> (intro h; ((try simp only [zs, ne_eq, and_true, true_and, eq_self, reduceCtorEq] at h); try exact zx))) | fail)
          refine sp1 (L' := L) ?_ ⟨rfl, rfl⟩
          repeat (first | exact LS.refl _ | refine LS.c ?_)
        have hm0 := Int.emod_nonneg which (show (M1.ev.length : Int) ≠ 0 by omega)
        have hm1 := Int.emod_lt_of_pos which (show (0 : Int) < M1.ev.length by omega)
        obtain ⟨k, hk⟩ := Int.eq_ofNat_of_zero_le hm0
        have hkl : k < M1.ev.length := by omega
        have hgr : ∀ i (hi : i < M1.ev.length), Gets ((M1.ev.map ec).flatten ++ sp) (0 + (i : Int).toNat * 3) (ec M1.ev[i]) := fun i hi => by
          have := gets_row (enc := ec) (sz := 3) ec_len M1.ev sp [] i M1.ev[i] (List.getElem?_eq_getElem hi)
          simpa using this
        have hgk := hgr k hkl
        have hgD : ∀ i (hi : i < M1.ev.length), M1.ev.getD i ⟨0, 0, 0⟩ = M1.ev[i] := fun i hi => by rw [List.getD, List.getElem?_eq_getElem hi]; rfl
        have hph : M1.ev[k].ph = 2 ∨ M1.ev[k].ph = 3 := (g3.rg M1.ev[k] (List.getElem_mem hkl)).2.2.2.2
        have hfl : ((M1.ev.map ec).flatten).length = M1.ev.length * 3 := flat_length ec_len _
        obtain ⟨NE, hNE⟩ : ∃ NE, NE = M1.ev.set k { M1.ev[k] with ph := 5 - M1.ev[k].ph } := ⟨_, rfl⟩
        have gP : Puts ((M1.ev.map ec).flatten ++ sp) (0 + (k : Int).toNat * 3 + 2) [iv (5 - M1.ev[k].ph)] ((NE.map ec).flatten ++ sp) := by
          have h1 := puts_set (l := (M1.ev.map ec).flatten ++ sp) (i := 0 + k * 3 + 2) (v := iv (5 - M1.ev[k].ph)) (by rw [List.length_append, hfl]; omega)
          rw [flat_set _ k hkl, ← hNE] at h1
          exact h1
        have hlen' : NE.length = M1.ev.length := by rw [hNE, List.length_set]
        have hfl' : ((NE.map ec).flatten).length = M1.ev.length * 3 := by rw [flat_length ec_len, hlen']
        have hvN : Vec 81 3 ec (sl b 0 M1.ev.length cap9) NE [(b, .cells ⟨(NE.map ec).flatten ++ sp⟩ 81)] :=
          .inr ⟨b, cap9, sp, by rw [hlen'], rfl, by rw [hfl', hlen'], by rw [hlen']; exact hle, by rw [List.length_append, hfl'] ; rw [List.length_append, hfl] at hall; exact hall⟩
        obtain ⟨aN, capN, heN, hcapN, hRN⟩ := hvN.rd ec_len
        rw [hlen'] at heN hcapN
        obtain ⟨rfl, -, rfl⟩ := Value.slice.inj heN
        have kj := fun L hG => jcheck_calls T E (some ⟨b, 0, none⟩) cap9 (NE.map toEv) w.length ([(b, .cells ⟨(NE.map ec).flatten ++ sp⟩ 81)] :: L) hG (rd_ev (hRN _)) (by rw [List.length_map]; omega) (by rw [List.length_map, hlen']; exact hcapN)
        have hlm : (NE.map toEv).length = M1.ev.length := by rw [List.length_map, hlen']
        simp only [hlm] at kj
        have hflip := flip_chk hwell (k := k) (by simpa using hkl)
        rw [← toEv_flip hkl, ← hNE] at hflip
        have hcode : decide ((efM w.length (NE.map toEv)).1 = 0) = !pairB (M1.ev.map toEv) k := by
          unfold efM
          rw [if_neg (by omega)]
          cases hch : chkM w.length (NE.map toEv) 0 with
          | none => rw [hflip.1 hch]; rfl
          | some p =>
            obtain ⟨i, c⟩ := p
            have hb : pairB (M1.ev.map toEv) k = true := by
              cases hb : pairB (M1.ev.map toEv) k with
              | true => rfl
              | false => rw [hflip.2 hb] at hch; cases hch
            rw [hb]
            have hc0 : c ≠ 0 := chkM_pos (k := _) hch rfl
            simp only
            exact decide_eq_false (by omega)
        generalize efM w.length (NE.map toEv) = ef at *
        repeat' (first | refine uN ?_ | refine g_k S ?_ | refine uC (kb) ?_ | refine uC (kw) ?_ | (refine uP ?_ ?_ <;> (intro h; ((try simp only [zs, ne_eq, and_true, true_and, eq_self, reduceCtorEq] at h); try exact zx))) | fail)
        refine Zf (σ := Nat) (fun i => [(0, .slice a w.length cap), (10, sl b 0 M1.ev.length cap9), (11, iv k), (12, .bool (pairN M1.ev k i)), (13, iv i)]) (fun _ => [(b, .cells ⟨(M1.ev.map ec).flatten ++ sp⟩ 81)] :: wdC Ga1 M1 :: f1 :: o3 :: o1 :: L)
            (fun i => i ≤ M1.ev.length) (fun i => M1.ev.length - i) 0 (by rw [← hk]; exact uS) (List.Sublist.refl _) (by simp) ?_
        intro i hi
        by_cases hit : i < M1.ev.length
        · have hgi := hgr i hit
          have hps := pairN_succ M1.ev k i
          rw [hgD i hit, hgD k hkl] at hps
          clear gP hvN hRN kj hflip hcode hNE
          generalize hxi : M1.ev[i] = xi at *
          generalize hxk : M1.ev[k] = xk at *
          generalize pairN M1.ev k i = pb at *
          obtain ⟨is, id, ip⟩ := xi
          obtain ⟨ks, kd, kp⟩ := xk
          simp only at hps
          repeat' (first | refine uN ?_ | refine g_k S ?_ | refine uC (kb) ?_ | refine uC (kw) ?_ | (refine uP ?_ ?_ <;> (intro h; ((try simp only [zs, ne_eq, and_true, true_and, eq_self, reduceCtorEq] at h); try exact zx))) | fail)
          · have e : pairN M1.ev k (i + 1) = true := by rw [hps]; simp; right; constructor <;> omega
            refine Zc (i + 1) (by simp only [e]; exact uS) (LS.refl _) (by omega) (by omega)
          · have e : pairN M1.ev k (i + 1) = pb := by rw [hps]; simp; omega
            refine Zc (i + 1) (by simp only [e]; exact uS) (LS.refl _) (by omega) (by omega)
          · have e : pairN M1.ev k (i + 1) = pb := by rw [hps]; simp; omega
            refine Zc (i + 1) (by simp only [e]; exact uS) (LS.refl _) (by omega) (by omega)
        · obtain rfl : i = M1.ev.length := by omega
          rw [pairN_all]
          generalize pairB (M1.ev.map toEv) k = pb at *
          repeat' (first | refine uN ?_ | refine g_k S ?_ | refine uC (kb) ?_ | refine uC (kw) ?_ | (refine uP ?_ ?_ <;> (intro h; ((try simp only [zs, ne_eq, and_true, true_and, eq_self, reduceCtorEq] at h); try exact zx))) | fail)
          refine gc (kj _ ((((((hE.er [2, 8, 9]).cons _).cons _).cons _).cons _).cons _)) ?_
          rintro v L' ⟨c, hfv, rfl⟩
          have kz := codedZ T E v ef.1 ef.2 c _ ((((((hE.cons o1).cons o3).cons f1).cons (wdC Ga1 M1)).cons [(b, .cells ⟨(NE.map ec).flatten ++ sp⟩ 81)])) hfv
          rw [hcode] at kz
          repeat' (first | refine uN ?_ | refine g_k S ?_ | refine uC (kb) ?_ | refine uC (kw) ?_ | refine uC (kz) ?_ | (refine uP ?_ ?_ <;> (intro h; ((try simp only [zs, ne_eq, and_true, true_and, eq_self, reduceCtorEq] at h); try exact zx))) | fail)
          have hne : decide ((!pb) ≠ pb) = true := by cases pb <;> rfl
          rw [hne]
          refine sp1 (L' := L) ?_ ⟨rfl, rfl⟩
          repeat (first | exact LS.refl _ | refine LS.c ?_)
    · refine Za (fun _ _ => Tryz.call11 _ _) Tryz.func11 rfl Tryz.ntmps11 (Nat.le_of_ble_eq_true rfl) ?_; simp only [args0, Nat.reduceAdd]
      repeat' (first | refine uN ?_ | refine g_k S ?_ | refine uC (kb) ?_ | refine uC (kw) ?_ | (refine uP ?_ ?_ <;> (intro h; ((try simp only [zs, ne_eq, and_true, true_and, eq_self, reduceCtorEq] at h); try exact zx))) | fail)
      all_goals exact sp1 (LS.refl _) ⟨rfl, rfl⟩
end Go.HL
end
