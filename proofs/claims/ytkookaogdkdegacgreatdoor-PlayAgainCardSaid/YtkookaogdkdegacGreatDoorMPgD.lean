/- Texts laid into one, without what the claim does not use. Conditions: none. -/
import Derived.Test.YtkookaogdkdegacGreatDoorMPgC
/-! LdC -/
section
namespace Go.HL
open Go Go.Proofs
set_option linter.unusedVariables false
set_option linter.unusedSimpArgs false
attribute [local irreducible] HW HO HQ HD HC QOp Has Upd Puts Gets seqQ blkQ loopQ fnQ actQ nextP unQ MapF
attribute [local irreducible] ldL
theorem countV_calls (T : Nat) (E : Nat → Addr) (lp : Nat) (wv : Value) (wc : List Blk) (m : Ld) (f : Fr) (L : Heap) (hG : Er T E [2, 3, 4] L) (hm : LdOk wv wc m) (hh : m.heard < 2 ^ m.w.length) (hw : m.wait ≠ 0) (hfit : fitsM m f) (hy : f.yes = true) (hkd : f.kd = 2) :
    HC Tryz.prog 74 [pt lp 0, .agg ⟨fc f⟩] (ldC lp wv wc m :: L) (fun v L' => ∃ c, FrVec v (countM (m2M m f)).2 c ∧ L' = c :: ldC lp wv wc (countM (m2M m f)).1 :: L) := by
  have hm2 := hm.m2 f
  have hlen := hm.len
  have htl := hm.told
  have hh7 : m.heard < 128 := Nat.lt_of_lt_of_le hh (Nat.pow_le_pow_right (by decide) hlen)
  have kf : ∀ L, _ := fun L => fits_calls lp wv wc m f L hm hh7
  obtain ⟨a, cap, rfl, hcap, hR⟩ := hm.vec.rd ic_len
  generalize hwv : Value.slice a m.w.length cap = wv at *
  obtain ⟨hfr, hfr2, hk0⟩ := fitsM_heard hfit
  rw [decide_eq_true hfit] at kf
  clear hfit
  obtain ⟨fr, to, dl0, kd, att, yes, s⟩ := f
  simp only at hy hfr hfr2 hkd hk0
  subst hy hkd
  obtain ⟨k, rfl⟩ := Int.eq_ofNat_of_zero_le hfr
  have hk7 : k < m.w.length := by omega
  generalize hM : m2M m ⟨k, to, dl0, 2, att, true, s⟩ = M at *
  have eM : M = { m with heard := m.heard ||| 2 ^ k, told := m.told.set k s } := by rw [← hM]; rfl
  have e1 : M.w = m.w := by rw [eM]
  have e2 : M.wait = 2 := by rw [eM]; exact hk0.symm
  have e3 : M.heard < 128 := by rw [eM]; exact heard_lt (n := 7) hh7 (by omega)
  have g3 : (ldL wv M)[0 + 3]? = some (.slice a m.w.length cap) := by rw [hwv]; exact ld_pre rfl
  have g5 : (ldL wv m)[0 + 5]? = some (iv m.wait) := ld_pre rfl
  have g5' : (ldL wv M)[0 + 5]? = some (iv 2) := by rw [← e2]; exact ld_pre rfl
  have g6 : (ldL wv m)[0 + 6]? = some (iv m.heard) := ld_pre rfl
  have g6' : (ldL wv M)[0 + 6]? = some (iv M.heard) := ld_pre rfl
  have p6 : Puts (ldL wv m) (0 + 6) [iv (((m.heard : Int).toNat ||| ((1 : Int) * 2 ^ (k : Int).toNat).toNat : Nat) : Int)] (ldL wv { m with heard := m.heard ||| 2 ^ k }) := by
    rw [or_int]; exact ld_pput rfl (by decide) rfl rfl rfl
  have pT : Puts (ldL wv { m with heard := m.heard ||| 2 ^ k }) (0 + 7 + (k : Int).toNat * 3) (sc s) (ldL wv M) := by
    rw [eM]; exact ld_putT (m := { m with heard := m.heard ||| 2 ^ k }) s (by show k < m.told.length; omega)
  have hsh := one_shl (k := k) (by omega)
  have hor := or_ok hh7 (show k < 7 by omega)
  have hsh2 := one_shl (k := m.w.length) (by omega)
  have hsh3 := shl_le hlen
  have hfull := full_int m.w.length
  have ke : ∀ b o, HC Tryz.prog 128 [.slice a m.w.length cap, iv M.heard] ([(b, o)] :: ldC lp wv wc M :: L) (fun v L' => v = .tuple ⟨[.bool (enoughW m.w M.heard).1, eV T E (enoughW m.w M.heard).2]⟩ ∧ L' = [(b, o)] :: ldC lp wv wc M :: L) := fun b o =>
    enough_calls T E a cap m.w M.heard _ ((hG.cons _).cons _) (((hR L).inn _).cons _) (by omega) (by omega)
  have kp := prepare_calls lp wv wc M 4
  have hc1 : M.heard = 2 ^ M.w.length - 1 → countM M = preM M 4 := fun h => if_pos ⟨e2, h⟩
  have hc2 : ¬ M.heard = 2 ^ M.w.length - 1 → countM M = (M, []) := fun h => by unfold countM; rw [if_neg (fun h2 => h h2.2), if_pos (.inl e2)]
  clear eM hM
  refine hc_enter (fun _ _ => Tryz.call74 _ _) Tryz.func74 rfl Tryz.ntmps74 (Nat.le_of_ble_eq_true rfl) ?_; simp only [args0, Nat.reduceAdd]
  repeat' (first | (show HW _ _ _ _ _ _; first | apply hw_seq | apply hw_region | apply hw_block | apply hw_exit | refine g_t ?_ | refine g_f ?_ | apply hw_skip | apply hw_ret | refine g_k S ?_ | refine g_w S ?_) | (show HO _ _ _ _ _ _ _; first | apply ho_nil | refine g_q (qe S) ?_ | refine g_q (ql S) ?_ | refine g_q (qs S) ?_ | refine g_q (qn S) ?_ | refine g_q (qC (hq1 kf 1)) ?_ | refine g_q (qC (ke _ _)) ?_ | refine g_n ?_ | refine g_on ?_ | refine wb (fun b => ?_) | refine ws S ?_) | (show HQ _ _ _ _ _ _ _; first | apply hq_nil | refine k_q (qe S) ?_ | refine k_q (ql S) ?_ | refine k_q (qs S) ?_ | refine k_q (qn S) ?_ | refine k_q (qC (hq1 kf 1)) ?_ | refine k_q (qC (ke _ _)) ?_ | refine k_n ?_) | (show HD _ _ _ _ _ _ _ _; first | apply hd_nil | refine d_q 100 (by exact rfl) (fun _ => qe S) ?_ | refine d_q 100 (by exact rfl) (fun _ => qn S) ?_ | refine dl S 100 ?_ | refine ds S 100 ?_ | refine d_n 100 ?_ | refine d_q 0 (by exact rfl) (fun _ => qC (hq1 kf 1)) ?_ | refine d_q 1 (by exact rfl) (fun _ => qC (hq1 kf 1)) ?_ | refine d_q 2 (by exact rfl) (fun _ => qC (hq1 kf 1)) ?_ | refine d_q 3 (by exact rfl) (fun _ => qC (hq1 kf 1)) ?_ | refine d_q 0 (by exact rfl) (fun _ => qC (ke _ _)) ?_ | refine d_q 1 (by exact rfl) (fun _ => qC (ke _ _)) ?_ | refine d_q 2 (by exact rfl) (fun _ => qC (ke _ _)) ?_ | refine d_q 3 (by exact rfl) (fun _ => qC (ke _ _)) ?_) | ((first | refine g_b (fun h => ?_) (fun h => ?_) | refine g_s (fun h => ?_) (fun h => ?_) | refine k_s (fun h => ?_) (fun h => ?_) | refine d_sp 100 (fun h => ?_) (fun h => ?_)) <;> ((try simp only [zA, zB, zC, zD, zE, zF, ne_eq, zG, zH, and_true, true_and, eq_self, zI, zJ, zK, reduceCtorEq, zL, zM] at h); (try (exfalso; first | omega | with_reducible exact h (by assumption) | with_reducible exact absurd h (by assumption))))) | (show HD _ _ _ _ _ _ _ _; refine da 101 ?_) | refine dx ?_ | apply dx0 | refine dxd ?_ | refine dxk ?_ | apply seqQ_normal | apply seqQ_ret | apply seqQ_exit | apply blkQ_here | refine g_bx ?_ | apply blkQ_ret | apply blkQ_normal)
  · rw [hc1 (by rw [e1]; omega)]
    refine fo 1 ?_
    refine gc (kp _ hm2) ?_
    rintro v L' ⟨c, hv, rfl⟩
    repeat' (first | (show HW _ _ _ _ _ _; first | apply hw_seq | apply hw_region | apply hw_block | apply hw_exit | refine g_t ?_ | refine g_f ?_ | apply hw_skip | apply hw_ret | refine g_k S ?_ | refine g_w S ?_) | (show HO _ _ _ _ _ _ _; first | apply ho_nil | refine g_q (qe S) ?_ | refine g_q (ql S) ?_ | refine g_q (qs S) ?_ | refine g_q (qn S) ?_ | refine g_n ?_ | refine g_on ?_ | refine wb (fun b => ?_) | refine ws S ?_) | (show HQ _ _ _ _ _ _ _; first | apply hq_nil | refine k_q (qe S) ?_ | refine k_q (ql S) ?_ | refine k_q (qs S) ?_ | refine k_q (qn S) ?_ | refine k_n ?_) | (show HD _ _ _ _ _ _ _ _; first | apply hd_nil | refine d_q 100 (by exact rfl) (fun _ => qe S) ?_ | refine d_q 100 (by exact rfl) (fun _ => qn S) ?_ | refine dl S 100 ?_ | refine ds S 100 ?_ | refine d_n 100 ?_) | ((first | refine g_b (fun h => ?_) (fun h => ?_) | refine g_s (fun h => ?_) (fun h => ?_) | refine k_s (fun h => ?_) (fun h => ?_) | refine d_sp 100 (fun h => ?_) (fun h => ?_)) <;> ((try simp only [zA, zB, zC, zD, zE, zF, ne_eq, zG, zH, and_true, true_and, eq_self, zI, zJ, zK, reduceCtorEq, zL, zM] at h); (try (exfalso; first | omega | with_reducible exact h (by assumption) | with_reducible exact absurd h (by assumption))))) | (show HD _ _ _ _ _ _ _ _; refine da 101 ?_) | refine dx ?_ | apply dx0 | refine dxd ?_ | refine dxk ?_ | apply seqQ_normal | apply seqQ_ret | apply seqQ_exit | apply blkQ_here | refine g_bx ?_ | apply blkQ_ret | apply blkQ_normal)
    exact sp1 (by repeat (first | exact LS.refl _ | apply LS.k | apply LS.c)) ⟨c, hv, rfl⟩
  · rw [hc2 (by rw [e1]; omega)]
    exact sp1 (L' := [] :: ldC lp wv wc M :: L) (LS.skip _ (LS.refl _)) ⟨[], vec_nil, rfl⟩
theorem countN_calls (T : Nat) (E : Nat → Addr) (lp : Nat) (wv : Value) (wc : List Blk) (m : Ld) (f : Fr) (L : Heap) (hG : Er T E [2, 3, 4] L) (hm : LdOk wv wc m) (hh : m.heard < 2 ^ m.w.length) (hw : m.wait ≠ 0) (hfit : fitsM m f) (hy : f.yes = true) (hkd : f.kd ≠ 2) :
    HC Tryz.prog 74 [pt lp 0, .agg ⟨fc f⟩] (ldC lp wv wc m :: L) (fun v L' => ∃ c, FrVec v (countM (m2M m f)).2 c ∧ L' = c :: ldC lp wv wc (countM (m2M m f)).1 :: L) := by
  have hm2 := hm.m2 f
  have hlen := hm.len
  have htl := hm.told
  have hh7 : m.heard < 128 := Nat.lt_of_lt_of_le hh (Nat.pow_le_pow_right (by decide) hlen)
  have kf : ∀ L, _ := fun L => fits_calls lp wv wc m f L hm hh7
  obtain ⟨a, cap, rfl, hcap, hR⟩ := hm.vec.rd ic_len
  generalize hwv : Value.slice a m.w.length cap = wv at *
  obtain ⟨hfr, hfr2, hk0⟩ := fitsM_heard hfit
  rw [decide_eq_true hfit] at kf
  clear hfit
  obtain ⟨fr, to, dl0, kd, att, yes, s⟩ := f
  simp only at hy hfr hfr2 hkd hk0
  subst hy
  obtain ⟨k, rfl⟩ := Int.eq_ofNat_of_zero_le hfr
  have hk7 : k < m.w.length := by omega
  generalize hM : m2M m ⟨k, to, dl0, kd, att, true, s⟩ = M at *
  have eM : M = { m with seen := max m.seen s.pr, heard := m.heard ||| 2 ^ k, told := m.told.set k s } := by rw [← hM]; simp only [m2M, m1M, if_neg hkd]; rfl
  have e1 : M.w = m.w := by rw [eM]
  have e2 : M.wait = kd := by rw [eM]; exact hk0.symm
  have e3 : M.heard < 128 := by rw [eM]; exact heard_lt (n := 7) hh7 (by omega)
  have g3 : (ldL wv M)[0 + 3]? = some (.slice a m.w.length cap) := by rw [hwv]; exact ld_pre rfl
  have g5 : (ldL wv m)[0 + 5]? = some (iv m.wait) := ld_pre rfl
  have g5' : (ldL wv M)[0 + 5]? = some (iv kd) := by rw [← e2]; exact ld_pre rfl
  have g6 : (ldL wv { m with seen := max m.seen s.pr })[0 + 6]? = some (iv m.heard) := ld_pre rfl
  have g6' : (ldL wv M)[0 + 6]? = some (iv M.heard) := ld_pre rfl
  have g8' : (ldL wv M)[0 + 28]? = some (iv M.phase) := ld_phase hm2.told
  have g9 : (ldL wv m)[0 + 29]? = some (iv m.seen) := ld_seen htl
  have p9 : Puts (ldL wv m) (0 + 29) [iv (max m.seen s.pr)] (ldL wv { m with seen := max m.seen s.pr }) := ld_put29 htl _
  have p6 : Puts (ldL wv { m with seen := max m.seen s.pr }) (0 + 6) [iv (((m.heard : Int).toNat ||| ((1 : Int) * 2 ^ (k : Int).toNat).toNat : Nat) : Int)] (ldL wv { m with seen := max m.seen s.pr, heard := m.heard ||| 2 ^ k }) := by
    rw [or_int]; exact ld_pput rfl (by decide) rfl rfl rfl
  have pT : Puts (ldL wv { m with seen := max m.seen s.pr, heard := m.heard ||| 2 ^ k }) (0 + 7 + (k : Int).toNat * 3) (sc s) (ldL wv M) := by
    rw [eM]; exact ld_putT (m := { m with seen := max m.seen s.pr, heard := m.heard ||| 2 ^ k }) s (by show k < m.told.length; omega)
  have hsh := one_shl (k := k) (by omega)
  have hor := or_ok hh7 (show k < 7 by omega)
  have ke : ∀ b o, HC Tryz.prog 128 [.slice a m.w.length cap, iv M.heard] ([(b, o)] :: ldC lp wv wc M :: L) (fun v L' => v = .tuple ⟨[.bool (enoughW m.w M.heard).1, eV T E (enoughW m.w M.heard).2]⟩ ∧ L' = [(b, o)] :: ldC lp wv wc M :: L) := fun b o =>
    enough_calls T E a cap m.w M.heard _ ((hG.cons _).cons _) (((hR L).inn _).cons _) (by omega) (by omega)
  have kd1 := decide_calls lp wv wc M (afterS M.phase)
  have kd2 := decide_calls lp wv wc M (chooseS (statesM M)).1
  have kp := prepare_calls lp wv wc M (chooseS (statesM M)).1
  have ks := fun L => states_calls lp wv wc M L hm2 e3
  have hst : (statesM M).length ≤ 7 := by
    have := flat_len_leS (stOf M) (stOf_le M) M.w.length
    have e9 : M.w.length = m.w.length := by rw [e1]
    show ((List.range M.w.length).flatMap (stOf M)).length ≤ 7
    omega
  have hc0 : ¬ (M.wait = 2 ∧ M.heard = 2 ^ M.w.length - 1) := by rw [e2]; exact fun h => hkd h.1
  have hc1 : (enoughW m.w M.heard).1 = false → countM M = (M, []) := fun h => by unfold countM; rw [if_neg hc0, e1, if_pos (.inr h)]
  have hc2 : (enoughW m.w M.heard).1 = true → kd = 6 → countM M = decdM M (afterS M.phase) := fun h h6 => by unfold countM; rw [if_neg hc0, e1, if_neg (by rw [h, e2]; simp [hkd]), e2, if_pos h6]
  have hc3 : (enoughW m.w M.heard).1 = true → kd ≠ 6 → countM M = if (chooseS (statesM M)).2 then decdM M (chooseS (statesM M)).1 else preM M (chooseS (statesM M)).1 := fun h h6 => by unfold countM; rw [if_neg hc0, e1, if_neg (by rw [h, e2]; simp [hkd]), e2, if_neg h6]
  generalize (enoughW m.w M.heard).1 = en at *
  clear eM hM hc0
  refine hc_enter (fun _ _ => Tryz.call74 _ _) Tryz.func74 rfl Tryz.ntmps74 (Nat.le_of_ble_eq_true rfl) ?_; simp only [args0, Nat.reduceAdd]
  repeat' (first | (show HW _ _ _ _ _ _; first | apply hw_seq | apply hw_region | apply hw_block | apply hw_exit | refine g_t ?_ | refine g_f ?_ | apply hw_skip | apply hw_ret | refine g_k S ?_ | refine g_w S ?_) | (show HO _ _ _ _ _ _ _; first | apply ho_nil | refine g_q (qe S) ?_ | refine g_q (ql S) ?_ | refine g_q (qs S) ?_ | refine g_q (qn S) ?_ | refine g_q (qC (hq1 kf 1)) ?_ | refine g_q (qC (ke _ _)) ?_ | refine g_q (qC (after_calls _ _)) ?_ | refine g_n ?_ | refine g_on ?_ | refine wb (fun b => ?_) | refine ws S ?_) | (show HQ _ _ _ _ _ _ _; first | apply hq_nil | refine k_q (qe S) ?_ | refine k_q (ql S) ?_ | refine k_q (qs S) ?_ | refine k_q (qn S) ?_ | refine k_q (qC (hq1 kf 1)) ?_ | refine k_q (qC (ke _ _)) ?_ | refine k_q (qC (after_calls _ _)) ?_ | refine k_n ?_) | (show HD _ _ _ _ _ _ _ _; first | apply hd_nil | refine d_q 100 (by exact rfl) (fun _ => qe S) ?_ | refine d_q 100 (by exact rfl) (fun _ => qn S) ?_ | refine dl S 100 ?_ | refine ds S 100 ?_ | refine d_n 100 ?_ | refine d_q 0 (by exact rfl) (fun _ => qC (hq1 kf 1)) ?_ | refine d_q 1 (by exact rfl) (fun _ => qC (hq1 kf 1)) ?_ | refine d_q 2 (by exact rfl) (fun _ => qC (hq1 kf 1)) ?_ | refine d_q 3 (by exact rfl) (fun _ => qC (hq1 kf 1)) ?_ | refine d_q 0 (by exact rfl) (fun _ => qC (ke _ _)) ?_ | refine d_q 1 (by exact rfl) (fun _ => qC (ke _ _)) ?_ | refine d_q 2 (by exact rfl) (fun _ => qC (ke _ _)) ?_ | refine d_q 3 (by exact rfl) (fun _ => qC (ke _ _)) ?_ | refine d_q 0 (by exact rfl) (fun _ => qC (after_calls _ _)) ?_ | refine d_q 1 (by exact rfl) (fun _ => qC (after_calls _ _)) ?_ | refine d_q 2 (by exact rfl) (fun _ => qC (after_calls _ _)) ?_ | refine d_q 3 (by exact rfl) (fun _ => qC (after_calls _ _)) ?_) | ((first | refine g_b (fun h => ?_) (fun h => ?_) | refine g_s (fun h => ?_) (fun h => ?_) | refine k_s (fun h => ?_) (fun h => ?_) | refine d_sp 100 (fun h => ?_) (fun h => ?_)) <;> ((try simp only [zA, zB, zC, zD, zE, zF, ne_eq, zG, zH, and_true, true_and, eq_self, zI, zJ, zK, reduceCtorEq, zL, zM] at h); (try (exfalso; first | omega | with_reducible exact h (by assumption) | with_reducible exact absurd h (by assumption))))) | (show HD _ _ _ _ _ _ _ _; refine da 101 ?_) | refine dx ?_ | apply dx0 | refine dxd ?_ | refine dxk ?_ | apply seqQ_normal | apply seqQ_ret | apply seqQ_exit | apply blkQ_here | refine g_bx ?_ | apply blkQ_ret | apply blkQ_normal)
  · rw [hc1 h]
    exact sp1 (L' := [] :: ldC lp wv wc M :: L) (LS.skip _ (LS.refl _)) ⟨[], vec_nil, rfl⟩
  · rename_i hen
    rw [hc2 hen h]
    refine fo 1 ?_
    refine gc (kd1 _ hm2) ?_
    rintro v L' ⟨c, hv, rfl⟩
    repeat' (first | (show HW _ _ _ _ _ _; first | apply hw_seq | apply hw_region | apply hw_block | apply hw_exit | refine g_t ?_ | refine g_f ?_ | apply hw_skip | apply hw_ret | refine g_k S ?_ | refine g_w S ?_) | (show HO _ _ _ _ _ _ _; first | apply ho_nil | refine g_q (qe S) ?_ | refine g_q (ql S) ?_ | refine g_q (qs S) ?_ | refine g_q (qn S) ?_ | refine g_n ?_ | refine g_on ?_ | refine wb (fun b => ?_) | refine ws S ?_) | (show HQ _ _ _ _ _ _ _; first | apply hq_nil | refine k_q (qe S) ?_ | refine k_q (ql S) ?_ | refine k_q (qs S) ?_ | refine k_q (qn S) ?_ | refine k_n ?_) | (show HD _ _ _ _ _ _ _ _; first | apply hd_nil | refine d_q 100 (by exact rfl) (fun _ => qe S) ?_ | refine d_q 100 (by exact rfl) (fun _ => qn S) ?_ | refine dl S 100 ?_ | refine ds S 100 ?_ | refine d_n 100 ?_) | ((first | refine g_b (fun h => ?_) (fun h => ?_) | refine g_s (fun h => ?_) (fun h => ?_) | refine k_s (fun h => ?_) (fun h => ?_) | refine d_sp 100 (fun h => ?_) (fun h => ?_)) <;> ((try simp only [zA, zB, zC, zD, zE, zF, ne_eq, zG, zH, and_true, true_and, eq_self, zI, zJ, zK, reduceCtorEq, zL, zM] at h); (try (exfalso; first | omega | with_reducible exact h (by assumption) | with_reducible exact absurd h (by assumption))))) | (show HD _ _ _ _ _ _ _ _; refine da 101 ?_) | refine dx ?_ | apply dx0 | refine dxd ?_ | refine dxk ?_ | apply seqQ_normal | apply seqQ_ret | apply seqQ_exit | apply blkQ_here | refine g_bx ?_ | apply blkQ_ret | apply blkQ_normal)
    exact sp1 (by repeat (first | exact LS.refl _ | apply LS.k | apply LS.c)) ⟨c, hv, rfl⟩
  · rename_i hen
    rw [hc3 hen h]
    refine fo 1 ?_
    refine gc (ks _) ?_
    rintro v L' ⟨c, hv, rfl⟩
    obtain ⟨a2, cap2, rfl, hcap2, hR2⟩ := hv.rd sc_len
    have kc := fun L => choose_calls a2 cap2 (statesM M) (c :: L) (hR2 L) (by omega)
    repeat' (first | (show HW _ _ _ _ _ _; first | apply hw_seq | apply hw_region | apply hw_block | apply hw_exit | refine g_t ?_ | refine g_f ?_ | apply hw_skip | apply hw_ret | refine g_k S ?_ | refine g_w S ?_) | (show HO _ _ _ _ _ _ _; first | apply ho_nil | refine g_q (qe S) ?_ | refine g_q (ql S) ?_ | refine g_q (qs S) ?_ | refine g_q (qn S) ?_ | refine g_q (qC (kc _)) ?_ | refine g_n ?_ | refine g_on ?_ | refine wb (fun b => ?_) | refine ws S ?_) | (show HQ _ _ _ _ _ _ _; first | apply hq_nil | refine k_q (qe S) ?_ | refine k_q (ql S) ?_ | refine k_q (qs S) ?_ | refine k_q (qn S) ?_ | refine k_q (qC (kc _)) ?_ | refine k_n ?_) | (show HD _ _ _ _ _ _ _ _; first | apply hd_nil | refine d_q 100 (by exact rfl) (fun _ => qe S) ?_ | refine d_q 100 (by exact rfl) (fun _ => qn S) ?_ | refine dl S 100 ?_ | refine ds S 100 ?_ | refine d_n 100 ?_ | refine d_q 0 (by exact rfl) (fun _ => qC (kc _)) ?_ | refine d_q 1 (by exact rfl) (fun _ => qC (kc _)) ?_ | refine d_q 2 (by exact rfl) (fun _ => qC (kc _)) ?_ | refine d_q 3 (by exact rfl) (fun _ => qC (kc _)) ?_) | ((first | refine g_b (fun h => ?_) (fun h => ?_) | refine g_s (fun h => ?_) (fun h => ?_) | refine k_s (fun h => ?_) (fun h => ?_) | refine d_sp 100 (fun h => ?_) (fun h => ?_)) <;> ((try simp only [zA, zB, zC, zD, zE, zF, ne_eq, zG, zH, and_true, true_and, eq_self, zI, zJ, zK, reduceCtorEq, zL, zM] at h); (try (exfalso; first | omega | with_reducible exact h (by assumption) | with_reducible exact absurd h (by assumption))))) | (show HD _ _ _ _ _ _ _ _; refine da 101 ?_) | refine dx ?_ | apply dx0 | refine dxd ?_ | refine dxk ?_ | apply seqQ_normal | apply seqQ_ret | apply seqQ_exit | apply blkQ_here | refine g_bx ?_ | apply blkQ_ret | apply blkQ_normal)
    · rename_i hfin
      rw [if_pos h]
      refine fo 1 ?_
      refine gc (kd2 _ hm2) ?_
      rintro v L' ⟨c3, hv3, rfl⟩
      repeat' (first | (show HW _ _ _ _ _ _; first | apply hw_seq | apply hw_region | apply hw_block | apply hw_exit | refine g_t ?_ | refine g_f ?_ | apply hw_skip | apply hw_ret | refine g_k S ?_ | refine g_w S ?_) | (show HO _ _ _ _ _ _ _; first | apply ho_nil | refine g_q (qe S) ?_ | refine g_q (ql S) ?_ | refine g_q (qs S) ?_ | refine g_q (qn S) ?_ | refine g_n ?_ | refine g_on ?_ | refine wb (fun b => ?_) | refine ws S ?_) | (show HQ _ _ _ _ _ _ _; first | apply hq_nil | refine k_q (qe S) ?_ | refine k_q (ql S) ?_ | refine k_q (qs S) ?_ | refine k_q (qn S) ?_ | refine k_n ?_) | (show HD _ _ _ _ _ _ _ _; first | apply hd_nil | refine d_q 100 (by exact rfl) (fun _ => qe S) ?_ | refine d_q 100 (by exact rfl) (fun _ => qn S) ?_ | refine dl S 100 ?_ | refine ds S 100 ?_ | refine d_n 100 ?_) | ((first | refine g_b (fun h => ?_) (fun h => ?_) | refine g_s (fun h => ?_) (fun h => ?_) | refine k_s (fun h => ?_) (fun h => ?_) | refine d_sp 100 (fun h => ?_) (fun h => ?_)) <;> ((try simp only [zA, zB, zC, zD, zE, zF, ne_eq, zG, zH, and_true, true_and, eq_self, zI, zJ, zK, reduceCtorEq, zL, zM] at h); (try (exfalso; first | omega | with_reducible exact h (by assumption) | with_reducible exact absurd h (by assumption))))) | (show HD _ _ _ _ _ _ _ _; refine da 101 ?_) | refine dx ?_ | apply dx0 | refine dxd ?_ | refine dxk ?_ | apply seqQ_normal | apply seqQ_ret | apply seqQ_exit | apply blkQ_here | refine g_bx ?_ | apply blkQ_ret | apply blkQ_normal)
      exact sp1 (by repeat (first | exact LS.refl _ | apply LS.k | apply LS.c)) ⟨c3, hv3, rfl⟩
    · rename_i hfin
      rw [if_neg (by simp [h])]
      refine fo 1 ?_
      refine gc (kp _ hm2) ?_
      rintro v L' ⟨c3, hv3, rfl⟩
      repeat' (first | (show HW _ _ _ _ _ _; first | apply hw_seq | apply hw_region | apply hw_block | apply hw_exit | refine g_t ?_ | refine g_f ?_ | apply hw_skip | apply hw_ret | refine g_k S ?_ | refine g_w S ?_) | (show HO _ _ _ _ _ _ _; first | apply ho_nil | refine g_q (qe S) ?_ | refine g_q (ql S) ?_ | refine g_q (qs S) ?_ | refine g_q (qn S) ?_ | refine g_n ?_ | refine g_on ?_ | refine wb (fun b => ?_) | refine ws S ?_) | (show HQ _ _ _ _ _ _ _; first | apply hq_nil | refine k_q (qe S) ?_ | refine k_q (ql S) ?_ | refine k_q (qs S) ?_ | refine k_q (qn S) ?_ | refine k_n ?_) | (show HD _ _ _ _ _ _ _ _; first | apply hd_nil | refine d_q 100 (by exact rfl) (fun _ => qe S) ?_ | refine d_q 100 (by exact rfl) (fun _ => qn S) ?_ | refine dl S 100 ?_ | refine ds S 100 ?_ | refine d_n 100 ?_) | ((first | refine g_b (fun h => ?_) (fun h => ?_) | refine g_s (fun h => ?_) (fun h => ?_) | refine k_s (fun h => ?_) (fun h => ?_) | refine d_sp 100 (fun h => ?_) (fun h => ?_)) <;> ((try simp only [zA, zB, zC, zD, zE, zF, ne_eq, zG, zH, and_true, true_and, eq_self, zI, zJ, zK, reduceCtorEq, zL, zM] at h); (try (exfalso; first | omega | with_reducible exact h (by assumption) | with_reducible exact absurd h (by assumption))))) | (show HD _ _ _ _ _ _ _ _; refine da 101 ?_) | refine dx ?_ | apply dx0 | refine dxd ?_ | refine dxk ?_ | apply seqQ_normal | apply seqQ_ret | apply seqQ_exit | apply blkQ_here | refine g_bx ?_ | apply blkQ_ret | apply blkQ_normal)
      exact sp1 (by repeat (first | exact LS.refl _ | apply LS.k | apply LS.c)) ⟨c3, hv3, rfl⟩
theorem hear_calls (T : Nat) (E : Nat → Addr) (lp : Nat) (wv : Value) (wc : List Blk) (m : Ld) (f : Fr) (L : Heap) (hG : Er T E [2, 3, 4] L) (hm : LdOk wv wc m) (hh : m.heard < 2 ^ m.w.length) :
    HC Tryz.prog 74 [pt lp 0, .agg ⟨fc f⟩] (ldC lp wv wc m :: L) (fun v L' => ∃ c, FrVec v (hearM m f).2 c ∧ L' = c :: ldC lp wv wc (hearM m f).1 :: L) := by
  have hh7 : m.heard < 128 := Nat.lt_of_lt_of_le hh (Nat.pow_le_pow_right (by decide) hm.len)
  have kf : ∀ L, _ := fun L => fits_calls lp wv wc m f L hm hh7
  have g5 : (ldL wv m)[0 + 5]? = some (iv m.wait) := ld_pre rfl
  by_cases hw : m.wait = 0 ∨ ¬ fitsM m f
  · rw [hear_wait hw]
    by_cases h0 : m.wait = 0
    · refine hc_enter (fun _ _ => Tryz.call74 _ _) Tryz.func74 rfl Tryz.ntmps74 (Nat.le_of_ble_eq_true rfl) ?_; simp only [args0, Nat.reduceAdd]
      repeat' (first | (show HW _ _ _ _ _ _; first | apply hw_seq | apply hw_region | apply hw_block | apply hw_exit | refine g_t ?_ | refine g_f ?_ | apply hw_skip | apply hw_ret | refine g_k S ?_ | refine g_w S ?_) | (show HO _ _ _ _ _ _ _; first | apply ho_nil | refine g_q (qe S) ?_ | refine g_q (ql S) ?_ | refine g_q (qs S) ?_ | refine g_q (qn S) ?_ | refine g_n ?_ | refine g_on ?_ | refine wb (fun b => ?_) | refine ws S ?_) | (show HQ _ _ _ _ _ _ _; first | apply hq_nil | refine k_q (qe S) ?_ | refine k_q (ql S) ?_ | refine k_q (qs S) ?_ | refine k_q (qn S) ?_ | refine k_n ?_) | (show HD _ _ _ _ _ _ _ _; first | apply hd_nil | refine d_q 100 (by exact rfl) (fun _ => qe S) ?_ | refine d_q 100 (by exact rfl) (fun _ => qn S) ?_ | refine dl S 100 ?_ | refine ds S 100 ?_ | refine d_n 100 ?_) | ((first | refine g_b (fun h => ?_) (fun h => ?_) | refine g_s (fun h => ?_) (fun h => ?_) | refine k_s (fun h => ?_) (fun h => ?_) | refine d_sp 100 (fun h => ?_) (fun h => ?_)) <;> ((try simp only [zA, zB, zC, zD, zE, zF, ne_eq, zG, zH, and_true, true_and, eq_self, zI, zJ, zK, reduceCtorEq, zL, zM] at h); (try (exfalso; first | omega | with_reducible exact h (by assumption) | with_reducible exact absurd h (by assumption))))) | (show HD _ _ _ _ _ _ _ _; refine da 101 ?_) | refine dx ?_ | apply dx0 | refine dxd ?_ | refine dxk ?_ | apply seqQ_normal | apply seqQ_ret | apply seqQ_exit | apply blkQ_here | refine g_bx ?_ | apply blkQ_ret | apply blkQ_normal)
      exact sp1 (L' := [] :: ldC lp wv wc m :: L) (LS.skip _ (LS.refl _)) ⟨[], vec_nil, rfl⟩
    · rw [decide_eq_false (by rcases hw with h | h; exact absurd h h0; exact h)] at kf
      refine hc_enter (fun _ _ => Tryz.call74 _ _) Tryz.func74 rfl Tryz.ntmps74 (Nat.le_of_ble_eq_true rfl) ?_; simp only [args0, Nat.reduceAdd]
      repeat' (first | (show HW _ _ _ _ _ _; first | apply hw_seq | apply hw_region | apply hw_block | apply hw_exit | refine g_t ?_ | refine g_f ?_ | apply hw_skip | apply hw_ret | refine g_k S ?_ | refine g_w S ?_) | (show HO _ _ _ _ _ _ _; first | apply ho_nil | refine g_q (qe S) ?_ | refine g_q (ql S) ?_ | refine g_q (qs S) ?_ | refine g_q (qn S) ?_ | refine g_q (qC (hq1 kf 1)) ?_ | refine g_n ?_ | refine g_on ?_ | refine wb (fun b => ?_) | refine ws S ?_) | (show HQ _ _ _ _ _ _ _; first | apply hq_nil | refine k_q (qe S) ?_ | refine k_q (ql S) ?_ | refine k_q (qs S) ?_ | refine k_q (qn S) ?_ | refine k_q (qC (hq1 kf 1)) ?_ | refine k_n ?_) | (show HD _ _ _ _ _ _ _ _; first | apply hd_nil | refine d_q 100 (by exact rfl) (fun _ => qe S) ?_ | refine d_q 100 (by exact rfl) (fun _ => qn S) ?_ | refine dl S 100 ?_ | refine ds S 100 ?_ | refine d_n 100 ?_ | refine d_q 0 (by exact rfl) (fun _ => qC (hq1 kf 1)) ?_ | refine d_q 1 (by exact rfl) (fun _ => qC (hq1 kf 1)) ?_ | refine d_q 2 (by exact rfl) (fun _ => qC (hq1 kf 1)) ?_ | refine d_q 3 (by exact rfl) (fun _ => qC (hq1 kf 1)) ?_) | ((first | refine g_b (fun h => ?_) (fun h => ?_) | refine g_s (fun h => ?_) (fun h => ?_) | refine k_s (fun h => ?_) (fun h => ?_) | refine d_sp 100 (fun h => ?_) (fun h => ?_)) <;> ((try simp only [zA, zB, zC, zD, zE, zF, ne_eq, zG, zH, and_true, true_and, eq_self, zI, zJ, zK, reduceCtorEq, zL, zM] at h); (try (exfalso; first | omega | with_reducible exact h (by assumption) | with_reducible exact absurd h (by assumption))))) | (show HD _ _ _ _ _ _ _ _; refine da 101 ?_) | refine dx ?_ | apply dx0 | refine dxd ?_ | refine dxk ?_ | apply seqQ_normal | apply seqQ_ret | apply seqQ_exit | apply blkQ_here | refine g_bx ?_ | apply blkQ_ret | apply blkQ_normal)
      exact sp1 (L' := [] :: ldC lp wv wc m :: L) (LS.skip _ (LS.refl _)) ⟨[], vec_nil, rfl⟩
  · have hfit : fitsM m f := by
      by_cases h : fitsM m f
      · exact h
      · exact absurd (.inr h) hw
    have hw0 : m.wait ≠ 0 := fun h => hw (.inl h)
    by_cases hy : f.yes = true
    · have e : hearM m f = countM (m2M m f) := by unfold hearM; rw [if_neg hw, if_neg (by simp [hy])]
      rw [e]
      by_cases hkd : f.kd = 2
      · exact countV_calls T E lp wv wc m f L hG hm hh hw0 hfit hy hkd
      · exact countN_calls T E lp wv wc m f L hG hm hh hw0 hfit hy hkd
    · have hy' : f.yes = false := by simpa using hy
      have e : hearM m f = noM (m1M m f) := by unfold hearM; rw [if_neg hw, if_pos hy']
      rw [e]
      rw [decide_eq_true hfit] at kf
      clear hw hfit e
      have kn := no_calls lp wv wc (m1M m f)
      have hm1 := hm.m1 f
      have g9 : (ldL wv m)[0 + 29]? = some (iv m.seen) := ld_seen hm.told
      by_cases hkd : f.kd = 2
      · have e1 : m1M m f = m := if_pos hkd
        rw [e1] at kn hm1 ⊢
        refine hc_enter (fun _ _ => Tryz.call74 _ _) Tryz.func74 rfl Tryz.ntmps74 (Nat.le_of_ble_eq_true rfl) ?_; simp only [args0, Nat.reduceAdd]
        repeat' (first | (show HW _ _ _ _ _ _; first | apply hw_seq | apply hw_region | apply hw_block | apply hw_exit | refine g_t ?_ | refine g_f ?_ | apply hw_skip | apply hw_ret | refine g_k S ?_ | refine g_w S ?_) | (show HO _ _ _ _ _ _ _; first | apply ho_nil | refine g_q (qe S) ?_ | refine g_q (ql S) ?_ | refine g_q (qs S) ?_ | refine g_q (qn S) ?_ | refine g_q (qC (hq1 kf 1)) ?_ | refine g_n ?_ | refine g_on ?_ | refine wb (fun b => ?_) | refine ws S ?_) | (show HQ _ _ _ _ _ _ _; first | apply hq_nil | refine k_q (qe S) ?_ | refine k_q (ql S) ?_ | refine k_q (qs S) ?_ | refine k_q (qn S) ?_ | refine k_q (qC (hq1 kf 1)) ?_ | refine k_n ?_) | (show HD _ _ _ _ _ _ _ _; first | apply hd_nil | refine d_q 100 (by exact rfl) (fun _ => qe S) ?_ | refine d_q 100 (by exact rfl) (fun _ => qn S) ?_ | refine dl S 100 ?_ | refine ds S 100 ?_ | refine d_n 100 ?_ | refine d_q 0 (by exact rfl) (fun _ => qC (hq1 kf 1)) ?_ | refine d_q 1 (by exact rfl) (fun _ => qC (hq1 kf 1)) ?_ | refine d_q 2 (by exact rfl) (fun _ => qC (hq1 kf 1)) ?_ | refine d_q 3 (by exact rfl) (fun _ => qC (hq1 kf 1)) ?_) | ((first | refine g_b (fun h => ?_) (fun h => ?_) | refine g_s (fun h => ?_) (fun h => ?_) | refine k_s (fun h => ?_) (fun h => ?_) | refine d_sp 100 (fun h => ?_) (fun h => ?_)) <;> ((try simp only [zA, zB, zC, zD, zE, zF, ne_eq, zG, zH, and_true, true_and, eq_self, zI, zJ, zK, reduceCtorEq, zL, zM] at h); (try (exfalso; first | omega | with_reducible exact h (by assumption) | with_reducible exact absurd h (by assumption))))) | (show HD _ _ _ _ _ _ _ _; refine da 101 ?_) | refine dx ?_ | apply dx0 | refine dxd ?_ | refine dxk ?_ | apply seqQ_normal | apply seqQ_ret | apply seqQ_exit | apply blkQ_here | refine g_bx ?_ | apply blkQ_ret | apply blkQ_normal)
        refine fo 1 ?_
        refine gc (kn _ hm1) ?_
        rintro v L' ⟨c, hv, rfl⟩
        repeat' (first | (show HW _ _ _ _ _ _; first | apply hw_seq | apply hw_region | apply hw_block | apply hw_exit | refine g_t ?_ | refine g_f ?_ | apply hw_skip | apply hw_ret | refine g_k S ?_ | refine g_w S ?_) | (show HO _ _ _ _ _ _ _; first | apply ho_nil | refine g_q (qe S) ?_ | refine g_q (ql S) ?_ | refine g_q (qs S) ?_ | refine g_q (qn S) ?_ | refine g_n ?_ | refine g_on ?_ | refine wb (fun b => ?_) | refine ws S ?_) | (show HQ _ _ _ _ _ _ _; first | apply hq_nil | refine k_q (qe S) ?_ | refine k_q (ql S) ?_ | refine k_q (qs S) ?_ | refine k_q (qn S) ?_ | refine k_n ?_) | (show HD _ _ _ _ _ _ _ _; first | apply hd_nil | refine d_q 100 (by exact rfl) (fun _ => qe S) ?_ | refine d_q 100 (by exact rfl) (fun _ => qn S) ?_ | refine dl S 100 ?_ | refine ds S 100 ?_ | refine d_n 100 ?_) | ((first | refine g_b (fun h => ?_) (fun h => ?_) | refine g_s (fun h => ?_) (fun h => ?_) | refine k_s (fun h => ?_) (fun h => ?_) | refine d_sp 100 (fun h => ?_) (fun h => ?_)) <;> ((try simp only [zA, zB, zC, zD, zE, zF, ne_eq, zG, zH, and_true, true_and, eq_self, zI, zJ, zK, reduceCtorEq, zL, zM] at h); (try (exfalso; first | omega | with_reducible exact h (by assumption) | with_reducible exact absurd h (by assumption))))) | (show HD _ _ _ _ _ _ _ _; refine da 101 ?_) | refine dx ?_ | apply dx0 | refine dxd ?_ | refine dxk ?_ | apply seqQ_normal | apply seqQ_ret | apply seqQ_exit | apply blkQ_here | refine g_bx ?_ | apply blkQ_ret | apply blkQ_normal)
        exact sp1 (by repeat (first | exact LS.refl _ | apply LS.k | apply LS.c)) ⟨c, hv, rfl⟩
      · have p9 : Puts (ldL wv m) (0 + 29) [iv (max m.seen f.s.pr)] (ldL wv (m1M m f)) := by
          unfold m1M; rw [if_neg hkd]; exact ld_put29 hm.told _
        refine hc_enter (fun _ _ => Tryz.call74 _ _) Tryz.func74 rfl Tryz.ntmps74 (Nat.le_of_ble_eq_true rfl) ?_; simp only [args0, Nat.reduceAdd]
        repeat' (first | (show HW _ _ _ _ _ _; first | apply hw_seq | apply hw_region | apply hw_block | apply hw_exit | refine g_t ?_ | refine g_f ?_ | apply hw_skip | apply hw_ret | refine g_k S ?_ | refine g_w S ?_) | (show HO _ _ _ _ _ _ _; first | apply ho_nil | refine g_q (qe S) ?_ | refine g_q (ql S) ?_ | refine g_q (qs S) ?_ | refine g_q (qn S) ?_ | refine g_q (qC (hq1 kf 1)) ?_ | refine g_n ?_ | refine g_on ?_ | refine wb (fun b => ?_) | refine ws S ?_) | (show HQ _ _ _ _ _ _ _; first | apply hq_nil | refine k_q (qe S) ?_ | refine k_q (ql S) ?_ | refine k_q (qs S) ?_ | refine k_q (qn S) ?_ | refine k_q (qC (hq1 kf 1)) ?_ | refine k_n ?_) | (show HD _ _ _ _ _ _ _ _; first | apply hd_nil | refine d_q 100 (by exact rfl) (fun _ => qe S) ?_ | refine d_q 100 (by exact rfl) (fun _ => qn S) ?_ | refine dl S 100 ?_ | refine ds S 100 ?_ | refine d_n 100 ?_ | refine d_q 0 (by exact rfl) (fun _ => qC (hq1 kf 1)) ?_ | refine d_q 1 (by exact rfl) (fun _ => qC (hq1 kf 1)) ?_ | refine d_q 2 (by exact rfl) (fun _ => qC (hq1 kf 1)) ?_ | refine d_q 3 (by exact rfl) (fun _ => qC (hq1 kf 1)) ?_) | ((first | refine g_b (fun h => ?_) (fun h => ?_) | refine g_s (fun h => ?_) (fun h => ?_) | refine k_s (fun h => ?_) (fun h => ?_) | refine d_sp 100 (fun h => ?_) (fun h => ?_)) <;> ((try simp only [zA, zB, zC, zD, zE, zF, ne_eq, zG, zH, and_true, true_and, eq_self, zI, zJ, zK, reduceCtorEq, zL, zM] at h); (try (exfalso; first | omega | with_reducible exact h (by assumption) | with_reducible exact absurd h (by assumption))))) | (show HD _ _ _ _ _ _ _ _; refine da 101 ?_) | refine dx ?_ | apply dx0 | refine dxd ?_ | refine dxk ?_ | apply seqQ_normal | apply seqQ_ret | apply seqQ_exit | apply blkQ_here | refine g_bx ?_ | apply blkQ_ret | apply blkQ_normal)
        refine fo 1 ?_
        refine gc (kn _ hm1) ?_
        rintro v L' ⟨c, hv, rfl⟩
        repeat' (first | (show HW _ _ _ _ _ _; first | apply hw_seq | apply hw_region | apply hw_block | apply hw_exit | refine g_t ?_ | refine g_f ?_ | apply hw_skip | apply hw_ret | refine g_k S ?_ | refine g_w S ?_) | (show HO _ _ _ _ _ _ _; first | apply ho_nil | refine g_q (qe S) ?_ | refine g_q (ql S) ?_ | refine g_q (qs S) ?_ | refine g_q (qn S) ?_ | refine g_n ?_ | refine g_on ?_ | refine wb (fun b => ?_) | refine ws S ?_) | (show HQ _ _ _ _ _ _ _; first | apply hq_nil | refine k_q (qe S) ?_ | refine k_q (ql S) ?_ | refine k_q (qs S) ?_ | refine k_q (qn S) ?_ | refine k_n ?_) | (show HD _ _ _ _ _ _ _ _; first | apply hd_nil | refine d_q 100 (by exact rfl) (fun _ => qe S) ?_ | refine d_q 100 (by exact rfl) (fun _ => qn S) ?_ | refine dl S 100 ?_ | refine ds S 100 ?_ | refine d_n 100 ?_) | ((first | refine g_b (fun h => ?_) (fun h => ?_) | refine g_s (fun h => ?_) (fun h => ?_) | refine k_s (fun h => ?_) (fun h => ?_) | refine d_sp 100 (fun h => ?_) (fun h => ?_)) <;> ((try simp only [zA, zB, zC, zD, zE, zF, ne_eq, zG, zH, and_true, true_and, eq_self, zI, zJ, zK, reduceCtorEq, zL, zM] at h); (try (exfalso; first | omega | with_reducible exact h (by assumption) | with_reducible exact absurd h (by assumption))))) | (show HD _ _ _ _ _ _ _ _; refine da 101 ?_) | refine dx ?_ | apply dx0 | refine dxd ?_ | refine dxk ?_ | apply seqQ_normal | apply seqQ_ret | apply seqQ_exit | apply blkQ_here | refine g_bx ?_ | apply blkQ_ret | apply blkQ_normal)
        exact sp1 (by repeat (first | exact LS.refl _ | apply LS.k | apply LS.c)) ⟨c, hv, rfl⟩
end Go.HL
end

/-! WgC -/
section
namespace Go.HL
open Go Go.Proofs
set_option linter.unusedVariables false
set_option linter.unusedSimpArgs false
attribute [local irreducible] HW HO HQ HD HC QOp Has Upd Puts Gets seqQ blkQ loopQ fnQ actQ nextP unQ MapF

theorem ownInts_calls (a : Option Addr) (cap : Nat) (xs : List Int) (L : Heap) (hR : Rd ic 1 L a xs) (hl : xs.length ≤ 1000000) :
    HC Tryz.prog 18 [.slice a xs.length cap] L (fun v L' => ∃ c, Own 3 1 v xs.length (xs.map ic).flatten c ∧ L' = c :: L) := by
  refine hc_enter (fun _ _ => Tryz.call18 _ _) Tryz.func18 rfl Tryz.ntmps18 (Nat.le_of_ble_eq_true rfl) ?_; simp only [args0, Nat.reduceAdd]
  repeat' (first | (show HW _ _ _ _ _ _; first | apply hw_seq | apply hw_region | apply hw_ret) | (show HO _ _ _ _ _ _ _; first | apply ho_nil | refine g_q (qe S) ?_) | apply seqQ_normal | apply seqQ_ret)
  refine ho_nilc ?_
  (apply o_append S; (case hx => exact rfl); (case hy => exact rfl); (case ht => exact rfl); (case he => exact rfl); (case hz => exact rfl); (case hzs => exact rfl); (case hzl => exact rfl); (case hn => exact rfl))
  (case ho => exact own_nil)
  (case hs => exact src_of_rd (fun _ => rfl) (hR.cons _))
  (case h1 => exact cells_flat (fun _ => rfl) xs)
  (case hby => omega)
  (case hmax => omega)
  intro v' c' ho
  repeat' (first | (show HW _ _ _ _ _ _; first | apply hw_seq | apply hw_region | apply hw_ret) | (show HO _ _ _ _ _ _ _; first | apply ho_nil | refine g_q (qe S) ?_) | apply seqQ_normal | apply seqQ_ret)
  refine fn_ret1 rfl rfl (List.Sublist.refl _) ⟨c', by simpa using ho, rfl⟩
end Go.HL
end

/-! LdD -/
section
namespace Go.HL
open Go Go.Proofs
set_option linter.unusedVariables false
set_option linter.unusedSimpArgs false
def newLd (id deal : Int) (w : List Int) (att wait : Int) : Ld := ⟨id, deal, att, w, sAsking, wait, 0, List.replicate 7 zeroS, 0, 0⟩
def leadE (id deal : Int) (w : List Int) (att : Int) : Option Nat := match checkW w with
  | some e => some e
  | none => if id < 0 ∨ w.length ≤ id ∨ deal < 0 ∨ 6 ≤ deal ∨ 1048576 < att then some 2 else none
/-- a new lead, or an error -/
def LdRes (T : Nat) (E : Nat → Addr) (e : Option Nat) (m : Ld) (L : Heap) (v : Value) (L' : Heap) : Prop := match e with
  | some x => v = .tuple ⟨[.pointer none, eV T E (some x)]⟩ ∧ L' = L
  | none => ∃ lp wv wc, v = .tuple ⟨[pt lp 0, .nilIface]⟩ ∧ LdOk wv wc m ∧ L' = ldC lp wv wc m :: L
def tryE (id deal : Int) (w : List Int) (att : Int) : Option Nat := match leadE id deal w att with
  | some e => some e
  | none => if att < 1 then some 2 else none
attribute [local irreducible] HW HO HQ HD HC QOp Has Upd Puts Gets seqQ blkQ loopQ fnQ actQ nextP unQ MapF
theorem lead_calls (T : Nat) (E : Nat → Addr) (id deal : Int) (a : Option Addr) (cap : Nat) (w : List Int) (att wait : Int) (L : Heap) (hG : Er T E [2, 3, 4] L) (hR : Rd ic 1 L a w) (hl : w.length ≤ 1000000) :
    HC Tryz.prog 124 [iv id, iv deal, .slice a w.length cap, iv att, iv wait] L (LdRes T E (leadE id deal w att) (newLd id deal w att wait) L) := by
  have kc := check_calls T E a cap w L hG hR hl
  cases hc : checkW w with
  | some e =>
    rw [hc] at kc
    rw [show leadE id deal w att = some e by unfold leadE; rw [hc]]
    refine hc_enter (fun _ _ => Tryz.call124 _ _) Tryz.func124 rfl Tryz.ntmps124 (Nat.le_of_ble_eq_true rfl) ?_; simp only [args0, Nat.reduceAdd]
    repeat' (first | (show HW _ _ _ _ _ _; first | apply hw_seq | apply hw_region | refine g_t ?_ | refine g_f ?_ | apply hw_skip | apply hw_ret | refine g_d S ?_) | (show HO _ _ _ _ _ _ _; first | apply ho_nil | refine g_q (qe S) ?_ | refine g_q (qg S) ?_ | refine g_q (ql S) ?_ | refine g_q (qb S) ?_ | refine g_q (qbA S) ?_ | refine g_q (qC (kc)) ?_ | refine g_n ?_ | refine g_on ?_ | refine wb (fun b => ?_) | refine ws S ?_) | (show HD _ _ _ _ _ _ _ _; first | apply hd_nil | refine d_q 100 (by exact rfl) (fun _ => qe S) ?_ | refine d_q 100 (by exact rfl) (fun _ => qb S) ?_ | refine d_q 100 (by exact rfl) (fun _ => qbA S) ?_ | refine dl S 100 ?_ | refine dg S 100 (fun _ _ => ?_) | refine d_n 100 ?_ | refine d_q 0 (by exact rfl) (fun _ => qC (kc)) ?_ | refine d_q 1 (by exact rfl) (fun _ => qC (kc)) ?_ | refine d_q 2 (by exact rfl) (fun _ => qC (kc)) ?_ | refine d_q 3 (by exact rfl) (fun _ => qC (kc)) ?_) | ((first | refine g_b (fun h => ?_) (fun h => ?_) | refine g_s (fun h => ?_) (fun h => ?_) | refine d_sp 100 (fun h => ?_) (fun h => ?_)) <;> ((try simp only [zA, zB, zC, zD, zE, zF, ne_eq, zG, zH, and_true, true_and, eq_self, zI, zJ, zK, reduceCtorEq, zL, zM] at h); (try (exfalso; first | omega | with_reducible exact h (by assumption) | with_reducible exact absurd h (by assumption))))) | (show HD _ _ _ _ _ _ _ _; refine da 101 ?_) | refine dx ?_ | apply dx0 | refine dxd ?_ | refine dxk ?_ | apply seqQ_normal | apply seqQ_ret)
    exact sp2 (LS.refl _) ⟨rfl, rfl⟩
  | none =>
    rw [hc] at kc
    obtain ⟨c1, c2, c3, c4⟩ := check_none hc
    have hle : leadE id deal w att = if id < 0 ∨ w.length ≤ id ∨ deal < 0 ∨ 6 ≤ deal ∨ 1048576 < att then some 2 else none := by unfold leadE; rw [hc]
    refine hc_enter (fun _ _ => Tryz.call124 _ _) Tryz.func124 rfl Tryz.ntmps124 (Nat.le_of_ble_eq_true rfl) ?_; simp only [args0, Nat.reduceAdd]
    repeat' (first | (show HW _ _ _ _ _ _; first | apply hw_seq | apply hw_region | refine g_t ?_ | refine g_f ?_ | apply hw_skip | apply hw_ret | refine g_d S ?_) | (show HO _ _ _ _ _ _ _; first | apply ho_nil | refine g_q (qe S) ?_ | refine g_q (qg S) ?_ | refine g_q (ql S) ?_ | refine g_q (qb S) ?_ | refine g_q (qbA S) ?_ | refine g_q (qC (kc)) ?_ | refine g_n ?_ | refine g_on ?_ | refine wb (fun b => ?_) | refine ws S ?_) | (show HD _ _ _ _ _ _ _ _; first | apply hd_nil | refine d_q 100 (by exact rfl) (fun _ => qe S) ?_ | refine d_q 100 (by exact rfl) (fun _ => qb S) ?_ | refine d_q 100 (by exact rfl) (fun _ => qbA S) ?_ | refine dl S 100 ?_ | refine dg S 100 (fun _ _ => ?_) | refine d_n 100 ?_ | refine d_q 0 (by exact rfl) (fun _ => qC (kc)) ?_ | refine d_q 1 (by exact rfl) (fun _ => qC (kc)) ?_ | refine d_q 2 (by exact rfl) (fun _ => qC (kc)) ?_ | refine d_q 3 (by exact rfl) (fun _ => qC (kc)) ?_) | ((first | refine g_b (fun h => ?_) (fun h => ?_) | refine g_s (fun h => ?_) (fun h => ?_) | refine d_sp 100 (fun h => ?_) (fun h => ?_)) <;> ((try simp only [zA, zB, zC, zD, zE, zF, ne_eq, zG, zH, and_true, true_and, eq_self, zI, zJ, zK, reduceCtorEq, zL, zM] at h); (try (exfalso; first | omega | with_reducible exact h (by assumption) | with_reducible exact absurd h (by assumption))))) | (show HD _ _ _ _ _ _ _ _; refine da 101 ?_) | refine dx ?_ | apply dx0 | refine dxd ?_ | refine dxk ?_ | apply seqQ_normal | apply seqQ_ret)
    all_goals first | (rw [hle, if_pos (by omega)]; exact sp2 (LS.refl _) ⟨rfl, rfl⟩; done) | skip
    rw [hle, if_neg (by omega)]
    refine ho_nilc ?_
    refine wpA S (enc := ic) (xs := []) (ys := w) vec_nil ((hR.cons _).cons _) ic_len ic_one ?_ (by rfl) (by rfl) (by rfl) (by rfl) (by rfl) (by rfl) (by rfl) (by rfl) (by rfl) (by simp only [List.length_nil]; omega) (by simp only [List.length_nil]; omega)
    intro v' c' hv
    rw [List.nil_append] at hv
    obtain ⟨a', cap', rfl, -⟩ := hv.rd ic_len
    repeat' (first | (show HW _ _ _ _ _ _; first | apply hw_seq | apply hw_region | refine g_t ?_ | refine g_f ?_ | apply hw_skip | apply hw_ret | refine g_d S ?_) | (show HO _ _ _ _ _ _ _; first | apply ho_nil | refine g_q (qe S) ?_ | refine g_q (qg S) ?_ | refine g_q (ql S) ?_ | refine g_q (qb S) ?_ | refine g_q (qbA S) ?_ | refine g_q (qC (kc)) ?_ | refine g_n ?_ | refine g_on ?_ | refine wb (fun b => ?_) | refine ws S ?_) | (show HD _ _ _ _ _ _ _ _; first | apply hd_nil | refine d_q 100 (by exact rfl) (fun _ => qe S) ?_ | refine d_q 100 (by exact rfl) (fun _ => qb S) ?_ | refine d_q 100 (by exact rfl) (fun _ => qbA S) ?_ | refine dl S 100 ?_ | refine dg S 100 (fun _ _ => ?_) | refine d_n 100 ?_ | refine d_q 0 (by exact rfl) (fun _ => qC (kc)) ?_ | refine d_q 1 (by exact rfl) (fun _ => qC (kc)) ?_ | refine d_q 2 (by exact rfl) (fun _ => qC (kc)) ?_ | refine d_q 3 (by exact rfl) (fun _ => qC (kc)) ?_) | ((first | refine g_b (fun h => ?_) (fun h => ?_) | refine g_s (fun h => ?_) (fun h => ?_) | refine d_sp 100 (fun h => ?_) (fun h => ?_)) <;> ((try simp only [zA, zB, zC, zD, zE, zF, ne_eq, zG, zH, and_true, true_and, eq_self, zI, zJ, zK, reduceCtorEq, zL, zM] at h); (try (exfalso; first | omega | with_reducible exact h (by assumption) | with_reducible exact absurd h (by assumption))))) | (show HD _ _ _ _ _ _ _ _; refine da 101 ?_) | refine dx ?_ | apply dx0 | refine dxd ?_ | refine dxk ?_ | apply seqQ_normal | apply seqQ_ret)
    refine sp2 (L' := ldC b (.slice a' w.length cap') c' (newLd id deal w att wait) :: L) ?_ ⟨_, _, _, rfl, ⟨hv, rfl, c2⟩, rfl⟩
    refine LS.of_perm ?_
    simp only [ldC, List.flatten_cons, List.cons_append, List.nil_append]
    exact List.perm_middle.symm
theorem begin_calls (T : Nat) (E : Nat → Addr) (id deal : Int) (a : Option Addr) (cap : Nat) (w : List Int) (L : Heap) (hG : Er T E [2, 3, 4] L) (hR : Rd ic 1 L a w) (hl : w.length ≤ 1000000) :
    HC Tryz.prog 69 [iv id, iv deal, .slice a w.length cap] L (LdRes T E (leadE id deal w 0) (newLd id deal w 0 2) L) := by
  have kc := lead_calls T E id deal a cap w 0 2 L hG hR hl
  cases hc : leadE id deal w 0 with
  | some e =>
    rw [hc] at kc
    refine hc_enter (fun _ _ => Tryz.call69 _ _) Tryz.func69 rfl Tryz.ntmps69 (Nat.le_of_ble_eq_true rfl) ?_; simp only [args0, Nat.reduceAdd]
    repeat' (first | (show HW _ _ _ _ _ _; first | apply hw_seq | apply hw_region | apply hw_ret) | (show HO _ _ _ _ _ _ _; first | apply ho_nil | refine g_q (qe S) ?_) | apply seqQ_normal | apply seqQ_ret)
    refine gc kc ?_
    rintro v L' ⟨rfl, rfl⟩
    repeat' (first | (show HW _ _ _ _ _ _; first | apply hw_seq | apply hw_region | apply hw_ret) | (show HO _ _ _ _ _ _ _; first | apply ho_nil | refine g_q (qe S) ?_) | apply seqQ_normal | apply seqQ_ret)
    exact sp2 (LS.refl _) ⟨rfl, rfl⟩
  | none =>
    rw [hc] at kc
    refine hc_enter (fun _ _ => Tryz.call69 _ _) Tryz.func69 rfl Tryz.ntmps69 (Nat.le_of_ble_eq_true rfl) ?_; simp only [args0, Nat.reduceAdd]
    repeat' (first | (show HW _ _ _ _ _ _; first | apply hw_seq | apply hw_region | apply hw_ret) | (show HO _ _ _ _ _ _ _; first | apply ho_nil | refine g_q (qe S) ?_) | apply seqQ_normal | apply seqQ_ret)
    refine gc kc ?_
    rintro v L' ⟨lp, wv, wc, rfl, hv, rfl⟩
    repeat' (first | (show HW _ _ _ _ _ _; first | apply hw_seq | apply hw_region | apply hw_ret) | (show HO _ _ _ _ _ _ _; first | apply ho_nil | refine g_q (qe S) ?_) | apply seqQ_normal | apply seqQ_ret)
    exact sp2 (LS.refl _) ⟨_, _, _, rfl, hv, rfl⟩
theorem try_calls (T : Nat) (E : Nat → Addr) (id deal : Int) (a : Option Addr) (cap : Nat) (w : List Int) (att : Int) (L : Heap) (hG : Er T E [2, 3, 4] L) (hR : Rd ic 1 L a w) (hl : w.length ≤ 1000000) :
    HC Tryz.prog 192 [iv id, iv deal, .slice a w.length cap, iv att] L (LdRes T E (tryE id deal w att) (newLd id deal w att 4) L) := by
  have kc := lead_calls T E id deal a cap w att 4 L hG hR hl
  unfold tryE
  cases hc : leadE id deal w att with
  | some e =>
    rw [hc] at kc
    refine hc_enter (fun _ _ => Tryz.call192 _ _) Tryz.func192 rfl Tryz.ntmps192 (Nat.le_of_ble_eq_true rfl) ?_; simp only [args0, Nat.reduceAdd]
    repeat' (first | (show HW _ _ _ _ _ _; first | apply hw_seq | apply hw_region | refine g_t ?_ | refine g_f ?_ | apply hw_skip | apply hw_ret | refine g_k S ?_) | (show HO _ _ _ _ _ _ _; first | apply ho_nil | refine g_q (qe S) ?_ | refine g_q (qg S) ?_ | refine g_n ?_ | refine g_on ?_) | (show HQ _ _ _ _ _ _ _; first | apply hq_nil | refine k_q (qe S) ?_ | refine k_q (qg S) ?_ | refine k_n ?_) | ((first | refine g_b (fun h => ?_) (fun h => ?_) | refine g_s (fun h => ?_) (fun h => ?_) | refine k_s (fun h => ?_) (fun h => ?_)) <;> ((try simp only [zA, zB, zC, zD, zE, zF, ne_eq, zG, zH, and_true, true_and, eq_self, zI, zJ, zK, reduceCtorEq, zL, zM] at h); (try (exfalso; first | omega | with_reducible exact h (by assumption) | with_reducible exact absurd h (by assumption))))) | apply seqQ_normal | apply seqQ_ret)
    refine gc kc ?_
    rintro v L' ⟨rfl, rfl⟩
    repeat' (first | (show HW _ _ _ _ _ _; first | apply hw_seq | apply hw_region | refine g_t ?_ | refine g_f ?_ | apply hw_skip | apply hw_ret | refine g_d S ?_) | (show HO _ _ _ _ _ _ _; first | apply ho_nil | refine g_q (qe S) ?_ | refine g_q (qg S) ?_ | refine g_n ?_ | refine g_on ?_) | (show HD _ _ _ _ _ _ _ _; first | apply hd_nil | refine d_q 100 (by exact rfl) (fun _ => qe S) ?_ | refine dg S 100 (fun _ _ => ?_) | refine d_n 100 ?_) | ((first | refine g_b (fun h => ?_) (fun h => ?_) | refine g_s (fun h => ?_) (fun h => ?_) | refine d_sp 100 (fun h => ?_) (fun h => ?_)) <;> ((try simp only [zA, zB, zC, zD, zE, zF, ne_eq, zG, zH, and_true, true_and, eq_self, zI, zJ, zK, reduceCtorEq, zL, zM] at h); (try (exfalso; first | omega | with_reducible exact h (by assumption) | with_reducible exact absurd h (by assumption))))) | (show HD _ _ _ _ _ _ _ _; refine da 101 ?_) | refine dx ?_ | apply dx0 | refine dxd ?_ | refine dxk ?_ | apply seqQ_normal | apply seqQ_ret)
    exact sp2 (LS.refl _) ⟨rfl, rfl⟩
  | none =>
    rw [hc] at kc
    refine hc_enter (fun _ _ => Tryz.call192 _ _) Tryz.func192 rfl Tryz.ntmps192 (Nat.le_of_ble_eq_true rfl) ?_; simp only [args0, Nat.reduceAdd]
    repeat' (first | (show HW _ _ _ _ _ _; first | apply hw_seq | apply hw_region | refine g_t ?_ | refine g_f ?_ | apply hw_skip | apply hw_ret | refine g_k S ?_) | (show HO _ _ _ _ _ _ _; first | apply ho_nil | refine g_q (qe S) ?_ | refine g_q (qg S) ?_ | refine g_n ?_ | refine g_on ?_) | (show HQ _ _ _ _ _ _ _; first | apply hq_nil | refine k_q (qe S) ?_ | refine k_q (qg S) ?_ | refine k_n ?_) | ((first | refine g_b (fun h => ?_) (fun h => ?_) | refine g_s (fun h => ?_) (fun h => ?_) | refine k_s (fun h => ?_) (fun h => ?_)) <;> ((try simp only [zA, zB, zC, zD, zE, zF, ne_eq, zG, zH, and_true, true_and, eq_self, zI, zJ, zK, reduceCtorEq, zL, zM] at h); (try (exfalso; first | omega | with_reducible exact h (by assumption) | with_reducible exact absurd h (by assumption))))) | apply seqQ_normal | apply seqQ_ret)
    refine gc kc ?_
    rintro v L' ⟨lp, wv, wc, rfl, hv, rfl⟩
    have hG2 := hG.cons (ldC lp wv wc (newLd id deal w att 4))
    repeat' (first | (show HW _ _ _ _ _ _; first | apply hw_seq | apply hw_region | refine g_t ?_ | refine g_f ?_ | apply hw_skip | apply hw_ret | refine g_d S ?_) | (show HO _ _ _ _ _ _ _; first | apply ho_nil | refine g_q (qe S) ?_ | refine g_q (qg S) ?_ | refine g_n ?_ | refine g_on ?_) | (show HD _ _ _ _ _ _ _ _; first | apply hd_nil | refine d_q 100 (by exact rfl) (fun _ => qe S) ?_ | refine dg S 100 (fun _ _ => ?_) | refine d_n 100 ?_) | ((first | refine g_b (fun h => ?_) (fun h => ?_) | refine g_s (fun h => ?_) (fun h => ?_) | refine d_sp 100 (fun h => ?_) (fun h => ?_)) <;> ((try simp only [zA, zB, zC, zD, zE, zF, ne_eq, zG, zH, and_true, true_and, eq_self, zI, zJ, zK, reduceCtorEq, zL, zM] at h); (try (exfalso; first | omega | with_reducible exact h (by assumption) | with_reducible exact absurd h (by assumption))))) | (show HD _ _ _ _ _ _ _ _; refine da 101 ?_) | refine dx ?_ | apply dx0 | refine dxd ?_ | refine dxk ?_ | apply seqQ_normal | apply seqQ_ret)
    · rw [if_pos h]
      exact sp2 (LS.skips _ (LS.refl _)) ⟨rfl, rfl⟩
    · rw [if_neg h]
      exact sp2 (LS.refl _) ⟨_, _, _, rfl, hv, rfl⟩
end Go.HL
end

/-! WoC -/
section
namespace Go.HL
open Go Go.Proofs
set_option linter.unusedVariables false
set_option linter.unusedSimpArgs false
/-- a node: its plate, its site (none: it is down), its leads, what it has told -/
structure Nd where
  pl : Pl
  site : Option (Jn × (Int → Bool))
  leads : List (Option Ld)
  done : List Bool
structure Wm where
  w : List Int
  n : List Nd
  br : Int × Int → Bool
  l : List Fr
  ev : List Evt
/-- where a node lies -/
structure NdG where
  np : Nat
  bp : Nat
  ba : Nat
  sp : Nat
  bj : Nat
  mb : Nat
  es : List MapEntry
  ck : Nat
  ld : List (Nat × Value × List Blk)
def ldV : Option Ld → Nat × Value × List Blk → Value
  | none, _ => .pointer none
  | some _, g => pt g.1 0
def ldB : Option Ld → Nat × Value × List Blk → List Blk
  | none, _ => []
  | some m, g => ldC g.1 g.2.1 g.2.2 m
def stV (g : NdG) : Option (Jn × (Int → Bool)) → Value
  | none => .pointer none
  | some _ => pt g.sp 0
def siB (g : NdG) (i : Int) : Option (Jn × (Int → Bool)) → List Blk
  | none => []
  | some (j, _) => siC g.sp g.bj g.mb i ++ mpC g.mb g.es g.ck ++ jC g.bj g.bp j
def ndL (sv : Value) (bp : Nat) (lv : List Value) (dn : List Bool) : List Value := [sv, pt bp 0] ++ lv ++ dn.map Value.bool
def ldVs (g : NdG) (m : Nd) : List Value := List.zipWith ldV m.leads g.ld
def ldBs (g : NdG) (m : Nd) : List Blk := (List.zipWith ldB m.leads g.ld).flatten
def ndO (g : NdG) (m : Nd) : Obj := .cells ⟨ndL (stV g m.site) g.bp (ldVs g m) m.done⟩ 122
def ndB (g : NdG) (m : Nd) : List Blk := [(g.np, ndO g m)]
/-- all blocks of a node -/
def ndA (g : NdG) (i : Int) (m : Nd) : List Blk := ndB g m ++ plC g.bp g.ba m.pl ++ siB g i m.site ++ ldBs g m
def ndsB : List NdG → List Nd → Nat → List Blk
  | g :: gs, m :: ms, i => ndA g i m ++ ndsB gs ms (i + 1)
  | _, _, _ => []
/-- all nodes' blocks but one's -/
def ndsX : List NdG → List Nd → Nat → Nat → List Blk
  | g :: gs, m :: ms, i, 0 => ndsB gs ms (i + 1)
  | g :: gs, m :: ms, i, s + 1 => ndA g i m ++ ndsX gs ms (i + 1) s
  | _, _, _, _ => []
theorem nds_open : ∀ {gs : List NdG} {ms : List Nd} {i s : Nat} {g : NdG} {m : Nd}, gs[s]? = some g → ms[s]? = some m → List.Perm (ndsB gs ms i) (ndA g ((i + s : Nat) : Int) m ++ ndsX gs ms i s)
  | [], _, _, _, _, _, h, _ => by simp at h
  | _ :: _, [], _, _, _, _, _, h => by simp at h
  | g0 :: gs, m0 :: ms, i, 0, g, m, h, h2 => by
    simp at h h2; subst h; subst h2
    exact .refl _
  | g0 :: gs, m0 :: ms, i, s + 1, g, m, h, h2 => by
    have ih := nds_open (gs := gs) (ms := ms) (i := i + 1) (s := s) (g := g) (m := m) (by simpa using h) (by simpa using h2)
    simp only [ndsB, ndsX]
    rw [show i + (s + 1) = i + 1 + s by omega]
    refine (ih.append_left _).trans ?_
    rw [← List.append_assoc, ← List.append_assoc]
    exact List.perm_append_comm.append_right _
theorem nds_set : ∀ {gs : List NdG} {ms : List Nd} {i s : Nat} {g : NdG} {m : Nd}, ndsX (gs.set s g) (ms.set s m) i s = ndsX gs ms i s
  | [], _, _, _, _, _ => by simp [ndsX]
  | _ :: _, [], _, s, _, _ => by cases s <;> simp [ndsX]
  | g0 :: gs, m0 :: ms, i, 0, g, m => rfl
  | g0 :: gs, m0 :: ms, i, s + 1, g, m => by
    simp only [List.set_cons_succ, ndsX]
    rw [nds_set]
/-- where a world lies -/
structure WdG where
  wp : Nat
  wv : Value
  wc : List Blk
  nv : Value
  nc : List Blk
  mb : Nat
  es : List MapEntry
  ck : Nat
  lv : Value
  lc : List Blk
  ev : Value
  ec : List Blk
  nd : List NdG
def wdO (G : WdG) : Obj := .cells ⟨[G.wv, G.nv, .map (some G.mb), G.lv, G.ev]⟩ 110
def pc (p : Nat) : List Value := [pt p 0]
theorem pc_len (p : Nat) : (pc p).length = 1 := rfl
theorem pc_one (p : Nat) : (pc p).all Value.oneCell' = true := rfl
/-- what of a world is no node's -/
def wdT (G : WdG) : Heap := [[(G.wp, wdO G)], G.wc, G.nc, [(G.mb, .map ⟨G.es⟩ G.ck)], G.lc, G.ec]
def wdH (G : WdG) (M : Wm) : Heap := wdT G ++ [ndsB G.nd M.n 0]
/-- what always holds of a lead -/
structure LdI (w : List Int) (s d : Nat) (x : Ld) : Prop where
  ww : x.w = w
  id : x.id = s
  deal : x.deal = d
  att0 : 0 ≤ x.att
  att1 : x.att ≤ 1048576
  told : x.told.length = 7
  tok : ∀ t ∈ x.told, 0 ≤ t.ph ∧ t.ph ≤ 5
  heard : x.heard < 2 ^ w.length
  ph0 : 0 ≤ x.phase
  ph1 : x.phase ≤ 5
  seen0 : 0 ≤ x.seen
  seen1 : x.seen ≤ 1048576
/-- what always holds of a node -/
structure NdI (w : List Int) (s : Nat) (m : Nd) : Prop where
  leads : m.leads.length = 6
  done : m.done.length = 6
  b512 : m.pl.b.length = 512
  si : SI m.pl ⟨openM m.pl.b, m.pl.off⟩
  up : ∀ j ref, m.site = some (j, ref) → j = ⟨openM m.pl.b, false⟩ ∧ m.pl.off = false
  dn : m.site = none → m.pl.off = true
  ldi : ∀ (d : Nat) x, m.leads[d]? = some (some x) → LdI w s d x
/-- a node's memory -/
structure NdOk (g : NdG) (m : Nd) : Prop where
  ld : g.ld.length = 6
  lok : ∀ (d : Nat) x, m.leads[d]? = some (some x) → ∀ q, g.ld[d]? = some q → LdOk q.2.1 q.2.2 x
  map : ∀ j ref, m.site = some (j, ref) → MapF iv g.es ref
theorem NdI.pl {w : List Int} {s : Nat} {m : Nd} (h : NdI w s m) : PlOk m.pl := h.si.ji.pl
theorem NdI.jn {w : List Int} {s : Nat} {m : Nd} (h : NdI w s m) {j : Jn} {ref : Int → Bool} (hs : m.site = some (j, ref)) : SI m.pl j := by
  obtain ⟨e1, e2⟩ := h.up j ref hs
  have := h.si
  rw [e2] at this
  rw [e1]
  exact this
/-- what always holds of a world -/
structure WI (M : Wm) : Prop where
  w0 : checkW M.w = none
  wl : M.w.length ≤ 7
  w1 : 1 ≤ M.w.length
  wn : M.n.length = M.w.length
  fr : ∀ f ∈ M.l, ¬ badF f ∧ f.to < M.w.length ∧ f.fr < M.w.length
  evl : M.ev.length ≤ 500
  nd : ∀ (s : Nat) m, M.n[s]? = some m → NdI M.w s m
/-- a world's memory -/
structure WdOk (G : WdG) (M : Wm) : Prop where
  w : Vec 3 1 ic G.wv M.w G.wc
  nodes : Vec 117 1 pc G.nv (G.nd.map (·.np)) G.nc
  ndl : G.nd.length = M.n.length
  br : MapF pk G.es M.br
  l : FrVec G.lv M.l G.lc
  ev : Vec 81 3 ec G.ev M.ev G.ec
  nd : ∀ (s : Nat) g m, G.nd[s]? = some g → M.n[s]? = some m → NdOk g m
end Go.HL
end

/-! WoD -/
section
namespace Go.HL
open Go Go.Proofs
set_option linter.unusedVariables false
set_option linter.unusedSimpArgs false
/-- what a walk sees of a world -/
structure WdIn (L : Heap) (G : WdG) (M : Wm) : Prop where
  wp : Has L G.wp (wdO G)
  ns : ∃ a cap, G.nv = .slice a M.n.length cap ∧ Rd pc 1 L a (G.nd.map (·.np))
  ws : ∃ a cap, G.wv = .slice a M.w.length cap ∧ Rd ic 1 L a M.w
  ls : ∃ a cap, G.lv = .slice a M.l.length cap ∧ Rd fc 9 L a M.l
  es : ∃ a cap, G.ev = .slice a M.ev.length cap
theorem Rd.mono {α : Type} {enc : α → List Value} {sz : Nat} {L L' : Heap} {a : Option Addr} {xs : List α} (h : Rd enc sz L a xs) (hl : ∀ b o, Has L b o → Has L' b o) : Rd enc sz L' a xs := by
  rcases h with h | ⟨b, i, l, E, fr, h1, hb, hg⟩
  · exact .inl h
  · exact .inr ⟨b, i, l, E, fr, h1, hl _ _ hb, hg⟩
theorem wdIn {L : Heap} {G : WdG} {M : Wm} (h : WdOk G M) (hl : ∀ b o, Has (wdT G) b o → Has L b o) : WdIn L G M := by
  refine ⟨hl _ _ has_here, ?_, ?_, ?_, ?_⟩
  · obtain ⟨a, cap, e, -, hR⟩ := h.nodes.rd pc_len
    refine ⟨a, cap, by rw [e, List.length_map, h.ndl], (hR []).mono fun b o hb => hl b o ?_⟩
    simp only [Has, List.flatten_cons, List.flatten_nil, List.append_nil, wdT] at hb ⊢
    simp [hb]
  · obtain ⟨a, cap, e, -, hR⟩ := h.w.rd ic_len
    refine ⟨a, cap, e, (hR []).mono fun b o hb => hl b o ?_⟩
    simp only [Has, List.flatten_cons, List.flatten_nil, List.append_nil, wdT] at hb ⊢
    simp [hb]
  · obtain ⟨a, cap, e, -, hR⟩ := h.l.rd fc_len
    refine ⟨a, cap, e, (hR []).mono fun b o hb => hl b o ?_⟩
    simp only [Has, List.flatten_cons, List.flatten_nil, List.append_nil, wdT] at hb ⊢
    simp [hb]
  · obtain ⟨a, cap, e, -, hR⟩ := h.ev.rd ec_len
    exact ⟨a, cap, e⟩
def nodeE (M : Wm) (s : Int) : Option Nat := if s < 0 ∨ M.n.length ≤ s then some 2 else none
def ndAt (M : Wm) (s : Int) : Nd := M.n.getD s.toNat ⟨⟨[], false, 0⟩, none, [], []⟩
def upE (M : Wm) (s : Int) : Option Nat := match nodeE M s with
  | some e => some e
  | none => if (ndAt M s).site.isNone then some 6 else none
def npAt (G : WdG) (s : Int) : NdG := G.nd.getD s.toNat ⟨0, 0, 0, 0, 0, 0, [], 0, []⟩
theorem nodeE_none {M : Wm} {s : Int} (h : nodeE M s = none) : 0 ≤ s ∧ s < M.n.length := by
  unfold nodeE at h
  split at h
  · cases h
  · omega
theorem nodeE_ok {M : Wm} {s : Int} (h0 : 0 ≤ s) (h1 : s < M.n.length) : nodeE M s = none := if_neg (by omega)
theorem getD_some {α : Type} {l : List α} {i : Nat} {x : α} (h : i < l.length) : l[i]? = some (l.getD i x) := by simp [List.getD, h]
theorem wd_np {L : Heap} {G : WdG} {M : Wm} {s : Int} (hI : WdIn L G M) (hl : G.nd.length = M.n.length) (h0 : 0 ≤ s) (h1 : s < M.n.length) : ∃ b i l F fr cap, G.nv = sl b i M.n.length cap ∧ Has L b (.cells ⟨l⟩ F fr) ∧ l[i + s.toNat]? = some (pt (npAt G s).np 0) := by
  obtain ⟨a, cap, hnv, hR⟩ := hI.ns
  obtain ⟨b, i, l, F, fr, rfl, hb, hg⟩ := hR.at1 (j := s) h0 (by simp; omega)
  refine ⟨b, i, l, F, fr, cap, hnv, hb, ?_⟩
  have e : (G.nd.map (·.np))[s.toNat]'(by simp; omega) = (npAt G s).np := by
    rw [List.getElem_map]
    unfold npAt
    rw [List.getD, List.getElem?_eq_getElem (by omega)]
    rfl
  rw [e] at hg
  exact hg 0 _ rfl
theorem ndL_pre {sv : Value} {bp : Nat} {lv : List Value} {dn : List Bool} {k : Nat} {v : Value} (h : [sv, pt bp 0][k]? = some v) : (ndL sv bp lv dn)[0 + k]? = some v := by
  have hlt : k < [sv, pt bp 0].length := (List.getElem?_eq_some_iff.1 h).1
  rw [Nat.zero_add, ndL, List.append_assoc, List.getElem?_append_left hlt, h]
/-- a node that is there -/
theorem node_cases {M : Wm} (s : Int) : (nodeE M s = some 2) ∨ (nodeE M s = none ∧ 0 ≤ s ∧ s < M.n.length) := by
  by_cases h : s < 0 ∨ M.n.length ≤ s
  · exact .inl (if_pos h)
  · exact .inr ⟨if_neg h, by omega, by omega⟩
attribute [local irreducible] HW HO HQ HD HC QOp Has Upd Puts Gets seqQ blkQ loopQ fnQ actQ nextP unQ MapF
attribute [local irreducible] ndL
theorem wnode_calls (T : Nat) (E : Nat → Addr) (G : WdG) (M : Wm) (s : Int) (L : Heap) (hG : Er T E [2] L) (hI : WdIn L G M) (hl : G.nd.length = M.n.length) : HC Tryz.prog 76 [pt G.wp 0, iv s] L (fun v L' => v = (match nodeE M s with
    | some e => .tuple ⟨[.pointer none, eV T E (some e)]⟩
    | none => .tuple ⟨[pt (npAt G s).np 0, .nilIface]⟩) ∧ L' = L) := by
  have hw := hI.wp
  unfold wdO at hw
  by_cases h : s < 0 ∨ M.n.length ≤ s
  · have e : nodeE M s = some 2 := if_pos h
    obtain ⟨a, cap, hnv, hR⟩ := hI.ns
    rw [hnv] at hw
    simp only [e]
    by_cases h0 : s < 0
    · refine hc_enter (fun _ _ => Tryz.call76 _ _) Tryz.func76 rfl Tryz.ntmps76 (Nat.le_of_ble_eq_true rfl) ?_; simp only [args0, Nat.reduceAdd]
      repeat' (first | (show HW _ _ _ _ _ _; first | apply hw_seq | apply hw_region | refine g_t ?_ | refine g_f ?_ | apply hw_skip | apply hw_ret | refine g_k S ?_) | (show HO _ _ _ _ _ _ _; first | apply ho_nil | refine g_q (qe S) ?_ | refine g_q (qg S) ?_ | refine g_q (ql S) ?_ | refine g_n ?_ | refine g_on ?_) | (show HQ _ _ _ _ _ _ _; first | apply hq_nil | refine k_q (qe S) ?_ | refine k_q (qg S) ?_ | refine k_q (ql S) ?_ | refine k_n ?_) | ((first | refine g_b (fun h => ?_) (fun h => ?_) | refine g_s (fun h => ?_) (fun h => ?_) | refine k_s (fun h => ?_) (fun h => ?_)) <;> ((try simp only [zA, zB, zC, zD, zE, zF, ne_eq, zG, zH, and_true, true_and, eq_self, zI, zJ, zK, reduceCtorEq, zL, zM] at h); (try (exfalso; first | omega | with_reducible exact h (by assumption) | with_reducible exact absurd h (by assumption))))) | apply seqQ_normal | apply seqQ_ret)
      exact er2 rfl ⟨rfl, rfl⟩
    · refine hc_enter (fun _ _ => Tryz.call76 _ _) Tryz.func76 rfl Tryz.ntmps76 (Nat.le_of_ble_eq_true rfl) ?_; simp only [args0, Nat.reduceAdd]
      repeat' (first | (show HW _ _ _ _ _ _; first | apply hw_seq | apply hw_region | refine g_t ?_ | refine g_f ?_ | apply hw_skip | apply hw_ret | refine g_k S ?_) | (show HO _ _ _ _ _ _ _; first | apply ho_nil | refine g_q (qe S) ?_ | refine g_q (qg S) ?_ | refine g_q (ql S) ?_ | refine g_n ?_ | refine g_on ?_) | (show HQ _ _ _ _ _ _ _; first | apply hq_nil | refine k_q (qe S) ?_ | refine k_q (qg S) ?_ | refine k_q (ql S) ?_ | refine k_n ?_) | ((first | refine g_b (fun h => ?_) (fun h => ?_) | refine g_s (fun h => ?_) (fun h => ?_) | refine k_s (fun h => ?_) (fun h => ?_)) <;> ((try simp only [zA, zB, zC, zD, zE, zF, ne_eq, zG, zH, and_true, true_and, eq_self, zI, zJ, zK, reduceCtorEq, zL, zM] at h); (try (exfalso; first | omega | with_reducible exact h (by assumption) | with_reducible exact absurd h (by assumption))))) | apply seqQ_normal | apply seqQ_ret)
      exact er2 rfl ⟨rfl, rfl⟩
  · have e : nodeE M s = none := if_neg h
    simp only [e]
    obtain ⟨b, i, l, F, fr, cap, hnv, hb, hg⟩ := wd_np hI hl (s := s) (by omega) (by omega)
    rw [hnv] at hw
    refine hc_enter (fun _ _ => Tryz.call76 _ _) Tryz.func76 rfl Tryz.ntmps76 (Nat.le_of_ble_eq_true rfl) ?_; simp only [args0, Nat.reduceAdd]
    repeat' (first | (show HW _ _ _ _ _ _; first | apply hw_seq | apply hw_region | refine g_t ?_ | refine g_f ?_ | apply hw_skip | apply hw_ret | refine g_k S ?_) | (show HO _ _ _ _ _ _ _; first | apply ho_nil | refine g_q (qe S) ?_ | refine g_q (qg S) ?_ | refine g_q (ql S) ?_ | refine g_n ?_ | refine g_on ?_) | (show HQ _ _ _ _ _ _ _; first | apply hq_nil | refine k_q (qe S) ?_ | refine k_q (qg S) ?_ | refine k_q (ql S) ?_ | refine k_n ?_) | ((first | refine g_b (fun h => ?_) (fun h => ?_) | refine g_s (fun h => ?_) (fun h => ?_) | refine k_s (fun h => ?_) (fun h => ?_)) <;> ((try simp only [zA, zB, zC, zD, zE, zF, ne_eq, zG, zH, and_true, true_and, eq_self, zI, zJ, zK, reduceCtorEq, zL, zM] at h); (try (exfalso; first | omega | with_reducible exact h (by assumption) | with_reducible exact absurd h (by assumption))))) | apply seqQ_normal | apply seqQ_ret)
    exact er2 rfl ⟨rfl, rfl⟩
theorem wup_calls (T : Nat) (E : Nat → Addr) (G : WdG) (M : Wm) (s : Int) (L : Heap) (hG : Er T E [2, 6] L) (hI : WdIn L G M) (hl : G.nd.length = M.n.length) (hN : nodeE M s = none → Has L (npAt G s).np (ndO (npAt G s) (ndAt M s))) : HC Tryz.prog 66 [pt G.wp 0, iv s] L (fun v L' => v = (match nodeE M s with
    | some e => .tuple ⟨[.pointer none, eV T E (some e)]⟩
    | none => .tuple ⟨[pt (npAt G s).np 0, eV T E (upE M s)]⟩) ∧ L' = L) := by
  have kn := wnode_calls T E G M s L hG.sub hI hl
  rcases node_cases (M := M) s with he | ⟨he, h0, h1⟩
  · simp only [he] at kn ⊢
    refine hc_enter (fun _ _ => Tryz.call66 _ _) Tryz.func66 rfl Tryz.ntmps66 (Nat.le_of_ble_eq_true rfl) ?_; simp only [args0, Nat.reduceAdd]
    repeat' (first | (show HW _ _ _ _ _ _; first | apply hw_seq | apply hw_region | refine g_t ?_ | refine g_f ?_ | apply hw_skip | apply hw_ret) | (show HO _ _ _ _ _ _ _; first | apply ho_nil | refine g_q (qe S) ?_ | refine g_q (qg S) ?_ | refine g_q (ql S) ?_ | refine g_q (qC (kn)) ?_ | refine g_n ?_ | refine g_on ?_) | ((first | refine g_b (fun h => ?_) (fun h => ?_) | refine g_s (fun h => ?_) (fun h => ?_)) <;> ((try simp only [zA, zB, zC, zD, zE, zF, ne_eq, zG, zH, and_true, true_and, eq_self, zI, zJ, zK, reduceCtorEq, zL, zM] at h); (try (exfalso; first | omega | with_reducible exact h (by assumption) | with_reducible exact absurd h (by assumption))))) | apply seqQ_normal | apply seqQ_ret)
    exact er2 rfl ⟨rfl, rfl⟩
  · have hN' := hN he
    have hu : upE M s = if (ndAt M s).site.isNone then some 6 else none := by unfold upE; rw [he]
    simp only [he] at kn ⊢
    unfold ndO at hN'
    cases hs : (ndAt M s).site with
    | none =>
      rw [hs] at hN' hu
      rw [hu]
      have g0 : (ndL (.pointer none) (npAt G s).bp (ldVs (npAt G s) (ndAt M s)) (ndAt M s).done)[0 + 0]? = some (.pointer none) := ndL_pre rfl
      refine hc_enter (fun _ _ => Tryz.call66 _ _) Tryz.func66 rfl Tryz.ntmps66 (Nat.le_of_ble_eq_true rfl) ?_; simp only [args0, Nat.reduceAdd]
      repeat' (first | (show HW _ _ _ _ _ _; first | apply hw_seq | apply hw_region | refine g_t ?_ | refine g_f ?_ | apply hw_skip | apply hw_ret) | (show HO _ _ _ _ _ _ _; first | apply ho_nil | refine g_q (qe S) ?_ | refine g_q (qg S) ?_ | refine g_q (ql S) ?_ | refine g_q (qC (kn)) ?_ | refine g_n ?_ | refine g_on ?_) | ((first | refine g_b (fun h => ?_) (fun h => ?_) | refine g_s (fun h => ?_) (fun h => ?_)) <;> ((try simp only [zA, zB, zC, zD, zE, zF, ne_eq, zG, zH, and_true, true_and, eq_self, zI, zJ, zK, reduceCtorEq, zL, zM] at h); (try (exfalso; first | omega | with_reducible exact h (by assumption) | with_reducible exact absurd h (by assumption))))) | apply seqQ_normal | apply seqQ_ret)
      exact er2 rfl ⟨rfl, rfl⟩
    | some q =>
      rw [hs] at hN' hu
      rw [hu]
      have g0 : (ndL (pt (npAt G s).sp 0) (npAt G s).bp (ldVs (npAt G s) (ndAt M s)) (ndAt M s).done)[0 + 0]? = some (pt (npAt G s).sp 0) := ndL_pre rfl
      obtain ⟨q1, q2⟩ := q
      refine hc_enter (fun _ _ => Tryz.call66 _ _) Tryz.func66 rfl Tryz.ntmps66 (Nat.le_of_ble_eq_true rfl) ?_; simp only [args0, Nat.reduceAdd]
      repeat' (first | (show HW _ _ _ _ _ _; first | apply hw_seq | apply hw_region | refine g_t ?_ | refine g_f ?_ | apply hw_skip | apply hw_ret) | (show HO _ _ _ _ _ _ _; first | apply ho_nil | refine g_q (qe S) ?_ | refine g_q (qg S) ?_ | refine g_q (ql S) ?_ | refine g_q (qC (kn)) ?_ | refine g_n ?_ | refine g_on ?_) | ((first | refine g_b (fun h => ?_) (fun h => ?_) | refine g_s (fun h => ?_) (fun h => ?_)) <;> ((try simp only [zA, zB, zC, zD, zE, zF, ne_eq, zG, zH, and_true, true_and, eq_self, zI, zJ, zK, reduceCtorEq, zL, zM] at h); (try (exfalso; first | omega | with_reducible exact h (by assumption) | with_reducible exact absurd h (by assumption))))) | apply seqQ_normal | apply seqQ_ret)
      exact er2 rfl ⟨rfl, rfl⟩
def wat (M : Wm) (k : Int) : Option Nat := if k < 0 ∨ M.l.length ≤ k then some 4 else none
theorem wat_calls (T : Nat) (E : Nat → Addr) (G : WdG) (M : Wm) (k : Int) (L : Heap) (hG : Er T E [4] L) (hI : WdIn L G M) : HC Tryz.prog 72 [pt G.wp 0, iv k] L (fun v L' => v = eV T E (wat M k) ∧ L' = L) := by
  have hw := hI.wp
  unfold wdO at hw
  obtain ⟨a, cap, hlv, -⟩ := hI.ls
  rw [hlv] at hw
  unfold wat
  by_cases h0 : k < 0
  · rw [if_pos (.inl h0)]
    refine hc_enter (fun _ _ => Tryz.call72 _ _) Tryz.func72 rfl Tryz.ntmps72 (Nat.le_of_ble_eq_true rfl) ?_; simp only [args0, Nat.reduceAdd]
    repeat' (first | (show HW _ _ _ _ _ _; first | apply hw_seq | apply hw_region | refine g_t ?_ | refine g_f ?_ | apply hw_skip | apply hw_ret) | (show HO _ _ _ _ _ _ _; first | apply ho_nil | refine g_q (qe S) ?_ | refine g_q (qg S) ?_ | refine g_q (ql S) ?_ | refine g_n ?_ | refine g_on ?_) | ((first | refine g_b (fun h => ?_) (fun h => ?_) | refine g_s (fun h => ?_) (fun h => ?_)) <;> ((try simp only [zA, zB, zC, zD, zE, zF, ne_eq, zG, zH, and_true, true_and, eq_self, zI, zJ, zK, reduceCtorEq, zL, zM] at h); (try (exfalso; first | omega | with_reducible exact h (by assumption) | with_reducible exact absurd h (by assumption))))) | apply seqQ_normal | apply seqQ_ret)
    exact er1 rfl ⟨rfl, rfl⟩
  · by_cases h1 : M.l.length ≤ k
    · rw [if_pos (.inr h1)]
      refine hc_enter (fun _ _ => Tryz.call72 _ _) Tryz.func72 rfl Tryz.ntmps72 (Nat.le_of_ble_eq_true rfl) ?_; simp only [args0, Nat.reduceAdd]
      repeat' (first | (show HW _ _ _ _ _ _; first | apply hw_seq | apply hw_region | refine g_t ?_ | refine g_f ?_ | apply hw_skip | apply hw_ret) | (show HO _ _ _ _ _ _ _; first | apply ho_nil | refine g_q (qe S) ?_ | refine g_q (qg S) ?_ | refine g_q (ql S) ?_ | refine g_n ?_ | refine g_on ?_) | ((first | refine g_b (fun h => ?_) (fun h => ?_) | refine g_s (fun h => ?_) (fun h => ?_)) <;> ((try simp only [zA, zB, zC, zD, zE, zF, ne_eq, zG, zH, and_true, true_and, eq_self, zI, zJ, zK, reduceCtorEq, zL, zM] at h); (try (exfalso; first | omega | with_reducible exact h (by assumption) | with_reducible exact absurd h (by assumption))))) | apply seqQ_normal | apply seqQ_ret)
      exact er1 rfl ⟨rfl, rfl⟩
    · rw [if_neg (by omega)]
      refine hc_enter (fun _ _ => Tryz.call72 _ _) Tryz.func72 rfl Tryz.ntmps72 (Nat.le_of_ble_eq_true rfl) ?_; simp only [args0, Nat.reduceAdd]
      repeat' (first | (show HW _ _ _ _ _ _; first | apply hw_seq | apply hw_region | refine g_t ?_ | refine g_f ?_ | apply hw_skip | apply hw_ret) | (show HO _ _ _ _ _ _ _; first | apply ho_nil | refine g_q (qe S) ?_ | refine g_q (qg S) ?_ | refine g_q (ql S) ?_ | refine g_n ?_ | refine g_on ?_) | ((first | refine g_b (fun h => ?_) (fun h => ?_) | refine g_s (fun h => ?_) (fun h => ?_)) <;> ((try simp only [zA, zB, zC, zD, zE, zF, ne_eq, zG, zH, and_true, true_and, eq_self, zI, zJ, zK, reduceCtorEq, zL, zM] at h); (try (exfalso; first | omega | with_reducible exact h (by assumption) | with_reducible exact absurd h (by assumption))))) | apply seqQ_normal | apply seqQ_ret)
      exact er1 rfl ⟨rfl, rfl⟩
end Go.HL
end

/-! WoE -/
section
namespace Go.HL
open Go Go.Proofs
set_option linter.unusedVariables false
set_option linter.unusedSimpArgs false
/-- what is noted of a deal -/
def noteD (s : Int) (ph : Nat → Int) (q : List Bool × List Evt) (d : Nat) : List Bool × List Evt :=
  if q.1.getD d true = true ∨ (ph d ≠ 2 ∧ ph d ≠ 3) then q else (q.1.set d true, if q.2.length < 500 then q.2 ++ [⟨s, d, ph d⟩] else q.2)
def noteR (s : Int) (ph : Nat → Int) (q : List Bool × List Evt) (k : Nat) : List Bool × List Evt := (List.range k).foldl (noteD s ph) q
def phOf (j : Jn) (d : Nat) : Int := (j.l.getD d zeroE).s.ph
def noteN (s : Int) (m : Nd) (ev : List Evt) : List Bool × List Evt := match m.site with
  | none => (m.done, ev)
  | some (j, _) => noteR s (phOf j) (m.done, ev) 6
theorem noteR_succ (s : Int) (ph : Nat → Int) (q : List Bool × List Evt) (k : Nat) : noteR s ph q (k + 1) = noteD s ph (noteR s ph q k) k := by
  unfold noteR
  rw [List.range_succ, List.foldl_append]
  rfl
theorem noteD_len {s : Int} {ph : Nat → Int} {q : List Bool × List Evt} {d : Nat} : (noteD s ph q d).1.length = q.1.length := by
  unfold noteD; split <;> simp
theorem noteD_ev {s : Int} {ph : Nat → Int} {q : List Bool × List Evt} {d : Nat} (h : q.2.length ≤ 500) : (noteD s ph q d).2.length ≤ 500 := by
  unfold noteD
  split
  · exact h
  · simp only
    split
    · simp; omega
    · exact h
theorem noteR_len {s : Int} {ph : Nat → Int} {q : List Bool × List Evt} : ∀ k, (noteR s ph q k).1.length = q.1.length
  | 0 => rfl
  | k + 1 => by rw [noteR_succ, noteD_len, noteR_len k]
theorem noteR_ev {s : Int} {ph : Nat → Int} {q : List Bool × List Evt} (h : q.2.length ≤ 500) : ∀ k, (noteR s ph q k).2.length ≤ 500
  | 0 => h
  | k + 1 => by rw [noteR_succ]; exact noteD_ev (noteR_ev h k)
theorem ndL_len {sv : Value} {bp : Nat} {lv : List Value} {dn : List Bool} (h : lv.length = 6) : ([sv, pt bp 0] ++ lv).length = 8 := by simp [h]
theorem ndL_done {sv : Value} {bp : Nat} {lv : List Value} {dn : List Bool} {d : Nat} {b : Bool} (hl : lv.length = 6) (h : dn[d]? = some b) : (ndL sv bp lv dn)[0 + 8 + (d : Int).toNat * 1]? = some (.bool b) := by
  rw [ndL, List.getElem?_append_right (by rw [ndL_len (dn := dn) (bp := bp) (sv := sv) hl]; omega), ndL_len (dn := dn) (bp := bp) (sv := sv) hl]
  rw [show 0 + 8 + (d : Int).toNat * 1 - 8 = d by omega, List.getElem?_map, h]
  rfl
theorem ndL_putD {sv : Value} {bp : Nat} {lv : List Value} {dn : List Bool} {d : Nat} (b : Bool) (hl : lv.length = 6) (h : d < dn.length) : Puts (ndL sv bp lv dn) (0 + 8 + (d : Int).toNat * 1) [.bool b] (ndL sv bp lv (dn.set d b)) := by
  have e : ndL sv bp lv (dn.set d b) = (ndL sv bp lv dn).set (0 + 8 + (d : Int).toNat * 1) (.bool b) := by
    rw [ndL, ndL, List.set_append_right _ _ (by rw [ndL_len (dn := dn) (bp := bp) (sv := sv) hl]; omega), ndL_len (dn := dn) (bp := bp) (sv := sv) hl, List.map_set]
    rw [show 0 + 8 + (d : Int).toNat * 1 - 8 = d by omega]
  rw [e]
  refine puts_set ?_
  rw [ndL, List.length_append, ndL_len (dn := dn) (bp := bp) (sv := sv) hl, List.length_map]
  omega
attribute [local irreducible] HW HO HQ HD HC QOp Has Upd Puts Gets seqQ blkQ loopQ fnQ actQ nextP unQ MapF
attribute [local irreducible] ndL jcells noteD
/-- State, of a site that is seen -/
theorem sstateH_calls (sp bj mb bp : Nat) (id : Int) (j : Jn) (d : Nat) (L : Heap) (h1 : Has L sp (.cells ⟨[pt bj 0, iv id, .map (some mb)]⟩ 187)) (h2 : Has L bj (.cells ⟨jcells bp j⟩ 261)) (hl : j.l.length = 6) (hd : d < 6) :
    HC Tryz.prog 143 [pt sp 0, iv d] L (fun v L' => v = .tuple ⟨[.agg ⟨sc (j.l.getD d zeroE).s⟩, .nilIface]⟩ ∧ L' = L) := by
  have kg : ∀ c : List Blk, HC _ _ _ (c :: L) _ := fun c => getOk_calls bj bp j d (c :: L) (has_next h2) hl hd
  refine hc_enter (fun _ _ => Tryz.call143 _ _) Tryz.func143 rfl Tryz.ntmps143 (Nat.le_of_ble_eq_true rfl) ?_; simp only [args0, Nat.reduceAdd]
  repeat' (first | (show HW _ _ _ _ _ _; first | apply hw_seq | apply hw_region | apply hw_ret) | (show HO _ _ _ _ _ _ _; first | apply ho_nil | refine g_q (qe S) ?_ | refine g_q (ql S) ?_ | refine g_q (qC (kg _)) ?_ | refine wa S (fun b => ?_) | refine ws S ?_) | apply seqQ_normal | apply seqQ_ret)
  exact sp2 (LS.c (LS.refl _)) ⟨rfl, rfl⟩ (hx := rcell S (hg := gets_cons rfl (gets_cons rfl (gets_cons rfl gets_nil))))
/-- what is seen of a site -/
structure SiIn (L : Heap) (g : NdG) (id : Int) (j : Jn) : Prop where
  si : Has L g.sp (.cells ⟨[pt g.bj 0, iv id, .map (some g.mb)]⟩ 187)
  jn : Has L g.bj (.cells ⟨jcells g.bp j⟩ 261)
/-- the place of a node's pointer -/
structure NpIn (L : Heap) (nv : Value) (n : Nat) (s : Int) (np : Nat) : Prop where
  at_ : ∃ b i l F fr cap, nv = sl b i n cap ∧ Has L b (.cells ⟨l⟩ F fr) ∧ l[i + s.toNat]? = some (pt np 0)
  lo : 0 ≤ s
  hi : s < n
theorem wnote_calls (G : WdG) (s : Int) (g : NdG) (m : Nd) (ev : List Evt) (n : Nat) (L : Heap) (hv : Vec 81 3 ec G.ev ev G.ec) (hl : ev.length ≤ 500) (hp : NpIn L G.nv n s g.np) (hd : m.done.length = 6) (hlv : (ldVs g m).length = 6)
    (hs : ∀ j ref, m.site = some (j, ref) → SiIn L g s j ∧ j.l.length = 6) : HC Tryz.prog 101 [pt G.wp 0, iv s] ([(G.wp, wdO G)] :: G.ec :: ndB g m :: L)
    (fun v L' => ∃ evv c, Vec 81 3 ec evv (noteN s m ev).2 c ∧ v = .tuple ⟨[]⟩ ∧ L' = [(G.wp, wdO { G with ev := evv, ec := c })] :: c :: ndB g { m with done := (noteN s m ev).1 } :: L) := by
  obtain ⟨wp, wv, wc, nv, nc, mb, es, ck, lv, lc, evv, evc, nd⟩ := G
  simp only at hv hp
  obtain ⟨⟨b, i, l, F, fr, cap, rfl, hb, hg⟩, h0, h1⟩ := hp
  obtain ⟨pl, site, leads, done⟩ := m
  simp only at hd hs
  simp only [wdO, ndB, ndO]
  cases site with
  | none =>
    have g0 : (ndL (.pointer none) g.bp (ldVs g ⟨pl, none, leads, done⟩) done)[0 + 0]? = some (.pointer none) := ndL_pre rfl
    simp only [noteN, stV]
    refine hc_enter (fun _ _ => Tryz.call101 _ _) Tryz.func101 rfl Tryz.ntmps101 (Nat.le_of_ble_eq_true rfl) ?_; simp only [args0, Nat.reduceAdd]
    repeat' (first | (show HW _ _ _ _ _ _; first | apply hw_seq | apply hw_region | apply hw_block | apply hw_exit | refine g_t ?_ | refine g_f ?_ | apply hw_skip | apply hw_ret | refine g_k S ?_ | refine g_w S ?_) | (show HO _ _ _ _ _ _ _; first | apply ho_nil | refine g_q (qe S) ?_ | refine g_q (ql S) ?_ | refine g_q (qb S) ?_ | refine g_q (qbA S) ?_ | refine g_n ?_ | refine g_on ?_ | refine wa S (fun b => ?_) | refine ws S ?_ | refine wS S (fun b => ?_) | refine wSa S (fun b => ?_) | refine wSn S (fun b => ?_)) | (show HQ _ _ _ _ _ _ _; first | apply hq_nil | refine k_q (qe S) ?_ | refine k_q (ql S) ?_ | refine k_q (qb S) ?_ | refine k_q (qbA S) ?_ | refine k_n ?_) | (show HD _ _ _ _ _ _ _ _; first | apply hd_nil | refine d_q 100 (by exact rfl) (fun _ => qe S) ?_ | refine d_q 100 (by exact rfl) (fun _ => qb S) ?_ | refine d_q 100 (by exact rfl) (fun _ => qbA S) ?_ | refine dl S 100 ?_ | refine d_n 100 ?_) | ((first | refine g_b (fun h => ?_) (fun h => ?_) | refine g_s (fun h => ?_) (fun h => ?_) | refine k_s (fun h => ?_) (fun h => ?_) | refine d_sp 100 (fun h => ?_) (fun h => ?_)) <;> ((try simp only [zA, zB, zC, zD, zE, zF, ne_eq, zG, zH, and_true, true_and, eq_self, zI, zJ, zK, reduceCtorEq, zL, zM] at h); (try (exfalso; first | omega | with_reducible exact h (by assumption) | with_reducible exact absurd h (by assumption))))) | (show HD _ _ _ _ _ _ _ _; refine da 101 ?_) | refine dx ?_ | apply dx0 | refine dxd ?_ | refine dxk ?_ | apply seqQ_normal | apply seqQ_ret | apply seqQ_exit | apply blkQ_here | refine g_bx ?_ | apply blkQ_ret | apply blkQ_normal | apply loopQ_ret | apply loopQ_exit | apply unQ_ret | apply unQ_exit | apply unQ_succ)
    exact er0 rfl ⟨_, _, hv, rfl, rfl⟩
  | some q =>
    obtain ⟨j, ref⟩ := q
    obtain ⟨⟨hsi, hjn⟩, hjl⟩ := hs j ref rfl
    have g0 : ∀ dn, (ndL (pt g.sp 0) g.bp (ldVs g ⟨pl, some (j, ref), leads, done⟩) dn)[0 + 0]? = some (pt g.sp 0) := fun dn => ndL_pre rfl
    have hlv2 : ∀ dn, (ldVs g ⟨pl, some (j, ref), leads, dn⟩) = (ldVs g ⟨pl, some (j, ref), leads, done⟩) := fun dn => rfl
    generalize hLV : ldVs g ⟨pl, some (j, ref), leads, done⟩ = LV at g0 hlv hlv2
    simp only [noteN, stV]
    have g00 := g0 done
    refine hc_enter (fun _ _ => Tryz.call101 _ _) Tryz.func101 rfl Tryz.ntmps101 (Nat.le_of_ble_eq_true rfl) ?_; simp only [args0, Nat.reduceAdd]
    repeat' (first | (show HW _ _ _ _ _ _; first | apply hw_seq | apply hw_region | apply hw_block | apply hw_exit | refine g_t ?_ | refine g_f ?_ | apply hw_skip | apply hw_ret | refine g_k S ?_ | refine g_w S ?_) | (show HO _ _ _ _ _ _ _; first | apply ho_nil | refine g_q (qe S) ?_ | refine g_q (ql S) ?_ | refine g_q (qb S) ?_ | refine g_q (qbA S) ?_ | refine g_n ?_ | refine g_on ?_ | refine wa S (fun b => ?_) | refine ws S ?_ | refine wS S (fun b => ?_) | refine wSa S (fun b => ?_) | refine wSn S (fun b => ?_)) | (show HQ _ _ _ _ _ _ _; first | apply hq_nil | refine k_q (qe S) ?_ | refine k_q (ql S) ?_ | refine k_q (qb S) ?_ | refine k_q (qbA S) ?_ | refine k_n ?_) | (show HD _ _ _ _ _ _ _ _; first | apply hd_nil | refine d_q 100 (by exact rfl) (fun _ => qe S) ?_ | refine d_q 100 (by exact rfl) (fun _ => qb S) ?_ | refine d_q 100 (by exact rfl) (fun _ => qbA S) ?_ | refine dl S 100 ?_ | refine d_n 100 ?_) | ((first | refine g_b (fun h => ?_) (fun h => ?_) | refine g_s (fun h => ?_) (fun h => ?_) | refine k_s (fun h => ?_) (fun h => ?_) | refine d_sp 100 (fun h => ?_) (fun h => ?_)) <;> ((try simp only [zA, zB, zC, zD, zE, zF, ne_eq, zG, zH, and_true, true_and, eq_self, zI, zJ, zK, reduceCtorEq, zL, zM] at h); (try (exfalso; first | omega | with_reducible exact h (by assumption) | with_reducible exact absurd h (by assumption))))) | (show HD _ _ _ _ _ _ _ _; refine da 101 ?_) | refine dx ?_ | apply dx0 | refine dxd ?_ | refine dxk ?_ | apply seqQ_normal | apply seqQ_ret | apply seqQ_exit | apply blkQ_here | refine g_bx ?_ | apply blkQ_ret | apply blkQ_normal | apply loopQ_ret | apply loopQ_exit | apply unQ_ret | apply unQ_exit | apply unQ_succ)
    refine hw_loop (σ := Nat × (Value × List Blk)) (fun q => [(0, pt wp 0), (1, iv s), (4, pt g.np 0), (20, iv q.1)])
      (fun q => [(wp, .cells ⟨[wv, sl b i n cap, .map (some mb), lv, q.2.1]⟩ 110)] :: q.2.2 :: [(g.np, .cells ⟨ndL (pt g.sp 0) g.bp LV (noteR s (phOf j) (done, ev) q.1).1⟩ 122)] :: L)
      (fun q => q.1 ≤ 6 ∧ Vec 81 3 ec q.2.1 (noteR s (phOf j) (done, ev) q.1).2 q.2.2) (fun q => 6 - q.1) (0, evv, evc) (by repeat (first | exact trivial | refine ⟨rfl, ?_⟩)) (List.Sublist.refl _) ⟨by simp, hv⟩ ?_
    rintro ⟨d, ev1, c1⟩ ⟨hd6, hv1⟩
    simp only at hd6 hv1 ⊢
    have hdl := noteR_len (s := s) (ph := phOf j) (q := (done, ev)) d
    have hel := noteR_ev (s := s) (ph := phOf j) (q := (done, ev)) hl d
    have hsucc := noteR_succ s (phOf j) (done, ev) d
    generalize hRR : noteR s (phOf j) (done, ev) d = R at *
    obtain ⟨dn, es1⟩ := R
    simp only at hdl hel hv1 ⊢
    by_cases hlt : d < 6
    · have ks : ∀ c1 c2 c3 : List Blk, HC _ _ _ (c1 :: c2 :: c3 :: L) _ := fun c1 c2 c3 => sstateH_calls g.sp g.bj g.mb g.bp s j d (c1 :: c2 :: c3 :: L) (has_next (has_next (has_next hsi))) (has_next (has_next (has_next hjn))) hjl hlt
      have g00 := g0 dn
      have hdn : dn[d]? = some (dn.getD d true) := getD_some (by omega)
      have gD := ndL_done (sv := pt g.sp 0) (bp := g.bp) (lv := LV) hlv hdn
      have gP := ndL_putD (sv := pt g.sp 0) (bp := g.bp) (lv := LV) (dn := dn) (d := d) true hlv (by omega)
      obtain ⟨a5, cap5, he5, -, -⟩ := hv1.rd ec_len
      subst he5
      have hnx : noteR s (phOf j) (done, ev) (d + 1) = noteD s (phOf j) (dn, es1) d := hsucc
      by_cases hdone : dn.getD d true = true
      · rw [hdone] at gD
        have e2 : noteD s (phOf j) (dn, es1) d = (dn, es1) := by unfold noteD; rw [if_pos (.inl hdone)]
        rw [e2] at hnx
        repeat' (first | (show HW _ _ _ _ _ _; first | apply hw_seq | apply hw_region | apply hw_block | apply hw_exit | refine g_t ?_ | refine g_f ?_ | apply hw_skip | apply hw_ret | refine g_k S ?_ | refine g_w S ?_) | (show HO _ _ _ _ _ _ _; first | apply ho_nil | refine g_q (qe S) ?_ | refine g_q (ql S) ?_ | refine g_q (qb S) ?_ | refine g_q (qbA S) ?_ | refine g_q (qC (ks _ _ _)) ?_ | refine g_n ?_ | refine g_on ?_ | refine wa S (fun b => ?_) | refine ws S ?_ | refine wS S (fun b => ?_) | refine wSa S (fun b => ?_) | refine wSn S (fun b => ?_)) | (show HQ _ _ _ _ _ _ _; first | apply hq_nil | refine k_q (qe S) ?_ | refine k_q (ql S) ?_ | refine k_q (qb S) ?_ | refine k_q (qbA S) ?_ | refine k_q (qC (ks _ _ _)) ?_ | refine k_n ?_) | (show HD _ _ _ _ _ _ _ _; first | apply hd_nil | refine d_q 100 (by exact rfl) (fun _ => qe S) ?_ | refine d_q 100 (by exact rfl) (fun _ => qb S) ?_ | refine d_q 100 (by exact rfl) (fun _ => qbA S) ?_ | refine dl S 100 ?_ | refine d_n 100 ?_ | refine d_q 0 (by exact rfl) (fun _ => qC (ks _ _ _)) ?_ | refine d_q 1 (by exact rfl) (fun _ => qC (ks _ _ _)) ?_ | refine d_q 2 (by exact rfl) (fun _ => qC (ks _ _ _)) ?_ | refine d_q 3 (by exact rfl) (fun _ => qC (ks _ _ _)) ?_) | ((first | refine g_b (fun h => ?_) (fun h => ?_) | refine g_s (fun h => ?_) (fun h => ?_) | refine k_s (fun h => ?_) (fun h => ?_) | refine d_sp 100 (fun h => ?_) (fun h => ?_)) <;> ((try simp only [zA, zB, zC, zD, zE, zF, ne_eq, zG, zH, and_true, true_and, eq_self, zI, zJ, zK, reduceCtorEq, zL, zM] at h); (try (exfalso; first | omega | with_reducible exact h (by assumption) | with_reducible exact absurd h (by assumption))))) | (show HD _ _ _ _ _ _ _ _; refine da 101 ?_) | refine dx ?_ | apply dx0 | refine dxd ?_ | refine dxk ?_ | apply seqQ_normal | apply seqQ_ret | apply seqQ_exit | apply blkQ_here | refine g_bx ?_ | apply blkQ_ret | apply blkQ_normal | apply loopQ_ret | apply loopQ_exit | apply unQ_ret | apply unQ_exit | apply unQ_succ)
        refine loopQ_sp (d + 1, .slice a5 es1.length cap5, c1) (by repeat (first | exact trivial | refine ⟨rfl, ?_⟩)) ?_ ⟨by simp only; omega, ?_⟩ (by simp only; omega)
        · rw [hnx]; exact LS.c (LS.refl _)
        · rw [hnx]; exact hv1
      · have hdf : dn.getD d true = false := by simpa using hdone
        rw [hdf] at gD
        by_cases hph : phOf j d ≠ 2 ∧ phOf j d ≠ 3
        · have e2 : noteD s (phOf j) (dn, es1) d = (dn, es1) := by unfold noteD; rw [if_pos (.inr hph)]
          rw [e2] at hnx
          unfold phOf at hph
          repeat' (first | (show HW _ _ _ _ _ _; first | apply hw_seq | apply hw_region | apply hw_block | apply hw_exit | refine g_t ?_ | refine g_f ?_ | apply hw_skip | apply hw_ret | refine g_k S ?_ | refine g_w S ?_) | (show HO _ _ _ _ _ _ _; first | apply ho_nil | refine g_q (qe S) ?_ | refine g_q (ql S) ?_ | refine g_q (qb S) ?_ | refine g_q (qbA S) ?_ | refine g_q (qC (ks _ _ _)) ?_ | refine g_n ?_ | refine g_on ?_ | refine wa S (fun b => ?_) | refine ws S ?_ | refine wS S (fun b => ?_) | refine wSa S (fun b => ?_) | refine wSn S (fun b => ?_)) | (show HQ _ _ _ _ _ _ _; first | apply hq_nil | refine k_q (qe S) ?_ | refine k_q (ql S) ?_ | refine k_q (qb S) ?_ | refine k_q (qbA S) ?_ | refine k_q (qC (ks _ _ _)) ?_ | refine k_n ?_) | (show HD _ _ _ _ _ _ _ _; first | apply hd_nil | refine d_q 100 (by exact rfl) (fun _ => qe S) ?_ | refine d_q 100 (by exact rfl) (fun _ => qb S) ?_ | refine d_q 100 (by exact rfl) (fun _ => qbA S) ?_ | refine dl S 100 ?_ | refine d_n 100 ?_ | refine d_q 0 (by exact rfl) (fun _ => qC (ks _ _ _)) ?_ | refine d_q 1 (by exact rfl) (fun _ => qC (ks _ _ _)) ?_ | refine d_q 2 (by exact rfl) (fun _ => qC (ks _ _ _)) ?_ | refine d_q 3 (by exact rfl) (fun _ => qC (ks _ _ _)) ?_) | ((first | refine g_b (fun h => ?_) (fun h => ?_) | refine g_s (fun h => ?_) (fun h => ?_) | refine k_s (fun h => ?_) (fun h => ?_) | refine d_sp 100 (fun h => ?_) (fun h => ?_)) <;> ((try simp only [zA, zB, zC, zD, zE, zF, ne_eq, zG, zH, and_true, true_and, eq_self, zI, zJ, zK, reduceCtorEq, zL, zM] at h); (try (exfalso; first | omega | with_reducible exact h (by assumption) | with_reducible exact absurd h (by assumption))))) | (show HD _ _ _ _ _ _ _ _; refine da 101 ?_) | refine dx ?_ | apply dx0 | refine dxd ?_ | refine dxk ?_ | apply seqQ_normal | apply seqQ_ret | apply seqQ_exit | apply blkQ_here | refine g_bx ?_ | apply blkQ_ret | apply blkQ_normal | apply loopQ_ret | apply loopQ_exit | apply unQ_ret | apply unQ_exit | apply unQ_succ)
          all_goals refine loopQ_sp (d + 1, .slice a5 es1.length cap5, c1) (by repeat (first | exact trivial | refine ⟨rfl, ?_⟩)) ?_ ⟨by simp only; omega, ?_⟩ (by simp only; omega)
          all_goals rw [hnx]
          all_goals first | exact hv1 | exact LS.c (LS.refl _)
        · have e2 : noteD s (phOf j) (dn, es1) d = (dn.set d true, if es1.length < 500 then es1 ++ [⟨s, d, phOf j d⟩] else es1) := by unfold noteD; rw [if_neg (by simp only [hdf]; intro h; rcases h with h | h; cases h; exact hph h)]
          rw [e2] at hnx
          have hph' := hph
          unfold phOf at hph'
          by_cases h500 : es1.length < 500
          · rw [if_pos h500] at hnx
            repeat' (first | (show HW _ _ _ _ _ _; first | apply hw_seq | apply hw_region | apply hw_block | apply hw_exit | refine g_t ?_ | refine g_f ?_ | apply hw_skip | apply hw_ret | refine g_k S ?_ | refine g_w S ?_) | (show HO _ _ _ _ _ _ _; first | apply ho_nil | refine g_q (qe S) ?_ | refine g_q (ql S) ?_ | refine g_q (qb S) ?_ | refine g_q (qbA S) ?_ | refine g_q (qC (ks _ _ _)) ?_ | refine g_n ?_ | refine g_on ?_ | refine wa S (fun b => ?_) | refine ws S ?_ | refine wS S (fun b => ?_) | refine wSa S (fun b => ?_) | refine wSn S (fun b => ?_)) | (show HQ _ _ _ _ _ _ _; first | apply hq_nil | refine k_q (qe S) ?_ | refine k_q (ql S) ?_ | refine k_q (qb S) ?_ | refine k_q (qbA S) ?_ | refine k_q (qC (ks _ _ _)) ?_ | refine k_n ?_) | (show HD _ _ _ _ _ _ _ _; first | apply hd_nil | refine d_q 100 (by exact rfl) (fun _ => qe S) ?_ | refine d_q 100 (by exact rfl) (fun _ => qb S) ?_ | refine d_q 100 (by exact rfl) (fun _ => qbA S) ?_ | refine dl S 100 ?_ | refine d_n 100 ?_ | refine d_q 0 (by exact rfl) (fun _ => qC (ks _ _ _)) ?_ | refine d_q 1 (by exact rfl) (fun _ => qC (ks _ _ _)) ?_ | refine d_q 2 (by exact rfl) (fun _ => qC (ks _ _ _)) ?_ | refine d_q 3 (by exact rfl) (fun _ => qC (ks _ _ _)) ?_) | ((first | refine g_b (fun h => ?_) (fun h => ?_) | refine g_s (fun h => ?_) (fun h => ?_) | refine k_s (fun h => ?_) (fun h => ?_) | refine d_sp 100 (fun h => ?_) (fun h => ?_)) <;> ((try simp only [zA, zB, zC, zD, zE, zF, ne_eq, zG, zH, and_true, true_and, eq_self, zI, zJ, zK, reduceCtorEq, zL, zM] at h); (try (exfalso; first | omega | with_reducible exact h (by assumption) | with_reducible exact absurd h (by assumption))))) | (show HD _ _ _ _ _ _ _ _; refine da 101 ?_) | refine dx ?_ | apply dx0 | refine dxd ?_ | refine dxk ?_ | apply seqQ_normal | apply seqQ_ret | apply seqQ_exit | apply blkQ_here | refine g_bx ?_ | apply blkQ_ret | apply blkQ_normal | apply loopQ_ret | apply loopQ_exit | apply unQ_ret | apply unQ_exit | apply unQ_succ)
            all_goals refine fo 3 ?_
            all_goals refine wp1 S ⟨s, d, phOf j d⟩ hv1 ec_len ec_one ?_
            all_goals intro v' c' hv'
            all_goals obtain ⟨a6, cap6, he6, -, -⟩ := hv'.rd ec_len
            all_goals subst he6
            all_goals repeat' (first | (show HW _ _ _ _ _ _; first | apply hw_seq | apply hw_region | apply hw_block | apply hw_exit | refine g_t ?_ | refine g_f ?_ | apply hw_skip | apply hw_ret | refine g_k S ?_ | refine g_w S ?_) | (show HO _ _ _ _ _ _ _; first | apply ho_nil | refine g_q (qe S) ?_ | refine g_q (ql S) ?_ | refine g_q (qb S) ?_ | refine g_q (qbA S) ?_ | refine g_q (qC (ks _ _ _)) ?_ | refine g_n ?_ | refine g_on ?_ | refine wa S (fun b => ?_) | refine ws S ?_ | refine wS S (fun b => ?_) | refine wSa S (fun b => ?_) | refine wSn S (fun b => ?_)) | (show HQ _ _ _ _ _ _ _; first | apply hq_nil | refine k_q (qe S) ?_ | refine k_q (ql S) ?_ | refine k_q (qb S) ?_ | refine k_q (qbA S) ?_ | refine k_q (qC (ks _ _ _)) ?_ | refine k_n ?_) | (show HD _ _ _ _ _ _ _ _; first | apply hd_nil | refine d_q 100 (by exact rfl) (fun _ => qe S) ?_ | refine d_q 100 (by exact rfl) (fun _ => qb S) ?_ | refine d_q 100 (by exact rfl) (fun _ => qbA S) ?_ | refine dl S 100 ?_ | refine d_n 100 ?_ | refine d_q 0 (by exact rfl) (fun _ => qC (ks _ _ _)) ?_ | refine d_q 1 (by exact rfl) (fun _ => qC (ks _ _ _)) ?_ | refine d_q 2 (by exact rfl) (fun _ => qC (ks _ _ _)) ?_ | refine d_q 3 (by exact rfl) (fun _ => qC (ks _ _ _)) ?_) | ((first | refine g_b (fun h => ?_) (fun h => ?_) | refine g_s (fun h => ?_) (fun h => ?_) | refine k_s (fun h => ?_) (fun h => ?_) | refine d_sp 100 (fun h => ?_) (fun h => ?_)) <;> ((try simp only [zA, zB, zC, zD, zE, zF, ne_eq, zG, zH, and_true, true_and, eq_self, zI, zJ, zK, reduceCtorEq, zL, zM] at h); (try (exfalso; first | omega | with_reducible exact h (by assumption) | with_reducible exact absurd h (by assumption))))) | (show HD _ _ _ _ _ _ _ _; refine da 101 ?_) | refine dx ?_ | apply dx0 | refine dxd ?_ | refine dxk ?_ | apply seqQ_normal | apply seqQ_ret | apply seqQ_exit | apply blkQ_here | refine g_bx ?_ | apply blkQ_ret | apply blkQ_normal | apply loopQ_ret | apply loopQ_exit | apply unQ_ret | apply unQ_exit | apply unQ_succ)
            all_goals refine loopQ_sp (d + 1, .slice a6 (es1 ++ [⟨s, d, phOf j d⟩] : List Evt).length cap6, c') (by repeat (first | exact trivial | refine ⟨rfl, ?_⟩)) ?_ ⟨by simp only; omega, ?_⟩ (by simp only; omega)
            all_goals rw [hnx]
            all_goals first | exact hv' | exact (by repeat (first | (with_reducible first | refine LS.p0 ?_ | refine LS.p1 ?_ | refine LS.p2 ?_ | refine LS.p3 ?_ | refine LS.p4 ?_ | refine LS.p5 ?_ | refine LS.p6 ?_ | refine LS.p7 ?_ | refine LS.p8 ?_ | refine LS.p9 ?_ | refine LS.p10 ?_ | refine LS.p11 ?_ | refine LS.p12 ?_ | refine LS.e ?_ | exact LS.refl _) | refine LS.p0 ?_ | refine LS.p1 ?_ | refine LS.p2 ?_ | refine LS.p3 ?_ | refine LS.p4 ?_ | refine LS.p5 ?_ | refine LS.p6 ?_ | refine LS.p7 ?_ | refine LS.p8 ?_ | refine LS.p9 ?_ | refine LS.p10 ?_ | refine LS.p11 ?_ | refine LS.p12 ?_ | (with_reducible refine LS.c ?_)))
          · rw [if_neg h500] at hnx
            repeat' (first | (show HW _ _ _ _ _ _; first | apply hw_seq | apply hw_region | apply hw_block | apply hw_exit | refine g_t ?_ | refine g_f ?_ | apply hw_skip | apply hw_ret | refine g_k S ?_ | refine g_w S ?_) | (show HO _ _ _ _ _ _ _; first | apply ho_nil | refine g_q (qe S) ?_ | refine g_q (ql S) ?_ | refine g_q (qb S) ?_ | refine g_q (qbA S) ?_ | refine g_q (qC (ks _ _ _)) ?_ | refine g_n ?_ | refine g_on ?_ | refine wa S (fun b => ?_) | refine ws S ?_ | refine wS S (fun b => ?_) | refine wSa S (fun b => ?_) | refine wSn S (fun b => ?_)) | (show HQ _ _ _ _ _ _ _; first | apply hq_nil | refine k_q (qe S) ?_ | refine k_q (ql S) ?_ | refine k_q (qb S) ?_ | refine k_q (qbA S) ?_ | refine k_q (qC (ks _ _ _)) ?_ | refine k_n ?_) | (show HD _ _ _ _ _ _ _ _; first | apply hd_nil | refine d_q 100 (by exact rfl) (fun _ => qe S) ?_ | refine d_q 100 (by exact rfl) (fun _ => qb S) ?_ | refine d_q 100 (by exact rfl) (fun _ => qbA S) ?_ | refine dl S 100 ?_ | refine d_n 100 ?_ | refine d_q 0 (by exact rfl) (fun _ => qC (ks _ _ _)) ?_ | refine d_q 1 (by exact rfl) (fun _ => qC (ks _ _ _)) ?_ | refine d_q 2 (by exact rfl) (fun _ => qC (ks _ _ _)) ?_ | refine d_q 3 (by exact rfl) (fun _ => qC (ks _ _ _)) ?_) | ((first | refine g_b (fun h => ?_) (fun h => ?_) | refine g_s (fun h => ?_) (fun h => ?_) | refine k_s (fun h => ?_) (fun h => ?_) | refine d_sp 100 (fun h => ?_) (fun h => ?_)) <;> ((try simp only [zA, zB, zC, zD, zE, zF, ne_eq, zG, zH, and_true, true_and, eq_self, zI, zJ, zK, reduceCtorEq, zL, zM] at h); (try (exfalso; first | omega | with_reducible exact h (by assumption) | with_reducible exact absurd h (by assumption))))) | (show HD _ _ _ _ _ _ _ _; refine da 101 ?_) | refine dx ?_ | apply dx0 | refine dxd ?_ | refine dxk ?_ | apply seqQ_normal | apply seqQ_ret | apply seqQ_exit | apply blkQ_here | refine g_bx ?_ | apply blkQ_ret | apply blkQ_normal | apply loopQ_ret | apply loopQ_exit | apply unQ_ret | apply unQ_exit | apply unQ_succ)
            all_goals refine loopQ_sp (d + 1, .slice a5 es1.length cap5, c1) (by repeat (first | exact trivial | refine ⟨rfl, ?_⟩)) ?_ ⟨by simp only; omega, ?_⟩ (by simp only; omega)
            all_goals rw [hnx]
            all_goals first | exact hv1 | exact LS.c (LS.refl _)
    · obtain rfl : d = 6 := by omega
      have hR6 : noteR s (phOf j) (done, ev) 6 = (dn, es1) := hRR
      rw [hR6]
      repeat' (first | (show HW _ _ _ _ _ _; first | apply hw_seq | apply hw_region | apply hw_block | apply hw_exit | refine g_t ?_ | refine g_f ?_ | apply hw_skip | apply hw_ret | refine g_k S ?_ | refine g_w S ?_) | (show HO _ _ _ _ _ _ _; first | apply ho_nil | refine g_q (qe S) ?_ | refine g_q (ql S) ?_ | refine g_q (qb S) ?_ | refine g_q (qbA S) ?_ | refine g_n ?_ | refine g_on ?_ | refine wa S (fun b => ?_) | refine ws S ?_ | refine wS S (fun b => ?_) | refine wSa S (fun b => ?_) | refine wSn S (fun b => ?_)) | (show HQ _ _ _ _ _ _ _; first | apply hq_nil | refine k_q (qe S) ?_ | refine k_q (ql S) ?_ | refine k_q (qb S) ?_ | refine k_q (qbA S) ?_ | refine k_n ?_) | (show HD _ _ _ _ _ _ _ _; first | apply hd_nil | refine d_q 100 (by exact rfl) (fun _ => qe S) ?_ | refine d_q 100 (by exact rfl) (fun _ => qb S) ?_ | refine d_q 100 (by exact rfl) (fun _ => qbA S) ?_ | refine dl S 100 ?_ | refine d_n 100 ?_) | ((first | refine g_b (fun h => ?_) (fun h => ?_) | refine g_s (fun h => ?_) (fun h => ?_) | refine k_s (fun h => ?_) (fun h => ?_) | refine d_sp 100 (fun h => ?_) (fun h => ?_)) <;> ((try simp only [zA, zB, zC, zD, zE, zF, ne_eq, zG, zH, and_true, true_and, eq_self, zI, zJ, zK, reduceCtorEq, zL, zM] at h); (try (exfalso; first | omega | with_reducible exact h (by assumption) | with_reducible exact absurd h (by assumption))))) | (show HD _ _ _ _ _ _ _ _; refine da 101 ?_) | refine dx ?_ | apply dx0 | refine dxd ?_ | refine dxk ?_ | apply seqQ_normal | apply seqQ_ret | apply seqQ_exit | apply blkQ_here | refine g_bx ?_ | apply blkQ_ret | apply blkQ_normal | apply loopQ_ret | apply loopQ_exit | apply unQ_ret | apply unQ_exit | apply unQ_succ)
      exact ee0 rfl ⟨_, _, hv1, rfl, by rw [hlv2 dn]⟩
end Go.HL
end

/-! WoF -/
section
namespace Go.HL
open Go Go.Proofs
set_option linter.unusedVariables false
set_option linter.unusedSimpArgs false
def noLeads : List (Option Ld) := List.replicate 6 none
def nil6 : List Value := List.replicate 6 (.pointer none)
theorem noLeads_vs : ∀ (ld : List (Nat × Value × List Blk)), ld.length = 6 → List.zipWith ldV noLeads ld = nil6
  | [_, _, _, _, _, _], _ => rfl
/-- a node's fields -/
theorem ndL_put0 {sv sv' : Value} {bp : Nat} {lv : List Value} {dn : List Bool} : Puts (ndL sv bp lv dn) (0 + 0) [sv'] (ndL sv' bp lv dn) := by
  have : ndL sv' bp lv dn = (ndL sv bp lv dn).set (0 + 0) sv' := rfl
  rw [this]
  exact puts_set (by simp [ndL])
theorem ndL_putL {sv : Value} {bp : Nat} {lv lv' : List Value} {dn : List Bool} (h : lv'.length = lv.length) : Puts (ndL sv bp lv dn) (0 + 2) lv' (ndL sv bp lv' dn) := by
  have key := puts_mid (l := ndL sv bp lv dn) (i := 0 + 2) (vs := lv') (by rw [ndL, h]; simp; omega)
  have e : (ndL sv bp lv dn).take (0 + 2) ++ lv' ++ (ndL sv bp lv dn).drop (0 + 2 + lv'.length) = ndL sv bp lv' dn := by
    rw [h]
    have e1 : (ndL sv bp lv dn).drop (0 + 2 + lv.length) = dn.map Value.bool := by
      rw [ndL]
      have : 0 + 2 + lv.length = ([sv, pt bp 0] ++ lv).length := by simp; omega
      rw [this, List.drop_left]
    rw [e1]
    simp [ndL]
  rw [e] at key
  exact key
theorem ndL_lead {sv : Value} {bp : Nat} {lv : List Value} {dn : List Bool} {d : Nat} {v : Value} (h : lv[d]? = some v) : (ndL sv bp lv dn)[0 + 2 + (d : Int).toNat * 1]? = some v := by
  have hlt : d < lv.length := (List.getElem?_eq_some_iff.1 h).1
  rw [ndL, List.append_assoc, List.getElem?_append_right (by simp <;> omega), List.getElem?_append_left (by simp <;> omega)]
  rw [show 0 + 2 + (d : Int).toNat * 1 - [sv, pt bp 0].length = d by simp <;> omega]
  exact h
theorem ndL_put1 {sv : Value} {bp : Nat} {lv : List Value} {dn : List Bool} {d : Nat} (v : Value) (h : d < lv.length) : Puts (ndL sv bp lv dn) (0 + 2 + (d : Int).toNat * 1) [v] (ndL sv bp (lv.set d v) dn) := by
  have e : ndL sv bp (lv.set d v) dn = (ndL sv bp lv dn).set (0 + 2 + (d : Int).toNat * 1) v := by
    rw [ndL, ndL, List.append_assoc, List.append_assoc, List.set_append_right _ _ (by simp <;> omega), List.set_append_left _ _ (by simp <;> omega)]
    rw [show 0 + 2 + (d : Int).toNat * 1 - [sv, pt bp 0].length = d by simp <;> omega]
  rw [e]
  refine puts_set ?_
  simp [ndL]
  omega
attribute [local irreducible] HW HO HQ HD HC QOp Has Upd Puts Gets seqQ blkQ loopQ fnQ actQ nextP unQ MapF
attribute [local irreducible] ndL jcells plC siteM
theorem wfall_calls (g : NdG) (m : Nd) (L : Heap) (hl : (ldVs g m).length = 6) (hd : g.ld.length = 6) : HC Tryz.prog 99 [pt g.np 0] (ndB g m :: L) (fun v L' => v = .tuple ⟨[]⟩ ∧ L' = ndB g { m with site := none, leads := noLeads } :: L) := by
  have e : ldVs g { m with site := none, leads := noLeads } = nil6 := noLeads_vs _ hd
  simp only [ndB, ndO, e, stV]
  have p0 := ndL_put0 (sv := stV g m.site) (sv' := .pointer none) (bp := g.bp) (lv := ldVs g m) (dn := m.done)
  have p1 := ndL_putL (sv := .pointer none) (bp := g.bp) (lv := ldVs g m) (lv' := nil6) (dn := m.done) (by rw [hl]; rfl)
  refine hc_enter (fun _ _ => Tryz.call99 _ _) Tryz.func99 rfl Tryz.ntmps99 (Nat.le_of_ble_eq_true rfl) ?_; simp only [args0, Nat.reduceAdd]
  repeat' (first | (show HW _ _ _ _ _ _; first | apply hw_seq | apply hw_region | apply hw_ret) | (show HO _ _ _ _ _ _ _; first | apply ho_nil | refine g_q (qe S) ?_ | refine g_q (qb S) ?_ | refine g_q (qbA S) ?_ | refine ws S ?_) | apply seqQ_normal | apply seqQ_ret)
  exact ee0 rfl ⟨rfl, rfl⟩
def hearNd (s : Int) (m : Nd) (ev : List Evt) (f : Fr) : Nd × List Evt × List Fr × Bool := match m.site with
  | none => (m, ev, [], false)
  | some (j, ref) => if (siteM s ref m.pl j f).1.off then (⟨(siteM s ref m.pl j f).1, none, noLeads, m.done⟩, ev, [], false)
    else (⟨(siteM s ref m.pl j f).1, some ((siteM s ref m.pl j f).2.1, ref), m.leads, (noteN s ⟨(siteM s ref m.pl j f).1, some ((siteM s ref m.pl j f).2.1, ref), m.leads, m.done⟩ ev).1⟩,
      (noteN s ⟨(siteM s ref m.pl j f).1, some ((siteM s ref m.pl j f).2.1, ref), m.leads, m.done⟩ ev).2, (siteM s ref m.pl j f).2.2.1, (siteM s ref m.pl j f).2.2.2.isNone)
theorem NpIn.cons {L : Heap} {nv : Value} {n : Nat} {s : Int} {np : Nat} (h : NpIn L nv n s np) (c : List Blk) : NpIn (c :: L) nv n s np := by
  obtain ⟨⟨b, i, l, F, fr, cap, h1, h2, h3⟩, h4, h5⟩ := h
  exact ⟨⟨b, i, l, F, fr, cap, h1, has_next h2, h3⟩, h4, h5⟩
/-- what a call to hear leaves -/
def HearQ (G : WdG) (s : Int) (g : NdG) (m : Nd) (ref : Int → Bool) (ev : List Evt) (r : Pl × Jn × List Fr × Option Nat) (L : Heap) (v : Value) (L' : Heap) : Prop :=
  if r.1.off then v = .tuple ⟨[nilS, .bool false]⟩ ∧ L' = [(G.wp, wdO G)] :: G.ec :: ndB g ⟨r.1, none, noLeads, m.done⟩ :: plC g.bp g.ba r.1 :: L
  else ∃ fv c evv c2, FrVec fv r.2.2.1 c ∧ Vec 81 3 ec evv (noteN s ⟨r.1, some (r.2.1, ref), m.leads, m.done⟩ ev).2 c2 ∧ v = .tuple ⟨[fv, .bool r.2.2.2.isNone]⟩ ∧
    L' = [(G.wp, wdO { G with ev := evv, ec := c2 })] :: c2 :: ndB g ⟨r.1, some (r.2.1, ref), m.leads, (noteN s ⟨r.1, some (r.2.1, ref), m.leads, m.done⟩ ev).1⟩ :: siC g.sp g.bj g.mb s :: mpC g.mb g.es g.ck :: plC g.bp g.ba r.1 :: jC g.bj g.bp r.2.1 :: c :: L
theorem whear_calls (T : Nat) (E : Nat → Addr) (G : WdG) (s : Int) (g : NdG) (m : Nd) (f : Fr) (ev : List Evt) (n : Nat) (j : Jn) (ref : Int → Bool) (L : Heap) (hG : Er T E [2, 3, 5, 6] L) (hp : NpIn L G.nv n s g.np) (hv : Vec 81 3 ec G.ev ev G.ec) (hl : ev.length ≤ 500)
    (hN : NdOk g m) (w : List Int) (sn : Nat) (hI : NdI w sn m) (hs : m.site = some (j, ref)) (hj' : (siteM s ref m.pl j f).2.1.l.length = 6) : HC Tryz.prog 75 [pt G.wp 0, iv s, .agg ⟨fc f⟩] ([(G.wp, wdO G)] :: G.ec :: ndB g m :: siC g.sp g.bj g.mb s :: mpC g.mb g.es g.ck :: plC g.bp g.ba m.pl :: jC g.bj g.bp j :: L)
    (HearQ G s g m ref ev (siteM s ref m.pl j f) L) := by
  have hF := hN.map j ref hs
  have hj := (hI.jn hs).ji.jn
  have kh := fun L hG => shear_calls T E g.sp g.bj g.mb g.bp g.ba s g.es g.ck ref m.pl j f L hG hF hI.pl hj
  generalize siteM s ref m.pl j f = r at kh hj' ⊢
  obtain ⟨pl', j', fs, er⟩ := r
  simp only at kh hj' ⊢
  have hlvs : ∀ x, (ldVs g ⟨pl', x, m.leads, m.done⟩).length = 6 := fun x => by simp [ldVs, hI.leads, hN.ld]
  have hlvs0 : (ldVs g m).length = 6 := by simp [ldVs, hI.leads, hN.ld]
  have hpw := power_calls g.bp g.ba pl'
  have kf := fun L => wfall_calls g m L hlvs0 hN.ld
  unfold HearQ
  obtain ⟨pl, site, leads, done⟩ := m
  simp only at hs kh kf hlvs ⊢
  subst hs
  obtain ⟨wp, wv, wc, nv, nc, mb, es, ck, lv, lc, evv, evc, nd⟩ := G
  simp only at hv hp ⊢
  have hp0 := hp
  obtain ⟨⟨nb, i, l, F, fr, cap, rfl, hb, hg⟩, h0, h1⟩ := hp
  have g0 : (ndL (pt g.sp 0) g.bp (ldVs g ⟨pl, some (j, ref), leads, done⟩) done)[0 + 0]? = some (pt g.sp 0) := ndL_pre rfl
  have g1 : (ndL (pt g.sp 0) g.bp (ldVs g ⟨pl, some (j, ref), leads, done⟩) done)[0 + 1]? = some (pt g.bp 0) := ndL_pre rfl
  simp only [wdO, ndB, ndO, stV] at kf ⊢
  cases hoff : pl'.off with
  | true =>
    simp only [if_true]
    rw [hoff] at hpw
    refine hc_enter (fun _ _ => Tryz.call75 _ _) Tryz.func75 rfl Tryz.ntmps75 (Nat.le_of_ble_eq_true rfl) ?_; simp only [args0, Nat.reduceAdd]
    repeat' (first | (show HW _ _ _ _ _ _; first | apply hw_seq | apply hw_region | refine g_t ?_ | refine g_f ?_ | apply hw_skip | apply hw_ret | refine g_d S ?_) | (show HO _ _ _ _ _ _ _; first | apply ho_nil | refine g_q (qe S) ?_ | refine g_q (ql S) ?_ | refine g_q (qs S) ?_ | refine g_q (qn S) ?_ | refine wb (fun b => ?_)) | (show HD _ _ _ _ _ _ _ _; first | apply hd_nil | refine d_q 100 (by exact rfl) (fun _ => qe S) ?_ | refine d_q 100 (by exact rfl) (fun _ => qn S) ?_ | refine dl S 100 ?_ | refine ds S 100 ?_) | ((first | refine g_b (fun h => ?_) (fun h => ?_)) <;> ((try simp only [zA, zB, zC, zD, zE, zF, ne_eq, zG, zH, and_true, true_and, eq_self, zI, zJ, zK, reduceCtorEq, zL, zM] at h); (try (exfalso; first | omega | with_reducible exact h (by assumption) | with_reducible exact absurd h (by assumption))))) | (show HD _ _ _ _ _ _ _ _; refine da 101 ?_) | refine dx ?_ | apply dx0 | refine dxd ?_ | refine dxk ?_ | apply seqQ_normal | apply seqQ_ret)
    refine fo 7 ?_
    refine fo 7 ?_
    refine fo 7 ?_
    refine fo 7 ?_
    refine gc (kh _ ?_) ?_
    · exact ((((hG.cons _).cons _).cons _).cons _)
    rintro v L' ⟨fv, c, rfl, hfv, rfl⟩
    repeat' (first | (show HW _ _ _ _ _ _; first | apply hw_seq | apply hw_region | refine g_t ?_ | refine g_f ?_ | apply hw_skip | apply hw_ret | refine g_d S ?_) | (show HO _ _ _ _ _ _ _; first | apply ho_nil | refine g_q (qe S) ?_ | refine g_q (ql S) ?_ | refine g_q (qs S) ?_ | refine g_q (qn S) ?_ | refine g_q (qC (hq1 (hpw) 2)) ?_ | refine wb (fun b => ?_)) | (show HD _ _ _ _ _ _ _ _; first | apply hd_nil | refine d_q 100 (by exact rfl) (fun _ => qe S) ?_ | refine d_q 100 (by exact rfl) (fun _ => qn S) ?_ | refine dl S 100 ?_ | refine ds S 100 ?_ | refine d_q 0 (by exact rfl) (fun _ => qC (hq1 (hpw) 2)) ?_ | refine d_q 1 (by exact rfl) (fun _ => qC (hq1 (hpw) 2)) ?_ | refine d_q 2 (by exact rfl) (fun _ => qC (hq1 (hpw) 2)) ?_ | refine d_q 3 (by exact rfl) (fun _ => qC (hq1 (hpw) 2)) ?_) | ((first | refine g_b (fun h => ?_) (fun h => ?_)) <;> ((try simp only [zA, zB, zC, zD, zE, zF, ne_eq, zG, zH, and_true, true_and, eq_self, zI, zJ, zK, reduceCtorEq, zL, zM] at h); (try (exfalso; first | omega | with_reducible exact h (by assumption) | with_reducible exact absurd h (by assumption))))) | (show HD _ _ _ _ _ _ _ _; refine da 101 ?_) | refine dx ?_ | apply dx0 | refine dxd ?_ | refine dxk ?_ | apply seqQ_normal | apply seqQ_ret)
    refine fo 8 ?_
    refine gc (kf _) ?_
    rintro v L' ⟨rfl, rfl⟩
    repeat' (first | (show HW _ _ _ _ _ _; first | apply hw_seq | apply hw_region | refine g_t ?_ | refine g_f ?_ | apply hw_skip | apply hw_ret | refine g_d S ?_) | (show HO _ _ _ _ _ _ _; first | apply ho_nil | refine g_q (qe S) ?_ | refine g_q (ql S) ?_ | refine g_q (qs S) ?_ | refine g_q (qn S) ?_ | refine wb (fun b => ?_)) | (show HD _ _ _ _ _ _ _ _; first | apply hd_nil | refine d_q 100 (by exact rfl) (fun _ => qe S) ?_ | refine d_q 100 (by exact rfl) (fun _ => qn S) ?_ | refine dl S 100 ?_ | refine ds S 100 ?_) | ((first | refine g_b (fun h => ?_) (fun h => ?_)) <;> ((try simp only [zA, zB, zC, zD, zE, zF, ne_eq, zG, zH, and_true, true_and, eq_self, zI, zJ, zK, reduceCtorEq, zL, zM] at h); (try (exfalso; first | omega | with_reducible exact h (by assumption) | with_reducible exact absurd h (by assumption))))) | (show HD _ _ _ _ _ _ _ _; refine da 101 ?_) | refine dx ?_ | apply dx0 | refine dxd ?_ | refine dxk ?_ | apply seqQ_normal | apply seqQ_ret)
    exact sp2 (L' := [(wp, .cells ⟨[wv, sl nb i n cap, .map (some mb), lv, evv]⟩ 110)] :: evc :: ndB g ⟨pl', none, noLeads, done⟩ :: plC g.bp g.ba pl' :: L) (by simp only [ndB, ndO]; exact (by repeat (first | (with_reducible first | refine LS.p0 ?_ | refine LS.p1 ?_ | refine LS.p2 ?_ | refine LS.p3 ?_ | refine LS.p4 ?_ | refine LS.p5 ?_ | refine LS.p6 ?_ | refine LS.p7 ?_ | refine LS.p8 ?_ | refine LS.p9 ?_ | refine LS.p10 ?_ | refine LS.p11 ?_ | refine LS.p12 ?_ | refine LS.e ?_ | exact LS.refl _) | refine LS.p0 ?_ | refine LS.p1 ?_ | refine LS.p2 ?_ | refine LS.p3 ?_ | refine LS.p4 ?_ | refine LS.p5 ?_ | refine LS.p6 ?_ | refine LS.p7 ?_ | refine LS.p8 ?_ | refine LS.p9 ?_ | refine LS.p10 ?_ | refine LS.p11 ?_ | refine LS.p12 ?_ | (with_reducible refine LS.c ?_)))) ⟨rfl, rfl⟩
  | false =>
    simp only [Bool.false_eq_true, if_false]
    rw [hoff] at hpw
    have hkn := fun (M1 : Nd) (hM : M1 = ⟨pl', some (j', ref), leads, done⟩) (G1 : WdG) (hG1 : G1 = ⟨wp, wv, wc, sl nb i n cap, nc, mb, es, ck, lv, lc, evv, evc, nd⟩) L (hq : NpIn L (sl nb i n cap) n s g.np) (hsi : SiIn L g s j') => wnote_calls G1 s g M1 ev n L (by subst hG1; exact hv) hl (by subst hG1; exact hq) (by subst hM; exact hI.done) (by subst hM; exact hlvs _) (by subst hM; intro j2 r2 h2; cases h2; exact ⟨hsi, hj'⟩)
    have hkn := fun L hq hsi => hkn _ rfl _ rfl L hq hsi
    simp only [wdO, ndB, ndO, stV] at hkn
    refine hc_enter (fun _ _ => Tryz.call75 _ _) Tryz.func75 rfl Tryz.ntmps75 (Nat.le_of_ble_eq_true rfl) ?_; simp only [args0, Nat.reduceAdd]
    repeat' (first | (show HW _ _ _ _ _ _; first | apply hw_seq | apply hw_region | refine g_t ?_ | refine g_f ?_ | apply hw_skip | apply hw_ret | refine g_d S ?_) | (show HO _ _ _ _ _ _ _; first | apply ho_nil | refine g_q (qe S) ?_ | refine g_q (ql S) ?_ | refine g_q (qs S) ?_ | refine g_q (qn S) ?_ | refine wb (fun b => ?_)) | (show HD _ _ _ _ _ _ _ _; first | apply hd_nil | refine d_q 100 (by exact rfl) (fun _ => qe S) ?_ | refine d_q 100 (by exact rfl) (fun _ => qn S) ?_ | refine dl S 100 ?_ | refine ds S 100 ?_) | ((first | refine g_b (fun h => ?_) (fun h => ?_)) <;> ((try simp only [zA, zB, zC, zD, zE, zF, ne_eq, zG, zH, and_true, true_and, eq_self, zI, zJ, zK, reduceCtorEq, zL, zM] at h); (try (exfalso; first | omega | with_reducible exact h (by assumption) | with_reducible exact absurd h (by assumption))))) | (show HD _ _ _ _ _ _ _ _; refine da 101 ?_) | refine dx ?_ | apply dx0 | refine dxd ?_ | refine dxk ?_ | apply seqQ_normal | apply seqQ_ret)
    refine fo 7 ?_
    refine fo 7 ?_
    refine fo 7 ?_
    refine fo 7 ?_
    refine gc (kh _ ?_) ?_
    · exact ((((hG.cons _).cons _).cons _).cons _)
    rintro v L' ⟨fv, c, rfl, hfv, rfl⟩
    repeat' (first | (show HW _ _ _ _ _ _; first | apply hw_seq | apply hw_region | refine g_t ?_ | refine g_f ?_ | apply hw_skip | apply hw_ret | refine g_d S ?_) | (show HO _ _ _ _ _ _ _; first | apply ho_nil | refine g_q (qe S) ?_ | refine g_q (ql S) ?_ | refine g_q (qs S) ?_ | refine g_q (qn S) ?_ | refine g_q (qC (hq1 (hpw) 2)) ?_ | refine wb (fun b => ?_)) | (show HD _ _ _ _ _ _ _ _; first | apply hd_nil | refine d_q 100 (by exact rfl) (fun _ => qe S) ?_ | refine d_q 100 (by exact rfl) (fun _ => qn S) ?_ | refine dl S 100 ?_ | refine ds S 100 ?_ | refine d_q 0 (by exact rfl) (fun _ => qC (hq1 (hpw) 2)) ?_ | refine d_q 1 (by exact rfl) (fun _ => qC (hq1 (hpw) 2)) ?_ | refine d_q 2 (by exact rfl) (fun _ => qC (hq1 (hpw) 2)) ?_ | refine d_q 3 (by exact rfl) (fun _ => qC (hq1 (hpw) 2)) ?_) | ((first | refine g_b (fun h => ?_) (fun h => ?_)) <;> ((try simp only [zA, zB, zC, zD, zE, zF, ne_eq, zG, zH, and_true, true_and, eq_self, zI, zJ, zK, reduceCtorEq, zL, zM] at h); (try (exfalso; first | omega | with_reducible exact h (by assumption) | with_reducible exact absurd h (by assumption))))) | (show HD _ _ _ _ _ _ _ _; refine da 101 ?_) | refine dx ?_ | apply dx0 | refine dxd ?_ | refine dxk ?_ | apply seqQ_normal | apply seqQ_ret)
    refine fo 8 ?_
    refine fo 8 ?_
    refine fo 8 ?_
    refine gc (hkn _ ?_ ?_) ?_
    · exact (((((((⟨⟨nb, i, l, F, fr, cap, rfl, hb, hg⟩, h0, h1⟩ : NpIn L (sl nb i n cap) n s g.np).cons _).cons _).cons _).cons _).cons _).cons _)
    · exact ⟨has_here, has_next (has_next (has_next has_here))⟩
    rintro v L' ⟨evv', c2, hv2, rfl, rfl⟩
    obtain ⟨af, capf, rfl, -, -⟩ := hfv.rd fc_len
    cases er with
    | none =>
      repeat' (first | (show HW _ _ _ _ _ _; first | apply hw_seq | apply hw_region | refine g_t ?_ | refine g_f ?_ | apply hw_skip | apply hw_ret | refine g_d S ?_) | (show HO _ _ _ _ _ _ _; first | apply ho_nil | refine g_q (qe S) ?_ | refine g_q (ql S) ?_ | refine g_q (qs S) ?_ | refine g_q (qn S) ?_ | refine wb (fun b => ?_)) | (show HD _ _ _ _ _ _ _ _; first | apply hd_nil | refine d_q 100 (by exact rfl) (fun _ => qe S) ?_ | refine d_q 100 (by exact rfl) (fun _ => qn S) ?_ | refine dl S 100 ?_ | refine ds S 100 ?_) | ((first | refine g_b (fun h => ?_) (fun h => ?_)) <;> ((try simp only [zA, zB, zC, zD, zE, zF, ne_eq, zG, zH, and_true, true_and, eq_self, zI, zJ, zK, reduceCtorEq, zL, zM] at h); (try (exfalso; first | omega | with_reducible exact h (by assumption) | with_reducible exact absurd h (by assumption))))) | (show HD _ _ _ _ _ _ _ _; refine da 101 ?_) | refine dx ?_ | apply dx0 | refine dxd ?_ | refine dxk ?_ | apply seqQ_normal | apply seqQ_ret)
      exact sp2 (by repeat (first | (with_reducible first | refine LS.p0 ?_ | refine LS.p1 ?_ | refine LS.p2 ?_ | refine LS.p3 ?_ | refine LS.p4 ?_ | refine LS.p5 ?_ | refine LS.p6 ?_ | refine LS.p7 ?_ | refine LS.p8 ?_ | refine LS.p9 ?_ | refine LS.p10 ?_ | refine LS.p11 ?_ | refine LS.p12 ?_ | refine LS.e ?_ | exact LS.refl _) | refine LS.p0 ?_ | refine LS.p1 ?_ | refine LS.p2 ?_ | refine LS.p3 ?_ | refine LS.p4 ?_ | refine LS.p5 ?_ | refine LS.p6 ?_ | refine LS.p7 ?_ | refine LS.p8 ?_ | refine LS.p9 ?_ | refine LS.p10 ?_ | refine LS.p11 ?_ | refine LS.p12 ?_ | (with_reducible refine LS.c ?_))) ⟨_, _, _, _, hfv, hv2, rfl, rfl⟩
    | some x =>
      repeat' (first | (show HW _ _ _ _ _ _; first | apply hw_seq | apply hw_region | refine g_t ?_ | refine g_f ?_ | apply hw_skip | apply hw_ret | refine g_d S ?_) | (show HO _ _ _ _ _ _ _; first | apply ho_nil | refine g_q (qe S) ?_ | refine g_q (ql S) ?_ | refine g_q (qs S) ?_ | refine g_q (qn S) ?_ | refine wb (fun b => ?_)) | (show HD _ _ _ _ _ _ _ _; first | apply hd_nil | refine d_q 100 (by exact rfl) (fun _ => qe S) ?_ | refine d_q 100 (by exact rfl) (fun _ => qn S) ?_ | refine dl S 100 ?_ | refine ds S 100 ?_) | ((first | refine g_b (fun h => ?_) (fun h => ?_)) <;> ((try simp only [zA, zB, zC, zD, zE, zF, ne_eq, zG, zH, and_true, true_and, eq_self, zI, zJ, zK, reduceCtorEq, zL, zM] at h); (try (exfalso; first | omega | with_reducible exact h (by assumption) | with_reducible exact absurd h (by assumption))))) | (show HD _ _ _ _ _ _ _ _; refine da 101 ?_) | refine dx ?_ | apply dx0 | refine dxd ?_ | refine dxk ?_ | apply seqQ_normal | apply seqQ_ret)
      exact sp2 (by repeat (first | (with_reducible first | refine LS.p0 ?_ | refine LS.p1 ?_ | refine LS.p2 ?_ | refine LS.p3 ?_ | refine LS.p4 ?_ | refine LS.p5 ?_ | refine LS.p6 ?_ | refine LS.p7 ?_ | refine LS.p8 ?_ | refine LS.p9 ?_ | refine LS.p10 ?_ | refine LS.p11 ?_ | refine LS.p12 ?_ | refine LS.e ?_ | exact LS.refl _) | refine LS.p0 ?_ | refine LS.p1 ?_ | refine LS.p2 ?_ | refine LS.p3 ?_ | refine LS.p4 ?_ | refine LS.p5 ?_ | refine LS.p6 ?_ | refine LS.p7 ?_ | refine LS.p8 ?_ | refine LS.p9 ?_ | refine LS.p10 ?_ | refine LS.p11 ?_ | refine LS.p12 ?_ | (with_reducible refine LS.c ?_))) ⟨_, _, _, _, hfv, hv2, rfl, rfl⟩
end Go.HL
end

/-! PlR -/
section
namespace Go.HL
open Go Go.Proofs
set_option linter.unusedVariables false
set_option linter.unusedSimpArgs false
attribute [local irreducible] HW HO HQ HD HC QOp Has Upd Puts Gets seqQ blkQ loopQ fnQ actQ nextP unQ MapF
end Go.HL
end

/-! ErD1 -/
section
namespace Go.HL
open Go Go.Proofs
set_option linter.unusedVariables false
set_option linter.unusedSimpArgs false
attribute [local irreducible] HW HO HQ HD HC QOp Has Upd Puts Gets seqQ blkQ loopQ fnQ actQ nextP unQ MapF
end Go.HL
end

/-! PlC -/
section
namespace Go.HL
open Go Go.Proofs
set_option linter.unusedVariables false
set_option linter.unusedSimpArgs false
/-- two blocks asked for, wherever they lie -/
theorem hcHas2 {P : Program} {F : Nat} {args : List Value} {b c : Nat} {o q : Obj} {V : Value} (h : ∀ L, HC P F args ([(b, o), (c, q)] :: L) (fun v L' => v = V ∧ L' = [(b, o), (c, q)] :: L)) (hne : (c, q) ≠ (b, o)) {L : Heap} (hb : Has L b o) (hc : Has L c q) : HC P F args L (fun v L' => v = V ∧ L' = L) := by
  obtain ⟨l1, l2, e⟩ := List.append_of_mem hb
  have hm : (c, q) ∈ l1 ++ l2 := by
    have : (c, q) ∈ l1 ++ (b, o) :: l2 := e ▸ hc
    simp only [List.mem_append, List.mem_cons] at this ⊢
    rcases this with h | h | h
    · exact .inl h
    · exact absurd h hne
    · exact .inr h
  obtain ⟨m1, m2, e2⟩ := List.append_of_mem hm
  have hp : List.Perm L.flatten ([(b, o), (c, q)] :: [m1 ++ m2]).flatten := by
    rw [e]
    simp only [List.flatten_cons, List.flatten_nil, List.append_nil, List.cons_append, List.nil_append]
    refine List.perm_middle.trans (.cons _ ?_)
    rw [e2]
    exact List.perm_middle
  exact ⟨(h []).1, fun k w hs => ((h [m1 ++ m2]).2 k w (hs.sp (LS.of_perm hp.symm))).mono fun e w' ⟨v, L', he, hs', hv, hL⟩ => ⟨v, L, he, (hL ▸ hs').sp (LS.of_perm hp), hv, rfl⟩⟩
def plB (bp ba : Nat) (m : Pl) : Blk := (bp, .cells ⟨[sl ba 0 m.b.length m.b.length, .bool m.off, iv m.cut]⟩ 181)
def plD (ba : Nat) (m : Pl) : Blk := (ba, .cells ⟨m.b.map u8⟩ 5)
theorem bytes_has (bp ba : Nat) (m : Pl) (L : Heap) (h : ∀ p ∈ [plB bp ba m, plD ba m], Has L p.1 p.2) : HC Tryz.prog 123 [pt bp 0] L (fun v L' => v = bs m.b ∧ L' = L) :=
  hcHas2 (bytes_calls bp ba m) (by simp) (h (plB bp ba m) (by simp)) (h (plD ba m) (by simp))
section dt
variable {P : Program} (S : Tab P) {n : Nat} {ops : List Oper} {Q : Exit → Env → Heap → Prop} {Ss : List (Nat × Blk)} {rem rem' : List (Nat × Oper)} {ρ : Env} {L : Heap} {ty : TypeId} {pos : String} {af : Array Edge} {g : Option (Nat × Bool)} {d i : Nat}
end dt
attribute [local irreducible] HW HO HQ HD HC QOp Has Upd Puts Gets seqQ blkQ loopQ fnQ actQ nextP unQ MapF
attribute [local irreducible] plC zeros plB plD
end Go.HL
end

/-! WoG -/
section
namespace Go.HL
open Go Go.Proofs
set_option linter.unusedVariables false
set_option linter.unusedSimpArgs false
/-- a deal's state by a plate -/
def plSt (m : Pl) (d : Int) : St := ((openM m.b).getD d.toNat zeroE).s
def wstateE (M : Wm) (s d : Int) : Option Nat := match nodeE M s with
  | some e => some e
  | none => if d < 0 ∨ 6 ≤ d then some 2 else none
def wstate (M : Wm) (s d : Int) : St := match wstateE M s d with
  | some _ => zeroS
  | none => plSt (ndAt M s).pl d
theorem openM_six (b : List UInt8) : (openM b).length = 6 := by simp [openM]
theorem WdIn.cons {L : Heap} {G : WdG} {M : Wm} (h : WdIn L G M) (c : List Blk) : WdIn (c :: L) G M := by
  obtain ⟨h1, ⟨a2, c2, e2, r2⟩, ⟨a3, c3, e3, r3⟩, ⟨a4, c4, e4, r4⟩, h5⟩ := h
  exact ⟨has_next h1, ⟨a2, c2, e2, r2.cons c⟩, ⟨a3, c3, e3, r3.cons c⟩, ⟨a4, c4, e4, r4.cons c⟩, h5⟩
attribute [local irreducible] HW HO HQ HD HC QOp Has Upd Puts Gets seqQ blkQ loopQ fnQ actQ nextP unQ MapF
attribute [local irreducible] ndL jcells plC openM
theorem wstate_calls (T : Nat) (E : Nat → Addr) (G : WdG) (M : Wm) (s d : Int) (L : Heap) (hG : Er T E [2, 6] L) (hI : WdIn L G M) (hl : G.nd.length = M.n.length) (hN : nodeE M s = none → Has L (npAt G s).np (ndO (npAt G s) (ndAt M s)))
    (hP : nodeE M s = none → 216 ≤ (ndAt M s).pl.b.length ∧ (ndAt M s).pl.b.length ≤ 512 ∧ ∀ p ∈ [plB (npAt G s).bp (npAt G s).ba (ndAt M s).pl, plD (npAt G s).ba (ndAt M s).pl], Has L p.1 p.2) :
    HC Tryz.prog 68 [pt G.wp 0, iv s, iv d] L (fun v L' => v = .tuple ⟨[.agg ⟨sc (wstate M s d)⟩, eV T E (wstateE M s d)]⟩ ∧ L' = L) := by
  have kn := fun L hG hI => wnode_calls T E G M s L hG hI hl
  unfold wstate wstateE
  rcases node_cases (M := M) s with he | ⟨he, h0, h1⟩
  · simp only [he] at kn ⊢
    refine hc_enter (fun _ _ => Tryz.call68 _ _) Tryz.func68 rfl Tryz.ntmps68 (Nat.le_of_ble_eq_true rfl) ?_; simp only [args0, Nat.reduceAdd]
    repeat' (first | (show HW _ _ _ _ _ _; first | apply hw_seq | apply hw_region | refine g_t ?_ | refine g_f ?_ | apply hw_skip | apply hw_ret) | (show HO _ _ _ _ _ _ _; first | apply ho_nil | refine g_q (qe S) ?_ | refine g_q (ql S) ?_ | refine g_q (qb S) ?_ | refine g_q (qbA S) ?_ | refine g_q (qC (kn _ (hG.sub.cons _) (hI.cons _))) ?_ | refine wa S (fun b => ?_) | refine ws S ?_) | ((first | refine g_b (fun h => ?_) (fun h => ?_)) <;> ((try simp only [zA, zB, zC, zD, zE, zF, ne_eq, zG, zH, and_true, true_and, eq_self, zI, zJ, zK, reduceCtorEq, zL, zM] at h); (try (exfalso; first | omega | with_reducible exact h (by assumption) | with_reducible exact absurd h (by assumption))))) | apply seqQ_normal | apply seqQ_ret)
    exact sp2 (LS.c (LS.refl _)) ⟨rfl, rfl⟩ (hx := rcell S (hg := gets_cons rfl (gets_cons rfl (gets_cons rfl gets_nil))))
  · have hN' := hN he
    obtain ⟨hp1, hp2, hp3⟩ := hP he
    simp only [he] at kn ⊢
    generalize ndAt M s = m at hN' hp1 hp2 hp3 ⊢
    generalize hg : npAt G s = g at hN' hp3 kn
    have hbh : ∀ c : List Blk, ∀ p ∈ [plB g.bp g.ba m.pl, plD g.ba m.pl], Has (c :: L) p.1 p.2 := fun c p hp => has_next (hp3 p hp)
    unfold ndO at hN'
    have g1 : (ndL (stV g m.site) g.bp (ldVs g m) m.done)[0 + 1]? = some (pt g.bp 0) := ndL_pre rfl
    refine hc_enter (fun _ _ => Tryz.call68 _ _) Tryz.func68 rfl Tryz.ntmps68 (Nat.le_of_ble_eq_true rfl) ?_; simp only [args0, Nat.reduceAdd]
    repeat' (first | (show HW _ _ _ _ _ _; first | apply hw_seq | apply hw_region | refine g_t ?_ | refine g_f ?_ | apply hw_skip | apply hw_ret) | (show HO _ _ _ _ _ _ _; first | apply ho_nil | refine g_q (qe S) ?_ | refine g_q (ql S) ?_ | refine g_q (qb S) ?_ | refine g_q (qbA S) ?_ | refine g_q (qC (kn _ (hG.sub.cons _) (hI.cons _))) ?_ | refine g_q (qC (bytes_has g.bp g.ba m.pl _ (hbh _))) ?_ | refine wa S (fun b => ?_) | refine ws S ?_) | ((first | refine g_b (fun h => ?_) (fun h => ?_)) <;> ((try simp only [zA, zB, zC, zD, zE, zF, ne_eq, zG, zH, and_true, true_and, eq_self, zI, zJ, zK, reduceCtorEq, zL, zM] at h); (try (exfalso; first | omega | with_reducible exact h (by assumption) | with_reducible exact absurd h (by assumption))))) | apply seqQ_normal | apply seqQ_ret)
    refine gc (from_calls T E m.pl.b _ (hG.sub.cons _) (by omega)) ?_
    simp only [if_pos hp2]
    rintro v L' ⟨bp, ba, rfl, rfl⟩
    repeat' (first | (show HW _ _ _ _ _ _; first | apply hw_seq | apply hw_region | refine g_t ?_ | refine g_f ?_ | apply hw_skip | apply hw_ret) | (show HO _ _ _ _ _ _ _; first | apply ho_nil | refine g_q (qe S) ?_ | refine g_q (ql S) ?_ | refine g_q (qb S) ?_ | refine g_q (qbA S) ?_ | refine g_q (qC (kn _ (hG.sub.cons _) (hI.cons _))) ?_ | refine wa S (fun b => ?_) | refine ws S ?_) | ((first | refine g_b (fun h => ?_) (fun h => ?_)) <;> ((try simp only [zA, zB, zC, zD, zE, zF, ne_eq, zG, zH, and_true, true_and, eq_self, zI, zJ, zK, reduceCtorEq, zL, zM] at h); (try (exfalso; first | omega | with_reducible exact h (by assumption) | with_reducible exact absurd h (by assumption))))) | apply seqQ_normal | apply seqQ_ret)
    refine gc (open_calls T E bp ba _ _ (hG.cons _) (by simp only; omega)) ?_
    have hnl : ¬ (m.pl.b.length < 216) := by omega
    simp only [if_neg hnl, Bool.false_eq_true, if_false]
    rintro v L' ⟨bj, rfl, rfl⟩
    repeat' (first | (show HW _ _ _ _ _ _; first | apply hw_seq | apply hw_region | refine g_t ?_ | refine g_f ?_ | apply hw_skip | apply hw_ret) | (show HO _ _ _ _ _ _ _; first | apply ho_nil | refine g_q (qe S) ?_ | refine g_q (ql S) ?_ | refine g_q (qb S) ?_ | refine g_q (qbA S) ?_ | refine g_q (qC (kn _ (hG.sub.cons _) (hI.cons _))) ?_ | refine wa S (fun b => ?_) | refine ws S ?_) | ((first | refine g_b (fun h => ?_) (fun h => ?_)) <;> ((try simp only [zA, zB, zC, zD, zE, zF, ne_eq, zG, zH, and_true, true_and, eq_self, zI, zJ, zK, reduceCtorEq, zL, zM] at h); (try (exfalso; first | omega | with_reducible exact h (by assumption) | with_reducible exact absurd h (by assumption))))) | apply seqQ_normal | apply seqQ_ret)
    refine gc (get_calls T E bj bp _ d _ ((hG.sub.cons _).cons _) (openM_six _)) ?_
    by_cases hd : d < 0 ∨ 6 ≤ d
    · simp only [if_pos hd]
      rintro v L' ⟨rfl, rfl⟩
      repeat' (first | (show HW _ _ _ _ _ _; first | apply hw_seq | apply hw_region | refine g_t ?_ | refine g_f ?_ | apply hw_skip | apply hw_ret) | (show HO _ _ _ _ _ _ _; first | apply ho_nil | refine g_q (qe S) ?_ | refine g_q (ql S) ?_ | refine g_q (qb S) ?_ | refine g_q (qbA S) ?_ | refine g_q (qC (kn _ (hG.sub.cons _) (hI.cons _))) ?_ | refine wa S (fun b => ?_) | refine ws S ?_) | ((first | refine g_b (fun h => ?_) (fun h => ?_)) <;> ((try simp only [zA, zB, zC, zD, zE, zF, ne_eq, zG, zH, and_true, true_and, eq_self, zI, zJ, zK, reduceCtorEq, zL, zM] at h); (try (exfalso; first | omega | with_reducible exact h (by assumption) | with_reducible exact absurd h (by assumption))))) | apply seqQ_normal | apply seqQ_ret)
      exact sp2 (LS.c (LS.c (LS.c (LS.refl _)))) ⟨rfl, rfl⟩ (hx := rcell S (hg := gets_cons rfl (gets_cons rfl (gets_cons rfl gets_nil))))
    · simp only [if_neg hd]
      rintro v L' ⟨rfl, rfl⟩
      repeat' (first | (show HW _ _ _ _ _ _; first | apply hw_seq | apply hw_region | refine g_t ?_ | refine g_f ?_ | apply hw_skip | apply hw_ret) | (show HO _ _ _ _ _ _ _; first | apply ho_nil | refine g_q (qe S) ?_ | refine g_q (ql S) ?_ | refine g_q (qb S) ?_ | refine g_q (qbA S) ?_ | refine g_q (qC (kn _ (hG.sub.cons _) (hI.cons _))) ?_ | refine wa S (fun b => ?_) | refine ws S ?_) | ((first | refine g_b (fun h => ?_) (fun h => ?_)) <;> ((try simp only [zA, zB, zC, zD, zE, zF, ne_eq, zG, zH, and_true, true_and, eq_self, zI, zJ, zK, reduceCtorEq, zL, zM] at h); (try (exfalso; first | omega | with_reducible exact h (by assumption) | with_reducible exact absurd h (by assumption))))) | apply seqQ_normal | apply seqQ_ret)
      exact sp2 (LS.c (LS.c (LS.c (LS.refl _)))) ⟨rfl, rfl⟩ (hx := rcell S (hg := gets_cons rfl (gets_cons rfl (gets_cons rfl gets_nil))))
end Go.HL
end

/-! WoM -/
section
namespace Go.HL
open Go Go.Proofs
set_option linter.unusedVariables false
set_option linter.unusedSimpArgs false
def setN (M : Wm) (s : Int) (m : Nd) : Wm := { M with n := M.n.set s.toNat m }
def isBusy (d : Int) (m : Nd) : Bool := decide (plSt m.pl d ≠ zeroS) || (m.leads.getD d.toNat none).isSome
def beginW (M : Wm) (s d : Int) : Wm × Option Nat :=
  if d < 0 ∨ 6 ≤ d ∨ s < 0 ∨ M.n.length ≤ s then (M, some 2) else
  match upE M s with
  | some e => (M, some e)
  | none => if M.n.any (isBusy d) then (M, some 8) else
    ({ setN M s { ndAt M s with leads := (ndAt M s).leads.set d.toNat (some (newLd s d M.w 0 2)) } with l := M.l ++ startM (newLd s d M.w 0 2) }, none)
def refuseN (m : Nd) (d : Int) : Nd := match m.site with
  | none => m
  | some (j, ref) => { m with site := some (j, fun x => if x = d then true else ref x) }
def refuseW (M : Wm) (s d : Int) : Wm × Option Nat :=
  if d < 0 ∨ 6 ≤ d then (M, some 2) else
  match upE M s with
  | some e => (M, some e)
  | none => (setN M s (refuseN (ndAt M s) d), none)
def hearW (M : Wm) (s : Int) (f : Fr) : Wm × List Fr × Bool :=
  ({ setN M s (hearNd s (ndAt M s) M.ev f).1 with ev := (hearNd s (ndAt M s) M.ev f).2.1 }, (hearNd s (ndAt M s) M.ev f).2.2)
/-- a lead hears some frames -/
def hearsM (m : Ld) (l : List Fr) : Ld × List Fr := l.foldl (fun q f => ((hearM q.1 f).1, q.2 ++ (hearM q.1 f).2)) (m, [])
def tryAbove (m : Nd) (d promise : Int) : Int := match m.leads.getD d.toNat none with
  | none => promise
  | some x => max promise x.seen
def tryAtt (k s a : Int) : Int := a + (s - a) % k
def tryF (s d a : Int) : Fr := ⟨s, s, d, 3, a, false, zeroS⟩
def tryW (M : Wm) (s d promise : Int) : Wm × Bool :=
  let a := tryAtt M.w.length s (tryAbove (ndAt M s) d promise + 1)
  if 1048576 < a then (M, true) else
  let r := hearW M s (tryF s d a)
  if r.2.2 = false then (r.1, false) else
  let q := hearsM (newLd s d M.w a 4) r.2.1
  ({ setN r.1 s { ndAt r.1 s with leads := (ndAt r.1 s).leads.set d.toNat (some q.1) } with l := r.1.l ++ startM (newLd s d M.w a 4) ++ q.2 }, true)
def decideF (M : Wm) (s : Int) (d : Int) (st : St) : List Fr := (List.range M.w.length).map fun (i : Nat) => (⟨s, (i : Int), d, 7, st.pr, false, ⟨st.ph, 0, 0⟩⟩ : Fr)
/-- a deal's part of a tick; false: the site has fallen -/
def tickD (s : Int) (q : Wm × Bool) (d : Nat) : Wm × Bool :=
  if q.2 = false then q else
  match (ndAt q.1 s).site with
  | none => (q.1, false)
  | some (j, _) =>
    if stAt j d = zeroS then q else
    if (stAt j d).ph = 2 ∨ (stAt j d).ph = 3 then ({ q.1 with l := q.1.l ++ decideF q.1 s d (stAt j d) }, true) else
    tryW q.1 s d (stAt j d).pr
def tickW (M : Wm) (s : Int) : Wm × Option Nat := match upE M s with
  | some e => (M, some e)
  | none => (((List.range 6).foldl (tickD s) (M, true)).1, none)
def linkP (f : Fr) : Int × Int := (min f.fr f.to, max f.fr f.to)
def deliverW (M : Wm) (k : Int) : Wm × Option Nat := match wat M k with
  | some e => (M, some e)
  | none =>
    let f := M.l.getD k.toNat zeroF
    let M1 : Wm := { M with l := M.l.eraseIdx k.toNat }
    if (ndAt M1 f.to).site.isNone ∨ M.br (linkP f) = true then (M1, none) else
    if f.kd = 2 ∨ f.kd = 4 ∨ f.kd = 6 then
      match (ndAt M1 f.to).leads.getD f.dl.toNat none with
      | none => (M1, none)
      | some x => ({ setN M1 f.to { ndAt M1 f.to with leads := (ndAt M1 f.to).leads.set f.dl.toNat (some (hearM x f).1) } with l := M1.l ++ (hearM x f).2 }, none)
    else ({ (hearW M1 f.to f).1 with l := M1.l ++ (hearW M1 f.to f).2.1 }, none)
def dropW (M : Wm) (k : Int) : Wm × Option Nat := match wat M k with
  | some e => (M, some e)
  | none => ({ M with l := M.l.eraseIdx k.toNat }, none)
def twiceW (M : Wm) (k : Int) : Wm × Option Nat := match wat M k with
  | some e => (M, some e)
  | none => ({ M with l := M.l.take (k + 1).toNat ++ M.l.getD k.toNat zeroF :: M.l.drop (k + 1).toNat }, none)
def linkW (M : Wm) (a b : Int) (whole : Bool) : Wm × Option Nat :=
  if a < 0 ∨ M.n.length ≤ a ∨ b < 0 ∨ M.n.length ≤ b then (M, some 2) else
  ({ M with br := fun x => if x = (min a b, max a b) then (!whole && decide (a ≠ b)) else M.br x }, none)
def cutW (M : Wm) (s n : Int) : Wm × Option Nat :=
  if n < 0 then (M, some 2) else
  match upE M s with
  | some e => (M, some e)
  | none => (setN M s { ndAt M s with pl := { (ndAt M s).pl with cut := n } }, none)
def downN (m : Nd) : Nd := ⟨{ m.pl with off := true }, none, noLeads, m.done⟩
def downW (M : Wm) (s : Int) : Wm × Option Nat := match upE M s with
  | some e => (M, some e)
  | none => (setN M s (downN (ndAt M s)), none)
/-- a node that comes up: it is told nothing yet -/
def bootN (m : Nd) : Nd := ⟨{ m.pl with off := false, cut := -1 }, some (⟨openM m.pl.b, false⟩, fun _ => false), m.leads, m.done⟩
def upW (M : Wm) (s : Int) : Wm × Option Nat := match nodeE M s with
  | some e => (M, some e)
  | none => if (ndAt M s).site.isSome then (M, some 8) else
    ({ setN M s { bootN (ndAt M s) with done := (noteN s (bootN (ndAt M s)) M.ev).1 } with ev := (noteN s (bootN (ndAt M s)) M.ev).2 }, none)
def leadW (M : Wm) (s d : Int) : List UInt8 × Option Nat :=
  if s < 0 ∨ M.n.length ≤ s ∨ d < 0 ∨ 6 ≤ d then ([], some 2) else
  match (ndAt M s).leads.getD d.toNat none with
  | none => ([110, 111, 110, 101], none)
  | some x => (x.state, none)
def newNd : Nd := ⟨⟨zeros 512, false, -1⟩, some (⟨openM (zeros 512), false⟩, fun _ => false), noLeads, List.replicate 6 false⟩
def newW (w : List Int) : Wm := ⟨w, List.replicate w.length newNd, fun _ => false, [], []⟩
end Go.HL
end

/-! WoN -/
section
namespace Go.HL
open Go Go.Proofs
set_option linter.unusedVariables false
set_option linter.unusedSimpArgs false
def siS (g : NdG) (i : Int) : Option (Jn × (Int → Bool)) → List Blk
  | none => []
  | some _ => siC g.sp g.bj g.mb i
def siN (g : NdG) : Option (Jn × (Int → Bool)) → List Blk
  | none => []
  | some _ => mpC g.mb g.es g.ck
def siJ (g : NdG) : Option (Jn × (Int → Bool)) → List Blk
  | none => []
  | some (j, _) => jC g.bj g.bp j
theorem siB_cut (g : NdG) (i : Int) (s : Option (Jn × (Int → Bool))) : siB g i s = siS g i s ++ (siN g s ++ siJ g s) := by
  rcases s with _ | ⟨j, r⟩
  · rfl
  · simp [siB, siS, siN, siJ]
/-- a world opened at a node; X: the other nodes -/
def wdOp (G : WdG) (s : Int) (g : NdG) (m : Nd) (X : List Blk) (L : Heap) : Heap :=
  [(G.wp, wdO G)] :: G.ec :: ndB g m :: siS g s m.site :: siN g m.site :: plC g.bp g.ba m.pl :: siJ g m.site :: ldBs g m :: G.lc :: G.wc :: G.nc :: [(G.mb, .map ⟨G.es⟩ G.ck)] :: X :: L
theorem wdOp_cut (G : WdG) (s : Int) (g : NdG) (m : Nd) (X : List Blk) (L : Heap) : (wdT G ++ [ndA g s m ++ X] ++ L).flatten = ([(G.wp, wdO G)] :: G.wc :: G.nc :: [(G.mb, .map ⟨G.es⟩ G.ck)] :: G.lc :: G.ec :: ndB g m :: plC g.bp g.ba m.pl :: siS g s m.site :: siN g m.site :: siJ g m.site :: ldBs g m :: X :: L).flatten := by
  simp only [wdT, ndA, siB_cut, List.flatten_cons, List.flatten_append, List.cons_append, List.nil_append, List.append_assoc, List.flatten_nil, List.append_nil]
theorem wdOp_ls (G : WdG) (s : Int) (g : NdG) (m : Nd) (X : List Blk) (L : Heap) : LS (wdOp G s g m X L).flatten (wdT G ++ [ndA g s m ++ X] ++ L).flatten := by
  rw [wdOp_cut, wdOp]
  exact (by repeat (first | (with_reducible first | refine LS.p0 ?_ | refine LS.p1 ?_ | refine LS.p2 ?_ | refine LS.p3 ?_ | refine LS.p4 ?_ | refine LS.p5 ?_ | refine LS.p6 ?_ | refine LS.p7 ?_ | refine LS.p8 ?_ | refine LS.p9 ?_ | refine LS.p10 ?_ | refine LS.p11 ?_ | refine LS.p12 ?_ | refine LS.e ?_ | exact LS.refl _) | refine LS.p0 ?_ | refine LS.p1 ?_ | refine LS.p2 ?_ | refine LS.p3 ?_ | refine LS.p4 ?_ | refine LS.p5 ?_ | refine LS.p6 ?_ | refine LS.p7 ?_ | refine LS.p8 ?_ | refine LS.p9 ?_ | refine LS.p10 ?_ | refine LS.p11 ?_ | refine LS.p12 ?_ | (with_reducible refine LS.c ?_)))
theorem wdOp_sl (G : WdG) (s : Int) (g : NdG) (m : Nd) (X : List Blk) (L : Heap) : LS (wdT G ++ [ndA g s m ++ X] ++ L).flatten (wdOp G s g m X L).flatten := by
  rw [wdOp_cut, wdOp]
  exact (by repeat (first | (with_reducible first | refine LS.p0 ?_ | refine LS.p1 ?_ | refine LS.p2 ?_ | refine LS.p3 ?_ | refine LS.p4 ?_ | refine LS.p5 ?_ | refine LS.p6 ?_ | refine LS.p7 ?_ | refine LS.p8 ?_ | refine LS.p9 ?_ | refine LS.p10 ?_ | refine LS.p11 ?_ | refine LS.p12 ?_ | refine LS.e ?_ | exact LS.refl _) | refine LS.p0 ?_ | refine LS.p1 ?_ | refine LS.p2 ?_ | refine LS.p3 ?_ | refine LS.p4 ?_ | refine LS.p5 ?_ | refine LS.p6 ?_ | refine LS.p7 ?_ | refine LS.p8 ?_ | refine LS.p9 ?_ | refine LS.p10 ?_ | refine LS.p11 ?_ | refine LS.p12 ?_ | (with_reducible refine LS.c ?_)))
theorem toNat_zero_add {s : Int} (h : 0 ≤ s) : ((0 + s.toNat : Nat) : Int) = s := by omega
theorem nds_flat {gs : List NdG} {ms : List Nd} {s : Int} {g : NdG} {m : Nd} (h0 : 0 ≤ s) (hg : gs[s.toNat]? = some g) (hm : ms[s.toNat]? = some m) (T : Heap) (L : Heap) : List.Perm (T ++ [ndsB gs ms 0] ++ L).flatten (T ++ [ndA g s m ++ ndsX gs ms 0 s.toNat] ++ L).flatten := by
  have := nds_open (i := 0) hg hm
  rw [toNat_zero_add h0] at this
  simp only [List.flatten_append, List.flatten_cons, List.flatten_nil, List.append_nil]
  exact (this.append_left _).append_right _
theorem wd_open {G : WdG} {M : Wm} {s : Int} (hl : G.nd.length = M.n.length) (h0 : 0 ≤ s) (h1 : s < M.n.length) (L : Heap) : LS (wdOp G s (npAt G s) (ndAt M s) (ndsX G.nd M.n 0 s.toNat) L).flatten (wdH G M ++ L).flatten := by
  have hg : G.nd[s.toNat]? = some (npAt G s) := getD_some (by omega)
  have hm : M.n[s.toNat]? = some (ndAt M s) := getD_some (by omega)
  refine LS.trans (wdOp_ls _ _ _ _ _ _) (LS.of_perm ?_)
  exact (nds_flat h0 hg hm (wdT G) L).symm
theorem wd_close {G : WdG} {gs : List NdG} {ms : List Nd} {s : Int} {g : NdG} {m : Nd} (h0 : 0 ≤ s) (h1 : s.toNat < gs.length) (h2 : s.toNat < ms.length) (L : Heap) : LS (wdT G ++ [ndsB (gs.set s.toNat g) (ms.set s.toNat m) 0] ++ L).flatten (wdOp G s g m (ndsX gs ms 0 s.toNat) L).flatten := by
  have hg : (gs.set s.toNat g)[s.toNat]? = some g := by simp [h1]
  have hm : (ms.set s.toNat m)[s.toNat]? = some m := by simp [h2]
  refine LS.trans (LS.of_perm (nds_flat h0 hg hm (wdT G) L)) ?_
  rw [nds_set]
  exact wdOp_sl _ _ _ _ _ _
/-- what is one node's is seen -/
theorem wd_has {G : WdG} {M : Wm} {s : Int} (hl : G.nd.length = M.n.length) (h0 : 0 ≤ s) (h1 : s < M.n.length) {b : Nat} {o : Obj} (hb : (b, o) ∈ ndA (npAt G s) s (ndAt M s)) (L : Heap) : Has (ndsB G.nd M.n 0 :: L) b o := by
  have hg : G.nd[s.toNat]? = some (npAt G s) := getD_some (by omega)
  have hm : M.n[s.toNat]? = some (ndAt M s) := getD_some (by omega)
  have := nds_open (i := 0) hg hm
  rw [toNat_zero_add h0] at this
  unfold Has
  rw [List.flatten_cons]
  exact List.mem_append_left _ (this.mem_iff.2 (List.mem_append_left _ hb))
theorem wd_hasN {G : WdG} {M : Wm} {s : Int} (hl : G.nd.length = M.n.length) (h0 : 0 ≤ s) (h1 : s < M.n.length) (L : Heap) : Has (ndsB G.nd M.n 0 :: L) (npAt G s).np (ndO (npAt G s) (ndAt M s)) :=
  wd_has hl h0 h1 (by simp [ndA, ndB]) L
theorem wdOk_at {G : WdG} {M : Wm} (h : WdOk G M) {s : Int} (h0 : 0 ≤ s) (h1 : s < M.n.length) : NdOk (npAt G s) (ndAt M s) := by
  have hl := h.ndl
  exact h.nd s.toNat _ _ (getD_some (by omega)) (getD_some (by omega))
theorem wi_at {M : Wm} (h : WI M) {s : Int} (h0 : 0 ≤ s) (h1 : s < M.n.length) : NdI M.w s.toNat (ndAt M s) := h.nd s.toNat _ (getD_some (by omega))
/-- a world's memory, changed -/
theorem WdOk.setL {G : WdG} {M : Wm} (h : WdOk G M) {lv : Value} {lc : List Blk} {l : List Fr} (hv : FrVec lv l lc) : WdOk { G with lv := lv, lc := lc } { M with l := l } := ⟨h.w, h.nodes, h.ndl, h.br, hv, h.ev, h.nd⟩
theorem WdOk.setE {G : WdG} {M : Wm} (h : WdOk G M) {ev : Value} {c : List Blk} {l : List Evt} (hv : Vec 81 3 ec ev l c) : WdOk { G with ev := ev, ec := c } { M with ev := l } := ⟨h.w, h.nodes, h.ndl, h.br, h.l, hv, h.nd⟩
theorem WdOk.setB {G : WdG} {M : Wm} (h : WdOk G M) {es : List MapEntry} {ck : Nat} {f : Int × Int → Bool} (hv : MapF pk es f) : WdOk { G with es := es, ck := ck } { M with br := f } := ⟨h.w, h.nodes, h.ndl, hv, h.l, h.ev, h.nd⟩
theorem WdOk.put {G : WdG} {M : Wm} (h : WdOk G M) {s : Int} {g : NdG} {m : Nd} (h0 : 0 ≤ s) (h1 : s < M.n.length) (hn : NdOk g m) (hp : g.np = (npAt G s).np) : WdOk { G with nd := G.nd.set s.toNat g } (setN M s m) := by
  have hl := h.ndl
  have e : (G.nd.set s.toNat g).map (·.np) = G.nd.map (·.np) := by
    rw [List.map_set, hp]
    have hg : G.nd[s.toNat]? = some (npAt G s) := getD_some (by omega)
    refine List.ext_getElem? fun i => ?_
    rw [List.getElem?_set]
    split
    · rename_i hi
      subst hi
      rw [if_pos (by simp; omega), List.getElem?_map, hg]
      rfl
    · rfl
  refine ⟨h.w, by simp only [e]; exact h.nodes, by simp [setN, hl], h.br, h.l, h.ev, fun q g1 m1 hq1 hq2 => ?_⟩
  simp only [setN, List.getElem?_set] at hq1 hq2
  by_cases hq : s.toNat = q
  · rw [if_pos hq] at hq1 hq2
    split at hq1
    · split at hq2
      · cases hq1; cases hq2; exact hn
      · cases hq2
    · cases hq1
  · rw [if_neg hq] at hq1 hq2
    exact h.nd q g1 m1 hq1 hq2
theorem nps_set {G : WdG} {s : Int} {g : NdG} (h0 : 0 ≤ s) (h1 : s < G.nd.length) (hp : g.np = (npAt G s).np) : (G.nd.set s.toNat g).map (·.np) = G.nd.map (·.np) := by
  rw [List.map_set, hp]
  have hg : G.nd[s.toNat]? = some (npAt G s) := getD_some (by omega)
  refine List.ext_getElem? fun i => ?_
  rw [List.getElem?_set]
  split
  · rename_i hi
    subst hi
    rw [if_pos (by simp; omega), List.getElem?_map, hg]
    rfl
  · rfl
/-- a world behind a call -/
def WdP (G : WdG) (M' : Wm) (L L' : Heap) : Prop := ∃ G', G'.wp = G.wp ∧ G'.nd.map (·.np) = G.nd.map (·.np) ∧ WdOk G' M' ∧ L' = wdH G' M' ++ L
theorem wdP_self {G : WdG} {M : Wm} (h : WdOk G M) (L : Heap) : WdP G M L (wdH G M ++ L) := ⟨G, rfl, rfl, h, rfl⟩
theorem np_same {G G' : WdG} (h : G'.nd.map (·.np) = G.nd.map (·.np)) {s : Int} (h0 : 0 ≤ s) (h1 : s < G.nd.length) : (npAt G' s).np = (npAt G s).np := by
  have hl : G'.nd.length = G.nd.length := by simpa using congrArg List.length h
  have e1 : G'.nd[s.toNat]? = some (npAt G' s) := getD_some (by omega)
  have e2 : G.nd[s.toNat]? = some (npAt G s) := getD_some (by omega)
  have := congrArg (fun l => l[s.toNat]?) h
  simp only [List.getElem?_map, e1, e2, Option.map_some, Option.some.injEq] at this
  exact this
theorem HC.node {F : Nat} {args : List Value} {G : WdG} {M M' : Wm} {s : Int} {L : Heap} {V : Value → Prop} (h : WdOk G M) (h0 : 0 ≤ s) (h1 : s < M.n.length)
    (k : HC Tryz.prog F args (wdOp G s (npAt G s) (ndAt M s) (ndsX G.nd M.n 0 s.toNat) L) (fun v L' => V v ∧ ∃ G' M1 g' m', WdOk G' M1 ∧ G'.nd = G.nd ∧ M1.n = M.n ∧ G'.wp = G.wp ∧ NdOk g' m' ∧ g'.np = (npAt G s).np ∧ M' = setN M1 s m' ∧ L' = wdOp G' s g' m' (ndsX G.nd M.n 0 s.toNat) L)) :
    HC Tryz.prog F args (wdH G M ++ L) (fun v L' => V v ∧ WdP G M' L L') := by
  have hl := h.ndl
  refine HC.post (HC.sp k (wd_open hl h0 h1 L)) ?_
  rintro v L' ⟨hv, G', M1, g', m', hW, e1, e2, e3, hN, e4, rfl, rfl⟩
  have hnp : g'.np = (npAt G' s).np := by rw [e4]; unfold npAt; rw [e1]
  refine ⟨wdH { G' with nd := G'.nd.set s.toNat g' } (setN M1 s m') ++ L, ?_, hv, { G' with nd := G'.nd.set s.toNat g' }, e3, ?_, hW.put h0 (by rw [e2]; exact h1) hN hnp, rfl⟩
  · simp only [wdH, setN, e1, e2]
    exact wd_close (G := G') h0 (by omega) (by omega) L
  · simp only
    rw [← e1]
    exact nps_set h0 (by rw [e1]; omega) hnp
theorem HC.nodeC {F : Nat} {args : List Value} {G : WdG} {M M' : Wm} {s : Int} {L : Heap} {V : Value → List Blk → Prop} (h : WdOk G M) (h0 : 0 ≤ s) (h1 : s < M.n.length)
    (k : HC Tryz.prog F args (wdOp G s (npAt G s) (ndAt M s) (ndsX G.nd M.n 0 s.toNat) L) (fun v L' => ∃ c, V v c ∧ ∃ G' M1 g' m', WdOk G' M1 ∧ G'.nd = G.nd ∧ M1.n = M.n ∧ G'.wp = G.wp ∧ NdOk g' m' ∧ g'.np = (npAt G s).np ∧ M' = setN M1 s m' ∧ L' = wdOp G' s g' m' (ndsX G.nd M.n 0 s.toNat) (c :: L))) :
    HC Tryz.prog F args (wdH G M ++ L) (fun v L' => ∃ c, V v c ∧ WdP G M' (c :: L) L') := by
  have hl := h.ndl
  refine HC.post (HC.sp k (wd_open hl h0 h1 L)) ?_
  rintro v L' ⟨c, hv, G', M1, g', m', hW, e1, e2, e3, hN, e4, rfl, rfl⟩
  have hnp : g'.np = (npAt G' s).np := by rw [e4]; unfold npAt; rw [e1]
  refine ⟨wdH { G' with nd := G'.nd.set s.toNat g' } (setN M1 s m') ++ (c :: L), ?_, c, hv, { G' with nd := G'.nd.set s.toNat g' }, e3, ?_, hW.put h0 (by rw [e2]; exact h1) hN hnp, rfl⟩
  · simp only [wdH, setN, e1, e2]
    exact wd_close (G := G') h0 (by omega) (by omega) _
  · simp only
    rw [← e1]
    exact nps_set h0 (by rw [e1]; omega) hnp
theorem NdOk.fall {g : NdG} {m : Nd} (h : NdOk g m) (pl : Pl) (dn : List Bool) : NdOk g ⟨pl, none, noLeads, dn⟩ := by
  refine ⟨h.ld, fun d x hx => ?_, fun j ref hs => by cases hs⟩
  simp only [noLeads, List.getElem?_replicate] at hx
  split at hx <;> cases hx
theorem NdOk.same {g : NdG} {m : Nd} (h : NdOk g m) {j : Jn} {ref : Int → Bool} (hs : m.site = some (j, ref)) (pl : Pl) (j' : Jn) (dn : List Bool) : NdOk g ⟨pl, some (j', ref), m.leads, dn⟩ :=
  ⟨h.ld, h.lok, fun j2 r2 e => by cases e; exact h.map j ref hs⟩
theorem npIn_of {G : WdG} {M : Wm} (h : WdOk G M) {s : Int} (h0 : 0 ≤ s) (h1 : s < M.n.length) {H : Heap} (hH : ∀ b o, (b, o) ∈ G.nc → Has H b o) : NpIn H G.nv M.n.length s (npAt G s).np := by
  have hl := h.ndl
  obtain ⟨a, cap, hnv, -, hR⟩ := h.nodes.rd pc_len
  have hR2 := (hR []).mono (L' := H) fun b o hb => hH b o (by simpa [Has] using hb)
  obtain ⟨b, i, l, F, fr, rfl, hb, hg⟩ := hR2.at1 (j := s) h0 (by simp; omega)
  refine ⟨⟨b, i, l, F, fr, cap, by rw [hnv, List.length_map, hl], hb, ?_⟩, h0, h1⟩
  have e : (G.nd.map (·.np))[s.toNat]'(by simp; omega) = (npAt G s).np := by
    rw [List.getElem_map]
    unfold npAt
    rw [List.getD, List.getElem?_eq_getElem (by omega)]
    rfl
  rw [e] at hg
  exact hg 0 _ rfl
attribute [local irreducible] HW HO HQ HD HC QOp Has Upd Puts Gets seqQ blkQ loopQ fnQ actQ nextP unQ MapF
attribute [local irreducible] ndL jcells plC siteM
theorem whearW_calls (T : Nat) (E : Nat → Addr) (G : WdG) (M : Wm) (s : Int) (f : Fr) (L : Heap) (hG : Er T E [2, 3, 5, 6] L) (h : WdOk G M) (hI : WI M) (h0 : 0 ≤ s) (h1 : s < M.n.length) (hs : (ndAt M s).site ≠ none) :
    HC Tryz.prog 75 [pt G.wp 0, iv s, .agg ⟨fc f⟩] (wdH G M ++ L) (fun v L' => ∃ c, (∃ fv, FrVec fv (hearW M s f).2.1 c ∧ v = .tuple ⟨[fv, .bool (hearW M s f).2.2]⟩) ∧ WdP G (hearW M s f).1 (c :: L) L') := by
  refine HC.nodeC h h0 h1 ?_
  have hN := wdOk_at h h0 h1
  have hi := wi_at hI h0 h1
  have hn := hI.wn
  have hnp := npIn_of h h0 h1 (H := ldBs (npAt G s) (ndAt M s) :: G.lc :: G.wc :: G.nc :: [(G.mb, .map ⟨G.es⟩ G.ck)] :: ndsX G.nd M.n 0 s.toNat :: L) fun b o hb => has_next (has_next (has_next (has_mem hb)))
  unfold hearW hearNd
  generalize hm : ndAt M s = m at *
  cases hsi : m.site with
  | none => exact absurd hsi hs
  | some q =>
    obtain ⟨j, ref⟩ := q
    have hsj := site_any (id := s) (ref := ref) (hi.jn hsi) f
    have hj6 : (siteM s ref m.pl j f).2.1.l.length = 6 := hsj.1.ji.jn.len
    have kh := whear_calls T E G s (npAt G s) m f M.ev M.n.length j ref (ldBs (npAt G s) m :: G.lc :: G.wc :: G.nc :: [(G.mb, .map ⟨G.es⟩ G.ck)] :: ndsX G.nd M.n 0 s.toNat :: L) ((((((hG.cons _).cons _).cons _).cons _).cons _).cons _) hnp h.ev hI.evl hN M.w s.toNat hi hsi hj6
    have ew : wdOp G s (npAt G s) m (ndsX G.nd M.n 0 s.toNat) L = [(G.wp, wdO G)] :: G.ec :: ndB (npAt G s) m :: siC (npAt G s).sp (npAt G s).bj (npAt G s).mb s :: mpC (npAt G s).mb (npAt G s).es (npAt G s).ck :: plC (npAt G s).bp (npAt G s).ba m.pl :: jC (npAt G s).bj (npAt G s).bp j :: (ldBs (npAt G s) m :: G.lc :: G.wc :: G.nc :: [(G.mb, .map ⟨G.es⟩ G.ck)] :: ndsX G.nd M.n 0 s.toNat :: L) := by
      unfold wdOp; rw [hsi]; rfl
    rw [ew]
    refine HC.post kh ?_
    intro v L' hq
    unfold HearQ at hq
    simp only
    split at hq
    · rename_i hoff
      obtain ⟨rfl, rfl⟩ := hq
      refine ⟨wdOp G s (npAt G s) ⟨(siteM s ref m.pl j f).1, none, noLeads, m.done⟩ (ndsX G.nd M.n 0 s.toNat) ([] :: L), ?_, [], ?_, G, M, npAt G s, _, h, rfl, rfl, rfl, hN.fall _ _, rfl, ?_, rfl⟩
      · simp only [wdOp, siS, siN, siJ]
        have : ldBs (npAt G s) ⟨(siteM s ref m.pl j f).1, none, noLeads, m.done⟩ = [] := by
          unfold ldBs noLeads
          have := hN.ld
          obtain ⟨a, b, c, d, e, f, hh⟩ : ∃ a b c d e f, (npAt G s).ld = [a, b, c, d, e, f] := by
            match (npAt G s).ld, this with
            | [a, b, c, d, e, f], _ => exact ⟨_, _, _, _, _, _, rfl⟩
          rw [hh]; rfl
        rw [this]
        exact (by repeat (first | (with_reducible first | refine LS.p0 ?_ | refine LS.p1 ?_ | refine LS.p2 ?_ | refine LS.p3 ?_ | refine LS.p4 ?_ | refine LS.p5 ?_ | refine LS.p6 ?_ | refine LS.p7 ?_ | refine LS.p8 ?_ | refine LS.p9 ?_ | refine LS.p10 ?_ | refine LS.p11 ?_ | refine LS.p12 ?_ | refine LS.e ?_ | exact LS.refl _) | refine LS.p0 ?_ | refine LS.p1 ?_ | refine LS.p2 ?_ | refine LS.p3 ?_ | refine LS.p4 ?_ | refine LS.p5 ?_ | refine LS.p6 ?_ | refine LS.p7 ?_ | refine LS.p8 ?_ | refine LS.p9 ?_ | refine LS.p10 ?_ | refine LS.p11 ?_ | refine LS.p12 ?_ | (with_reducible refine LS.c ?_)))
      · rw [if_pos hoff]
        exact ⟨_, vec_nil, rfl⟩
      · rw [if_pos hoff]; rfl
    · rename_i hoff
      obtain ⟨fv, c, evv, c2, hfv, hev, rfl, rfl⟩ := hq
      refine ⟨wdOp { G with ev := evv, ec := c2 } s (npAt G s) ⟨(siteM s ref m.pl j f).1, some ((siteM s ref m.pl j f).2.1, ref), m.leads, (noteN s ⟨(siteM s ref m.pl j f).1, some ((siteM s ref m.pl j f).2.1, ref), m.leads, m.done⟩ M.ev).1⟩ (ndsX G.nd M.n 0 s.toNat) (c :: L), ?_, c, ?_, { G with ev := evv, ec := c2 }, _, npAt G s, _, h.setE hev, rfl, rfl, rfl, hN.same hsi _ _ _, rfl, ?_, rfl⟩
      · simp only [wdOp, siS, siN, siJ]
        exact (by repeat (first | (with_reducible first | refine LS.p0 ?_ | refine LS.p1 ?_ | refine LS.p2 ?_ | refine LS.p3 ?_ | refine LS.p4 ?_ | refine LS.p5 ?_ | refine LS.p6 ?_ | refine LS.p7 ?_ | refine LS.p8 ?_ | refine LS.p9 ?_ | refine LS.p10 ?_ | refine LS.p11 ?_ | refine LS.p12 ?_ | refine LS.e ?_ | exact LS.refl _) | refine LS.p0 ?_ | refine LS.p1 ?_ | refine LS.p2 ?_ | refine LS.p3 ?_ | refine LS.p4 ?_ | refine LS.p5 ?_ | refine LS.p6 ?_ | refine LS.p7 ?_ | refine LS.p8 ?_ | refine LS.p9 ?_ | refine LS.p10 ?_ | refine LS.p11 ?_ | refine LS.p12 ?_ | (with_reducible refine LS.c ?_)))
      · rw [if_neg hoff]
        exact ⟨_, hfv, rfl⟩
      · rw [if_neg hoff]; rfl
end Go.HL
end

/-! WoO -/
section
namespace Go.HL
open Go Go.Proofs
set_option linter.unusedVariables false
set_option linter.unusedSimpArgs false
theorem LS.mem {a b : List Blk} (h : LS a b) {x : Blk} (hx : x ∈ a) : x ∈ b := by
  obtain ⟨l, h1, h2⟩ := h
  exact h2.subset (h1.mem_iff.2 hx)
theorem wd_in {G : WdG} {M : Wm} (h : WdOk G M) (L : Heap) : WdIn (wdH G M ++ L) G M := wdIn h fun b o hb => by
  unfold Has wdH at *
  rw [List.append_assoc, List.flatten_append]
  exact List.mem_append_left _ hb
theorem wdOp_in {G : WdG} {M : Wm} (h : WdOk G M) (s : Int) (g : NdG) (m : Nd) (X : List Blk) (L : Heap) : WdIn (wdOp G s g m X L) G M := wdIn h fun b o hb => by
  unfold Has at *
  refine (wdOp_sl G s g m X L).mem ?_
  rw [List.append_assoc, List.flatten_append]
  exact List.mem_append_left _ hb
theorem wd_hasW {G : WdG} {M : Wm} {s : Int} (hl : G.nd.length = M.n.length) (h0 : 0 ≤ s) (h1 : s < M.n.length) (L : Heap) : Has (wdH G M ++ L) (npAt G s).np (ndO (npAt G s) (ndAt M s)) := by
  have := wd_hasN hl h0 h1 L
  unfold Has wdH at *
  rw [List.append_assoc, List.flatten_append]
  exact List.mem_append_right _ this
theorem wdOp_has {G : WdG} {s : Int} {g : NdG} {m : Nd} {X : List Blk} {L : Heap} : Has (wdOp G s g m X L) g.np (ndO g m) := by
  unfold wdOp ndB
  exact has_next (has_next has_here)
def upV (G : WdG) (M : Wm) (s : Int) : Value := match nodeE M s with
  | some _ => .pointer none
  | none => pt (npAt G s).np 0
theorem up_node {M : Wm} {s : Int} (h : upE M s = none) : nodeE M s = none ∧ 0 ≤ s ∧ s < M.n.length ∧ ∃ j ref, (ndAt M s).site = some (j, ref) := by
  unfold upE at h
  rcases node_cases (M := M) s with he | ⟨he, h0, h1⟩
  · rw [he] at h; cases h
  · rw [he] at h
    refine ⟨he, h0, h1, ?_⟩
    cases hs : (ndAt M s).site with
    | none => rw [hs] at h; cases h
    | some q => exact ⟨q.1, q.2, rfl⟩
theorem upV_up {G : WdG} {M : Wm} {s : Int} (h : nodeE M s = none) : upV G M s = pt (npAt G s).np 0 := by unfold upV; rw [h]
theorem ldVs_at {g : NdG} {m : Nd} {d : Nat} {o : Option Ld} {q : Nat × Value × List Blk} (h1 : m.leads[d]? = some o) (h2 : g.ld[d]? = some q) : (ldVs g m)[d]? = some (ldV o q) := by
  unfold ldVs
  rw [List.getElem?_zipWith, h1, h2]
theorem ldBs_mem {g : NdG} {m : Nd} {d : Nat} {x : Ld} {q : Nat × Value × List Blk} (h1 : m.leads[d]? = some (some x)) (h2 : g.ld[d]? = some q) {y : Blk} (hy : y ∈ ldC q.1 q.2.1 q.2.2 x) : y ∈ ldBs g m := by
  unfold ldBs
  refine List.mem_flatten.2 ⟨ldC q.1 q.2.1 q.2.2 x, ?_, hy⟩
  refine List.mem_iff_getElem?.2 ⟨d, ?_⟩
  rw [List.getElem?_zipWith, h1, h2]
  rfl
attribute [local irreducible] HW HO HQ HD HC QOp Has Upd Puts Gets seqQ blkQ loopQ fnQ actQ nextP unQ MapF
attribute [local irreducible] ndL jcells plC siteM ldL
theorem lstateH (lp : Nat) (wv : Value) (m : Ld) (L : Heap) (h : Has L lp (.cells ⟨ldL wv m⟩ 193)) : HC Tryz.prog 77 [pt lp 0] L (fun v L' => v = bs m.state ∧ L' = L) := hcHas (fun L => lstate_calls lp wv [] m L) h
theorem lseenH (lp : Nat) (wv : Value) (m : Ld) (L : Heap) (ht : m.told.length = 7) (h : Has L lp (.cells ⟨ldL wv m⟩ 193)) : HC Tryz.prog 191 [pt lp 0] L (fun v L' => v = iv m.seen ∧ L' = L) := hcHas (fun L => lseen_calls lp wv [] m L ht) h
theorem wupv_calls (T : Nat) (E : Nat → Addr) (G : WdG) (M : Wm) (s : Int) (L : Heap) (hG : Er T E [2, 6] L) (hI : WdIn L G M) (hl : G.nd.length = M.n.length) (hN : nodeE M s = none → Has L (npAt G s).np (ndO (npAt G s) (ndAt M s))) :
    HC Tryz.prog 66 [pt G.wp 0, iv s] L (fun v L' => v = .tuple ⟨[upV G M s, eV T E (upE M s)]⟩ ∧ L' = L) := by
  have k := wup_calls T E G M s L hG hI hl hN
  unfold upV
  rcases node_cases (M := M) s with he | ⟨he, h0, h1⟩
  · have : upE M s = some 2 := by unfold upE; rw [he]
    simp only [he, this] at k ⊢
    exact k
  · simp only [he] at k ⊢
    exact k
theorem wlead_calls (T : Nat) (E : Nat → Addr) (G : WdG) (M : Wm) (s d : Int) (L : Heap) (hG : Er T E [2] L) (hW : WdOk G M) (hM : WI M) :
    HC Tryz.prog 25 [pt G.wp 0, iv s, iv d] (wdH G M ++ L) (fun v L' => v = .tuple ⟨[bs (leadW M s d).1, eV T E (leadW M s d).2]⟩ ∧ L' = wdH G M ++ L) := by
  have hl := hW.ndl
  have hI := wd_in hW L
  have hG' : Er T E [2] (wdH G M ++ L) := by
    unfold wdH wdT
    exact ((((((hG.cons _).cons _).cons _).cons _).cons _).cons _).cons _
  have kn := wnode_calls T E G M s _ hG' hI hl
  have hAt : ∀ (h0 : 0 ≤ s) (h1 : s < M.n.length), Has (wdH G M ++ L) (npAt G s).np (ndO (npAt G s) (ndAt M s)) := fun h0 h1 => wd_hasW hl h0 h1 L
  have hB : ∀ (h0 : 0 ≤ s) (h1 : s < M.n.length) {b : Nat} {o : Obj}, (b, o) ∈ ndA (npAt G s) s (ndAt M s) → Has (wdH G M ++ L) b o := fun h0 h1 {b o} hb => by
    have := wd_has hl h0 h1 hb L
    unfold Has wdH at *
    rw [List.append_assoc, List.flatten_append]
    exact List.mem_append_right _ this
  generalize wdH G M ++ L = H at *
  unfold leadW
  rcases node_cases (M := M) s with he | ⟨he, h0, h1⟩
  · have h2 : s < 0 ∨ ↑M.n.length ≤ s ∨ d < 0 ∨ 6 ≤ d := by
      unfold nodeE at he
      split at he
      · omega
      · cases he
    simp only [if_pos h2, he] at kn ⊢
    refine hc_enter (fun _ _ => Tryz.call25 _ _) Tryz.func25 rfl Tryz.ntmps25 (Nat.le_of_ble_eq_true rfl) ?_; simp only [args0, Nat.reduceAdd]
    repeat' (first | (show HW _ _ _ _ _ _; first | apply hw_seq | apply hw_region | refine g_t ?_ | refine g_f ?_ | apply hw_skip | apply hw_ret | refine g_k S ?_) | (show HO _ _ _ _ _ _ _; first | apply ho_nil | refine g_q (qe S) ?_ | refine g_q (qg S) ?_ | refine g_q (ql S) ?_ | refine g_q (qC (kn)) ?_ | refine g_n ?_ | refine g_on ?_) | (show HQ _ _ _ _ _ _ _; first | apply hq_nil | refine k_q (qe S) ?_ | refine k_q (qg S) ?_ | refine k_q (ql S) ?_ | refine k_q (qC (kn)) ?_ | refine k_n ?_) | ((first | refine g_b (fun h => ?_) (fun h => ?_) | refine g_s (fun h => ?_) (fun h => ?_) | refine k_s (fun h => ?_) (fun h => ?_)) <;> ((try simp only [zA, zB, zC, zD, zE, zF, ne_eq, zG, zH, and_true, true_and, eq_self, zI, zJ, zK, reduceCtorEq, zL, zM] at h); (try (exfalso; first | omega | with_reducible exact h (by assumption) | with_reducible exact absurd h (by assumption))))) | apply seqQ_normal | apply seqQ_ret)
    exact er2 rfl ⟨rfl, rfl⟩
  · simp only [he] at kn
    by_cases hd : d < 0 ∨ 6 ≤ d
    · have h2 : s < 0 ∨ ↑M.n.length ≤ s ∨ d < 0 ∨ 6 ≤ d := .inr (.inr hd)
      simp only [if_pos h2]
      refine hc_enter (fun _ _ => Tryz.call25 _ _) Tryz.func25 rfl Tryz.ntmps25 (Nat.le_of_ble_eq_true rfl) ?_; simp only [args0, Nat.reduceAdd]
      repeat' (first | (show HW _ _ _ _ _ _; first | apply hw_seq | apply hw_region | refine g_t ?_ | refine g_f ?_ | apply hw_skip | apply hw_ret | refine g_k S ?_) | (show HO _ _ _ _ _ _ _; first | apply ho_nil | refine g_q (qe S) ?_ | refine g_q (qg S) ?_ | refine g_q (ql S) ?_ | refine g_q (qC (kn)) ?_ | refine g_n ?_ | refine g_on ?_) | (show HQ _ _ _ _ _ _ _; first | apply hq_nil | refine k_q (qe S) ?_ | refine k_q (qg S) ?_ | refine k_q (ql S) ?_ | refine k_q (qC (kn)) ?_ | refine k_n ?_) | ((first | refine g_b (fun h => ?_) (fun h => ?_) | refine g_s (fun h => ?_) (fun h => ?_) | refine k_s (fun h => ?_) (fun h => ?_)) <;> ((try simp only [zA, zB, zC, zD, zE, zF, ne_eq, zG, zH, and_true, true_and, eq_self, zI, zJ, zK, reduceCtorEq, zL, zM] at h); (try (exfalso; first | omega | with_reducible exact h (by assumption) | with_reducible exact absurd h (by assumption))))) | apply seqQ_normal | apply seqQ_ret)
      all_goals exact er2 rfl ⟨rfl, rfl⟩
    · have h2 : ¬ (s < 0 ∨ ↑M.n.length ≤ s ∨ d < 0 ∨ 6 ≤ d) := by omega
      simp only [if_neg h2]
      have hN := hAt h0 h1
      have hok := wdOk_at hW h0 h1
      have hni := wi_at hM h0 h1
      have hBB := fun {b o} => hB h0 h1 (b := b) (o := o)
      generalize ndAt M s = m at *
      generalize hg : npAt G s = g at *
      obtain ⟨dn, rfl⟩ := Int.eq_ofNat_of_zero_le (show 0 ≤ d by omega)
      have hd6 : dn < 6 := by omega
      simp only [Int.toNat_natCast]
      have hm1 : m.leads[dn]? = some (m.leads.getD dn none) := getD_some (by rw [hni.leads]; exact hd6)
      obtain ⟨q, hq⟩ : ∃ q, g.ld[dn]? = some q := ⟨_, List.getElem?_eq_getElem (by rw [hok.ld]; exact hd6)⟩
      have hv := ldVs_at hm1 hq
      unfold ndO at hN
      have gL := ndL_lead (sv := stV g m.site) (bp := g.bp) (dn := m.done) hv
      cases hx : m.leads.getD dn none with
      | none =>
        rw [hx] at gL
        simp only [ldV] at gL
        refine hc_enter (fun _ _ => Tryz.call25 _ _) Tryz.func25 rfl Tryz.ntmps25 (Nat.le_of_ble_eq_true rfl) ?_; simp only [args0, Nat.reduceAdd]
        repeat' (first | (show HW _ _ _ _ _ _; first | apply hw_seq | apply hw_region | refine g_t ?_ | refine g_f ?_ | apply hw_skip | apply hw_ret | refine g_k S ?_) | (show HO _ _ _ _ _ _ _; first | apply ho_nil | refine g_q (qe S) ?_ | refine g_q (qg S) ?_ | refine g_q (ql S) ?_ | refine g_q (qC (kn)) ?_ | refine g_n ?_ | refine g_on ?_) | (show HQ _ _ _ _ _ _ _; first | apply hq_nil | refine k_q (qe S) ?_ | refine k_q (qg S) ?_ | refine k_q (ql S) ?_ | refine k_q (qC (kn)) ?_ | refine k_n ?_) | ((first | refine g_b (fun h => ?_) (fun h => ?_) | refine g_s (fun h => ?_) (fun h => ?_) | refine k_s (fun h => ?_) (fun h => ?_)) <;> ((try simp only [zA, zB, zC, zD, zE, zF, ne_eq, zG, zH, and_true, true_and, eq_self, zI, zJ, zK, reduceCtorEq, zL, zM] at h); (try (exfalso; first | omega | with_reducible exact h (by assumption) | with_reducible exact absurd h (by assumption))))) | apply seqQ_normal | apply seqQ_ret)
        exact er2 rfl ⟨rfl, rfl⟩
      | some x =>
        rw [hx] at gL hm1
        simp only [ldV] at gL
        have hLd : Has H q.1 (.cells ⟨ldL q.2.1 x⟩ 193) := hBB (by
          unfold ndA
          exact List.mem_append_right _ (ldBs_mem hm1 hq (by simp [ldC])))
        refine hc_enter (fun _ _ => Tryz.call25 _ _) Tryz.func25 rfl Tryz.ntmps25 (Nat.le_of_ble_eq_true rfl) ?_; simp only [args0, Nat.reduceAdd]
        repeat' (first | (show HW _ _ _ _ _ _; first | apply hw_seq | apply hw_region | refine g_t ?_ | refine g_f ?_ | apply hw_skip | apply hw_ret | refine g_k S ?_) | (show HO _ _ _ _ _ _ _; first | apply ho_nil | refine g_q (qe S) ?_ | refine g_q (qg S) ?_ | refine g_q (ql S) ?_ | refine g_q (qC (kn)) ?_ | refine g_q (qC (lstateH q.1 q.2.1 x _ hLd)) ?_ | refine g_n ?_ | refine g_on ?_) | (show HQ _ _ _ _ _ _ _; first | apply hq_nil | refine k_q (qe S) ?_ | refine k_q (qg S) ?_ | refine k_q (ql S) ?_ | refine k_q (qC (kn)) ?_ | refine k_q (qC (lstateH q.1 q.2.1 x _ hLd)) ?_ | refine k_n ?_) | ((first | refine g_b (fun h => ?_) (fun h => ?_) | refine g_s (fun h => ?_) (fun h => ?_) | refine k_s (fun h => ?_) (fun h => ?_)) <;> ((try simp only [zA, zB, zC, zD, zE, zF, ne_eq, zG, zH, and_true, true_and, eq_self, zI, zJ, zK, reduceCtorEq, zL, zM] at h); (try (exfalso; first | omega | with_reducible exact h (by assumption) | with_reducible exact absurd h (by assumption))))) | apply seqQ_normal | apply seqQ_ret)
        exact er2 rfl ⟨rfl, rfl⟩
end Go.HL
end

/-! WoP -/
section
namespace Go.HL
open Go Go.Proofs
set_option linter.unusedVariables false
set_option linter.unusedSimpArgs false
theorem er_wdOp {T : Nat} {E : Nat → Addr} {ns : List Nat} {L : Heap} (h : Er T E ns L) (G : WdG) (s : Int) (g : NdG) (m : Nd) (X : List Blk) : Er T E ns (wdOp G s g m X L) :=
  ((((((((((((h.cons _).cons _).cons _).cons _).cons _).cons _).cons _).cons _).cons _).cons _).cons _).cons _).cons _
theorem er_wdH {T : Nat} {E : Nat → Addr} {ns : List Nat} {L : Heap} (h : Er T E ns L) (G : WdG) (M : Wm) : Er T E ns (wdH G M ++ L) :=
  ((((((h.cons _).cons _).cons _).cons _).cons _).cons _).cons _
/-- a call that ends with an error, the world as9 it was -/
theorem up_err {M : Wm} {s : Int} : (∃ e, upE M s = some e) ∨ (upE M s = none ∧ nodeE M s = none ∧ 0 ≤ s ∧ s < M.n.length ∧ ∃ j ref, (ndAt M s).site = some (j, ref)) := by
  cases h : upE M s with
  | some e => exact .inl ⟨e, rfl⟩
  | none => exact .inr ⟨rfl, up_node h⟩
attribute [local irreducible] HW HO HQ HD HC QOp Has Upd Puts Gets seqQ blkQ loopQ fnQ actQ nextP unQ MapF
attribute [local irreducible] ndL jcells plC siteM ldL
theorem kup_H {T : Nat} {E : Nat → Addr} {G : WdG} {M : Wm} (s : Int) {L : Heap} (hG : Er T E [2, 6] L) (hW : WdOk G M) : HC Tryz.prog 66 [pt G.wp 0, iv s] (wdH G M ++ L) (fun v L' => v = .tuple ⟨[upV G M s, eV T E (upE M s)]⟩ ∧ L' = wdH G M ++ L) :=
  wupv_calls T E G M s _ (er_wdH hG G M) (wd_in hW L) hW.ndl (fun hn => by
    obtain ⟨h0, h1⟩ := nodeE_none hn
    exact wd_hasW hW.ndl h0 h1 L)
theorem kup_Op {T : Nat} {E : Nat → Addr} {G : WdG} {M : Wm} {s : Int} {L : Heap} (hG : Er T E [2, 6] L) (hW : WdOk G M) (hu : upE M s = none) (X : List Blk) : HC Tryz.prog 66 [pt G.wp 0, iv s] (wdOp G s (npAt G s) (ndAt M s) X L) (fun v L' => v = .tuple ⟨[pt (npAt G s).np 0, .nilIface]⟩ ∧ L' = wdOp G s (npAt G s) (ndAt M s) X L) := by
  have := wupv_calls T E G M s _ (er_wdOp hG G s (npAt G s) (ndAt M s) X) (wdOp_in hW s _ _ X L) hW.ndl (fun hn => wdOp_has)
  rw [hu, upV_up (up_node hu).1] at this
  exact this
theorem wrefuse_calls (T : Nat) (E : Nat → Addr) (G : WdG) (M : Wm) (s d : Int) (L : Heap) (hG : Er T E [2, 6] L) (hW : WdOk G M) (hM : WI M) :
    HC Tryz.prog 20 [pt G.wp 0, iv s, iv d] (wdH G M ++ L) (fun v L' => v = eV T E (refuseW M s d).2 ∧ WdP G (refuseW M s d).1 L L') := by
  unfold refuseW
  have hself := wdP_self hW L
  by_cases hd : d < 0 ∨ 6 ≤ d
  · simp only [if_pos hd]
    have hG' := er_wdH hG G M
    generalize wdH G M ++ L = H at *
    refine hc_enter (fun _ _ => Tryz.call20 _ _) Tryz.func20 rfl Tryz.ntmps20 (Nat.le_of_ble_eq_true rfl) ?_; simp only [args0, Nat.reduceAdd]
    repeat' (first | (show HW _ _ _ _ _ _; first | apply hw_seq | apply hw_region | refine g_t ?_ | refine g_f ?_ | apply hw_skip | apply hw_ret) | (show HO _ _ _ _ _ _ _; first | apply ho_nil | refine g_q (qe S) ?_ | refine g_q (qg S) ?_ | refine g_q (ql S) ?_ | refine g_n ?_ | refine g_on ?_) | ((first | refine g_b (fun h => ?_) (fun h => ?_) | refine g_s (fun h => ?_) (fun h => ?_)) <;> ((try simp only [zA, zB, zC, zD, zE, zF, ne_eq, zG, zH, and_true, true_and, eq_self, zI, zJ, zK, reduceCtorEq, zL, zM] at h); (try (exfalso; first | omega | with_reducible exact h (by assumption) | with_reducible exact absurd h (by assumption))))) | apply seqQ_normal | apply seqQ_ret)
    all_goals exact er1 rfl ⟨rfl, hself⟩
  simp only [if_neg hd]
  rcases up_err (M := M) (s := s) with ⟨e, he⟩ | ⟨he, hn, h0, h1, j, ref, hs⟩
  · have ku := kup_H s hG hW
    have hG' := er_wdH hG G M
    generalize wdH G M ++ L = H at *
    simp only [he] at ku ⊢
    refine hc_enter (fun _ _ => Tryz.call20 _ _) Tryz.func20 rfl Tryz.ntmps20 (Nat.le_of_ble_eq_true rfl) ?_; simp only [args0, Nat.reduceAdd]
    repeat' (first | (show HW _ _ _ _ _ _; first | apply hw_seq | apply hw_region | refine g_t ?_ | refine g_f ?_ | apply hw_skip | apply hw_ret) | (show HO _ _ _ _ _ _ _; first | apply ho_nil | refine g_q (qe S) ?_ | refine g_q (qg S) ?_ | refine g_q (ql S) ?_ | refine g_q (qC (ku)) ?_ | refine g_n ?_ | refine g_on ?_) | ((first | refine g_b (fun h => ?_) (fun h => ?_) | refine g_s (fun h => ?_) (fun h => ?_)) <;> ((try simp only [zA, zB, zC, zD, zE, zF, ne_eq, zG, zH, and_true, true_and, eq_self, zI, zJ, zK, reduceCtorEq, zL, zM] at h); (try (exfalso; first | omega | with_reducible exact h (by assumption) | with_reducible exact absurd h (by assumption))))) | apply seqQ_normal | apply seqQ_ret)
    exact er1 rfl ⟨rfl, hself⟩
  · simp only [he]
    refine HC.node hW h0 h1 ?_
    have ku := kup_Op (X := ndsX G.nd M.n 0 s.toNat) hG hW he
    have hok := wdOk_at hW h0 h1
    have hni := wi_at hM h0 h1
    generalize ndsX G.nd M.n 0 s.toNat = X at *
    generalize ndAt M s = m at *
    generalize npAt G s = g at *
    obtain ⟨pl, site, leads, done⟩ := m
    simp only at hs
    subst hs
    have hF := hok.map j ref rfl
    have hj := (hni.jn rfl).ji.jn
    have g0 : (ndL (pt g.sp 0) g.bp (ldVs g ⟨pl, some (j, ref), leads, done⟩) done)[0 + 0]? = some (pt g.sp 0) := ndL_pre rfl
    have kr := fun L hG => refuse_calls T E g.sp g.bj g.mb g.bp s g.es g.ck ref j d L hG hj.len hF
    simp only [if_neg hd] at kr
    simp only [wdOp, ndB, ndO, stV, siS, siN, siJ] at ku ⊢
    refine hc_enter (fun _ _ => Tryz.call20 _ _) Tryz.func20 rfl Tryz.ntmps20 (Nat.le_of_ble_eq_true rfl) ?_; simp only [args0, Nat.reduceAdd]
    repeat' (first | (show HW _ _ _ _ _ _; first | apply hw_seq | apply hw_region | refine g_t ?_ | refine g_f ?_ | apply hw_skip | apply hw_ret) | (show HO _ _ _ _ _ _ _; first | apply ho_nil | refine g_q (qe S) ?_ | refine g_q (qg S) ?_ | refine g_q (ql S) ?_ | refine g_q (qC (ku)) ?_ | refine g_n ?_ | refine g_on ?_) | ((first | refine g_b (fun h => ?_) (fun h => ?_) | refine g_s (fun h => ?_) (fun h => ?_)) <;> ((try simp only [zA, zB, zC, zD, zE, zF, ne_eq, zG, zH, and_true, true_and, eq_self, zI, zJ, zK, reduceCtorEq, zL, zM] at h); (try (exfalso; first | omega | with_reducible exact h (by assumption) | with_reducible exact absurd h (by assumption))))) | apply seqQ_normal | apply seqQ_ret)
    refine fo 6 ?_
    refine fo 5 ?_
    refine fo 5 ?_
    refine gc (kr _ ?_) ?_
    · exact (((((((((hG.sub.cons _).cons _).cons _).cons _).cons _).cons _).cons _).cons _).cons _).cons _
    rintro v L' ⟨es', ck', hF', rfl, rfl⟩
    repeat' (first | (show HW _ _ _ _ _ _; first | apply hw_seq | apply hw_region | refine g_t ?_ | refine g_f ?_ | apply hw_skip | apply hw_ret) | (show HO _ _ _ _ _ _ _; first | apply ho_nil | refine g_q (qe S) ?_ | refine g_q (qg S) ?_ | refine g_q (ql S) ?_ | refine g_q (qC (ku)) ?_ | refine g_n ?_ | refine g_on ?_) | ((first | refine g_b (fun h => ?_) (fun h => ?_) | refine g_s (fun h => ?_) (fun h => ?_)) <;> ((try simp only [zA, zB, zC, zD, zE, zF, ne_eq, zG, zH, and_true, true_and, eq_self, zI, zJ, zK, reduceCtorEq, zL, zM] at h); (try (exfalso; first | omega | with_reducible exact h (by assumption) | with_reducible exact absurd h (by assumption))))) | apply seqQ_normal | apply seqQ_ret)
    refine sp1 (L' := wdOp G s { g with es := es', ck := ck' } (refuseN ⟨pl, some (j, ref), leads, done⟩ d) X L) ?_ ⟨rfl, G, M, { g with es := es', ck := ck' }, refuseN ⟨pl, some (j, ref), leads, done⟩ d, hW, rfl, rfl, rfl, ⟨hok.ld, hok.lok, fun j2 r2 e => by cases e; exact hF'⟩, rfl, rfl, rfl⟩
    simp only [wdOp, ndB, ndO, stV, siS, siN, siJ, refuseN]
    exact (by repeat (first | (with_reducible first | refine LS.p0 ?_ | refine LS.p1 ?_ | refine LS.p2 ?_ | refine LS.p3 ?_ | refine LS.p4 ?_ | refine LS.p5 ?_ | refine LS.p6 ?_ | refine LS.p7 ?_ | refine LS.p8 ?_ | refine LS.p9 ?_ | refine LS.p10 ?_ | refine LS.p11 ?_ | refine LS.p12 ?_ | refine LS.e ?_ | exact LS.refl _) | refine LS.p0 ?_ | refine LS.p1 ?_ | refine LS.p2 ?_ | refine LS.p3 ?_ | refine LS.p4 ?_ | refine LS.p5 ?_ | refine LS.p6 ?_ | refine LS.p7 ?_ | refine LS.p8 ?_ | refine LS.p9 ?_ | refine LS.p10 ?_ | refine LS.p11 ?_ | refine LS.p12 ?_ | (with_reducible refine LS.c ?_)))
theorem wcut_calls (T : Nat) (E : Nat → Addr) (G : WdG) (M : Wm) (s n : Int) (L : Heap) (hG : Er T E [2, 6] L) (hW : WdOk G M) (hM : WI M) :
    HC Tryz.prog 91 [pt G.wp 0, iv s, iv n] (wdH G M ++ L) (fun v L' => v = eV T E (cutW M s n).2 ∧ WdP G (cutW M s n).1 L L') := by
  unfold cutW
  have hself := wdP_self hW L
  by_cases hd : n < 0
  · simp only [if_pos hd]
    have hG' := er_wdH hG G M
    generalize wdH G M ++ L = H at *
    refine hc_enter (fun _ _ => Tryz.call91 _ _) Tryz.func91 rfl Tryz.ntmps91 (Nat.le_of_ble_eq_true rfl) ?_; simp only [args0, Nat.reduceAdd]
    repeat' (first | (show HW _ _ _ _ _ _; first | apply hw_seq | apply hw_region | refine g_t ?_ | refine g_f ?_ | apply hw_skip | apply hw_ret) | (show HO _ _ _ _ _ _ _; first | apply ho_nil | refine g_q (qe S) ?_ | refine g_q (qg S) ?_ | refine g_q (ql S) ?_) | ((first | refine g_b (fun h => ?_) (fun h => ?_)) <;> ((try simp only [zA, zB, zC, zD, zE, zF, ne_eq, zG, zH, and_true, true_and, eq_self, zI, zJ, zK, reduceCtorEq, zL, zM] at h); (try (exfalso; first | omega | with_reducible exact h (by assumption) | with_reducible exact absurd h (by assumption))))) | apply seqQ_normal | apply seqQ_ret)
    all_goals exact er1 rfl ⟨rfl, hself⟩
  simp only [if_neg hd]
  rcases up_err (M := M) (s := s) with ⟨e, he⟩ | ⟨he, hn, h0, h1, j, ref, hs⟩
  · have ku := kup_H s hG hW
    have hG' := er_wdH hG G M
    generalize wdH G M ++ L = H at *
    simp only [he] at ku ⊢
    refine hc_enter (fun _ _ => Tryz.call91 _ _) Tryz.func91 rfl Tryz.ntmps91 (Nat.le_of_ble_eq_true rfl) ?_; simp only [args0, Nat.reduceAdd]
    repeat' (first | (show HW _ _ _ _ _ _; first | apply hw_seq | apply hw_region | refine g_t ?_ | refine g_f ?_ | apply hw_skip | apply hw_ret) | (show HO _ _ _ _ _ _ _; first | apply ho_nil | refine g_q (qe S) ?_ | refine g_q (qg S) ?_ | refine g_q (ql S) ?_ | refine g_q (qC (ku)) ?_) | ((first | refine g_b (fun h => ?_) (fun h => ?_)) <;> ((try simp only [zA, zB, zC, zD, zE, zF, ne_eq, zG, zH, and_true, true_and, eq_self, zI, zJ, zK, reduceCtorEq, zL, zM] at h); (try (exfalso; first | omega | with_reducible exact h (by assumption) | with_reducible exact absurd h (by assumption))))) | apply seqQ_normal | apply seqQ_ret)
    exact er1 rfl ⟨rfl, hself⟩
  · simp only [he]
    refine HC.node hW h0 h1 ?_
    have ku := kup_Op (X := ndsX G.nd M.n 0 s.toNat) hG hW he
    have hok := wdOk_at hW h0 h1
    have hni := wi_at hM h0 h1
    generalize ndsX G.nd M.n 0 s.toNat = X at *
    generalize hmm : ndAt M s = m at *
    generalize npAt G s = g at *
    obtain ⟨pl, site, leads, done⟩ := m
    simp only at hs
    subst hs
    have hoff : pl.off = false := (hni.up j ref rfl).2
    have g1 : (ndL (pt g.sp 0) g.bp (ldVs g ⟨pl, some (j, ref), leads, done⟩) done)[0 + 1]? = some (pt g.bp 0) := ndL_pre rfl
    have kr := fun L hG => cut_calls T E g.bp g.ba pl n L hG
    simp only [if_neg hd, hoff, Bool.false_eq_true, if_false] at kr
    simp only [wdOp, ndB, ndO, stV, siS, siN, siJ] at ku ⊢
    refine hc_enter (fun _ _ => Tryz.call91 _ _) Tryz.func91 rfl Tryz.ntmps91 (Nat.le_of_ble_eq_true rfl) ?_; simp only [args0, Nat.reduceAdd]
    repeat' (first | (show HW _ _ _ _ _ _; first | apply hw_seq | apply hw_region | refine g_t ?_ | refine g_f ?_ | apply hw_skip | apply hw_ret) | (show HO _ _ _ _ _ _ _; first | apply ho_nil | refine g_q (qe S) ?_ | refine g_q (qg S) ?_ | refine g_q (ql S) ?_ | refine g_q (qC (ku)) ?_) | ((first | refine g_b (fun h => ?_) (fun h => ?_)) <;> ((try simp only [zA, zB, zC, zD, zE, zF, ne_eq, zG, zH, and_true, true_and, eq_self, zI, zJ, zK, reduceCtorEq, zL, zM] at h); (try (exfalso; first | omega | with_reducible exact h (by assumption) | with_reducible exact absurd h (by assumption))))) | apply seqQ_normal | apply seqQ_ret)
    refine fo 5 ?_
    refine gc (kr _ ?_) ?_
    · exact ((((((((((((hG.sub.cons _).cons _).cons _).cons _).cons _).cons _).cons _).cons _).cons _).cons _).cons _).cons _)
    rintro v L' ⟨rfl, rfl⟩
    repeat' (first | (show HW _ _ _ _ _ _; first | apply hw_seq | apply hw_region | refine g_t ?_ | refine g_f ?_ | apply hw_skip | apply hw_ret) | (show HO _ _ _ _ _ _ _; first | apply ho_nil | refine g_q (qe S) ?_ | refine g_q (qg S) ?_ | refine g_q (ql S) ?_ | refine g_q (qC (ku)) ?_) | ((first | refine g_b (fun h => ?_) (fun h => ?_)) <;> ((try simp only [zA, zB, zC, zD, zE, zF, ne_eq, zG, zH, and_true, true_and, eq_self, zI, zJ, zK, reduceCtorEq, zL, zM] at h); (try (exfalso; first | omega | with_reducible exact h (by assumption) | with_reducible exact absurd h (by assumption))))) | apply seqQ_normal | apply seqQ_ret)
    refine sp1 (L' := wdOp G s g ⟨{ pl with cut := n }, some (j, ref), leads, done⟩ X L) ?_ ⟨rfl, G, M, g, ⟨{ pl with cut := n }, some (j, ref), leads, done⟩, hW, rfl, rfl, rfl, hok.same rfl _ _ _, rfl, rfl, rfl⟩
    have e1 : ldBs g ⟨{ pl with cut := n }, some (j, ref), leads, done⟩ = ldBs g ⟨pl, some (j, ref), leads, done⟩ := rfl
    have e2 : ldVs g ⟨{ pl with cut := n }, some (j, ref), leads, done⟩ = ldVs g ⟨pl, some (j, ref), leads, done⟩ := rfl
    simp only [wdOp, ndB, ndO, stV, siS, siN, siJ]
    rw [e1, e2]
    simp only [hoff]
    exact (by repeat (first | (with_reducible first | refine LS.p0 ?_ | refine LS.p1 ?_ | refine LS.p2 ?_ | refine LS.p3 ?_ | refine LS.p4 ?_ | refine LS.p5 ?_ | refine LS.p6 ?_ | refine LS.p7 ?_ | refine LS.p8 ?_ | refine LS.p9 ?_ | refine LS.p10 ?_ | refine LS.p11 ?_ | refine LS.p12 ?_ | refine LS.e ?_ | exact LS.refl _) | refine LS.p0 ?_ | refine LS.p1 ?_ | refine LS.p2 ?_ | refine LS.p3 ?_ | refine LS.p4 ?_ | refine LS.p5 ?_ | refine LS.p6 ?_ | refine LS.p7 ?_ | refine LS.p8 ?_ | refine LS.p9 ?_ | refine LS.p10 ?_ | refine LS.p11 ?_ | refine LS.p12 ?_ | (with_reducible refine LS.c ?_)))
theorem wdown_calls (T : Nat) (E : Nat → Addr) (G : WdG) (M : Wm) (s : Int) (L : Heap) (hG : Er T E [2, 6] L) (hW : WdOk G M) (hM : WI M) :
    HC Tryz.prog 37 [pt G.wp 0, iv s] (wdH G M ++ L) (fun v L' => v = eV T E (downW M s).2 ∧ WdP G (downW M s).1 L L') := by
  unfold downW
  have hself := wdP_self hW L
  rcases up_err (M := M) (s := s) with ⟨e, he⟩ | ⟨he, hn, h0, h1, j, ref, hs⟩
  · have ku := kup_H s hG hW
    have hG' := er_wdH hG G M
    generalize wdH G M ++ L = H at *
    simp only [he] at ku ⊢
    refine hc_enter (fun _ _ => Tryz.call37 _ _) Tryz.func37 rfl Tryz.ntmps37 (Nat.le_of_ble_eq_true rfl) ?_; simp only [args0, Nat.reduceAdd]
    repeat' (first | (show HW _ _ _ _ _ _; first | apply hw_seq | apply hw_region | refine g_t ?_ | refine g_f ?_ | apply hw_skip | apply hw_ret) | (show HO _ _ _ _ _ _ _; first | apply ho_nil | refine g_q (qe S) ?_ | refine g_q (ql S) ?_ | refine g_q (qC (ku)) ?_) | ((first | refine g_b (fun h => ?_) (fun h => ?_)) <;> ((try simp only [zA, zB, zC, zD, zE, zF, ne_eq, zG, zH, and_true, true_and, eq_self, zI, zJ, zK, reduceCtorEq, zL, zM] at h); (try (exfalso; first | omega | with_reducible exact h (by assumption) | with_reducible exact absurd h (by assumption))))) | apply seqQ_normal | apply seqQ_ret)
    exact er1 rfl ⟨rfl, hself⟩
  · simp only [he]
    refine HC.node hW h0 h1 ?_
    have ku := kup_Op (X := ndsX G.nd M.n 0 s.toNat) hG hW he
    have hok := wdOk_at hW h0 h1
    have hni := wi_at hM h0 h1
    generalize ndsX G.nd M.n 0 s.toNat = X at *
    generalize hmm : ndAt M s = m at *
    generalize npAt G s = g at *
    obtain ⟨pl, site, leads, done⟩ := m
    simp only at hs
    subst hs
    have g1 : (ndL (pt g.sp 0) g.bp (ldVs g ⟨pl, some (j, ref), leads, done⟩) done)[0 + 1]? = some (pt g.bp 0) := ndL_pre rfl
    have kr := fun L => off_calls g.bp g.ba pl L
    have hlv : (ldVs g ⟨pl, some (j, ref), leads, done⟩).length = 6 := by simp [ldVs, hni.leads, hok.ld]
    have kf := fun L => wfall_calls g ⟨pl, some (j, ref), leads, done⟩ L hlv hok.ld
    simp only [wdOp, ndB, ndO, stV, siS, siN, siJ] at ku kf ⊢
    refine hc_enter (fun _ _ => Tryz.call37 _ _) Tryz.func37 rfl Tryz.ntmps37 (Nat.le_of_ble_eq_true rfl) ?_; simp only [args0, Nat.reduceAdd]
    repeat' (first | (show HW _ _ _ _ _ _; first | apply hw_seq | apply hw_region | refine g_t ?_ | refine g_f ?_ | apply hw_skip | apply hw_ret) | (show HO _ _ _ _ _ _ _; first | apply ho_nil | refine g_q (qe S) ?_ | refine g_q (ql S) ?_ | refine g_q (qC (ku)) ?_) | ((first | refine g_b (fun h => ?_) (fun h => ?_)) <;> ((try simp only [zA, zB, zC, zD, zE, zF, ne_eq, zG, zH, and_true, true_and, eq_self, zI, zJ, zK, reduceCtorEq, zL, zM] at h); (try (exfalso; first | omega | with_reducible exact h (by assumption) | with_reducible exact absurd h (by assumption))))) | apply seqQ_normal | apply seqQ_ret)
    refine fo 5 ?_
    refine gc (kr _) ?_
    rintro v L' ⟨rfl, rfl⟩
    repeat' (first | (show HW _ _ _ _ _ _; first | apply hw_seq | apply hw_region | refine g_t ?_ | refine g_f ?_ | apply hw_skip | apply hw_ret) | (show HO _ _ _ _ _ _ _; first | apply ho_nil | refine g_q (qe S) ?_ | refine g_q (ql S) ?_ | refine g_q (qC (ku)) ?_) | ((first | refine g_b (fun h => ?_) (fun h => ?_)) <;> ((try simp only [zA, zB, zC, zD, zE, zF, ne_eq, zG, zH, and_true, true_and, eq_self, zI, zJ, zK, reduceCtorEq, zL, zM] at h); (try (exfalso; first | omega | with_reducible exact h (by assumption) | with_reducible exact absurd h (by assumption))))) | apply seqQ_normal | apply seqQ_ret)
    refine fo 3 ?_
    refine gc (kf _) ?_
    rintro v L' ⟨rfl, rfl⟩
    repeat' (first | (show HW _ _ _ _ _ _; first | apply hw_seq | apply hw_region | refine g_t ?_ | refine g_f ?_ | apply hw_skip | apply hw_ret) | (show HO _ _ _ _ _ _ _; first | apply ho_nil | refine g_q (qe S) ?_ | refine g_q (ql S) ?_ | refine g_q (qC (ku)) ?_) | ((first | refine g_b (fun h => ?_) (fun h => ?_)) <;> ((try simp only [zA, zB, zC, zD, zE, zF, ne_eq, zG, zH, and_true, true_and, eq_self, zI, zJ, zK, reduceCtorEq, zL, zM] at h); (try (exfalso; first | omega | with_reducible exact h (by assumption) | with_reducible exact absurd h (by assumption))))) | apply seqQ_normal | apply seqQ_ret)
    refine sp1 (L' := wdOp G s g (downN ⟨pl, some (j, ref), leads, done⟩) X L) ?_ ⟨rfl, G, M, g, downN ⟨pl, some (j, ref), leads, done⟩, hW, rfl, rfl, rfl, hok.fall _ _, rfl, rfl, rfl⟩
    simp only [wdOp, ndB, ndO, stV, siS, siN, siJ, downN]
    have : ldBs g ⟨{ pl with off := true }, none, noLeads, done⟩ = [] := by
      unfold ldBs noLeads
      have := hok.ld
      obtain ⟨a, b, c, d, e, f, hh⟩ : ∃ a b c d e f, g.ld = [a, b, c, d, e, f] := by
        match g.ld, this with
        | [a, b, c, d, e, f], _ => exact ⟨_, _, _, _, _, _, rfl⟩
      rw [hh]; rfl
    rw [this]
    exact (by repeat (first | (with_reducible first | refine LS.p0 ?_ | refine LS.p1 ?_ | refine LS.p2 ?_ | refine LS.p3 ?_ | refine LS.p4 ?_ | refine LS.p5 ?_ | refine LS.p6 ?_ | refine LS.p7 ?_ | refine LS.p8 ?_ | refine LS.p9 ?_ | refine LS.p10 ?_ | refine LS.p11 ?_ | refine LS.p12 ?_ | refine LS.e ?_ | exact LS.refl _) | refine LS.p0 ?_ | refine LS.p1 ?_ | refine LS.p2 ?_ | refine LS.p3 ?_ | refine LS.p4 ?_ | refine LS.p5 ?_ | refine LS.p6 ?_ | refine LS.p7 ?_ | refine LS.p8 ?_ | refine LS.p9 ?_ | refine LS.p10 ?_ | refine LS.p11 ?_ | refine LS.p12 ?_ | (with_reducible refine LS.c ?_)))
end Go.HL
end

/-! WoQ -/
section
namespace Go.HL
open Go Go.Proofs
set_option linter.unusedVariables false
set_option linter.unusedSimpArgs false
attribute [local irreducible] HW HO HQ HD HC QOp Has Upd Puts Gets seqQ blkQ loopQ fnQ actQ nextP unQ MapF
attribute [local irreducible] ndL jcells plC siteM ldL openM
theorem wupS_calls (T : Nat) (E : Nat → Addr) (G : WdG) (M : Wm) (s : Int) (L : Heap) (hG : Er T E [2, 3, 6, 8] L) (hW : WdOk G M) (hM : WI M) :
    HC Tryz.prog 38 [pt G.wp 0, iv s] (wdH G M ++ L) (fun v L' => v = eV T E (upW M s).2 ∧ WdP G (upW M s).1 L L') := by
  unfold upW
  have hself := wdP_self hW L
  have hnl := hM.wn
  have hwl := hM.wl
  rcases node_cases (M := M) s with he | ⟨he, h0, h1⟩
  · have kn := wnode_calls T E G M s _ (er_wdH hG.sub G M) (wd_in hW L) hW.ndl
    generalize wdH G M ++ L = H at *
    simp only [he] at kn ⊢
    refine hc_enter (fun _ _ => Tryz.call38 _ _) Tryz.func38 rfl Tryz.ntmps38 (Nat.le_of_ble_eq_true rfl) ?_; simp only [args0, Nat.reduceAdd]
    repeat' (first | (show HW _ _ _ _ _ _; first | apply hw_seq | apply hw_region | refine g_t ?_ | refine g_f ?_ | apply hw_skip | apply hw_ret) | (show HO _ _ _ _ _ _ _; first | apply ho_nil | refine g_q (qe S) ?_ | refine g_q (qg S) ?_ | refine g_q (ql S) ?_ | refine g_q (qC (kn)) ?_ | refine ws S ?_) | ((first | refine g_b (fun h => ?_) (fun h => ?_)) <;> ((try simp only [zA, zB, zC, zD, zE, zF, ne_eq, zG, zH, and_true, true_and, eq_self, zI, zJ, zK, reduceCtorEq, zL, zM] at h); (try (exfalso; first | omega | with_reducible exact h (by assumption) | with_reducible exact absurd h (by assumption))))) | apply seqQ_normal | apply seqQ_ret)
    exact er1 rfl ⟨rfl, hself⟩
  · simp only [he]
    cases hs : (ndAt M s).site with
    | some q =>
      have kn := wnode_calls T E G M s _ (er_wdH hG.sub G M) (wd_in hW L) hW.ndl
      have hN := wd_hasW hW.ndl h0 h1 L
      have hG' := er_wdH hG G M
      generalize wdH G M ++ L = H at *
      simp only [he, Option.isSome_some, if_true] at kn ⊢
      unfold ndO at hN
      rw [hs] at hN
      obtain ⟨q1, q2⟩ := q
      have g0 : (ndL (pt (npAt G s).sp 0) (npAt G s).bp (ldVs (npAt G s) (ndAt M s)) (ndAt M s).done)[0 + 0]? = some (pt (npAt G s).sp 0) := ndL_pre rfl
      refine hc_enter (fun _ _ => Tryz.call38 _ _) Tryz.func38 rfl Tryz.ntmps38 (Nat.le_of_ble_eq_true rfl) ?_; simp only [args0, Nat.reduceAdd]
      repeat' (first | (show HW _ _ _ _ _ _; first | apply hw_seq | apply hw_region | refine g_t ?_ | refine g_f ?_ | apply hw_skip | apply hw_ret) | (show HO _ _ _ _ _ _ _; first | apply ho_nil | refine g_q (qe S) ?_ | refine g_q (qg S) ?_ | refine g_q (ql S) ?_ | refine g_q (qC (kn)) ?_ | refine ws S ?_) | ((first | refine g_b (fun h => ?_) (fun h => ?_)) <;> ((try simp only [zA, zB, zC, zD, zE, zF, ne_eq, zG, zH, and_true, true_and, eq_self, zI, zJ, zK, reduceCtorEq, zL, zM] at h); (try (exfalso; first | omega | with_reducible exact h (by assumption) | with_reducible exact absurd h (by assumption))))) | apply seqQ_normal | apply seqQ_ret)
      exact er1 rfl ⟨rfl, hself⟩
    | none =>
      simp only [Option.isSome_none, Bool.false_eq_true, if_false]
      refine HC.node hW h0 h1 ?_
      have kn := wnode_calls T E G M s _ (er_wdOp hG.sub G s (npAt G s) (ndAt M s) (ndsX G.nd M.n 0 s.toNat)) (wdOp_in hW s _ _ _ L) hW.ndl
      have hok := wdOk_at hW h0 h1
      have hni := wi_at hM h0 h1
      have hnp := fun H hH => npIn_of hW h0 h1 (H := H) hH
      simp only [he] at kn
      generalize ndsX G.nd M.n 0 s.toNat = X at *
      generalize hmm : ndAt M s = m at *
      generalize npAt G s = g at *
      obtain ⟨pl, site, leads, done⟩ := m
      simp only at hs
      subst hs
      have hpl : pl.b.length = 512 := hni.b512
      have g0 : ∀ v, (ndL v g.bp (ldVs g ⟨pl, none, leads, done⟩) done)[0 + 0]? = some v := fun v => ndL_pre rfl
      have g1 : ∀ v, (ndL v g.bp (ldVs g ⟨pl, none, leads, done⟩) done)[0 + 1]? = some (pt g.bp 0) := fun v => ndL_pre rfl
      have g0n := g0 (.pointer none)
      have g1n := g1 (.pointer none)
      have p0 := fun v => ndL_put0 (sv := .pointer none) (sv' := v) (bp := g.bp) (lv := ldVs g ⟨pl, none, leads, done⟩) (dn := done)
      have kon := fun L => on_calls g.bp g.ba pl L
      have kne := fun L hG => snew_calls T E s g.bp g.ba { pl with off := false, cut := -1 } L hG (by simp only; omega)
      have hse : siteE s { pl with off := false, cut := -1 } = none := by
        unfold siteE
        rw [if_neg (by omega)]
        simp only
        rw [if_neg (by omega)]
        simp
      simp only [hse] at kne
      have hlv : (ldVs g ⟨pl, none, leads, done⟩).length = 6 := by simp [ldVs, hni.leads, hok.ld]
      simp only [wdOp, ndB, ndO, stV, siS, siN, siJ] at kn ⊢
      refine hc_enter (fun _ _ => Tryz.call38 _ _) Tryz.func38 rfl Tryz.ntmps38 (Nat.le_of_ble_eq_true rfl) ?_; simp only [args0, Nat.reduceAdd]
      repeat' (first | (show HW _ _ _ _ _ _; first | apply hw_seq | apply hw_region | refine g_t ?_ | refine g_f ?_ | apply hw_skip | apply hw_ret) | (show HO _ _ _ _ _ _ _; first | apply ho_nil | refine g_q (qe S) ?_ | refine g_q (qg S) ?_ | refine g_q (ql S) ?_ | refine g_q (qC (kn)) ?_ | refine ws S ?_) | ((first | refine g_b (fun h => ?_) (fun h => ?_)) <;> ((try simp only [zA, zB, zC, zD, zE, zF, ne_eq, zG, zH, and_true, true_and, eq_self, zI, zJ, zK, reduceCtorEq, zL, zM] at h); (try (exfalso; first | omega | with_reducible exact h (by assumption) | with_reducible exact absurd h (by assumption))))) | apply seqQ_normal | apply seqQ_ret)
      refine fo 5 ?_
      refine gc (kon _) ?_
      rintro v L' ⟨rfl, rfl⟩
      repeat' (first | (show HW _ _ _ _ _ _; first | apply hw_seq | apply hw_region | refine g_t ?_ | refine g_f ?_ | apply hw_skip | apply hw_ret) | (show HO _ _ _ _ _ _ _; first | apply ho_nil | refine g_q (qe S) ?_ | refine g_q (qg S) ?_ | refine g_q (ql S) ?_ | refine g_q (qC (kn)) ?_ | refine ws S ?_) | ((first | refine g_b (fun h => ?_) (fun h => ?_)) <;> ((try simp only [zA, zB, zC, zD, zE, zF, ne_eq, zG, zH, and_true, true_and, eq_self, zI, zJ, zK, reduceCtorEq, zL, zM] at h); (try (exfalso; first | omega | with_reducible exact h (by assumption) | with_reducible exact absurd h (by assumption))))) | apply seqQ_normal | apply seqQ_ret)
      refine gc (kne _ ?_) ?_
      · exact ((((((((((((hG.sub.cons _).cons _).cons _).cons _).cons _).cons _).cons _).cons _).cons _).cons _).cons _).cons _)
      rintro v L' ⟨sp, bj, mb, rfl, rfl⟩
      have p0n := p0 (pt sp 0)
      repeat' (first | (show HW _ _ _ _ _ _; first | apply hw_seq | apply hw_region | refine g_t ?_ | refine g_f ?_ | apply hw_skip | apply hw_ret) | (show HO _ _ _ _ _ _ _; first | apply ho_nil | refine g_q (qe S) ?_ | refine g_q (qg S) ?_ | refine g_q (ql S) ?_ | refine g_q (qC (kn)) ?_ | refine ws S ?_) | ((first | refine g_b (fun h => ?_) (fun h => ?_)) <;> ((try simp only [zA, zB, zC, zD, zE, zF, ne_eq, zG, zH, and_true, true_and, eq_self, zI, zJ, zK, reduceCtorEq, zL, zM] at h); (try (exfalso; first | omega | with_reducible exact h (by assumption) | with_reducible exact absurd h (by assumption))))) | apply seqQ_normal | apply seqQ_ret)
      have kw := fun L hp hs => wnote_calls G s { g with sp := sp, bj := bj, mb := mb, es := [], ck := 0 } (bootN ⟨pl, none, leads, done⟩) M.ev M.n.length L hW.ev hM.evl hp hni.done hlv hs
      have g0s := g0 (pt sp 0)
      refine fo 6 ?_
      refine fo 6 ?_
      refine fo 6 ?_
      refine gc (kw _ ?_ ?_) ?_
      · exact hnp _ (fun b o hb => has_next (has_next (has_next (has_next (has_next (has_next (has_next (has_next (has_next (has_next (has_mem hb)))))))))))
      · intro j r hjr
        cases hjr
        refine ⟨⟨has_here, ?_⟩, openM_six _⟩
        exact has_next (has_next (has_next has_here))
      rintro v L' ⟨evv, c, hev, rfl, rfl⟩
      repeat' (first | (show HW _ _ _ _ _ _; first | apply hw_seq | apply hw_region | refine g_t ?_ | refine g_f ?_ | apply hw_skip | apply hw_ret) | (show HO _ _ _ _ _ _ _; first | apply ho_nil | refine g_q (qe S) ?_ | refine g_q (qg S) ?_ | refine g_q (ql S) ?_ | refine g_q (qC (kn)) ?_ | refine ws S ?_) | ((first | refine g_b (fun h => ?_) (fun h => ?_)) <;> ((try simp only [zA, zB, zC, zD, zE, zF, ne_eq, zG, zH, and_true, true_and, eq_self, zI, zJ, zK, reduceCtorEq, zL, zM] at h); (try (exfalso; first | omega | with_reducible exact h (by assumption) | with_reducible exact absurd h (by assumption))))) | apply seqQ_normal | apply seqQ_ret)
      refine sp1 (L' := wdOp { G with ev := evv, ec := c } s { g with sp := sp, bj := bj, mb := mb, es := [], ck := 0 } { bootN ⟨pl, none, leads, done⟩ with done := (noteN s (bootN ⟨pl, none, leads, done⟩) M.ev).1 } X L) ?_ ⟨rfl, { G with ev := evv, ec := c }, { M with ev := (noteN s (bootN ⟨pl, none, leads, done⟩) M.ev).2 }, { g with sp := sp, bj := bj, mb := mb, es := [], ck := 0 }, { bootN ⟨pl, none, leads, done⟩ with done := (noteN s (bootN ⟨pl, none, leads, done⟩) M.ev).1 }, hW.setE hev, rfl, rfl, rfl, ⟨hok.ld, hok.lok, fun j2 r2 e => by cases e; exact mapF_nil⟩, rfl, rfl, rfl⟩
      simp only [wdOp, bootN, siS, siN, siJ]
      exact (by repeat (first | (with_reducible first | refine LS.p0 ?_ | refine LS.p1 ?_ | refine LS.p2 ?_ | refine LS.p3 ?_ | refine LS.p4 ?_ | refine LS.p5 ?_ | refine LS.p6 ?_ | refine LS.p7 ?_ | refine LS.p8 ?_ | refine LS.p9 ?_ | refine LS.p10 ?_ | refine LS.p11 ?_ | refine LS.p12 ?_ | refine LS.e ?_ | exact LS.refl _) | refine LS.p0 ?_ | refine LS.p1 ?_ | refine LS.p2 ?_ | refine LS.p3 ?_ | refine LS.p4 ?_ | refine LS.p5 ?_ | refine LS.p6 ?_ | refine LS.p7 ?_ | refine LS.p8 ?_ | refine LS.p9 ?_ | refine LS.p10 ?_ | refine LS.p11 ?_ | refine LS.p12 ?_ | (with_reducible refine LS.c ?_)))
end Go.HL
end

/-! WoR -/
section
namespace Go.HL
open Go Go.Proofs
set_option linter.unusedVariables false
set_option linter.unusedSimpArgs false
section nd
variable {P : Program} {n : Nat} {ops : List Oper} {Q : Exit → Env → Heap → Prop} {ρ : Env} {L : Heap} {l : List Oper}
theorem ho_nodup (h : (L.flatten.map (·.1)).Nodup → HO P n ops Q l ρ L) : HO P n ops Q l ρ L := fun k w a hs ha => h hs.nodup k w a hs ha
end nd
theorem wdP_top {G G' : WdG} {M' : Wm} {L : Heap} (h : WdOk G' M') (e1 : G'.wp = G.wp) (e2 : G'.nd = G.nd) : WdP G M' L (wdH G' M' ++ L) := ⟨G', e1, by rw [e2], h, rfl⟩
attribute [local irreducible] HW HO HQ HD HC QOp Has Upd Puts Gets seqQ blkQ loopQ fnQ actQ nextP unQ MapF
attribute [local irreducible] ndL jcells plC siteM ldL openM
theorem wlink_calls (T : Nat) (E : Nat → Addr) (G : WdG) (M : Wm) (a b : Int) (whole : Bool) (L : Heap) (hG : Er T E [2] L) (hW : WdOk G M) :
    HC Tryz.prog 36 [pt G.wp 0, iv a, iv b, .bool whole] (wdH G M ++ L) (fun v L' => v = eV T E (linkW M a b whole).2 ∧ WdP G (linkW M a b whole).1 L L') := by
  unfold linkW
  have hself := wdP_self hW L
  have hI := wd_in hW L
  obtain ⟨an, capn, hnv, hnr⟩ := hI.ns
  by_cases h : a < 0 ∨ M.n.length ≤ a ∨ b < 0 ∨ M.n.length ≤ b
  · simp only [if_pos h]
    have hG' := er_wdH hG G M
    have hw := hI.wp
    unfold wdO at hw
    rw [hnv] at hw
    generalize wdH G M ++ L = H at *
    refine hc_enter (fun _ _ => Tryz.call36 _ _) Tryz.func36 rfl Tryz.ntmps36 (Nat.le_of_ble_eq_true rfl) ?_; simp only [args0, Nat.reduceAdd]
    repeat' (first | (show HW _ _ _ _ _ _; first | apply hw_seq | apply hw_region | refine g_t ?_ | refine g_f ?_ | apply hw_skip | apply hw_ret) | (show HO _ _ _ _ _ _ _; first | apply ho_nil | refine g_q (qe S) ?_ | refine g_q (qg S) ?_ | refine g_q (ql S) ?_ | refine g_q (qn S) ?_ | refine g_q (qb S) ?_ | refine g_q (qbA S) ?_ | refine g_n ?_ | refine g_on ?_) | ((first | refine g_b (fun h => ?_) (fun h => ?_) | refine g_s (fun h => ?_) (fun h => ?_)) <;> ((try simp only [zA, zB, zC, zD, zE, zF, ne_eq, zG, zH, and_true, true_and, eq_self, zI, zJ, zK, reduceCtorEq, zL, zM] at h); (try (exfalso; first | omega | with_reducible exact h (by assumption) | with_reducible exact absurd h (by assumption))))) | apply seqQ_normal | apply seqQ_ret)
    all_goals exact er1 rfl ⟨rfl, hself⟩
  · simp only [if_neg h]
    have hF := hW.br
    have key : ∀ es' ck' x, MapF pk es' (fun y => if y = (min a b, max a b) then x else M.br y) → WdP G { M with br := fun y => if y = (min a b, max a b) then x else M.br y } L (wdH { G with es := es', ck := ck' } { M with br := fun y => if y = (min a b, max a b) then x else M.br y } ++ L) := fun es' ck' x hF' => wdP_top (hW.setB hF') rfl rfl
    simp only [wdH, wdT, wdO, List.cons_append, List.nil_append, hnv] at key ⊢
    cases whole with
    | true =>
      simp only [Bool.not_true, Bool.false_and]
      refine hc_enter (fun _ _ => Tryz.call36 _ _) Tryz.func36 rfl Tryz.ntmps36 (Nat.le_of_ble_eq_true rfl) ?_; simp only [args0, Nat.reduceAdd]
      repeat' (first | (show HW _ _ _ _ _ _; first | apply hw_seq | apply hw_region | refine g_t ?_ | refine g_f ?_ | apply hw_skip | apply hw_ret) | (show HO _ _ _ _ _ _ _; first | apply ho_nil | refine g_q (qe S) ?_ | refine g_q (qg S) ?_ | refine g_q (ql S) ?_ | refine g_q (qn S) ?_ | refine g_q (qb S) ?_ | refine g_q (qbA S) ?_ | refine g_n ?_ | refine g_on ?_) | ((first | refine g_b (fun h => ?_) (fun h => ?_) | refine g_s (fun h => ?_) (fun h => ?_)) <;> ((try simp only [zA, zB, zC, zD, zE, zF, ne_eq, zG, zH, and_true, true_and, eq_self, zI, zJ, zK, reduceCtorEq, zL, zM] at h); (try (exfalso; first | omega | with_reducible exact h (by assumption) | with_reducible exact absurd h (by assumption))))) | apply seqQ_normal | apply seqQ_ret)
      all_goals refine fo 3 ?_
      all_goals refine wmP (v := false) hF (fun es' ck' hF' => ?_)
      all_goals repeat' (first | (show HW _ _ _ _ _ _; first | apply hw_seq | apply hw_region | refine g_t ?_ | refine g_f ?_ | apply hw_skip | apply hw_ret) | (show HO _ _ _ _ _ _ _; first | apply ho_nil | refine g_q (qe S) ?_ | refine g_q (qg S) ?_ | refine g_q (ql S) ?_ | refine g_q (qn S) ?_ | refine g_q (qb S) ?_ | refine g_q (qbA S) ?_ | refine g_n ?_ | refine g_on ?_) | ((first | refine g_b (fun h => ?_) (fun h => ?_) | refine g_s (fun h => ?_) (fun h => ?_)) <;> ((try simp only [zA, zB, zC, zD, zE, zF, ne_eq, zG, zH, and_true, true_and, eq_self, zI, zJ, zK, reduceCtorEq, zL, zM] at h); (try (exfalso; first | omega | with_reducible exact h (by assumption) | with_reducible exact absurd h (by assumption))))) | apply seqQ_normal | apply seqQ_ret)
      all_goals exact sp1 (by repeat (first | (with_reducible first | refine LS.p0 ?_ | refine LS.p1 ?_ | refine LS.p2 ?_ | refine LS.p3 ?_ | refine LS.p4 ?_ | refine LS.p5 ?_ | refine LS.p6 ?_ | refine LS.p7 ?_ | refine LS.p8 ?_ | refine LS.p9 ?_ | refine LS.p10 ?_ | refine LS.p11 ?_ | refine LS.p12 ?_ | refine LS.e ?_ | exact LS.refl _) | refine LS.p0 ?_ | refine LS.p1 ?_ | refine LS.p2 ?_ | refine LS.p3 ?_ | refine LS.p4 ?_ | refine LS.p5 ?_ | refine LS.p6 ?_ | refine LS.p7 ?_ | refine LS.p8 ?_ | refine LS.p9 ?_ | refine LS.p10 ?_ | refine LS.p11 ?_ | refine LS.p12 ?_ | (with_reducible refine LS.c ?_))) ⟨rfl, key es' ck' _ hF'⟩
    | false =>
      simp only [Bool.not_false, Bool.true_and]
      refine hc_enter (fun _ _ => Tryz.call36 _ _) Tryz.func36 rfl Tryz.ntmps36 (Nat.le_of_ble_eq_true rfl) ?_; simp only [args0, Nat.reduceAdd]
      repeat' (first | (show HW _ _ _ _ _ _; first | apply hw_seq | apply hw_region | refine g_t ?_ | refine g_f ?_ | apply hw_skip | apply hw_ret) | (show HO _ _ _ _ _ _ _; first | apply ho_nil | refine g_q (qe S) ?_ | refine g_q (qg S) ?_ | refine g_q (ql S) ?_ | refine g_q (qn S) ?_ | refine g_q (qb S) ?_ | refine g_q (qbA S) ?_ | refine g_n ?_ | refine g_on ?_) | ((first | refine g_b (fun h => ?_) (fun h => ?_) | refine g_s (fun h => ?_) (fun h => ?_)) <;> ((try simp only [zA, zB, zC, zD, zE, zF, ne_eq, zG, zH, and_true, true_and, eq_self, zI, zJ, zK, reduceCtorEq, zL, zM] at h); (try (exfalso; first | omega | with_reducible exact h (by assumption) | with_reducible exact absurd h (by assumption))))) | apply seqQ_normal | apply seqQ_ret)
      all_goals refine fo 3 ?_
      all_goals refine wmP (v := decide (a ≠ b)) hF (fun es' ck' hF' => ?_)
      all_goals repeat' (first | (show HW _ _ _ _ _ _; first | apply hw_seq | apply hw_region | refine g_t ?_ | refine g_f ?_ | apply hw_skip | apply hw_ret) | (show HO _ _ _ _ _ _ _; first | apply ho_nil | refine g_q (qe S) ?_ | refine g_q (qg S) ?_ | refine g_q (ql S) ?_ | refine g_q (qn S) ?_ | refine g_q (qb S) ?_ | refine g_q (qbA S) ?_ | refine g_n ?_ | refine g_on ?_) | ((first | refine g_b (fun h => ?_) (fun h => ?_) | refine g_s (fun h => ?_) (fun h => ?_)) <;> ((try simp only [zA, zB, zC, zD, zE, zF, ne_eq, zG, zH, and_true, true_and, eq_self, zI, zJ, zK, reduceCtorEq, zL, zM] at h); (try (exfalso; first | omega | with_reducible exact h (by assumption) | with_reducible exact absurd h (by assumption))))) | apply seqQ_normal | apply seqQ_ret)
      all_goals exact sp1 (by repeat (first | (with_reducible first | refine LS.p0 ?_ | refine LS.p1 ?_ | refine LS.p2 ?_ | refine LS.p3 ?_ | refine LS.p4 ?_ | refine LS.p5 ?_ | refine LS.p6 ?_ | refine LS.p7 ?_ | refine LS.p8 ?_ | refine LS.p9 ?_ | refine LS.p10 ?_ | refine LS.p11 ?_ | refine LS.p12 ?_ | refine LS.e ?_ | exact LS.refl _) | refine LS.p0 ?_ | refine LS.p1 ?_ | refine LS.p2 ?_ | refine LS.p3 ?_ | refine LS.p4 ?_ | refine LS.p5 ?_ | refine LS.p6 ?_ | refine LS.p7 ?_ | refine LS.p8 ?_ | refine LS.p9 ?_ | refine LS.p10 ?_ | refine LS.p11 ?_ | refine LS.p12 ?_ | (with_reducible refine LS.c ?_))) ⟨rfl, key es' ck' _ hF'⟩
theorem wdrop_calls (T : Nat) (E : Nat → Addr) (G : WdG) (M : Wm) (k : Int) (L : Heap) (hG : Er T E [4] L) (hW : WdOk G M) (hl : M.l.length ≤ 100000000) :
    HC Tryz.prog 35 [pt G.wp 0, iv k] (wdH G M ++ L) (fun v L' => v = eV T E (dropW M k).2 ∧ WdP G (dropW M k).1 L L') := by
  unfold dropW
  have hself := wdP_self hW L
  have hI := wd_in hW L
  have ka := wat_calls T E G M k _ (er_wdH hG G M) hI
  unfold wat at *
  by_cases h : k < 0 ∨ M.l.length ≤ k
  · simp only [if_pos h] at ka ⊢
    generalize wdH G M ++ L = H at *
    refine hc_enter (fun _ _ => Tryz.call35 _ _) Tryz.func35 rfl Tryz.ntmps35 (Nat.le_of_ble_eq_true rfl) ?_; simp only [args0, Nat.reduceAdd]
    repeat' (first | (show HW _ _ _ _ _ _; first | apply hw_seq | apply hw_region | refine g_t ?_ | refine g_f ?_ | apply hw_skip | apply hw_ret) | (show HO _ _ _ _ _ _ _; first | apply ho_nil | refine g_q (qe S) ?_ | refine g_q (ql S) ?_ | refine g_q (qC (ka)) ?_ | refine ws S ?_) | ((first | refine g_b (fun h => ?_) (fun h => ?_)) <;> ((try simp only [zA, zB, zC, zD, zE, zF, ne_eq, zG, zH, and_true, true_and, eq_self, zI, zJ, zK, reduceCtorEq, zL, zM] at h); (try (exfalso; first | omega | with_reducible exact h (by assumption) | with_reducible exact absurd h (by assumption))))) | apply seqQ_normal | apply seqQ_ret)
    all_goals exact er1 rfl ⟨rfl, hself⟩
  · simp only [if_neg h] at ka ⊢
    have key : ∀ lv lc, FrVec lv (M.l.eraseIdx k.toNat) lc → WdP G { M with l := M.l.eraseIdx k.toNat } L (wdH { G with lv := lv, lc := lc } { M with l := M.l.eraseIdx k.toNat } ++ L) := fun lv lc hv => wdP_top (hW.setL hv) rfl rfl
    have kd := fun L => delete_calls G.lv M.l G.lc k (k + 1) L hW.l hl (by omega) (by omega) rfl
    simp only [wdH, wdT, wdO, List.cons_append, List.nil_append] at key ka ⊢
    obtain ⟨a5, cap5, he5, -, -⟩ := hW.l.rd fc_len
    rw [he5] at ka kd ⊢
    refine hc_enter (fun _ _ => Tryz.call35 _ _) Tryz.func35 rfl Tryz.ntmps35 (Nat.le_of_ble_eq_true rfl) ?_; simp only [args0, Nat.reduceAdd]
    repeat' (first | (show HW _ _ _ _ _ _; first | apply hw_seq | apply hw_region | refine g_t ?_ | refine g_f ?_ | apply hw_skip | apply hw_ret) | (show HO _ _ _ _ _ _ _; first | apply ho_nil | refine g_q (qe S) ?_ | refine g_q (ql S) ?_ | refine g_q (qC (ka)) ?_ | refine ws S ?_) | ((first | refine g_b (fun h => ?_) (fun h => ?_)) <;> ((try simp only [zA, zB, zC, zD, zE, zF, ne_eq, zG, zH, and_true, true_and, eq_self, zI, zJ, zK, reduceCtorEq, zL, zM] at h); (try (exfalso; first | omega | with_reducible exact h (by assumption) | with_reducible exact absurd h (by assumption))))) | apply seqQ_normal | apply seqQ_ret)
    refine fo 4 ?_
    refine gc (kd _) ?_
    rintro v L' ⟨c', hv', rfl⟩
    obtain ⟨a6, cap6, rfl, -, -⟩ := hv'.rd fc_len
    repeat' (first | (show HW _ _ _ _ _ _; first | apply hw_seq | apply hw_region | refine g_t ?_ | refine g_f ?_ | apply hw_skip | apply hw_ret) | (show HO _ _ _ _ _ _ _; first | apply ho_nil | refine g_q (qe S) ?_ | refine g_q (ql S) ?_ | refine g_q (qC (ka)) ?_ | refine ws S ?_) | ((first | refine g_b (fun h => ?_) (fun h => ?_)) <;> ((try simp only [zA, zB, zC, zD, zE, zF, ne_eq, zG, zH, and_true, true_and, eq_self, zI, zJ, zK, reduceCtorEq, zL, zM] at h); (try (exfalso; first | omega | with_reducible exact h (by assumption) | with_reducible exact absurd h (by assumption))))) | apply seqQ_normal | apply seqQ_ret)
    exact sp1 (by repeat (first | (with_reducible first | refine LS.p0 ?_ | refine LS.p1 ?_ | refine LS.p2 ?_ | refine LS.p3 ?_ | refine LS.p4 ?_ | refine LS.p5 ?_ | refine LS.p6 ?_ | refine LS.p7 ?_ | refine LS.p8 ?_ | refine LS.p9 ?_ | refine LS.p10 ?_ | refine LS.p11 ?_ | refine LS.p12 ?_ | refine LS.e ?_ | exact LS.refl _) | refine LS.p0 ?_ | refine LS.p1 ?_ | refine LS.p2 ?_ | refine LS.p3 ?_ | refine LS.p4 ?_ | refine LS.p5 ?_ | refine LS.p6 ?_ | refine LS.p7 ?_ | refine LS.p8 ?_ | refine LS.p9 ?_ | refine LS.p10 ?_ | refine LS.p11 ?_ | refine LS.p12 ?_ | (with_reducible refine LS.c ?_))) ⟨rfl, key _ c' hv'⟩
theorem wfly_calls (G : WdG) (M : Wm) (L : Heap) (hI : WdIn L G M) : HC Tryz.prog 157 [pt G.wp 0] L (fun v L' => v = iv M.l.length ∧ L' = L) := by
  have hw := hI.wp
  unfold wdO at hw
  obtain ⟨a, cap, hlv, -⟩ := hI.ls
  rw [hlv] at hw
  refine hc_enter (fun _ _ => Tryz.call157 _ _) Tryz.func157 rfl Tryz.ntmps157 (Nat.le_of_ble_eq_true rfl) ?_; simp only [args0, Nat.reduceAdd]
  repeat' (first | (show HW _ _ _ _ _ _; first | apply hw_seq | apply hw_region | apply hw_ret) | (show HO _ _ _ _ _ _ _; first | apply ho_nil | refine g_q (qe S) ?_ | refine g_q (ql S) ?_) | apply seqQ_normal | apply seqQ_ret)
  exact er1 rfl ⟨rfl, rfl⟩
theorem wflying_calls (G : WdG) (M : Wm) (L : Heap) (hW : WdOk G M) (hl : M.l.length ≤ 100000000) :
    HC Tryz.prog 22 [pt G.wp 0] (wdH G M ++ L) (fun v L' => ∃ c, FrVec v M.l c ∧ L' = c :: (wdH G M ++ L)) := by
  have kd := fun L => clone_frames G.lv M.l G.lc L hW.l hl
  obtain ⟨a5, cap5, he5, -, -⟩ := hW.l.rd fc_len
  simp only [wdH, wdT, wdO, List.cons_append, List.nil_append]
  rw [he5] at kd ⊢
  refine hc_enter (fun _ _ => Tryz.call22 _ _) Tryz.func22 rfl Tryz.ntmps22 (Nat.le_of_ble_eq_true rfl) ?_; simp only [args0, Nat.reduceAdd]
  repeat' (first | (show HW _ _ _ _ _ _; first | apply hw_seq | apply hw_region | apply hw_ret) | (show HO _ _ _ _ _ _ _; first | apply ho_nil | refine g_q (qe S) ?_ | refine g_q (ql S) ?_) | apply seqQ_normal | apply seqQ_ret)
  refine fo 4 ?_
  refine gc (kd _) ?_
  rintro v L' ⟨c', hv', rfl⟩
  repeat' (first | (show HW _ _ _ _ _ _; first | apply hw_seq | apply hw_region | apply hw_ret) | (show HO _ _ _ _ _ _ _; first | apply ho_nil | refine g_q (qe S) ?_ | refine g_q (ql S) ?_) | apply seqQ_normal | apply seqQ_ret)
  exact sp1 (by repeat (first | (with_reducible first | refine LS.p0 ?_ | refine LS.p1 ?_ | refine LS.p2 ?_ | refine LS.p3 ?_ | refine LS.p4 ?_ | refine LS.p5 ?_ | refine LS.p6 ?_ | refine LS.p7 ?_ | refine LS.p8 ?_ | refine LS.p9 ?_ | refine LS.p10 ?_ | refine LS.p11 ?_ | refine LS.p12 ?_ | refine LS.e ?_ | exact LS.refl _) | refine LS.p0 ?_ | refine LS.p1 ?_ | refine LS.p2 ?_ | refine LS.p3 ?_ | refine LS.p4 ?_ | refine LS.p5 ?_ | refine LS.p6 ?_ | refine LS.p7 ?_ | refine LS.p8 ?_ | refine LS.p9 ?_ | refine LS.p10 ?_ | refine LS.p11 ?_ | refine LS.p12 ?_ | (with_reducible refine LS.c ?_))) ⟨c', hv', rfl⟩
theorem wevents_calls (G : WdG) (M : Wm) (L : Heap) (hW : WdOk G M) (hl : M.ev.length ≤ 100000000) :
    HC Tryz.prog 27 [pt G.wp 0] (wdH G M ++ L) (fun v L' => ∃ c, Vec 81 3 ec v M.ev c ∧ L' = c :: (wdH G M ++ L)) := by
  have kd := fun L => clone_events G.ev M.ev G.ec L hW.ev hl
  obtain ⟨a5, cap5, he5, -, -⟩ := hW.ev.rd ec_len
  simp only [wdH, wdT, wdO, List.cons_append, List.nil_append]
  rw [he5] at kd ⊢
  refine hc_enter (fun _ _ => Tryz.call27 _ _) Tryz.func27 rfl Tryz.ntmps27 (Nat.le_of_ble_eq_true rfl) ?_; simp only [args0, Nat.reduceAdd]
  repeat' (first | (show HW _ _ _ _ _ _; first | apply hw_seq | apply hw_region | apply hw_ret) | (show HO _ _ _ _ _ _ _; first | apply ho_nil | refine g_q (qe S) ?_ | refine g_q (ql S) ?_) | apply seqQ_normal | apply seqQ_ret)
  refine fo 5 ?_
  refine gc (kd _) ?_
  rintro v L' ⟨c', hv', rfl⟩
  repeat' (first | (show HW _ _ _ _ _ _; first | apply hw_seq | apply hw_region | apply hw_ret) | (show HO _ _ _ _ _ _ _; first | apply ho_nil | refine g_q (qe S) ?_ | refine g_q (ql S) ?_) | apply seqQ_normal | apply seqQ_ret)
  exact sp1 (by repeat (first | (with_reducible first | refine LS.p0 ?_ | refine LS.p1 ?_ | refine LS.p2 ?_ | refine LS.p3 ?_ | refine LS.p4 ?_ | refine LS.p5 ?_ | refine LS.p6 ?_ | refine LS.p7 ?_ | refine LS.p8 ?_ | refine LS.p9 ?_ | refine LS.p10 ?_ | refine LS.p11 ?_ | refine LS.p12 ?_ | refine LS.e ?_ | exact LS.refl _) | refine LS.p0 ?_ | refine LS.p1 ?_ | refine LS.p2 ?_ | refine LS.p3 ?_ | refine LS.p4 ?_ | refine LS.p5 ?_ | refine LS.p6 ?_ | refine LS.p7 ?_ | refine LS.p8 ?_ | refine LS.p9 ?_ | refine LS.p10 ?_ | refine LS.p11 ?_ | refine LS.p12 ?_ | (with_reducible refine LS.c ?_))) ⟨c', hv', rfl⟩
theorem wtwice_calls (T : Nat) (E : Nat → Addr) (G : WdG) (M : Wm) (k : Int) (L : Heap) (hG : Er T E [4] L) (hW : WdOk G M) (hl : M.l.length ≤ 99999999) :
    HC Tryz.prog 88 [pt G.wp 0, iv k] (wdH G M ++ L) (fun v L' => v = eV T E (twiceW M k).2 ∧ WdP G (twiceW M k).1 L L') := by
  unfold twiceW
  have hself := wdP_self hW L
  have hI := wd_in hW L
  have ka := wat_calls T E G M k _ (er_wdH hG G M) hI
  unfold wat at *
  by_cases h : k < 0 ∨ M.l.length ≤ k
  · simp only [if_pos h] at ka ⊢
    generalize wdH G M ++ L = H at *
    refine hc_enter (fun _ _ => Tryz.call88 _ _) Tryz.func88 rfl Tryz.ntmps88 (Nat.le_of_ble_eq_true rfl) ?_; simp only [args0, Nat.reduceAdd]
    repeat' (first | (show HW _ _ _ _ _ _; first | apply hw_seq | apply hw_region | refine g_t ?_ | refine g_f ?_ | apply hw_skip | apply hw_ret | refine g_k S ?_ | refine g_w S ?_) | (show HO _ _ _ _ _ _ _; first | apply ho_nil | refine g_q (qe S) ?_ | refine g_q (ql S) ?_ | refine g_q (qs S) ?_ | refine g_q (qC (ka)) ?_ | refine ws S ?_ | refine wS S (fun b => ?_) | refine wSa S (fun b => ?_) | refine wSn S (fun b => ?_)) | (show HQ _ _ _ _ _ _ _; first | apply hq_nil | refine k_q (qe S) ?_ | refine k_q (ql S) ?_ | refine k_q (qs S) ?_ | refine k_q (qC (ka)) ?_) | (show HD _ _ _ _ _ _ _ _; first | apply hd_nil | refine d_q 100 (by exact rfl) (fun _ => qe S) ?_ | refine dl S 100 ?_ | refine ds S 100 ?_ | refine d_q 0 (by exact rfl) (fun _ => qC (ka)) ?_ | refine d_q 1 (by exact rfl) (fun _ => qC (ka)) ?_ | refine d_q 2 (by exact rfl) (fun _ => qC (ka)) ?_ | refine d_q 3 (by exact rfl) (fun _ => qC (ka)) ?_) | ((first | refine g_b (fun h => ?_) (fun h => ?_)) <;> ((try simp only [zA, zB, zC, zD, zE, zF, ne_eq, zG, zH, and_true, true_and, eq_self, zI, zJ, zK, reduceCtorEq, zL, zM] at h); (try (exfalso; first | omega | with_reducible exact h (by assumption) | with_reducible exact absurd h (by assumption))))) | (show HD _ _ _ _ _ _ _ _; refine da 101 ?_) | refine dx ?_ | apply dx0 | refine dxd ?_ | refine dxk ?_ | apply seqQ_normal | apply seqQ_ret)
    all_goals exact er1 rfl ⟨rfl, hself⟩
  · simp only [if_neg h] at ka ⊢
    have key : ∀ lv lc, FrVec lv (M.l.take (k + 1).toNat ++ M.l.getD k.toNat zeroF :: M.l.drop (k + 1).toNat) lc → WdP G { M with l := M.l.take (k + 1).toNat ++ M.l.getD k.toNat zeroF :: M.l.drop (k + 1).toNat } L (wdH { G with lv := lv, lc := lc } { M with l := M.l.take (k + 1).toNat ++ M.l.getD k.toNat zeroF :: M.l.drop (k + 1).toNat } ++ L) := fun lv lc hv => wdP_top (hW.setL hv) rfl rfl
    have kd := fun eb L hne => insert_calls G.lv M.l G.lc (k + 1) (M.l.getD k.toNat zeroF) eb L hW.l (by omega) (by omega) (by omega) hne
    obtain ⟨a5, cap5, he5, -, hR5⟩ := hW.l.rd fc_len
    have hR6 := (hR5 []).mono (L' := wdH G M ++ L) fun b o hb => by
      simp only [Has, wdH, wdT, List.flatten_cons, List.flatten_nil, List.append_nil, List.cons_append, List.nil_append] at hb ⊢
      simp [hb]
    obtain ⟨b, i, l, F, fr, e6, hb, hg⟩ := hR6.at (j := k) (by omega) (by omega)
    have hgk : M.l[k.toNat]'(by omega) = M.l.getD k.toNat zeroF := by
      rw [List.getD, List.getElem?_eq_getElem (by omega)]; rfl
    rw [hgk] at hg
    rw [e6] at he5
    simp only [wdH, wdT, wdO, List.cons_append, List.nil_append] at key ka hb ⊢
    rw [he5] at ka kd hb ⊢
    refine hc_enter (fun _ _ => Tryz.call88 _ _) Tryz.func88 rfl Tryz.ntmps88 (Nat.le_of_ble_eq_true rfl) ?_; simp only [args0, Nat.reduceAdd]
    repeat' (first | (show HW _ _ _ _ _ _; first | apply hw_seq | apply hw_region | refine g_t ?_ | refine g_f ?_ | apply hw_skip | apply hw_ret | refine g_d S ?_) | (show HO _ _ _ _ _ _ _; first | apply ho_nil | refine g_q (qe S) ?_ | refine g_q (ql S) ?_ | refine g_q (qs S) ?_ | refine g_q (qC (ka)) ?_ | refine ws S ?_ | refine wS S (fun b => ?_) | refine wSa S (fun b => ?_) | refine wSn S (fun b => ?_)) | (show HD _ _ _ _ _ _ _ _; first | apply hd_nil | refine d_q 100 (by exact rfl) (fun _ => qe S) ?_ | refine dl S 100 ?_ | refine ds S 100 ?_ | refine d_q 0 (by exact rfl) (fun _ => qC (ka)) ?_ | refine d_q 1 (by exact rfl) (fun _ => qC (ka)) ?_ | refine d_q 2 (by exact rfl) (fun _ => qC (ka)) ?_ | refine d_q 3 (by exact rfl) (fun _ => qC (ka)) ?_) | ((first | refine g_b (fun h => ?_) (fun h => ?_)) <;> ((try simp only [zA, zB, zC, zD, zE, zF, ne_eq, zG, zH, and_true, true_and, eq_self, zI, zJ, zK, reduceCtorEq, zL, zM] at h); (try (exfalso; first | omega | with_reducible exact h (by assumption) | with_reducible exact absurd h (by assumption))))) | (show HD _ _ _ _ _ _ _ _; refine da 101 ?_) | refine dx ?_ | apply dx0 | refine dxd ?_ | refine dxk ?_ | apply seqQ_normal | apply seqQ_ret)
    refine ho_nodup fun hnd => ?_
    refine fo 5 ?_
    refine gc (kd b _ ?_) ?_
    · intro q o hq hqe
      subst hqe
      rw [List.flatten_cons, List.singleton_append, List.map_cons, List.nodup_cons] at hnd
      refine hnd.1 (List.mem_map.2 ⟨(b, o), ?_, rfl⟩)
      simp [hq]
    rintro v L' ⟨c', hv', rfl⟩
    obtain ⟨a6, cap6, rfl, -, -⟩ := hv'.rd fc_len
    repeat' (first | (show HW _ _ _ _ _ _; first | apply hw_seq | apply hw_region | refine g_t ?_ | refine g_f ?_ | apply hw_skip | apply hw_ret | refine g_d S ?_) | (show HO _ _ _ _ _ _ _; first | apply ho_nil | refine g_q (qe S) ?_ | refine g_q (ql S) ?_ | refine g_q (qs S) ?_ | refine g_q (qC (ka)) ?_ | refine ws S ?_ | refine wS S (fun b => ?_) | refine wSa S (fun b => ?_) | refine wSn S (fun b => ?_)) | (show HD _ _ _ _ _ _ _ _; first | apply hd_nil | refine d_q 100 (by exact rfl) (fun _ => qe S) ?_ | refine dl S 100 ?_ | refine ds S 100 ?_ | refine d_q 0 (by exact rfl) (fun _ => qC (ka)) ?_ | refine d_q 1 (by exact rfl) (fun _ => qC (ka)) ?_ | refine d_q 2 (by exact rfl) (fun _ => qC (ka)) ?_ | refine d_q 3 (by exact rfl) (fun _ => qC (ka)) ?_) | ((first | refine g_b (fun h => ?_) (fun h => ?_)) <;> ((try simp only [zA, zB, zC, zD, zE, zF, ne_eq, zG, zH, and_true, true_and, eq_self, zI, zJ, zK, reduceCtorEq, zL, zM] at h); (try (exfalso; first | omega | with_reducible exact h (by assumption) | with_reducible exact absurd h (by assumption))))) | (show HD _ _ _ _ _ _ _ _; refine da 101 ?_) | refine dx ?_ | apply dx0 | refine dxd ?_ | refine dxk ?_ | apply seqQ_normal | apply seqQ_ret)
    exact sp1 (by repeat (first | (with_reducible first | refine LS.p0 ?_ | refine LS.p1 ?_ | refine LS.p2 ?_ | refine LS.p3 ?_ | refine LS.p4 ?_ | refine LS.p5 ?_ | refine LS.p6 ?_ | refine LS.p7 ?_ | refine LS.p8 ?_ | refine LS.p9 ?_ | refine LS.p10 ?_ | refine LS.p11 ?_ | refine LS.p12 ?_ | refine LS.e ?_ | exact LS.refl _) | refine LS.p0 ?_ | refine LS.p1 ?_ | refine LS.p2 ?_ | refine LS.p3 ?_ | refine LS.p4 ?_ | refine LS.p5 ?_ | refine LS.p6 ?_ | refine LS.p7 ?_ | refine LS.p8 ?_ | refine LS.p9 ?_ | refine LS.p10 ?_ | refine LS.p11 ?_ | refine LS.p12 ?_ | (with_reducible refine LS.c ?_))) ⟨rfl, key _ c' hv'⟩
end Go.HL
end

/-! WgD -/
section
namespace Go.HL
open Go Go.Proofs
set_option linter.unusedVariables false
set_option linter.unusedSimpArgs false

theorem mx_mem {l : List Int} (h : l ≠ []) : mx l ∈ l := by
  have key : ∀ (r : List Int) (x : Int), r.foldl max x ∈ x :: r := by
    intro r
    induction r with
    | nil => intro x; simp
    | cons y r ih =>
      intro x
      have := ih (max x y)
      simp only [List.foldl_cons, List.mem_cons] at this ⊢
      rcases this with h | h
      · rw [h]
        by_cases hc : x ≤ y
        · right; left; omega
        · left; omega
      · exact .inr (.inr h)
  cases l with
  | nil => exact absurd rfl h
  | cons x r => exact key r x
end Go.HL
end

/-! RfW -/
section
namespace Go.HL
open Go Go.Proofs
set_option linter.unusedVariables false
set_option linter.unusedSimpArgs false
def cdN' : Option Nat → Int
  | none => 0
  | some c => c
def isum : List Int → Int
  | [] => 0
  | x :: r => x + isum r
theorem isum_snoc (l : List Int) (y : Int) : isum (l ++ [y]) = isum l + y := by
  induction l with
  | nil => simp [isum]
  | cons x r ih => simp only [List.cons_append, isum, ih]; omega
theorem isum_le : ∀ (l : List Int), (∀ x ∈ l, 0 ≤ x ∧ x ≤ 1000) → 0 ≤ isum l ∧ isum l ≤ 1000 * l.length
  | [], _ => by simp [isum]
  | x :: r, h => by
    have h1 := isum_le r (fun y hy => h y (by simp [hy]))
    have h2 := h x (by simp)
    simp only [isum, List.length_cons]; omega
theorem isum_zero : ∀ (l : List Int), (∀ x ∈ l, 0 ≤ x) → (isum l = 0 ↔ ∀ x ∈ l, x = 0)
  | [], _ => by simp [isum]
  | x :: r, h => by
    have h1 := isum_zero r (fun y hy => h y (by simp [hy]))
    have h2 := h x (by simp)
    have h3 : 0 ≤ isum r := by
      have : ∀ (l : List Int), (∀ x ∈ l, 0 ≤ x) → 0 ≤ isum l := by
        intro l
        induction l with
        | nil => intro _; simp [isum]
        | cons y l ih => intro hl; have := ih (fun z hz => hl z (by simp [hz])); have := hl y (by simp); simp only [isum]; omega
      exact this r (fun y hy => h y (by simp [hy]))
    simp only [isum, List.forall_mem_cons, ← h1]
    omega
theorem mx_ge : ∀ (l : List Int) (x : Int), x ∈ l → x ≤ mx l := by
  intro l
  have key : ∀ (r : List Int) (m : Int), m ≤ r.foldl max m ∧ ∀ y ∈ r, y ≤ r.foldl max m := by
    intro r
    induction r with
    | nil => intro m; simp
    | cons z r ih =>
      intro m
      obtain ⟨h1, h2⟩ := ih (max m z)
      simp only [List.foldl_cons, List.mem_cons]
      refine ⟨by omega, fun y hy => ?_⟩
      rcases hy with rfl | hy
      · omega
      · exact h2 y hy
  cases l with
  | nil => intro x hx; cases hx
  | cons z r =>
    intro x hx
    obtain ⟨h1, h2⟩ := key r z
    simp only [List.mem_cons] at hx
    rcases hx with rfl | hx
    · exact h1
    · exact h2 x hx
theorem mx_zero {l : List Int} (h : l ≠ []) (h0 : ∀ x ∈ l, 0 ≤ x) : mx l = 0 ↔ isum l = 0 := by
  rw [isum_zero l h0]
  constructor
  · intro e x hx
    have := mx_ge l x hx
    have := h0 x hx
    omega
  · intro e
    exact e _ (mx_mem h)
attribute [local irreducible] HW HO HQ HD HC QOp Has Upd Puts Gets seqQ blkQ loopQ fnQ actQ nextP unQ MapF
theorem weightsError_calls (a : Option Addr) (cap : Nat) (xs : List Int) (L : Heap) (hR : Rd ic 1 L a xs) : HC Tryz.prog 15 [.slice a xs.length cap] L (fun v L' => v = iv (cdN' (checkW xs)) ∧ L' = L) := by
  refine hc_enter (fun _ _ => Tryz.call15 _ _) Tryz.func15 rfl Tryz.ntmps15 (Nat.le_of_ble_eq_true rfl) ?_; simp only [args0, Nat.reduceAdd]
  repeat' (first | (show HW _ _ _ _ _ _; first | apply hw_seq | apply hw_region | apply hw_block | apply hw_exit | refine g_t ?_ | refine g_f ?_ | apply hw_skip | apply hw_ret) | (show HO _ _ _ _ _ _ _; first | apply ho_nil | refine g_q (qe S) ?_ | refine g_q (ql S) ?_ | refine g_n ?_ | refine g_on ?_) | ((first | refine g_b (fun h => ?_) (fun h => ?_) | refine g_s (fun h => ?_) (fun h => ?_)) <;> ((try simp only [zA, zB, zC, zD, zE, zF, ne_eq, zG, zH, and_true, true_and, eq_self, zI, zJ, zK, reduceCtorEq, zL, zM] at h); (try (exfalso; first | omega | with_reducible exact h (by assumption) | with_reducible exact absurd h (by assumption))))) | apply seqQ_normal | apply seqQ_ret | apply seqQ_exit | apply blkQ_here | refine g_bx ?_ | apply blkQ_ret | apply blkQ_normal | apply loopQ_ret | apply loopQ_exit | apply unQ_ret | apply unQ_exit | apply unQ_succ)
  · exact sp1 (LS.refl _) ⟨by unfold checkW; rw [if_pos (by omega)], rfl⟩
  · exact sp1 (LS.refl _) ⟨by unfold checkW; rw [if_pos (by omega)], rfl⟩
  refine hw_loop (σ := Nat × Int) (fun q => [(0, .slice a xs.length cap), (3, iv q.2), (4, iv q.1)]) (fun _ => L) (fun q => q.1 ≤ xs.length ∧ isum (xs.take q.1) = q.2 ∧ ∀ x ∈ xs.take q.1, 0 ≤ x ∧ x ≤ 1000) (fun q => xs.length - q.1) (0, 0) (by repeat (first | exact trivial | refine ⟨rfl, ?_⟩)) (List.Sublist.refl _) ⟨by simp, by simp [isum], by simp⟩ ?_
  rintro ⟨i, s⟩ ⟨hi, hs, hx⟩
  simp only at hi hs hx ⊢
  have hlen : ¬ (xs.length < 1 ∨ 7 < xs.length) := by omega
  have hb := isum_le _ hx
  rw [hs, List.length_take] at hb
  by_cases hlt : i < xs.length
  · obtain ⟨b, ia, l, E, fr, rfl, hb', hg'⟩ := hR.at1 (j := (i : Int)) (by omega) (by omega)
    have hbad : badW xs[i] = true → xs.any badW = true := fun h => List.any_eq_true.2 ⟨_, List.getElem_mem hlt, h⟩
    have hsn : isum (xs.take (i + 1)) = s + xs[i] := by rw [List.take_succ_eq_append_getElem hlt, isum_snoc, hs]
    have he : xs[(i : Int).toNat]'(by omega) = xs[i] := rfl
    rw [he] at hg'
    generalize hxi : xs[i] = x at *
    repeat' (first | (show HW _ _ _ _ _ _; first | apply hw_seq | apply hw_region | apply hw_block | apply hw_exit | refine g_t ?_ | refine g_f ?_ | apply hw_skip | apply hw_ret) | (show HO _ _ _ _ _ _ _; first | apply ho_nil | refine g_q (qe S) ?_ | refine g_q (ql S) ?_ | refine g_n ?_ | refine g_on ?_) | ((first | refine g_b (fun h => ?_) (fun h => ?_) | refine g_s (fun h => ?_) (fun h => ?_)) <;> ((try simp only [zA, zB, zC, zD, zE, zF, ne_eq, zG, zH, and_true, true_and, eq_self, zI, zJ, zK, reduceCtorEq, zL, zM] at h); (try (exfalso; first | omega | with_reducible exact h (by assumption) | with_reducible exact absurd h (by assumption))))) | apply seqQ_normal | apply seqQ_ret | apply seqQ_exit | apply blkQ_here | refine g_bx ?_ | apply blkQ_ret | apply blkQ_normal | apply loopQ_ret | apply loopQ_exit | apply unQ_ret | apply unQ_exit | apply unQ_succ)
    · exact sp1 (LS.refl _) ⟨by unfold checkW; rw [if_neg hlen, if_pos (hbad (by simp [badW]; omega))], rfl⟩
    · exact sp1 (LS.refl _) ⟨by unfold checkW; rw [if_neg hlen, if_pos (hbad (by simp [badW]; omega))], rfl⟩
    · refine loopQ_normal (i + 1, s + x) (by repeat (first | exact trivial | refine ⟨rfl, ?_⟩)) (List.Sublist.refl _) ⟨by simp only; omega, hsn, ?_⟩ (by simp only; omega)
      simp only
      rw [List.take_succ_eq_append_getElem hlt, hxi]
      intro y hy
      simp only [List.mem_append, List.mem_singleton] at hy
      rcases hy with hy | rfl
      · exact hx y hy
      · omega
  · have e : xs.take i = xs := List.take_of_length_le (by omega)
    rw [e] at hs hx
    have hne : xs ≠ [] := fun e => hlen (by simp [e])
    have hz := mx_zero hne (fun x h => (hx x h).1)
    rw [hs] at hz
    have hnb : ¬ xs.any badW = true := by
      simp only [Bool.not_eq_true, List.any_eq_false, badW, decide_eq_true_eq]
      intro x h
      have := hx x h
      omega
    repeat' (first | (show HW _ _ _ _ _ _; first | apply hw_seq | apply hw_region | apply hw_block | apply hw_exit | refine g_t ?_ | refine g_f ?_ | apply hw_skip | apply hw_ret) | (show HO _ _ _ _ _ _ _; first | apply ho_nil | refine g_q (qe S) ?_ | refine g_q (ql S) ?_ | refine g_n ?_ | refine g_on ?_) | ((first | refine g_b (fun h => ?_) (fun h => ?_) | refine g_s (fun h => ?_) (fun h => ?_)) <;> ((try simp only [zA, zB, zC, zD, zE, zF, ne_eq, zG, zH, and_true, true_and, eq_self, zI, zJ, zK, reduceCtorEq, zL, zM] at h); (try (exfalso; first | omega | with_reducible exact h (by assumption) | with_reducible exact absurd h (by assumption))))) | apply seqQ_normal | apply seqQ_ret | apply seqQ_exit | apply blkQ_here | refine g_bx ?_ | apply blkQ_ret | apply blkQ_normal | apply loopQ_ret | apply loopQ_exit | apply unQ_ret | apply unQ_exit | apply unQ_succ)
    · exact sp1 (LS.refl _) ⟨by unfold checkW; rw [if_neg hlen, if_neg hnb, if_pos (hz.2 h)], rfl⟩
    · exact sp1 (LS.refl _) ⟨by unfold checkW; rw [if_neg hlen, if_neg hnb, if_neg (fun e => h (hz.1 e))], rfl⟩
end Go.HL
end

/-! RfA -/
section
namespace Go.HL
open Go Go.Proofs
set_option linter.unusedVariables false
set_option linter.unusedSimpArgs false
attribute [local irreducible] HW HO HQ HD HC QOp Has Upd Puts Gets seqQ blkQ loopQ fnQ actQ nextP unQ MapF
theorem take_eq_succ {α : Type} {xs ys : List α} {i : Nat} (h : i < xs.length) (h' : i < ys.length) : xs.take (i + 1) = ys.take (i + 1) ↔ xs.take i = ys.take i ∧ xs[i] = ys[i] := by
  rw [List.take_succ_eq_append_getElem h, List.take_succ_eq_append_getElem h']
  constructor
  · intro e
    obtain ⟨e1, e2⟩ := List.append_inj e (by simp; omega)
    exact ⟨e1, by simpa using e2⟩
  · rintro ⟨e1, e2⟩
    rw [e1, e2]
theorem sameInts_calls (a a2 : Option Addr) (cap cap2 : Nat) (xs ys : List Int) (L : Heap) (hR : Rd ic 1 L a xs) (hR2 : Rd ic 1 L a2 ys) (hl : xs.length ≤ 1000000) :
    HC Tryz.prog 43 [.slice a xs.length cap, .slice a2 ys.length cap2] L (fun v L' => v = .bool (decide (xs = ys)) ∧ L' = L) := by
  refine hc_enter (fun _ _ => Tryz.call43 _ _) Tryz.func43 rfl Tryz.ntmps43 (Nat.le_of_ble_eq_true rfl) ?_; simp only [args0, Nat.reduceAdd]
  repeat' (first | (show HW _ _ _ _ _ _; first | apply hw_seq | apply hw_region | apply hw_block | apply hw_exit | refine g_t ?_ | refine g_f ?_ | apply hw_skip | apply hw_ret | refine g_k S ?_) | (show HO _ _ _ _ _ _ _; first | apply ho_nil | refine g_q (qe S) ?_ | refine g_q (ql S) ?_) | (show HQ _ _ _ _ _ _ _; first | apply hq_nil | refine k_q (qe S) ?_ | refine k_q (ql S) ?_) | ((first | refine g_b (fun h => ?_) (fun h => ?_)) <;> ((try simp only [zA, zB, zC, zD, zE, zF, ne_eq, zG, zH, and_true, true_and, eq_self, zI, zJ, zK, reduceCtorEq, zL, zM] at h); (try (exfalso; first | omega | with_reducible exact h (by assumption) | with_reducible exact absurd h (by assumption))))) | apply seqQ_normal | apply seqQ_ret | apply seqQ_exit | apply blkQ_here | refine g_bx ?_ | apply blkQ_ret | apply blkQ_normal | apply loopQ_ret | apply loopQ_exit | apply unQ_ret | apply unQ_exit | apply unQ_succ)
  · exact sp1 (LS.refl _) ⟨by rw [decide_eq_false]; intro e; subst e; exact absurd rfl ‹_›, rfl⟩
  refine hw_loop (σ := Nat) (fun i => [(0, .slice a xs.length cap), (1, .slice a2 ys.length cap2), (5, iv i)]) (fun _ => L) (fun i => i ≤ xs.length ∧ xs.take i = ys.take i) (fun i => xs.length - i) 0 (by repeat (first | exact trivial | refine ⟨rfl, ?_⟩)) (List.Sublist.refl _) ⟨by omega, by simp⟩ ?_
  rintro i ⟨h1, h2⟩
  by_cases hlt : i < xs.length
  · obtain ⟨b, ia, l, E, fr, rfl, hb, hg⟩ := hR.at1 (j := (i : Int)) (by omega) (by omega)
    obtain ⟨b2, ia2, l2, E2, fr2, rfl, hb2, hg2⟩ := hR2.at1 (j := (i : Int)) (by omega) (by omega)
    repeat' (first | (show HW _ _ _ _ _ _; first | apply hw_seq | apply hw_region | apply hw_block | apply hw_exit | refine g_t ?_ | refine g_f ?_ | apply hw_skip | apply hw_ret | refine g_k S ?_) | (show HO _ _ _ _ _ _ _; first | apply ho_nil | refine g_q (qe S) ?_ | refine g_q (ql S) ?_) | (show HQ _ _ _ _ _ _ _; first | apply hq_nil | refine k_q (qe S) ?_ | refine k_q (ql S) ?_) | ((first | refine g_b (fun h => ?_) (fun h => ?_)) <;> ((try simp only [zA, zB, zC, zD, zE, zF, ne_eq, zG, zH, and_true, true_and, eq_self, zI, zJ, zK, reduceCtorEq, zL, zM] at h); (try (exfalso; first | omega | with_reducible exact h (by assumption) | with_reducible exact absurd h (by assumption))))) | apply seqQ_normal | apply seqQ_ret | apply seqQ_exit | apply blkQ_here | refine g_bx ?_ | apply blkQ_ret | apply blkQ_normal | apply loopQ_ret | apply loopQ_exit | apply unQ_ret | apply unQ_exit | apply unQ_succ)
    · refine sp1 (LS.refl _) ⟨?_, rfl⟩
      rw [decide_eq_false]
      intro e
      subst e
      exact h rfl
    · refine loopQ_normal (i + 1) (by repeat (first | exact trivial | refine ⟨rfl, ?_⟩)) (List.Sublist.refl _) ⟨by omega, ?_⟩ (by omega)
      rw [take_eq_succ hlt (by omega)]
      exact ⟨h2, by simpa using h⟩
  · repeat' (first | (show HW _ _ _ _ _ _; first | apply hw_seq | apply hw_region | apply hw_block | apply hw_exit | refine g_t ?_ | refine g_f ?_ | apply hw_skip | apply hw_ret | refine g_k S ?_) | (show HO _ _ _ _ _ _ _; first | apply ho_nil | refine g_q (qe S) ?_ | refine g_q (ql S) ?_) | (show HQ _ _ _ _ _ _ _; first | apply hq_nil | refine k_q (qe S) ?_ | refine k_q (ql S) ?_) | ((first | refine g_b (fun h => ?_) (fun h => ?_)) <;> ((try simp only [zA, zB, zC, zD, zE, zF, ne_eq, zG, zH, and_true, true_and, eq_self, zI, zJ, zK, reduceCtorEq, zL, zM] at h); (try (exfalso; first | omega | with_reducible exact h (by assumption) | with_reducible exact absurd h (by assumption))))) | apply seqQ_normal | apply seqQ_ret | apply seqQ_exit | apply blkQ_here | refine g_bx ?_ | apply blkQ_ret | apply blkQ_normal | apply loopQ_ret | apply loopQ_exit | apply unQ_ret | apply unQ_exit | apply unQ_succ)
    refine sp1 (LS.refl _) ⟨?_, rfl⟩
    rw [decide_eq_true]
    have e1 : xs.take i = xs := List.take_of_length_le (by omega)
    have e2 : ys.take i = ys := List.take_of_length_le (by omega)
    rw [← e1, h2, e2]
end Go.HL
end

/-! RfF -/
section
namespace Go.HL
open Go Go.Proofs
set_option linter.unusedVariables false
set_option linter.unusedSimpArgs false
theorem Fr.ext9 {a b : Fr} (h : a.fr = b.fr ∧ a.to = b.to ∧ a.dl = b.dl ∧ a.kd = b.kd ∧ a.att = b.att ∧ a.yes = b.yes ∧ a.s.ph = b.s.ph ∧ a.s.pr = b.s.pr ∧ a.s.att = b.s.att) : a = b := by
  obtain ⟨_, _, _, _, _, _, _, _, _⟩ := a
  obtain ⟨_, _, _, _, _, _, _, _, _⟩ := b
  simp only at h
  obtain ⟨rfl, rfl, rfl, rfl, rfl, rfl, rfl, rfl, rfl⟩ := h
  rfl
attribute [local irreducible] HW HO HQ HD HC QOp Has Upd Puts Gets seqQ blkQ loopQ fnQ actQ nextP unQ MapF
theorem sameFrames_calls (a a2 : Option Addr) (cap cap2 : Nat) (xs ys : List Fr) (L : Heap) (hR : Rd fc 9 L a xs) (hR2 : Rd fc 9 L a2 ys) (hl : xs.length ≤ 100000000) :
    HC Tryz.prog 44 [.slice a xs.length cap, .slice a2 ys.length cap2] L (fun v L' => v = .bool (decide (xs = ys)) ∧ L' = L) := by
  refine hc_enter (fun _ _ => Tryz.call44 _ _) Tryz.func44 rfl Tryz.ntmps44 (Nat.le_of_ble_eq_true rfl) ?_; simp only [args0, Nat.reduceAdd]
  repeat' (first | (show HW _ _ _ _ _ _; first | apply hw_seq | apply hw_region | apply hw_block | apply hw_exit | refine g_t ?_ | refine g_f ?_ | apply hw_skip | apply hw_ret | refine g_k S ?_) | (show HO _ _ _ _ _ _ _; first | apply ho_nil | refine g_q (qe S) ?_ | refine g_q (qs S) ?_ | refine g_q (qB S) ?_) | (show HQ _ _ _ _ _ _ _; first | apply hq_nil | refine k_q (qe S) ?_ | refine k_q (qs S) ?_ | refine k_q (qB S) ?_) | ((first | refine g_b (fun h => ?_) (fun h => ?_)) <;> ((try simp only [zA, zB, zC, zD, zE, zF, ne_eq, zG, zH, and_true, true_and, eq_self, zI, zJ, zK, reduceCtorEq, zL, zM] at h); (try (exfalso; first | omega | with_reducible exact h (by assumption) | with_reducible exact absurd h (by assumption))))) | apply seqQ_normal | apply seqQ_ret | apply seqQ_exit | apply blkQ_here | refine g_bx ?_ | apply blkQ_ret | apply blkQ_normal | apply loopQ_ret | apply loopQ_exit | apply unQ_ret | apply unQ_exit | apply unQ_succ)
  · exact sp1 (LS.refl _) ⟨by rw [decide_eq_false]; intro e; subst e; exact absurd rfl ‹_›, rfl⟩
  refine hw_loop (σ := Nat) (fun i => [(0, .slice a xs.length cap), (1, .slice a2 ys.length cap2), (5, iv i)]) (fun _ => L) (fun i => i ≤ xs.length ∧ xs.take i = ys.take i) (fun i => xs.length - i) 0 (by repeat (first | exact trivial | refine ⟨rfl, ?_⟩)) (List.Sublist.refl _) ⟨by omega, by simp⟩ ?_
  rintro i ⟨h1, h2⟩
  by_cases hlt : i < xs.length
  · obtain ⟨b, ia, l, E, fr, rfl, hb, hg⟩ := hR.at (j := (i : Int)) (by omega) (by omega)
    obtain ⟨b2, ia2, l2, E2, fr2, rfl, hb2, hg2⟩ := hR2.at (j := (i : Int)) (by omega) (by omega)
    have ex : xs[(i : Int).toNat]'(by omega) = xs[i] := rfl
    have ey : ys[(i : Int).toNat]'(by omega) = ys[i]'(by omega) := rfl
    rw [ex] at hg
    rw [ey] at hg2
    have hst := take_eq_succ (xs := xs) (ys := ys) hlt (by omega)
    have hne : xs[i] ≠ ys[i]'(by omega) → xs ≠ ys := fun h e => h (by subst e; rfl)
    generalize xs[i] = x at *
    generalize ys[i]'(by omega) = y at *
    repeat' (first | (show HW _ _ _ _ _ _; first | apply hw_seq | apply hw_region | apply hw_block | apply hw_exit | refine g_t ?_ | refine g_f ?_ | apply hw_skip | apply hw_ret | refine g_k S ?_) | (show HO _ _ _ _ _ _ _; first | apply ho_nil | refine g_q (qe S) ?_ | refine g_q (qs S) ?_ | refine g_q (qB S) ?_) | (show HQ _ _ _ _ _ _ _; first | apply hq_nil | refine k_q (qe S) ?_ | refine k_q (qs S) ?_ | refine k_q (qB S) ?_) | ((first | refine g_b (fun h => ?_) (fun h => ?_)) <;> ((try simp only [zA, zB, zC, zD, zE, zF, ne_eq, zG, zH, and_true, true_and, eq_self, zI, zJ, zK, reduceCtorEq, zL, zM] at h); (try (exfalso; first | omega | with_reducible exact h (by assumption) | with_reducible exact absurd h (by assumption))))) | apply seqQ_normal | apply seqQ_ret | apply seqQ_exit | apply blkQ_here | refine g_bx ?_ | apply blkQ_ret | apply blkQ_normal | apply loopQ_ret | apply loopQ_exit | apply unQ_ret | apply unQ_exit | apply unQ_succ)
    · refine sp1 (LS.refl _) ⟨?_, rfl⟩
      rw [decide_eq_false (hne (fun e => by subst e; simp at h))]
    · have e : x = y := Fr.ext9 (by simpa using h)
      exact loopQ_normal (i + 1) (by repeat (first | exact trivial | refine ⟨rfl, ?_⟩)) (List.Sublist.refl _) ⟨by omega, hst.2 ⟨h2, e⟩⟩ (by omega)
  · repeat' (first | (show HW _ _ _ _ _ _; first | apply hw_seq | apply hw_region | apply hw_block | apply hw_exit | refine g_t ?_ | refine g_f ?_ | apply hw_skip | apply hw_ret | refine g_k S ?_) | (show HO _ _ _ _ _ _ _; first | apply ho_nil | refine g_q (qe S) ?_ | refine g_q (qs S) ?_ | refine g_q (qB S) ?_) | (show HQ _ _ _ _ _ _ _; first | apply hq_nil | refine k_q (qe S) ?_ | refine k_q (qs S) ?_ | refine k_q (qB S) ?_) | ((first | refine g_b (fun h => ?_) (fun h => ?_)) <;> ((try simp only [zA, zB, zC, zD, zE, zF, ne_eq, zG, zH, and_true, true_and, eq_self, zI, zJ, zK, reduceCtorEq, zL, zM] at h); (try (exfalso; first | omega | with_reducible exact h (by assumption) | with_reducible exact absurd h (by assumption))))) | apply seqQ_normal | apply seqQ_ret | apply seqQ_exit | apply blkQ_here | refine g_bx ?_ | apply blkQ_ret | apply blkQ_normal | apply loopQ_ret | apply loopQ_exit | apply unQ_ret | apply unQ_exit | apply unQ_succ)
    refine sp1 (LS.refl _) ⟨?_, rfl⟩
    rw [decide_eq_true]
    have e1 : xs.take i = xs := List.take_of_length_le (by omega)
    have e2 : ys.take i = ys := List.take_of_length_le (by omega)
    rw [← e1, h2, e2]
end Go.HL
end

/-! LdE -/
section
namespace Go.HL
open Go Go.Proofs
set_option linter.unusedVariables false
set_option linter.unusedSimpArgs false
attribute [local irreducible] HW HO HQ HD HC QOp Has Upd Puts Gets seqQ blkQ loopQ fnQ actQ nextP unQ MapF
structure LdIs (ws : List Int) (id deal att : Int) (m : Ld) : Prop where
  hid : m.id = id
  hdl : m.deal = deal
  hat : m.att = att
  hw : m.w = ws
  htl : m.told.length = 7
  hhd : m.heard < 2 ^ ws.length
theorem LdIs.ok {w : List Int} {id deal att : Int} {m m' : Ld} {wv : Value} {wc : List Blk} (h : LdIs w id deal att m) (h' : LdIs w id deal att m') (ho : LdOk wv wc m) : LdOk wv wc m' := ho.of (by rw [h.hw, h'.hw]) (by rw [h.htl, h'.htl])
theorem LdIs.done {w : List Int} {id deal att : Int} {m : Ld} (h : LdIs w id deal att m) : LdIs w id deal att (doneM m) := ⟨h.hid, h.hdl, h.hat, h.hw, h.htl, h.hhd⟩
theorem LdIs.prep {w : List Int} {id deal att : Int} {m : Ld} (h : LdIs w id deal att m) (p : Int) : LdIs w id deal att (prepM m p) := ⟨h.hid, h.hdl, h.hat, h.hw, h.htl, Nat.two_pow_pos _⟩
theorem LdIs.m1 {w : List Int} {id deal att : Int} {m : Ld} (h : LdIs w id deal att m) (f : Fr) : LdIs w id deal att (m1M m f) := by
  unfold m1M; split
  · exact h
  · exact ⟨h.hid, h.hdl, h.hat, h.hw, h.htl, h.hhd⟩
theorem LdIs.m2 {w : List Int} {id deal att : Int} {m : Ld} (h : LdIs w id deal att m) (f : Fr) (hf : fitsM m f) : LdIs w id deal att (m2M m f) := by
  have h1 := h.m1 f
  refine ⟨h1.hid, h1.hdl, h1.hat, h1.hw, ?_, ?_⟩
  · simp [m2M, h.htl]
  · have := hf.2.2.2.2.2.1
    have := hf.2.2.2.2.1
    rw [h.hw] at *
    exact heard_lt h.hhd (by omega)
theorem LdIs.count {w : List Int} {id deal att : Int} {m : Ld} (h : LdIs w id deal att m) : LdIs w id deal att (countM m).1 := by
  unfold countM
  split
  · exact h.prep _
  split
  · exact h
  split
  · exact h.done
  split
  · exact h.done
  · exact h.prep _
theorem LdIs.hear {w : List Int} {id deal att : Int} {m : Ld} (h : LdIs w id deal att m) (f : Fr) : LdIs w id deal att (hearM m f).1 := by
  unfold hearM
  split
  · exact h
  rename_i hw
  have hf : fitsM m f := by
    by_cases hf : fitsM m f
    · exact hf
    · exact absurd (.inr hf) hw
  split
  · unfold noM
    have h1 := h.m1 f
    split
    · exact h1.done
    · exact ⟨h1.hid, h1.hdl, h1.hat, h1.hw, h1.htl, h1.hhd⟩
  · exact (h.m2 f hf).count
theorem allM_len (m : Ld) (k p : Int) : (allM m k p).length ≤ m.w.length := flat_len_le (allF m k p) (allF_le m k p) m.w.length
theorem hear_len (m : Ld) (f : Fr) : (hearM m f).2.length ≤ m.w.length := by
  have e1 : (m1M m f).w = m.w := by unfold m1M; split <;> rfl
  have e2 : (m2M m f).w = m.w := e1
  unfold hearM
  split
  · simp
  split
  · unfold noM
    split
    · have := allM_len (doneM (m1M m f)) 7 3
      rw [show (doneM (m1M m f)).w = m.w from e1] at this
      exact this
    · simp
  · unfold countM
    have hp : ∀ p, (preM (m2M m f) p).2.length ≤ m.w.length := fun p => by
      have := allM_len (prepM (m2M m f) p) 5 p
      rw [show (prepM (m2M m f) p).w = m.w from e1] at this
      exact this
    have hd : ∀ p, (decdM (m2M m f) p).2.length ≤ m.w.length := fun p => by
      have := allM_len (doneM (m2M m f)) 7 p
      rw [show (doneM (m2M m f)).w = m.w from e1] at this
      exact this
    split
    · exact hp _
    split
    · simp
    split
    · exact hd _
    split
    · exact hd _
    · exact hp _
end Go.HL
end

/-! WoI -/
section
namespace Go.HL
open Go Go.Proofs
set_option linter.unusedVariables false
set_option linter.unusedSimpArgs false
/-- a frame that a world sends -/
def okF (n : Nat) (f : Fr) : Prop := ¬ badF f ∧ f.to < n ∧ f.fr < n
theorem SI.eq {m : Pl} {j : Jn} (h : SI m j) : j = ⟨openM m.b, m.off⟩ := by
  obtain ⟨l, d⟩ := j
  have h1 : d = m.off := h.ji.off
  have h2 : l = openM m.b := h.ji.l
  rw [h1, h2]
theorem allM_mem {m : Ld} {k p : Int} {f : Fr} (h : f ∈ allM m k p) : ∃ i, i < m.w.length ∧ f = ⟨m.id, i, m.deal, k, m.att, false, ⟨p, 0, 0⟩⟩ ∧ (k ≠ 3 ∨ (i : Int) ≠ m.id) := by
  unfold allM at h
  obtain ⟨i, hi, hf⟩ := List.mem_flatMap.1 h
  unfold allF at hf
  split at hf
  · rename_i hc
    simp at hf
    exact ⟨i, List.mem_range.1 hi, hf, hc⟩
  · cases hf
theorem allM_ok {w : List Int} {s d : Nat} {m : Ld} (hi : LdI w s d m) (hs : s < w.length) (hw : w.length ≤ 7) (hd : d < 6) {k p : Int} (hk : 1 ≤ k ∧ k ≤ 7) (hp : 0 ≤ p ∧ p ≤ 5) : ∀ f ∈ allM m k p, okF w.length f := by
  intro f hf
  obtain ⟨i, h1, rfl, -⟩ := allM_mem hf
  rw [hi.ww] at h1
  have e1 := hi.id
  have e2 := hi.deal
  have e3 := hi.att0
  have e4 := hi.att1
  unfold okF badF
  simp only
  omega
theorem LdI.is {w : List Int} {s d : Nat} {x : Ld} (h : LdI w s d x) : LdIs w s d x.att x := ⟨h.id, h.deal, rfl, h.ww, h.told, h.heard⟩
theorem LdI.of {w : List Int} {s d : Nat} {x y : Ld} (h : LdI w s d x) (hy : LdIs w s d x.att y) (ht : ∀ t ∈ y.told, 0 ≤ t.ph ∧ t.ph ≤ 5) (hp : 0 ≤ y.phase ∧ y.phase ≤ 5) (hs : 0 ≤ y.seen ∧ y.seen ≤ 1048576) : LdI w s d y :=
  ⟨hy.hw, hy.hid, hy.hdl, by rw [hy.hat]; exact h.att0, by rw [hy.hat]; exact h.att1, hy.htl, ht, hy.hhd, hp.1, hp.2, hs.1, hs.2⟩
theorem LdI.done {w : List Int} {s d : Nat} {x : Ld} (h : LdI w s d x) : LdI w s d (doneM x) := h.of h.is.done h.tok ⟨h.ph0, h.ph1⟩ ⟨h.seen0, h.seen1⟩
theorem LdI.prep {w : List Int} {s d : Nat} {x : Ld} (h : LdI w s d x) {p : Int} (hp : 0 ≤ p ∧ p ≤ 5) : LdI w s d (prepM x p) := h.of (h.is.prep p) h.tok hp ⟨h.seen0, h.seen1⟩
theorem LdI.m1 {w : List Int} {s d : Nat} {x : Ld} (h : LdI w s d x) {f : Fr} (hf : ¬ badF f) : LdI w s d (m1M x f) := by
  refine h.of (h.is.m1 f) ?_ ?_ ?_
  · unfold m1M; split <;> exact h.tok
  · unfold m1M; split <;> exact ⟨h.ph0, h.ph1⟩
  · have h1 := h.seen0
    have h2 := h.seen1
    unfold badF at hf
    unfold m1M
    split
    · exact ⟨h1, h2⟩
    · simp only
      omega
theorem LdI.m2 {w : List Int} {s d : Nat} {x : Ld} (h : LdI w s d x) {f : Fr} (hf : ¬ badF f) (hfit : fitsM x f) : LdI w s d (m2M x f) := by
  have h1 := h.m1 hf
  refine h.of (h.is.m2 f hfit) ?_ ⟨h1.ph0, h1.ph1⟩ ⟨h1.seen0, h1.seen1⟩
  intro t ht
  unfold m2M at ht
  rcases List.mem_or_eq_of_mem_set ht with h2 | h2
  · exact h.tok t h2
  · subst h2
    unfold badF at hf
    omega
theorem afterS_ok (p : Int) : 0 ≤ afterS p ∧ afterS p ≤ 5 := by unfold afterS; split <;> (try split) <;> omega
theorem chooseS_ok (xs : List St) : 0 ≤ (chooseS xs).1 ∧ (chooseS xs).1 ≤ 5 := by
  unfold chooseS
  split
  · simp
  split
  · simp
  split <;> simp
theorem LdI.count {w : List Int} {s d : Nat} {x : Ld} (h : LdI w s d x) (hs : s < w.length) (hw : w.length ≤ 7) (hd : d < 6) : LdI w s d (countM x).1 ∧ ∀ f ∈ (countM x).2, okF w.length f := by
  have hpre : ∀ p, 0 ≤ p ∧ p ≤ 5 → LdI w s d (preM x p).1 ∧ ∀ f ∈ (preM x p).2, okF w.length f := fun p hp => ⟨h.prep hp, allM_ok (h.prep hp) hs hw hd (by omega) hp⟩
  have hdec : ∀ p, 0 ≤ p ∧ p ≤ 5 → LdI w s d (decdM x p).1 ∧ ∀ f ∈ (decdM x p).2, okF w.length f := fun p hp => ⟨h.done, allM_ok h.done hs hw hd (by omega) hp⟩
  unfold countM
  split
  · exact hpre 4 (by omega)
  split
  · exact ⟨h, fun f hf => by cases hf⟩
  split
  · exact hdec _ (afterS_ok _)
  split
  · exact hdec _ (chooseS_ok _)
  · exact hpre _ (chooseS_ok _)
theorem LdI.hear {w : List Int} {s d : Nat} {x : Ld} (h : LdI w s d x) (hs : s < w.length) (hw : w.length ≤ 7) (hd : d < 6) {f : Fr} (hf : ¬ badF f) : LdI w s d (hearM x f).1 ∧ ∀ g ∈ (hearM x f).2, okF w.length g := by
  unfold hearM
  split
  · exact ⟨h, fun g hg => by cases hg⟩
  rename_i hwt
  have hfit : fitsM x f := by
    by_cases hfit : fitsM x f
    · exact hfit
    · exact absurd (.inr hfit) hwt
  split
  · unfold noM
    have h1 := h.m1 hf
    split
    · exact ⟨h1.done, allM_ok h1.done hs hw hd (by omega) (by omega)⟩
    · exact ⟨⟨h1.ww, h1.id, h1.deal, h1.att0, h1.att1, h1.told, h1.tok, h1.heard, h1.ph0, h1.ph1, h1.seen0, h1.seen1⟩, fun g hg => by cases hg⟩
  · exact (h.m2 hf hfit).count hs hw hd
theorem newLd_I {w : List Int} {s d : Nat} {a k : Int} (h0 : 0 ≤ a) (h1 : a ≤ 1048576) : LdI w s d (newLd s d w a k) :=
  ⟨rfl, rfl, rfl, h0, h1, rfl, fun t ht => by
    rw [List.mem_replicate.1 ht |>.2]
    simp [zeroS], Nat.two_pow_pos _, by simp [newLd], by simp [newLd], by simp [newLd], by simp [newLd]⟩
theorem startM_ok {w : List Int} {s d : Nat} {m : Ld} (hi : LdI w s d m) (hs : s < w.length) (hw : w.length ≤ 7) (hd : d < 6) : ∀ f ∈ startM m, okF w.length f := by
  unfold startM
  split
  · exact allM_ok hi hs hw hd (by omega) (by omega)
  · exact allM_ok hi hs hw hd (by omega) (by omega)
/-- a node changed in a world -/
theorem WI.set {M : Wm} (h : WI M) {s : Int} {m : Nd} (h0 : 0 ≤ s) (hm : NdI M.w s.toNat m) : WI (setN M s m) := by
  refine ⟨h.w0, h.wl, h.w1, by simp [setN, h.wn], h.fr, h.evl, fun q x hx => ?_⟩
  simp only [setN, List.getElem?_set] at hx
  by_cases hq : s.toNat = q
  · rw [if_pos hq] at hx
    split at hx
    · cases hx
      rw [← hq]
      exact hm
    · cases hx
  · rw [if_neg hq] at hx
    exact h.nd q x hx
theorem WI.setL {M : Wm} (h : WI M) {l : List Fr} (hl : ∀ f ∈ l, okF M.w.length f) : WI { M with l := l } := ⟨h.w0, h.wl, h.w1, h.wn, hl, h.evl, h.nd⟩
theorem WI.setE {M : Wm} (h : WI M) {l : List Evt} (hl : l.length ≤ 500) : WI { M with ev := l } := ⟨h.w0, h.wl, h.w1, h.wn, h.fr, hl, h.nd⟩
theorem WI.setB {M : Wm} (h : WI M) (f : Int × Int → Bool) : WI { M with br := f } := ⟨h.w0, h.wl, h.w1, h.wn, h.fr, h.evl, h.nd⟩
theorem WI.erase {M : Wm} (h : WI M) (k : Nat) : WI { M with l := M.l.eraseIdx k } := h.setL fun f hf => h.fr f (List.mem_of_mem_eraseIdx hf)
theorem noteN_len (s : Int) (m : Nd) (ev : List Evt) : (noteN s m ev).1.length = m.done.length := by
  unfold noteN
  split
  · rfl
  · exact noteR_len 6
theorem noteN_ev (s : Int) (m : Nd) (ev : List Evt) (h : ev.length ≤ 500) : (noteN s m ev).2.length ≤ 500 := by
  unfold noteN
  split
  · exact h
  · exact noteR_ev h 6
theorem NdI.fall {w : List Int} {s : Nat} {m : Nd} (h : NdI w s m) {pl : Pl} (hb : pl.b.length = 512) (hsi : SI pl ⟨openM pl.b, pl.off⟩) (hoff : pl.off = true) : NdI w s ⟨pl, none, noLeads, m.done⟩ :=
  ⟨by simp [noLeads], h.done, hb, hsi, fun j ref hs => (by cases hs), fun _ => hoff, fun d x hx => (by
    simp only [noLeads, List.getElem?_replicate] at hx
    split at hx <;> cases hx)⟩
theorem NdI.lead {w : List Int} {s : Nat} {m : Nd} (h : NdI w s m) {d : Nat} {x : Ld} (hx : LdI w s d x) : NdI w s { m with leads := m.leads.set d (some x) } := by
  refine ⟨by simp [h.leads], h.done, h.b512, h.si, h.up, h.dn, fun q y hy => ?_⟩
  simp only [List.getElem?_set] at hy
  by_cases hq : d = q
  · rw [if_pos hq] at hy
    split at hy
    · cases hy
      rw [← hq]
      exact hx
    · cases hy
  · rw [if_neg hq] at hy
    exact h.ldi q y hy
theorem ok_answer {n : Nat} {s : Nat} {f : Fr} {ref : Int → Bool} {st : St} (hs : s < n) (hn : n ≤ 7) (hf : ¬ badF f) (hfr : f.fr < n) (hst : stOk st) (hk : (turnM ref f st).2.1 ≠ 0) : okF n ⟨s, f.fr, f.dl, (turnM ref f st).2.1, f.att, (turnM ref f st).2.2, (turnM ref f st).1⟩ := by
  obtain ⟨⟨g1, g2, g3, g4, g5⟩, -⟩ := turn_ok (ref := ref) hst hf
  have hk7 : (turnM ref f st).2.1 = 0 ∨ (turnM ref f st).2.1 = 2 ∨ (turnM ref f st).2.1 = 4 ∨ (turnM ref f st).2.1 = 6 := by
    unfold turnM
    split
    · simp
    split
    · simp
    split
    · split
      · simp
      · split <;> simp
    split <;> simp
  unfold okF badF at *
  simp only
  omega
/-- what a site hears -/
theorem NdI.hear {w : List Int} {s : Nat} {m : Nd} (h : NdI w s m) (hs : s < w.length) (hw : w.length ≤ 7) (ev : List Evt) (hev : ev.length ≤ 500) {f : Fr} (hfr : f.fr < w.length) :
    NdI w s (hearNd s m ev f).1 ∧ (hearNd s m ev f).2.1.length ≤ 500 ∧ ∀ g ∈ (hearNd s m ev f).2.2.1, okF w.length g := by
  unfold hearNd
  cases hsi : m.site with
  | none => exact ⟨h, hev, fun g hg => by cases hg⟩
  | some q =>
    obtain ⟨j, ref⟩ := q
    simp only
    have hS := h.jn hsi
    obtain ⟨a1, a2, a3, a4⟩ := site_any (id := (s : Int)) (ref := ref) hS f
    generalize hr : siteM s ref m.pl j f = r at *
    obtain ⟨pl', j', fs, er⟩ := r
    simp only at a1 a2 a3 a4 ⊢
    have hj' := a1.eq
    have hb : pl'.b.length = 512 := by rw [a2]; exact h.b512
    split
    · rename_i hoff
      exact ⟨h.fall hb (hj' ▸ a1) hoff, hev, fun g hg => by cases hg⟩
    · rename_i hoff
      have hoff' : pl'.off = false := by simpa using hoff
      refine ⟨⟨h.leads, by rw [noteN_len]; exact h.done, hb, hj' ▸ a1, fun j2 r2 e => ?_, fun e => (by cases e), h.ldi⟩, noteN_ev _ _ _ hev, ?_⟩
      · cases e
        rw [hj']
        exact ⟨by rw [hoff'], hoff'⟩
      · intro g hg
        rcases a4 with a4 | ⟨b1, b2, b3, b4, b5, b6, b7⟩
        · rw [a4] at hg; cases hg
        · rw [b7] at hg
          simp only [List.mem_singleton] at hg
          subst hg
          unfold badF at b1
          exact ok_answer hs hw (by unfold badF; exact b1) hfr (hS.st f.dl.toNat (by omega)) b4
theorem WI.hear {M : Wm} (h : WI M) {s : Int} (h0 : 0 ≤ s) (h1 : s < M.n.length) {f : Fr} (hfr : f.fr < M.w.length) : WI (hearW M s f).1 ∧ ∀ g ∈ (hearW M s f).2.1, okF M.w.length g := by
  have hn := h.wn
  have hx := h.nd s.toNat (ndAt M s) (getD_some (by omega))
  have e : ((s.toNat : Nat) : Int) = s := by omega
  have key := hx.hear (by omega) h.wl M.ev h.evl hfr
  rw [e] at key
  obtain ⟨k1, k2, k3⟩ := key
  exact ⟨(h.set h0 k1).setE k2, k3⟩
theorem hearsM_ok {w : List Int} {s d : Nat} (hs : s < w.length) (hw : w.length ≤ 7) (hd : d < 6) : ∀ (l : List Fr) (x : Ld) (acc : List Fr), LdI w s d x → (∀ f ∈ l, okF w.length f) → (∀ f ∈ acc, okF w.length f) →
    LdI w s d (l.foldl (fun q f => ((hearM q.1 f).1, q.2 ++ (hearM q.1 f).2)) (x, acc)).1 ∧ ∀ f ∈ (l.foldl (fun q f => ((hearM q.1 f).1, q.2 ++ (hearM q.1 f).2)) (x, acc)).2, okF w.length f
  | [], x, acc, hx, _, ha => ⟨hx, ha⟩
  | f :: l, x, acc, hx, hl, ha => by
    rw [List.foldl_cons]
    obtain ⟨k1, k2⟩ := hx.hear hs hw hd (hl f (by simp)).1
    refine hearsM_ok hs hw hd l _ _ k1 (fun g hg => hl g (by simp [hg])) fun g hg => ?_
    rcases List.mem_append.1 hg with hg | hg
    · exact ha g hg
    · exact k2 g hg
end Go.HL
end
