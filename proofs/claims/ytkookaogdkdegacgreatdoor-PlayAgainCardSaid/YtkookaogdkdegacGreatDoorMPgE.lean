/- Texts laid into one, without what the claim does not use. Conditions: none. -/
import Derived.Test.YtkookaogdkdegacGreatDoorMPgD
/-! WoS -/
section
namespace Go.HL
open Go Go.Proofs
set_option linter.unusedVariables false
set_option linter.unusedSimpArgs false
theorem zip_open {α β : Type} (f : α → β → List Blk) : ∀ {l : List α} {k : List β} {d : Nat} {a : α} {b : β}, l[d]? = some a → k[d]? = some b → ∃ A B, (List.zipWith f l k).flatten = A ++ (f a b ++ B) ∧ ∀ a' b', (List.zipWith f (l.set d a') (k.set d b')).flatten = A ++ (f a' b' ++ B)
  | [], _, _, _, _, h, _ => by simp at h
  | _ :: _, [], _, _, _, _, h => by simp at h
  | x :: l, y :: k, 0, a, b, h1, h2 => by
    simp at h1 h2
    subst h1; subst h2
    exact ⟨[], (List.zipWith f l k).flatten, by simp, fun a' b' => by simp⟩
  | x :: l, y :: k, d + 1, a, b, h1, h2 => by
    obtain ⟨A, B, e1, e2⟩ := zip_open f (l := l) (k := k) (d := d) (a := a) (b := b) (by simpa using h1) (by simpa using h2)
    exact ⟨f x y ++ A, B, by simp [e1], fun a' b' => by simp [e2]⟩
theorem lds_open {g : NdG} {m : Nd} {d : Nat} {o : Option Ld} {q : Nat × Value × List Blk} (h1 : m.leads[d]? = some o) (h2 : g.ld[d]? = some q) :
    ∃ A B, ldBs g m = A ++ (ldB o q ++ B) ∧ ∀ o' q' (m' : Nd) (g' : NdG), m'.leads = m.leads.set d o' → g'.ld = g.ld.set d q' → ldBs g' m' = A ++ (ldB o' q' ++ B) := by
  obtain ⟨A, B, e1, e2⟩ := zip_open ldB h1 h2
  refine ⟨A, B, e1, fun o' q' m' g' h3 h4 => ?_⟩
  unfold ldBs
  rw [h3, h4]
  exact e2 o' q'
theorem set_self {α : Type} {l : List α} {d : Nat} {x : α} (h : l[d]? = some x) : l.set d x = l := by
  refine List.ext_getElem? fun i => ?_
  rw [List.getElem?_set]
  split
  · rename_i e
    subst e
    rw [h, if_pos (List.getElem?_eq_some_iff.1 h).1]
  · rfl
theorem ldVs_set {g g' : NdG} {m m' : Nd} {d : Nat} {o' : Option Ld} {q' : Nat × Value × List Blk} (h3 : m'.leads = m.leads.set d o') (h4 : g'.ld = g.ld.set d q') : ldVs g' m' = (ldVs g m).set d (ldV o' q') := by
  unfold ldVs
  rw [h3, h4]
  refine List.ext_getElem? fun i => ?_
  simp only [List.getElem?_zipWith, List.getElem?_set, List.length_zipWith]
  by_cases hd : d = i
  · subst hd
    simp only [if_true]
    by_cases ha : d < m.leads.length
    · by_cases hb : d < g.ld.length
      · have : d < min m.leads.length g.ld.length := by omega
        simp [ha, hb, this]
      · have : ¬ d < min m.leads.length g.ld.length := by omega
        simp [ha, hb]; omega
    · have : ¬ d < min m.leads.length g.ld.length := by omega
      simp [ha]; omega
  · simp only [if_neg hd]
theorem NdOk.lead {g : NdG} {m : Nd} (h : NdOk g m) {d : Nat} {x : Ld} {q : Nat × Value × List Blk} (hx : LdOk q.2.1 q.2.2 x) : NdOk { g with ld := g.ld.set d q } { m with leads := m.leads.set d (some x) } := by
  refine ⟨by simp [h.ld], fun e y hy p hp => ?_, h.map⟩
  simp only [List.getElem?_set] at hy hp
  by_cases hde : d = e
  · rw [if_pos hde] at hy hp
    split at hy
    · split at hp
      · cases hy; cases hp; exact hx
      · cases hp
    · cases hy
  · rw [if_neg hde] at hy hp
    exact h.lok e y hy p hp
theorem NdOk.hear {g : NdG} {m : Nd} (h : NdOk g m) {d : Nat} {x : Ld} {q : Nat × Value × List Blk} (h2 : g.ld[d]? = some q) (hx : LdOk q.2.1 q.2.2 x) : NdOk g { m with leads := m.leads.set d (some x) } := by
  have := h.lead (d := d) hx
  rw [set_self h2] at this
  exact this
theorem siteM_len (id : Int) (ref : Int → Bool) (m : Pl) (j : Jn) (f : Fr) : (siteM id ref m j f).2.2.1.length ≤ 1 := by
  unfold siteM
  split
  · simp
  split
  · simp
  split
  · simp
  · simp only
    split <;> simp
theorem hearW_len (M : Wm) (s : Int) (f : Fr) : (hearW M s f).2.1.length ≤ 1 := by
  unfold hearW hearNd
  split
  · simp
  · rename_i j ref _
    split
    · simp
    · exact siteM_len s ref _ j f
theorem errs_ls {tab : List (Nat × Nat)} {T : Nat} {E : Nat → Addr} {cs : List Nat} {L L' : Heap} (h : Errs tab T E cs L) (hl : LS L.flatten L'.flatten) : Errs tab T E cs L' := h.mono fun _ _ hb => hl.mem hb
theorem ls_mid {c A B : List Blk} {D : Heap} : LS (c :: A :: B :: D).flatten ((A ++ (c ++ B)) :: D).flatten := by
  simp only [List.flatten_cons, List.append_assoc]
  refine LS.of_perm ?_
  rw [← List.append_assoc, ← List.append_assoc A c]
  exact List.perm_append_comm.append_right _
theorem ls_mid' {c A B : List Blk} {D : Heap} : LS ((A ++ (c ++ B)) :: D).flatten (c :: A :: B :: D).flatten := by
  simp only [List.flatten_cons, List.append_assoc]
  refine LS.of_perm ?_
  rw [← List.append_assoc, ← List.append_assoc c A]
  exact List.perm_append_comm.append_right _
theorem ls7 {x0 x1 x2 x3 x4 x5 x6 c A B : List Blk} {D : Heap} : LS (x0 :: x1 :: x2 :: x3 :: x4 :: x5 :: x6 :: (A ++ (c ++ B)) :: D).flatten (x0 :: x1 :: x2 :: x3 :: x4 :: x5 :: x6 :: c :: A :: B :: D).flatten := LS.k (LS.k (LS.k (LS.k (LS.k (LS.k (LS.k ls_mid'))))))
theorem Rd.ls {α : Type} {enc : α → List Value} {sz : Nat} {L L' : Heap} {a : Option Addr} {xs : List α} (h : Rd enc sz L a xs) (hl : LS L.flatten L'.flatten) : Rd enc sz L' a xs := h.mono fun _ _ hb => hl.mem hb
theorem WdIn.sp {L L' : Heap} {G : WdG} {M : Wm} (h : WdIn L G M) (hl : LS L.flatten L'.flatten) : WdIn L' G M := by
  obtain ⟨h1, ⟨a2, c2, e2, r2⟩, ⟨a3, c3, e3, r3⟩, ⟨a4, c4, e4, r4⟩, h5⟩ := h
  exact ⟨hl.mem h1, ⟨a2, c2, e2, r2.ls hl⟩, ⟨a3, c3, e3, r3.ls hl⟩, ⟨a4, c4, e4, r4.ls hl⟩, h5⟩
attribute [local irreducible] HW HO HQ HD HC QOp Has Upd Puts Gets seqQ blkQ loopQ fnQ actQ nextP unQ MapF
attribute [local irreducible] ndL jcells plC siteM ldL openM
theorem qmPv {ρ : Env} {L : Heap} {ty : TypeId} {pos : String} {af : Array Edge} {d : Option Tmp} {g : Option (Nat × Bool)} {r : Nat} {x y : Operand} {es : List MapEntry} {ck : Nat} {f : Int × Int → Bool} {a b : Int} {v : Bool} (h00 : okv ρ = true := by exact rfl) (hx : ev ρ x = some (.map (some r)) := by exact rfl) (hy : ev ρ y = some (.agg ⟨[iv a, iv b]⟩) := by exact rfl)
    (hb : Has L r (.map ⟨es⟩ ck) := by (repeat (first | assumption | exact has_here | exact has_mem (by assumption) | apply has_in | apply has_next))) (hF : MapF pk es f := by assumption) (hv : f (a, b) = v := by assumption) :
    QOp Tryz.prog ⟨d, .lookup 107 x y false, ty, pos, af, g⟩ ρ L (.bool v) := hv ▸ qmP h00 hx hy (hb := hb) (hF := hF)
set_option maxHeartbeats 1000000 in
theorem wdeliver_calls (T : Nat) (E : Nat → Addr) (G : WdG) (M : Wm) (k : Int) (L : Heap) (hG : Er T E [2, 3, 4, 5, 6] L) (hW : WdOk G M) (hM : WI M) (hl : M.l.length ≤ 99999999) :
    HC Tryz.prog 23 [pt G.wp 0, iv k] (wdH G M ++ L) (fun v L' => v = eV T E (deliverW M k).2 ∧ WdP G (deliverW M k).1 L L') := by
  unfold deliverW
  have hself := wdP_self hW L
  have hI := wd_in hW L
  have ka := wat_calls T E G M k _ (er_wdH hG.sub G M) hI
  cases he : wat M k with
  | some e =>
    simp only [he] at ka ⊢
    generalize wdH G M ++ L = H at *
    refine hc_enter (fun _ _ => Tryz.call23 _ _) Tryz.func23 rfl Tryz.ntmps23 (Nat.le_of_ble_eq_true rfl) ?_; simp only [args0, Nat.reduceAdd]
    repeat' (first | (show HW _ _ _ _ _ _; first | apply hw_seq | apply hw_region | refine g_t ?_ | refine g_f ?_ | apply hw_skip | apply hw_ret | refine g_k S ?_ | refine g_w S ?_) | (show HO _ _ _ _ _ _ _; first | apply ho_nil | refine g_q (qe S) ?_ | refine g_q (ql S) ?_ | refine g_q (qs S) ?_ | refine g_q (qb S) ?_ | refine g_q (qbA S) ?_ | refine g_q (qmPv) ?_ | refine g_q (qC (ka)) ?_ | refine g_n ?_ | refine g_on ?_ | refine wa S (fun b => ?_) | refine ws S ?_) | (show HQ _ _ _ _ _ _ _; first | apply hq_nil | refine k_q (qe S) ?_ | refine k_q (ql S) ?_ | refine k_q (qs S) ?_ | refine k_q (qb S) ?_ | refine k_q (qbA S) ?_ | refine k_q (qmPv) ?_ | refine k_q (qC (ka)) ?_ | refine k_n ?_) | (show HD _ _ _ _ _ _ _ _; first | apply hd_nil | refine d_q 100 (by exact rfl) (fun _ => qe S) ?_ | refine d_q 100 (by exact rfl) (fun _ => qb S) ?_ | refine d_q 100 (by exact rfl) (fun _ => qbA S) ?_ | refine d_q 100 (by exact rfl) (fun _ => qmPv) ?_ | refine dl S 100 ?_ | refine ds S 100 ?_ | refine d_n 100 ?_ | refine d_q 0 (by exact rfl) (fun _ => qC (ka)) ?_ | refine d_q 1 (by exact rfl) (fun _ => qC (ka)) ?_ | refine d_q 2 (by exact rfl) (fun _ => qC (ka)) ?_ | refine d_q 3 (by exact rfl) (fun _ => qC (ka)) ?_) | ((first | refine g_b (fun h => ?_) (fun h => ?_) | refine g_s (fun h => ?_) (fun h => ?_) | refine k_s (fun h => ?_) (fun h => ?_) | refine d_sp 100 (fun h => ?_) (fun h => ?_)) <;> ((try simp only [zA, zB, zC, zD, zE, zF, ne_eq, zG, zH, and_true, true_and, eq_self, zI, zJ, zK, reduceCtorEq, zL, zM] at h); (try (exfalso; first | omega | with_reducible exact h (by assumption) | with_reducible exact absurd h (by assumption))))) | (show HD _ _ _ _ _ _ _ _; refine da 101 ?_) | refine dx ?_ | apply dx0 | refine dxd ?_ | refine dxk ?_ | apply seqQ_normal | apply seqQ_ret)
    exact er1 rfl ⟨rfl, hself⟩
  | none =>
    simp only [he] at ka ⊢
    clear hself
    have hk : 0 ≤ k ∧ k < M.l.length := by
      unfold wat at he
      split at he
      · cases he
      · omega
    obtain ⟨hk0, hk1⟩ := hk
    have hgk : M.l[k.toNat]'(by omega) = M.l.getD k.toNat zeroF := by
      rw [List.getD, List.getElem?_eq_getElem (by omega)]; rfl
    obtain ⟨hbad, hto, hfr⟩ := hM.fr (M.l.getD k.toNat zeroF) (by rw [← hgk]; exact List.getElem_mem _)
    have hM1 := hM.erase k.toNat
    have hW1 : ∀ lv lc, FrVec lv (M.l.eraseIdx k.toNat) lc → WdOk { G with lv := lv, lc := lc } { M with l := M.l.eraseIdx k.toNat } := fun lv lc hv => hW.setL hv
    have kd := fun L => delete_calls G.lv M.l G.lc k (k + 1) L hW.l (by omega) (by omega) (by omega) rfl
    obtain ⟨a5, cap5, he5, -, hR5⟩ := hW.l.rd fc_len
    have hR6 := (hR5 []).mono (L' := G.lc :: []) fun b o hb => by
      simp only [Has, List.flatten_cons, List.flatten_nil, List.append_nil] at hb ⊢
      simp [hb]
    obtain ⟨b5, i5, l5, F5, fr5, e6, hb5, hg5⟩ := hR6.at (j := k) (by omega) (by omega)
    have hb5' : ∀ H, Has (G.lc :: H) b5 (.cells ⟨l5⟩ F5 fr5) := fun H => by
      simp only [Has, List.flatten_cons, List.flatten_nil, List.append_nil] at hb5
      exact has_mem hb5
    rw [hgk] at hg5
    rw [e6] at he5
    clear hR5 hR6 e6 hb5
    have hn0 : 0 ≤ (M.l.getD k.toNat zeroF).to := by unfold badF at hbad; omega
    have hn1 : (M.l.getD k.toNat zeroF).to < M.n.length := by rw [hM.wn]; exact hto
    have hd0 : 0 ≤ (M.l.getD k.toNat zeroF).dl ∧ (M.l.getD k.toNat zeroF).dl < 6 := by unfold badF at hbad; omega
    have hnp := npIn_of hW hn0 hn1 (H := G.nc :: []) (fun b o hb => has_mem hb)
    have hN := wd_hasN hW.ndl hn0 hn1 L
    have hF := hW.br
    obtain ⟨⟨nb, ni, nl, nF, nfr, ncap, e7, hnb, hng⟩, -, -⟩ := hnp
    have hnb' : ∀ H, Has (G.nc :: H) nb (.cells ⟨nl⟩ nF nfr) := fun H => by
      simp only [Has, List.flatten_cons, List.flatten_nil, List.append_nil] at hnb
      exact has_mem hnb
    clear hnb
    have e8 : ∀ l, (ndAt { M with l := l } (M.l.getD k.toNat zeroF).to) = ndAt M (M.l.getD k.toNat zeroF).to := fun l => rfl
    rw [e8]
    have hni := wi_at hM hn0 hn1
    have hok := wdOk_at hW hn0 hn1
    generalize hf : M.l.getD k.toNat zeroF = f at *
    have hcl : ∀ lv lc, FrVec lv (M.l.eraseIdx k.toNat) lc → WdP G { M with l := M.l.eraseIdx k.toNat } L (wdH { G with lv := lv, lc := lc } { M with l := M.l.eraseIdx k.toNat } ++ L) := fun lv lc hv => wdP_top (hW1 lv lc hv) rfl rfl
    have hsc : (ndAt M f.to).site = none ∨ ∃ q, (ndAt M f.to).site = some q := by
      cases (ndAt M f.to).site with
      | none => exact .inl rfl
      | some q => exact .inr ⟨q, rfl⟩
    rcases hsc with hs | ⟨q, hs⟩
    · rw [if_pos (.inl (by rw [hs]; rfl))]
      obtain ⟨ffr, fto, fdl, fkd, fatt, fys, fs⟩ := f
      simp only at hbad hto hfr hg5 hng hn0 hn1 hN hs ⊢
      unfold ndO at hN
      rw [hs] at hN
      have g0 : (ndL (.pointer none) (npAt G fto).bp (ldVs (npAt G fto) (ndAt M fto)) (ndAt M fto).done)[0 + 0]? = some (.pointer none) := ndL_pre rfl
      simp only [wdH, wdT, wdO, List.cons_append, List.nil_append] at hcl ka ⊢
      rw [e7, he5] at ka ⊢
      rw [e7] at hcl
      rw [he5] at kd
      have hb5a := hb5' (G.ec :: ndsB G.nd M.n 0 :: L)
      have hnba := hnb' ([(G.mb, .map ⟨G.es⟩ G.ck)] :: G.ec :: ndsB G.nd M.n 0 :: L)
      refine hc_enter (fun _ _ => Tryz.call23 _ _) Tryz.func23 rfl Tryz.ntmps23 (Nat.le_of_ble_eq_true rfl) ?_; simp only [args0, Nat.reduceAdd]
      repeat' (first | (show HW _ _ _ _ _ _; first | apply hw_seq | apply hw_region | refine g_t ?_ | refine g_f ?_ | apply hw_skip | apply hw_ret | refine g_k S ?_ | refine g_w S ?_) | (show HO _ _ _ _ _ _ _; first | apply ho_nil | refine g_q (qe S) ?_ | refine g_q (ql S) ?_ | refine g_q (qs S) ?_ | refine g_q (qb S) ?_ | refine g_q (qbA S) ?_ | refine g_q (qmPv) ?_ | refine g_q (qC (ka)) ?_ | refine g_n ?_ | refine g_on ?_ | refine wa S (fun b => ?_) | refine ws S ?_) | (show HQ _ _ _ _ _ _ _; first | apply hq_nil | refine k_q (qe S) ?_ | refine k_q (ql S) ?_ | refine k_q (qs S) ?_ | refine k_q (qb S) ?_ | refine k_q (qbA S) ?_ | refine k_q (qmPv) ?_ | refine k_q (qC (ka)) ?_ | refine k_n ?_) | (show HD _ _ _ _ _ _ _ _; first | apply hd_nil | refine d_q 100 (by exact rfl) (fun _ => qe S) ?_ | refine d_q 100 (by exact rfl) (fun _ => qb S) ?_ | refine d_q 100 (by exact rfl) (fun _ => qbA S) ?_ | refine d_q 100 (by exact rfl) (fun _ => qmPv) ?_ | refine dl S 100 ?_ | refine ds S 100 ?_ | refine d_n 100 ?_ | refine d_q 0 (by exact rfl) (fun _ => qC (ka)) ?_ | refine d_q 1 (by exact rfl) (fun _ => qC (ka)) ?_ | refine d_q 2 (by exact rfl) (fun _ => qC (ka)) ?_ | refine d_q 3 (by exact rfl) (fun _ => qC (ka)) ?_) | ((first | refine g_b (fun h => ?_) (fun h => ?_) | refine g_s (fun h => ?_) (fun h => ?_) | refine k_s (fun h => ?_) (fun h => ?_) | refine d_sp 100 (fun h => ?_) (fun h => ?_)) <;> ((try simp only [zA, zB, zC, zD, zE, zF, ne_eq, zG, zH, and_true, true_and, eq_self, zI, zJ, zK, reduceCtorEq, zL, zM] at h); (try (exfalso; first | omega | with_reducible exact h (by assumption) | with_reducible exact absurd h (by assumption))))) | (show HD _ _ _ _ _ _ _ _; refine da 101 ?_) | refine dx ?_ | apply dx0 | refine dxd ?_ | refine dxk ?_ | apply seqQ_normal | apply seqQ_ret)
      refine fo 5 ?_
      refine gc (kd _) ?_
      rintro v L' ⟨c', hv', rfl⟩
      obtain ⟨a6, cap6, rfl, -, -⟩ := hv'.rd fc_len
      repeat' (first | (show HW _ _ _ _ _ _; first | apply hw_seq | apply hw_region | refine g_t ?_ | refine g_f ?_ | apply hw_skip | apply hw_ret | refine g_k S ?_ | refine g_w S ?_) | (show HO _ _ _ _ _ _ _; first | apply ho_nil | refine g_q (qe S) ?_ | refine g_q (ql S) ?_ | refine g_q (qs S) ?_ | refine g_q (qb S) ?_ | refine g_q (qbA S) ?_ | refine g_q (qmPv) ?_ | refine g_q (qC (ka)) ?_ | refine g_n ?_ | refine g_on ?_ | refine wa S (fun b => ?_) | refine ws S ?_) | (show HQ _ _ _ _ _ _ _; first | apply hq_nil | refine k_q (qe S) ?_ | refine k_q (ql S) ?_ | refine k_q (qs S) ?_ | refine k_q (qb S) ?_ | refine k_q (qbA S) ?_ | refine k_q (qmPv) ?_ | refine k_q (qC (ka)) ?_ | refine k_n ?_) | (show HD _ _ _ _ _ _ _ _; first | apply hd_nil | refine d_q 100 (by exact rfl) (fun _ => qe S) ?_ | refine d_q 100 (by exact rfl) (fun _ => qb S) ?_ | refine d_q 100 (by exact rfl) (fun _ => qbA S) ?_ | refine d_q 100 (by exact rfl) (fun _ => qmPv) ?_ | refine dl S 100 ?_ | refine ds S 100 ?_ | refine d_n 100 ?_ | refine d_q 0 (by exact rfl) (fun _ => qC (ka)) ?_ | refine d_q 1 (by exact rfl) (fun _ => qC (ka)) ?_ | refine d_q 2 (by exact rfl) (fun _ => qC (ka)) ?_ | refine d_q 3 (by exact rfl) (fun _ => qC (ka)) ?_) | ((first | refine g_b (fun h => ?_) (fun h => ?_) | refine g_s (fun h => ?_) (fun h => ?_) | refine k_s (fun h => ?_) (fun h => ?_) | refine d_sp 100 (fun h => ?_) (fun h => ?_)) <;> ((try simp only [zA, zB, zC, zD, zE, zF, ne_eq, zG, zH, and_true, true_and, eq_self, zI, zJ, zK, reduceCtorEq, zL, zM] at h); (try (exfalso; first | omega | with_reducible exact h (by assumption) | with_reducible exact absurd h (by assumption))))) | (show HD _ _ _ _ _ _ _ _; refine da 101 ?_) | refine dx ?_ | apply dx0 | refine dxd ?_ | refine dxk ?_ | apply seqQ_normal | apply seqQ_ret)
      all_goals exact sp1 (by repeat (first | (with_reducible first | refine LS.p0 ?_ | refine LS.p1 ?_ | refine LS.p2 ?_ | refine LS.p3 ?_ | refine LS.p4 ?_ | refine LS.p5 ?_ | refine LS.p6 ?_ | refine LS.p7 ?_ | refine LS.p8 ?_ | refine LS.p9 ?_ | refine LS.p10 ?_ | refine LS.p11 ?_ | refine LS.p12 ?_ | refine LS.e ?_ | exact LS.refl _) | refine LS.p0 ?_ | refine LS.p1 ?_ | refine LS.p2 ?_ | refine LS.p3 ?_ | refine LS.p4 ?_ | refine LS.p5 ?_ | refine LS.p6 ?_ | refine LS.p7 ?_ | refine LS.p8 ?_ | refine LS.p9 ?_ | refine LS.p10 ?_ | refine LS.p11 ?_ | refine LS.p12 ?_ | (with_reducible refine LS.c ?_))) ⟨rfl, hcl _ c' hv'⟩
    · obtain ⟨j, ref⟩ := q
      have hbr0 : ∀ b, M.br (linkP f) = b → M.br (min f.fr f.to, max f.fr f.to) = b := fun b h => h
      obtain ⟨dn, hdn⟩ := Int.eq_ofNat_of_zero_le hd0.1
      have hd6 : dn < 6 := by omega
      have g0 : (ndL (pt (npAt G f.to).sp 0) (npAt G f.to).bp (ldVs (npAt G f.to) (ndAt M f.to)) (ndAt M f.to).done)[0 + 0]? = some (pt (npAt G f.to).sp 0) := ndL_pre rfl
      have hm1 : (ndAt M f.to).leads[dn]? = some ((ndAt M f.to).leads.getD dn none) := getD_some (by rw [hni.leads]; exact hd6)
      obtain ⟨q, hq⟩ : ∃ q, (npAt G f.to).ld[dn]? = some q := ⟨_, List.getElem?_eq_getElem (by rw [hok.ld]; exact hd6)⟩
      have hv := ldVs_at hm1 hq
      have gL := ndL_lead (sv := pt (npAt G f.to).sp 0) (bp := (npAt G f.to).bp) (dn := (ndAt M f.to).done) hv
      have hNv : ndO (npAt G f.to) (ndAt M f.to) = .cells ⟨ndL (pt (npAt G f.to).sp 0) (npAt G f.to).bp (ldVs (npAt G f.to) (ndAt M f.to)) (ndAt M f.to).done⟩ 122 := by unfold ndO; rw [hs]; rfl
      by_cases hbr : M.br (linkP f) = true
      · rw [if_pos (.inr hbr)]
        have hbr' := hbr0 _ hbr
        rw [hNv] at hN
        obtain ⟨ffr, fto, fdl, fkd, fatt, fys, fs⟩ := f
        simp only at hbad hto hfr hg5 hng hn0 hn1 hN hs hbr' g0 ⊢
        simp only [wdH, wdT, wdO, List.cons_append, List.nil_append] at hcl ka ⊢
        rw [e7, he5] at ka ⊢
        rw [e7] at hcl
        rw [he5] at kd
        have hb5a := hb5' (G.ec :: ndsB G.nd M.n 0 :: L)
        have hnba := hnb' ([(G.mb, .map ⟨G.es⟩ G.ck)] :: G.ec :: ndsB G.nd M.n 0 :: L)
        refine hc_enter (fun _ _ => Tryz.call23 _ _) Tryz.func23 rfl Tryz.ntmps23 (Nat.le_of_ble_eq_true rfl) ?_; simp only [args0, Nat.reduceAdd]
        repeat' (first | (show HW _ _ _ _ _ _; first | apply hw_seq | apply hw_region | refine g_t ?_ | refine g_f ?_ | apply hw_skip | apply hw_ret | refine g_k S ?_ | refine g_w S ?_) | (show HO _ _ _ _ _ _ _; first | apply ho_nil | refine g_q (qe S) ?_ | refine g_q (ql S) ?_ | refine g_q (qs S) ?_ | refine g_q (qb S) ?_ | refine g_q (qbA S) ?_ | refine g_q (qmPv) ?_ | refine g_q (qC (ka)) ?_ | refine g_n ?_ | refine g_on ?_ | refine wa S (fun b => ?_) | refine ws S ?_) | (show HQ _ _ _ _ _ _ _; first | apply hq_nil | refine k_q (qe S) ?_ | refine k_q (ql S) ?_ | refine k_q (qs S) ?_ | refine k_q (qb S) ?_ | refine k_q (qbA S) ?_ | refine k_q (qmPv) ?_ | refine k_q (qC (ka)) ?_ | refine k_n ?_) | (show HD _ _ _ _ _ _ _ _; first | apply hd_nil | refine d_q 100 (by exact rfl) (fun _ => qe S) ?_ | refine d_q 100 (by exact rfl) (fun _ => qb S) ?_ | refine d_q 100 (by exact rfl) (fun _ => qbA S) ?_ | refine d_q 100 (by exact rfl) (fun _ => qmPv) ?_ | refine dl S 100 ?_ | refine ds S 100 ?_ | refine d_n 100 ?_ | refine d_q 0 (by exact rfl) (fun _ => qC (ka)) ?_ | refine d_q 1 (by exact rfl) (fun _ => qC (ka)) ?_ | refine d_q 2 (by exact rfl) (fun _ => qC (ka)) ?_ | refine d_q 3 (by exact rfl) (fun _ => qC (ka)) ?_) | ((first | refine g_b (fun h => ?_) (fun h => ?_) | refine g_s (fun h => ?_) (fun h => ?_) | refine k_s (fun h => ?_) (fun h => ?_) | refine d_sp 100 (fun h => ?_) (fun h => ?_)) <;> ((try simp only [zA, zB, zC, zD, zE, zF, ne_eq, zG, zH, and_true, true_and, eq_self, zI, zJ, zK, reduceCtorEq, zL, zM] at h); (try (exfalso; first | omega | with_reducible exact h (by assumption) | with_reducible exact absurd h (by assumption))))) | (show HD _ _ _ _ _ _ _ _; refine da 101 ?_) | refine dx ?_ | apply dx0 | refine dxd ?_ | refine dxk ?_ | apply seqQ_normal | apply seqQ_ret)
        refine fo 5 ?_
        refine gc (kd _) ?_
        rintro v L' ⟨c', hv', rfl⟩
        obtain ⟨a6, cap6, rfl, -, -⟩ := hv'.rd fc_len
        repeat' (first | (show HW _ _ _ _ _ _; first | apply hw_seq | apply hw_region | refine g_t ?_ | refine g_f ?_ | apply hw_skip | apply hw_ret | refine g_k S ?_ | refine g_w S ?_) | (show HO _ _ _ _ _ _ _; first | apply ho_nil | refine g_q (qe S) ?_ | refine g_q (ql S) ?_ | refine g_q (qs S) ?_ | refine g_q (qb S) ?_ | refine g_q (qbA S) ?_ | refine g_q (qmPv) ?_ | refine g_q (qC (ka)) ?_ | refine g_n ?_ | refine g_on ?_ | refine wa S (fun b => ?_) | refine ws S ?_) | (show HQ _ _ _ _ _ _ _; first | apply hq_nil | refine k_q (qe S) ?_ | refine k_q (ql S) ?_ | refine k_q (qs S) ?_ | refine k_q (qb S) ?_ | refine k_q (qbA S) ?_ | refine k_q (qmPv) ?_ | refine k_q (qC (ka)) ?_ | refine k_n ?_) | (show HD _ _ _ _ _ _ _ _; first | apply hd_nil | refine d_q 100 (by exact rfl) (fun _ => qe S) ?_ | refine d_q 100 (by exact rfl) (fun _ => qb S) ?_ | refine d_q 100 (by exact rfl) (fun _ => qbA S) ?_ | refine d_q 100 (by exact rfl) (fun _ => qmPv) ?_ | refine dl S 100 ?_ | refine ds S 100 ?_ | refine d_n 100 ?_ | refine d_q 0 (by exact rfl) (fun _ => qC (ka)) ?_ | refine d_q 1 (by exact rfl) (fun _ => qC (ka)) ?_ | refine d_q 2 (by exact rfl) (fun _ => qC (ka)) ?_ | refine d_q 3 (by exact rfl) (fun _ => qC (ka)) ?_) | ((first | refine g_b (fun h => ?_) (fun h => ?_) | refine g_s (fun h => ?_) (fun h => ?_) | refine k_s (fun h => ?_) (fun h => ?_) | refine d_sp 100 (fun h => ?_) (fun h => ?_)) <;> ((try simp only [zA, zB, zC, zD, zE, zF, ne_eq, zG, zH, and_true, true_and, eq_self, zI, zJ, zK, reduceCtorEq, zL, zM] at h); (try (exfalso; first | omega | with_reducible exact h (by assumption) | with_reducible exact absurd h (by assumption))))) | (show HD _ _ _ _ _ _ _ _; refine da 101 ?_) | refine dx ?_ | apply dx0 | refine dxd ?_ | refine dxk ?_ | apply seqQ_normal | apply seqQ_ret)
        all_goals exact sp1 (by repeat (first | (with_reducible first | refine LS.p0 ?_ | refine LS.p1 ?_ | refine LS.p2 ?_ | refine LS.p3 ?_ | refine LS.p4 ?_ | refine LS.p5 ?_ | refine LS.p6 ?_ | refine LS.p7 ?_ | refine LS.p8 ?_ | refine LS.p9 ?_ | refine LS.p10 ?_ | refine LS.p11 ?_ | refine LS.p12 ?_ | refine LS.e ?_ | exact LS.refl _) | refine LS.p0 ?_ | refine LS.p1 ?_ | refine LS.p2 ?_ | refine LS.p3 ?_ | refine LS.p4 ?_ | refine LS.p5 ?_ | refine LS.p6 ?_ | refine LS.p7 ?_ | refine LS.p8 ?_ | refine LS.p9 ?_ | refine LS.p10 ?_ | refine LS.p11 ?_ | refine LS.p12 ?_ | (with_reducible refine LS.c ?_))) ⟨rfl, hcl _ c' hv'⟩
      · have hbrf : M.br (linkP f) = false := by simpa using hbr
        rw [if_neg (by simp [hbrf, hs])]
        have hbr' := hbr0 _ hbrf
        by_cases hkd : f.kd = 2 ∨ f.kd = 4 ∨ f.kd = 6
        · rw [if_pos hkd]
          rw [show f.dl.toNat = dn by omega]
          cases hx : (ndAt M f.to).leads.getD dn none with
          | none =>
            simp only
            rw [hx] at gL
            simp only [ldV] at gL
            rw [hNv] at hN
            obtain ⟨ffr, fto, fdl, fkd, fatt, fys, fs⟩ := f
            simp only at hbad hto hfr hg5 hng hn0 hn1 hN hs hbr' g0 gL hkd hdn ⊢
            subst hdn
            simp only [wdH, wdT, wdO, List.cons_append, List.nil_append] at hcl ka ⊢
            rw [e7, he5] at ka ⊢
            rw [e7] at hcl
            rw [he5] at kd
            have hb5a := hb5' (G.ec :: ndsB G.nd M.n 0 :: L)
            have hnba := hnb' ([(G.mb, .map ⟨G.es⟩ G.ck)] :: G.ec :: ndsB G.nd M.n 0 :: L)
            refine hc_enter (fun _ _ => Tryz.call23 _ _) Tryz.func23 rfl Tryz.ntmps23 (Nat.le_of_ble_eq_true rfl) ?_; simp only [args0, Nat.reduceAdd]
            repeat' (first | (show HW _ _ _ _ _ _; first | apply hw_seq | apply hw_region | refine g_t ?_ | refine g_f ?_ | apply hw_skip | apply hw_ret | refine g_k S ?_ | refine g_w S ?_) | (show HO _ _ _ _ _ _ _; first | apply ho_nil | refine g_q (qe S) ?_ | refine g_q (ql S) ?_ | refine g_q (qs S) ?_ | refine g_q (qb S) ?_ | refine g_q (qbA S) ?_ | refine g_q (qmPv) ?_ | refine g_q (qC (ka)) ?_ | refine g_n ?_ | refine g_on ?_ | refine wa S (fun b => ?_) | refine ws S ?_) | (show HQ _ _ _ _ _ _ _; first | apply hq_nil | refine k_q (qe S) ?_ | refine k_q (ql S) ?_ | refine k_q (qs S) ?_ | refine k_q (qb S) ?_ | refine k_q (qbA S) ?_ | refine k_q (qmPv) ?_ | refine k_q (qC (ka)) ?_ | refine k_n ?_) | (show HD _ _ _ _ _ _ _ _; first | apply hd_nil | refine d_q 100 (by exact rfl) (fun _ => qe S) ?_ | refine d_q 100 (by exact rfl) (fun _ => qb S) ?_ | refine d_q 100 (by exact rfl) (fun _ => qbA S) ?_ | refine d_q 100 (by exact rfl) (fun _ => qmPv) ?_ | refine dl S 100 ?_ | refine ds S 100 ?_ | refine d_n 100 ?_ | refine d_q 0 (by exact rfl) (fun _ => qC (ka)) ?_ | refine d_q 1 (by exact rfl) (fun _ => qC (ka)) ?_ | refine d_q 2 (by exact rfl) (fun _ => qC (ka)) ?_ | refine d_q 3 (by exact rfl) (fun _ => qC (ka)) ?_) | ((first | refine g_b (fun h => ?_) (fun h => ?_) | refine g_s (fun h => ?_) (fun h => ?_) | refine k_s (fun h => ?_) (fun h => ?_) | refine d_sp 100 (fun h => ?_) (fun h => ?_)) <;> ((try simp only [zA, zB, zC, zD, zE, zF, ne_eq, zG, zH, and_true, true_and, eq_self, zI, zJ, zK, reduceCtorEq, zL, zM] at h); (try (exfalso; first | omega | with_reducible exact h (by assumption) | with_reducible exact absurd h (by assumption))))) | (show HD _ _ _ _ _ _ _ _; refine da 101 ?_) | refine dx ?_ | apply dx0 | refine dxd ?_ | refine dxk ?_ | apply seqQ_normal | apply seqQ_ret)
            refine fo 5 ?_
            refine gc (kd _) ?_
            rintro v L' ⟨c', hv', rfl⟩
            obtain ⟨a6, cap6, rfl, -, -⟩ := hv'.rd fc_len
            repeat' (first | (show HW _ _ _ _ _ _; first | apply hw_seq | apply hw_region | refine g_t ?_ | refine g_f ?_ | apply hw_skip | apply hw_ret | refine g_k S ?_ | refine g_w S ?_) | (show HO _ _ _ _ _ _ _; first | apply ho_nil | refine g_q (qe S) ?_ | refine g_q (ql S) ?_ | refine g_q (qs S) ?_ | refine g_q (qb S) ?_ | refine g_q (qbA S) ?_ | refine g_q (qmPv) ?_ | refine g_q (qC (ka)) ?_ | refine g_n ?_ | refine g_on ?_ | refine wa S (fun b => ?_) | refine ws S ?_) | (show HQ _ _ _ _ _ _ _; first | apply hq_nil | refine k_q (qe S) ?_ | refine k_q (ql S) ?_ | refine k_q (qs S) ?_ | refine k_q (qb S) ?_ | refine k_q (qbA S) ?_ | refine k_q (qmPv) ?_ | refine k_q (qC (ka)) ?_ | refine k_n ?_) | (show HD _ _ _ _ _ _ _ _; first | apply hd_nil | refine d_q 100 (by exact rfl) (fun _ => qe S) ?_ | refine d_q 100 (by exact rfl) (fun _ => qb S) ?_ | refine d_q 100 (by exact rfl) (fun _ => qbA S) ?_ | refine d_q 100 (by exact rfl) (fun _ => qmPv) ?_ | refine dl S 100 ?_ | refine ds S 100 ?_ | refine d_n 100 ?_ | refine d_q 0 (by exact rfl) (fun _ => qC (ka)) ?_ | refine d_q 1 (by exact rfl) (fun _ => qC (ka)) ?_ | refine d_q 2 (by exact rfl) (fun _ => qC (ka)) ?_ | refine d_q 3 (by exact rfl) (fun _ => qC (ka)) ?_) | ((first | refine g_b (fun h => ?_) (fun h => ?_) | refine g_s (fun h => ?_) (fun h => ?_) | refine k_s (fun h => ?_) (fun h => ?_) | refine d_sp 100 (fun h => ?_) (fun h => ?_)) <;> ((try simp only [zA, zB, zC, zD, zE, zF, ne_eq, zG, zH, and_true, true_and, eq_self, zI, zJ, zK, reduceCtorEq, zL, zM] at h); (try (exfalso; first | omega | with_reducible exact h (by assumption) | with_reducible exact absurd h (by assumption))))) | (show HD _ _ _ _ _ _ _ _; refine da 101 ?_) | refine dx ?_ | apply dx0 | refine dxd ?_ | refine dxk ?_ | apply seqQ_normal | apply seqQ_ret)
            all_goals exact sp1 (by repeat (first | (with_reducible first | refine LS.p0 ?_ | refine LS.p1 ?_ | refine LS.p2 ?_ | refine LS.p3 ?_ | refine LS.p4 ?_ | refine LS.p5 ?_ | refine LS.p6 ?_ | refine LS.p7 ?_ | refine LS.p8 ?_ | refine LS.p9 ?_ | refine LS.p10 ?_ | refine LS.p11 ?_ | refine LS.p12 ?_ | refine LS.e ?_ | exact LS.refl _) | refine LS.p0 ?_ | refine LS.p1 ?_ | refine LS.p2 ?_ | refine LS.p3 ?_ | refine LS.p4 ?_ | refine LS.p5 ?_ | refine LS.p6 ?_ | refine LS.p7 ?_ | refine LS.p8 ?_ | refine LS.p9 ?_ | refine LS.p10 ?_ | refine LS.p11 ?_ | refine LS.p12 ?_ | (with_reducible refine LS.c ?_))) ⟨rfl, hcl _ c' hv'⟩
          | some x =>
            simp only
            rw [hx] at hm1 gL hv
            simp only [ldV] at gL hv
            have hLI := hni.ldi dn x hm1
            have hLO := hok.lok dn x hm1 q hq
            have hhd : x.heard < 2 ^ x.w.length := by rw [hLI.ww]; exact hLI.heard
            have hLs : LdIs M.w x.id x.deal x.att x := ⟨rfl, rfl, rfl, hLI.ww, hLI.told, hLI.heard⟩
            have hLh := hLs.hear f
            have hLO' := hLs.ok hLh hLO
            have hhl := hear_len x f
            have hwl := hM.wl
            rw [hLI.ww] at hhl
            refine HC.node (M' := { setN { M with l := M.l.eraseIdx k.toNat } f.to { ndAt M f.to with leads := (ndAt M f.to).leads.set dn (some (hearM x f).1) } with l := M.l.eraseIdx k.toNat ++ (hearM x f).2 }) hW hn0 hn1 ?_
            obtain ⟨A, B, eA, eB⟩ := lds_open hm1 hq
            have eB' := eB (some (hearM x f).1) q { ndAt M f.to with leads := (ndAt M f.to).leads.set dn (some (hearM x f).1) } (npAt G f.to) rfl (set_self hq).symm
            have eV' : ldVs (npAt G f.to) { ndAt M f.to with leads := (ndAt M f.to).leads.set dn (some (hearM x f).1) } = ldVs (npAt G f.to) (ndAt M f.to) := by
              rw [ldVs_set (g := npAt G f.to) (m := ndAt M f.to) (o' := some (hearM x f).1) (q' := q) rfl (set_self hq).symm]
              exact set_self hv
            have hokD := hok.hear hq hLO'
            have hls : ∀ X, LS (wdOp G f.to (npAt G f.to) (ndAt M f.to) X L).flatten ([(G.wp, wdO G)] :: G.ec :: [((npAt G f.to).np, .cells ⟨ndL (pt (npAt G f.to).sp 0) (npAt G f.to).bp (ldVs (npAt G f.to) (ndAt M f.to)) (ndAt M f.to).done⟩ 122)] :: siC (npAt G f.to).sp (npAt G f.to).bj (npAt G f.to).mb f.to :: mpC (npAt G f.to).mb (npAt G f.to).es (npAt G f.to).ck :: plC (npAt G f.to).bp (npAt G f.to).ba (ndAt M f.to).pl :: jC (npAt G f.to).bj (npAt G f.to).bp j :: ldC q.1 q.2.1 q.2.2 x :: A :: B :: G.lc :: G.wc :: G.nc :: [(G.mb, .map ⟨G.es⟩ G.ck)] :: X :: L).flatten := fun X => by
              simp only [wdOp, ndB, hNv, hs, siS, siN, siJ]
              rw [eA]
              iterate 7 refine LS.k ?_
              exact ls_mid'
            have kat := wat_calls T E G M k _ (errs_ls (er_wdOp hG.sub G f.to (npAt G f.to) (ndAt M f.to) (ndsX G.nd M.n 0 f.to.toNat)) (hls _)) ((wdOp_in hW f.to _ _ _ L).sp (hls _))
            rw [he] at kat
            clear hls
            have kh := fun L hG => hear_calls T E q.1 q.2.1 q.2.2 x f L hG hLO hhd
            generalize ndsX G.nd M.n 0 f.to.toNat = X at *
            simp only [wdO] at kat
            simp only [wdOp, ndB, hNv, hs, stV, siS, siN, siJ, wdO]
            rw [eA]
            rw [e7, he5] at kat ⊢
            rw [he5] at kd
            generalize hmm : ndAt M f.to = m at *
            generalize npAt G f.to = g at *
            have hokD2 : NdOk g ⟨m.pl, some (j, ref), m.leads.set dn (some (hearM x f).1), m.done⟩ := by
              have := hokD
              rw [hs] at this
              exact this
            have eB2 := eB (some (hearM x f).1) q ⟨m.pl, some (j, ref), m.leads.set dn (some (hearM x f).1), m.done⟩ g rfl (set_self hq).symm
            have eV2 : ldVs g ⟨m.pl, some (j, ref), m.leads.set dn (some (hearM x f).1), m.done⟩ = ldVs g m := eV'
            obtain ⟨ffr, fto, fdl, fkd, fatt, fys, fs⟩ := f
            simp only at hbad hto hfr hg5 hng hn0 hn1 hs hbr' g0 gL hkd hdn kh hhl hLO' hLh eB2 eV2 hokD2 kat ⊢
            clear eB' eV' hokD
            subst hdn
            have hb5a := hb5' (G.wc :: G.nc :: [(G.mb, .map ⟨G.es⟩ G.ck)] :: X :: L)
            have hnba := hnb' ([(G.mb, .map ⟨G.es⟩ G.ck)] :: X :: L)
            refine HC.sp (L' := [(G.wp, .cells ⟨[G.wv, sl nb ni M.n.length ncap, .map (some G.mb), sl b5 i5 M.l.length cap5, G.ev]⟩ 110)] :: G.ec :: [(g.np, .cells ⟨ndL (pt g.sp 0) g.bp (ldVs g m) m.done⟩ 122)] :: siC g.sp g.bj g.mb fto :: mpC g.mb g.es g.ck :: plC g.bp g.ba m.pl :: jC g.bj g.bp j :: ldC q.1 q.2.1 q.2.2 x :: A :: B :: G.lc :: G.wc :: G.nc :: [(G.mb, .map ⟨G.es⟩ G.ck)] :: X :: L) ?_ ?_
            · refine hc_enter (fun _ _ => Tryz.call23 _ _) Tryz.func23 rfl Tryz.ntmps23 (Nat.le_of_ble_eq_true rfl) ?_; simp only [args0, Nat.reduceAdd]
              repeat' (first | (show HW _ _ _ _ _ _; first | apply hw_seq | apply hw_region | refine g_t ?_ | refine g_f ?_ | apply hw_skip | apply hw_ret | refine g_k S ?_ | refine g_w S ?_) | (show HO _ _ _ _ _ _ _; first | apply ho_nil | refine g_q (qe S) ?_ | refine g_q (ql S) ?_ | refine g_q (qs S) ?_ | refine g_q (qb S) ?_ | refine g_q (qbA S) ?_ | refine g_q (qmPv) ?_ | refine g_q (qC (kat)) ?_ | refine g_n ?_ | refine g_on ?_ | refine wa S (fun b => ?_) | refine ws S ?_) | (show HQ _ _ _ _ _ _ _; first | apply hq_nil | refine k_q (qe S) ?_ | refine k_q (ql S) ?_ | refine k_q (qs S) ?_ | refine k_q (qb S) ?_ | refine k_q (qbA S) ?_ | refine k_q (qmPv) ?_ | refine k_q (qC (kat)) ?_ | refine k_n ?_) | (show HD _ _ _ _ _ _ _ _; first | apply hd_nil | refine d_q 100 (by exact rfl) (fun _ => qe S) ?_ | refine d_q 100 (by exact rfl) (fun _ => qb S) ?_ | refine d_q 100 (by exact rfl) (fun _ => qbA S) ?_ | refine d_q 100 (by exact rfl) (fun _ => qmPv) ?_ | refine dl S 100 ?_ | refine ds S 100 ?_ | refine d_n 100 ?_ | refine d_q 0 (by exact rfl) (fun _ => qC (kat)) ?_ | refine d_q 1 (by exact rfl) (fun _ => qC (kat)) ?_ | refine d_q 2 (by exact rfl) (fun _ => qC (kat)) ?_ | refine d_q 3 (by exact rfl) (fun _ => qC (kat)) ?_) | ((first | refine g_b (fun h => ?_) (fun h => ?_) | refine g_s (fun h => ?_) (fun h => ?_) | refine k_s (fun h => ?_) (fun h => ?_) | refine d_sp 100 (fun h => ?_) (fun h => ?_)) <;> ((try simp only [zA, zB, zC, zD, zE, zF, ne_eq, zG, zH, and_true, true_and, eq_self, zI, zJ, zK, reduceCtorEq, zL, zM] at h); (try (exfalso; first | omega | with_reducible exact h (by assumption) | with_reducible exact absurd h (by assumption))))) | (show HD _ _ _ _ _ _ _ _; refine da 101 ?_) | refine dx ?_ | apply dx0 | refine dxd ?_ | refine dxk ?_ | apply seqQ_normal | apply seqQ_ret)
              refine fo 11 ?_
              refine gc (kd _) ?_
              rintro v L' ⟨c', hv', rfl⟩
              obtain ⟨a6, cap6, rfl, -, -⟩ := hv'.rd fc_len
              repeat' (first | (show HW _ _ _ _ _ _; first | apply hw_seq | apply hw_region | refine g_t ?_ | refine g_f ?_ | apply hw_skip | apply hw_ret | refine g_k S ?_ | refine g_w S ?_) | (show HO _ _ _ _ _ _ _; first | apply ho_nil | refine g_q (qe S) ?_ | refine g_q (ql S) ?_ | refine g_q (qs S) ?_ | refine g_q (qb S) ?_ | refine g_q (qbA S) ?_ | refine g_q (qmPv) ?_ | refine g_q (qC (kat)) ?_ | refine g_n ?_ | refine g_on ?_ | refine wa S (fun b => ?_) | refine ws S ?_) | (show HQ _ _ _ _ _ _ _; first | apply hq_nil | refine k_q (qe S) ?_ | refine k_q (ql S) ?_ | refine k_q (qs S) ?_ | refine k_q (qb S) ?_ | refine k_q (qbA S) ?_ | refine k_q (qmPv) ?_ | refine k_q (qC (kat)) ?_ | refine k_n ?_) | (show HD _ _ _ _ _ _ _ _; first | apply hd_nil | refine d_q 100 (by exact rfl) (fun _ => qe S) ?_ | refine d_q 100 (by exact rfl) (fun _ => qb S) ?_ | refine d_q 100 (by exact rfl) (fun _ => qbA S) ?_ | refine d_q 100 (by exact rfl) (fun _ => qmPv) ?_ | refine dl S 100 ?_ | refine ds S 100 ?_ | refine d_n 100 ?_ | refine d_q 0 (by exact rfl) (fun _ => qC (kat)) ?_ | refine d_q 1 (by exact rfl) (fun _ => qC (kat)) ?_ | refine d_q 2 (by exact rfl) (fun _ => qC (kat)) ?_ | refine d_q 3 (by exact rfl) (fun _ => qC (kat)) ?_) | ((first | refine g_b (fun h => ?_) (fun h => ?_) | refine g_s (fun h => ?_) (fun h => ?_) | refine k_s (fun h => ?_) (fun h => ?_) | refine d_sp 100 (fun h => ?_) (fun h => ?_)) <;> ((try simp only [zA, zB, zC, zD, zE, zF, ne_eq, zG, zH, and_true, true_and, eq_self, zI, zJ, zK, reduceCtorEq, zL, zM] at h); (try (exfalso; first | omega | with_reducible exact h (by assumption) | with_reducible exact absurd h (by assumption))))) | (show HD _ _ _ _ _ _ _ _; refine da 101 ?_) | refine dx ?_ | apply dx0 | refine dxd ?_ | refine dxk ?_ | apply seqQ_normal | apply seqQ_ret)
              all_goals refine fo 9 ?_
              all_goals refine gc (kh _ (by repeat (first | exact hG | exact hG.sub | apply Errs.cons))) ?_
              all_goals rintro v L' ⟨c2, hv2, rfl⟩
              all_goals obtain ⟨a7, cap7, rfl, -, hR7⟩ := hv2.rd fc_len
              all_goals repeat' (first | (show HW _ _ _ _ _ _; first | apply hw_seq | apply hw_region | refine g_t ?_ | refine g_f ?_ | apply hw_skip | apply hw_ret | refine g_k S ?_ | refine g_w S ?_) | (show HO _ _ _ _ _ _ _; first | apply ho_nil | refine g_q (qe S) ?_ | refine g_q (ql S) ?_ | refine g_q (qs S) ?_ | refine g_q (qb S) ?_ | refine g_q (qbA S) ?_ | refine g_q (qmPv) ?_ | refine g_q (qC (kat)) ?_ | refine g_n ?_ | refine g_on ?_ | refine wa S (fun b => ?_) | refine ws S ?_) | (show HQ _ _ _ _ _ _ _; first | apply hq_nil | refine k_q (qe S) ?_ | refine k_q (ql S) ?_ | refine k_q (qs S) ?_ | refine k_q (qb S) ?_ | refine k_q (qbA S) ?_ | refine k_q (qmPv) ?_ | refine k_q (qC (kat)) ?_ | refine k_n ?_) | (show HD _ _ _ _ _ _ _ _; first | apply hd_nil | refine d_q 100 (by exact rfl) (fun _ => qe S) ?_ | refine d_q 100 (by exact rfl) (fun _ => qb S) ?_ | refine d_q 100 (by exact rfl) (fun _ => qbA S) ?_ | refine d_q 100 (by exact rfl) (fun _ => qmPv) ?_ | refine dl S 100 ?_ | refine ds S 100 ?_ | refine d_n 100 ?_ | refine d_q 0 (by exact rfl) (fun _ => qC (kat)) ?_ | refine d_q 1 (by exact rfl) (fun _ => qC (kat)) ?_ | refine d_q 2 (by exact rfl) (fun _ => qC (kat)) ?_ | refine d_q 3 (by exact rfl) (fun _ => qC (kat)) ?_) | ((first | refine g_b (fun h => ?_) (fun h => ?_) | refine g_s (fun h => ?_) (fun h => ?_) | refine k_s (fun h => ?_) (fun h => ?_) | refine d_sp 100 (fun h => ?_) (fun h => ?_)) <;> ((try simp only [zA, zB, zC, zD, zE, zF, ne_eq, zG, zH, and_true, true_and, eq_self, zI, zJ, zK, reduceCtorEq, zL, zM] at h); (try (exfalso; first | omega | with_reducible exact h (by assumption) | with_reducible exact absurd h (by assumption))))) | (show HD _ _ _ _ _ _ _ _; refine da 101 ?_) | refine dx ?_ | apply dx0 | refine dxd ?_ | refine dxk ?_ | apply seqQ_normal | apply seqQ_ret)
              all_goals refine fo 2 ?_
              all_goals refine wpA S hv' (Rd.cons (hR7 _) _) fc_len fc_one ?_ (hby := by simp only [List.length_eraseIdx]; split <;> omega) (hmax := by simp only [List.length_eraseIdx]; split <;> omega)
              all_goals intro v'' c'' hv''
              all_goals obtain ⟨a8, cap8, rfl, -, -⟩ := hv''.rd fc_len
              all_goals repeat' (first | (show HW _ _ _ _ _ _; first | apply hw_seq | apply hw_region | refine g_t ?_ | refine g_f ?_ | apply hw_skip | apply hw_ret | refine g_k S ?_ | refine g_w S ?_) | (show HO _ _ _ _ _ _ _; first | apply ho_nil | refine g_q (qe S) ?_ | refine g_q (ql S) ?_ | refine g_q (qs S) ?_ | refine g_q (qb S) ?_ | refine g_q (qbA S) ?_ | refine g_q (qmPv) ?_ | refine g_q (qC (kat)) ?_ | refine g_n ?_ | refine g_on ?_ | refine wa S (fun b => ?_) | refine ws S ?_) | (show HQ _ _ _ _ _ _ _; first | apply hq_nil | refine k_q (qe S) ?_ | refine k_q (ql S) ?_ | refine k_q (qs S) ?_ | refine k_q (qb S) ?_ | refine k_q (qbA S) ?_ | refine k_q (qmPv) ?_ | refine k_q (qC (kat)) ?_ | refine k_n ?_) | (show HD _ _ _ _ _ _ _ _; first | apply hd_nil | refine d_q 100 (by exact rfl) (fun _ => qe S) ?_ | refine d_q 100 (by exact rfl) (fun _ => qb S) ?_ | refine d_q 100 (by exact rfl) (fun _ => qbA S) ?_ | refine d_q 100 (by exact rfl) (fun _ => qmPv) ?_ | refine dl S 100 ?_ | refine ds S 100 ?_ | refine d_n 100 ?_ | refine d_q 0 (by exact rfl) (fun _ => qC (kat)) ?_ | refine d_q 1 (by exact rfl) (fun _ => qC (kat)) ?_ | refine d_q 2 (by exact rfl) (fun _ => qC (kat)) ?_ | refine d_q 3 (by exact rfl) (fun _ => qC (kat)) ?_) | ((first | refine g_b (fun h => ?_) (fun h => ?_) | refine g_s (fun h => ?_) (fun h => ?_) | refine k_s (fun h => ?_) (fun h => ?_) | refine d_sp 100 (fun h => ?_) (fun h => ?_)) <;> ((try simp only [zA, zB, zC, zD, zE, zF, ne_eq, zG, zH, and_true, true_and, eq_self, zI, zJ, zK, reduceCtorEq, zL, zM] at h); (try (exfalso; first | omega | with_reducible exact h (by assumption) | with_reducible exact absurd h (by assumption))))) | (show HD _ _ _ _ _ _ _ _; refine da 101 ?_) | refine dx ?_ | apply dx0 | refine dxd ?_ | refine dxk ?_ | apply seqQ_normal | apply seqQ_ret)
              all_goals refine sp1 (L' := wdOp { G with lv := .slice a8 (M.l.eraseIdx k.toNat ++ (hearM x ⟨ffr, fto, dn, fkd, fatt, fys, fs⟩).2).length cap8, lc := c'' } fto g ⟨m.pl, some (j, ref), m.leads.set dn (some (hearM x ⟨ffr, fto, dn, fkd, fatt, fys, fs⟩).1), m.done⟩ X L) ?_ ⟨rfl, { G with lv := .slice a8 (M.l.eraseIdx k.toNat ++ (hearM x ⟨ffr, fto, dn, fkd, fatt, fys, fs⟩).2).length cap8, lc := c'' }, { M with l := M.l.eraseIdx k.toNat ++ (hearM x ⟨ffr, fto, dn, fkd, fatt, fys, fs⟩).2 }, g, ⟨m.pl, some (j, ref), m.leads.set dn (some (hearM x ⟨ffr, fto, dn, fkd, fatt, fys, fs⟩).1), m.done⟩, hW.setL hv'', rfl, rfl, rfl, hokD2, rfl, rfl, rfl⟩
              all_goals simp only [wdOp, ndB, ndO, stV, siS, siN, siJ, wdO, eV2]
              all_goals rw [eB2, e7]
              all_goals simp only [ldB, ldC]
              all_goals exact LS.trans ls7 (by repeat (first | (with_reducible first | refine LS.p0 ?_ | refine LS.p1 ?_ | refine LS.p2 ?_ | refine LS.p3 ?_ | refine LS.p4 ?_ | refine LS.p5 ?_ | refine LS.p6 ?_ | refine LS.p7 ?_ | refine LS.p8 ?_ | refine LS.p9 ?_ | refine LS.p10 ?_ | refine LS.p11 ?_ | refine LS.p12 ?_ | refine LS.e ?_ | exact LS.refl _) | refine LS.p0 ?_ | refine LS.p1 ?_ | refine LS.p2 ?_ | refine LS.p3 ?_ | refine LS.p4 ?_ | refine LS.p5 ?_ | refine LS.p6 ?_ | refine LS.p7 ?_ | refine LS.p8 ?_ | refine LS.p9 ?_ | refine LS.p10 ?_ | refine LS.p11 ?_ | refine LS.p12 ?_ | (with_reducible refine LS.c ?_)))
            · iterate 7 refine LS.k ?_
              exact ls_mid
        · rw [if_neg hkd]
          have kh := fun lv lc hv L hG => whearW_calls T E { G with lv := lv, lc := lc } { M with l := M.l.eraseIdx k.toNat } f.to f L hG (hW1 lv lc hv) hM1 hn0 hn1 (by rw [e8, hs]; simp)
          have hhl := hearW_len { M with l := M.l.eraseIdx k.toNat } f.to f
          have hml : (hearW { M with l := M.l.eraseIdx k.toNat } f.to f).1.l = M.l.eraseIdx k.toNat := rfl
          rw [hNv] at hN
          obtain ⟨ffr, fto, fdl, fkd, fatt, fys, fs⟩ := f
          simp only at hbad hto hfr hg5 hng hn0 hn1 hN hs hbr' g0 hkd kh hhl hml ⊢
          clear hdn
          generalize hearW { M with l := M.l.eraseIdx k.toNat } fto ⟨ffr, fto, fdl, fkd, fatt, fys, fs⟩ = R at *
          simp only [wdH, wdT, wdO, List.cons_append, List.nil_append] at ka ⊢
          rw [e7, he5] at ka ⊢
          rw [he5] at kd
          have hb5a := hb5' (G.ec :: ndsB G.nd M.n 0 :: L)
          have hnba := hnb' ([(G.mb, .map ⟨G.es⟩ G.ck)] :: G.ec :: ndsB G.nd M.n 0 :: L)
          refine hc_enter (fun _ _ => Tryz.call23 _ _) Tryz.func23 rfl Tryz.ntmps23 (Nat.le_of_ble_eq_true rfl) ?_; simp only [args0, Nat.reduceAdd]
          repeat' (first | (show HW _ _ _ _ _ _; first | apply hw_seq | apply hw_region | refine g_t ?_ | refine g_f ?_ | apply hw_skip | apply hw_ret | refine g_k S ?_ | refine g_w S ?_) | (show HO _ _ _ _ _ _ _; first | apply ho_nil | refine g_q (qe S) ?_ | refine g_q (ql S) ?_ | refine g_q (qs S) ?_ | refine g_q (qb S) ?_ | refine g_q (qbA S) ?_ | refine g_q (qmPv) ?_ | refine g_q (qC (ka)) ?_ | refine g_n ?_ | refine g_on ?_ | refine wa S (fun b => ?_) | refine ws S ?_) | (show HQ _ _ _ _ _ _ _; first | apply hq_nil | refine k_q (qe S) ?_ | refine k_q (ql S) ?_ | refine k_q (qs S) ?_ | refine k_q (qb S) ?_ | refine k_q (qbA S) ?_ | refine k_q (qmPv) ?_ | refine k_q (qC (ka)) ?_ | refine k_n ?_) | (show HD _ _ _ _ _ _ _ _; first | apply hd_nil | refine d_q 100 (by exact rfl) (fun _ => qe S) ?_ | refine d_q 100 (by exact rfl) (fun _ => qb S) ?_ | refine d_q 100 (by exact rfl) (fun _ => qbA S) ?_ | refine d_q 100 (by exact rfl) (fun _ => qmPv) ?_ | refine dl S 100 ?_ | refine ds S 100 ?_ | refine d_n 100 ?_ | refine d_q 0 (by exact rfl) (fun _ => qC (ka)) ?_ | refine d_q 1 (by exact rfl) (fun _ => qC (ka)) ?_ | refine d_q 2 (by exact rfl) (fun _ => qC (ka)) ?_ | refine d_q 3 (by exact rfl) (fun _ => qC (ka)) ?_) | ((first | refine g_b (fun h => ?_) (fun h => ?_) | refine g_s (fun h => ?_) (fun h => ?_) | refine k_s (fun h => ?_) (fun h => ?_) | refine d_sp 100 (fun h => ?_) (fun h => ?_)) <;> ((try simp only [zA, zB, zC, zD, zE, zF, ne_eq, zG, zH, and_true, true_and, eq_self, zI, zJ, zK, reduceCtorEq, zL, zM] at h); (try (exfalso; first | omega | with_reducible exact h (by assumption) | with_reducible exact absurd h (by assumption))))) | (show HD _ _ _ _ _ _ _ _; refine da 101 ?_) | refine dx ?_ | apply dx0 | refine dxd ?_ | refine dxk ?_ | apply seqQ_normal | apply seqQ_ret)
          refine fo 5 ?_
          refine gc (kd _) ?_
          rintro v L' ⟨c', hv', rfl⟩
          obtain ⟨a6, cap6, rfl, -, -⟩ := hv'.rd fc_len
          repeat' (first | (show HW _ _ _ _ _ _; first | apply hw_seq | apply hw_region | refine g_t ?_ | refine g_f ?_ | apply hw_skip | apply hw_ret | refine g_k S ?_ | refine g_w S ?_) | (show HO _ _ _ _ _ _ _; first | apply ho_nil | refine g_q (qe S) ?_ | refine g_q (ql S) ?_ | refine g_q (qs S) ?_ | refine g_q (qb S) ?_ | refine g_q (qbA S) ?_ | refine g_q (qmPv) ?_ | refine g_q (qC (ka)) ?_ | refine g_n ?_ | refine g_on ?_ | refine wa S (fun b => ?_) | refine ws S ?_) | (show HQ _ _ _ _ _ _ _; first | apply hq_nil | refine k_q (qe S) ?_ | refine k_q (ql S) ?_ | refine k_q (qs S) ?_ | refine k_q (qb S) ?_ | refine k_q (qbA S) ?_ | refine k_q (qmPv) ?_ | refine k_q (qC (ka)) ?_ | refine k_n ?_) | (show HD _ _ _ _ _ _ _ _; first | apply hd_nil | refine d_q 100 (by exact rfl) (fun _ => qe S) ?_ | refine d_q 100 (by exact rfl) (fun _ => qb S) ?_ | refine d_q 100 (by exact rfl) (fun _ => qbA S) ?_ | refine d_q 100 (by exact rfl) (fun _ => qmPv) ?_ | refine dl S 100 ?_ | refine ds S 100 ?_ | refine d_n 100 ?_ | refine d_q 0 (by exact rfl) (fun _ => qC (ka)) ?_ | refine d_q 1 (by exact rfl) (fun _ => qC (ka)) ?_ | refine d_q 2 (by exact rfl) (fun _ => qC (ka)) ?_ | refine d_q 3 (by exact rfl) (fun _ => qC (ka)) ?_) | ((first | refine g_b (fun h => ?_) (fun h => ?_) | refine g_s (fun h => ?_) (fun h => ?_) | refine k_s (fun h => ?_) (fun h => ?_) | refine d_sp 100 (fun h => ?_) (fun h => ?_)) <;> ((try simp only [zA, zB, zC, zD, zE, zF, ne_eq, zG, zH, and_true, true_and, eq_self, zI, zJ, zK, reduceCtorEq, zL, zM] at h); (try (exfalso; first | omega | with_reducible exact h (by assumption) | with_reducible exact absurd h (by assumption))))) | (show HD _ _ _ _ _ _ _ _; refine da 101 ?_) | refine dx ?_ | apply dx0 | refine dxd ?_ | refine dxk ?_ | apply seqQ_normal | apply seqQ_ret)
          refine ho_sp (L' := wdH { G with lv := .slice a6 (M.l.eraseIdx k.toNat).length cap6, lc := c' } { M with l := M.l.eraseIdx k.toNat } ++ L) ?_ ?_
          · refine gc (kh _ _ hv' _ (by repeat (first | exact hG | exact hG.sub | apply Errs.cons))) ?_
            rintro v L' ⟨c2, ⟨fv, hfv, rfl⟩, G2, e1, e2, hW2, rfl⟩
            obtain ⟨a7, cap7, rfl, -, hR7⟩ := hfv.rd fc_len
            obtain ⟨a8, cap8, he8, -, -⟩ := hW2.l.rd fc_len
            have hv2 := hW2.l
            rw [hml] at hv2 he8
            have hcl2 : ∀ lv lc, FrVec lv (M.l.eraseIdx k.toNat ++ R.2.1) lc → WdP G { R.1 with l := M.l.eraseIdx k.toNat ++ R.2.1 } L (wdH { G2 with lv := lv, lc := lc } { R.1 with l := M.l.eraseIdx k.toNat ++ R.2.1 } ++ L) := fun lv lc hv => ⟨{ G2 with lv := lv, lc := lc }, e1, e2, hW2.setL hv, rfl⟩
            simp only [wdH, wdT, wdO, List.cons_append, List.nil_append, e1] at hcl2 ⊢
            rw [he8] at hv2 ⊢
            repeat' (first | (show HW _ _ _ _ _ _; first | apply hw_seq | apply hw_region | refine g_t ?_ | refine g_f ?_ | apply hw_skip | apply hw_ret | refine g_k S ?_ | refine g_w S ?_) | (show HO _ _ _ _ _ _ _; first | apply ho_nil | refine g_q (qe S) ?_ | refine g_q (ql S) ?_ | refine g_q (qs S) ?_ | refine g_q (qb S) ?_ | refine g_q (qbA S) ?_ | refine g_q (qmPv) ?_ | refine g_q (qC (ka)) ?_ | refine g_n ?_ | refine g_on ?_ | refine wa S (fun b => ?_) | refine ws S ?_) | (show HQ _ _ _ _ _ _ _; first | apply hq_nil | refine k_q (qe S) ?_ | refine k_q (ql S) ?_ | refine k_q (qs S) ?_ | refine k_q (qb S) ?_ | refine k_q (qbA S) ?_ | refine k_q (qmPv) ?_ | refine k_q (qC (ka)) ?_ | refine k_n ?_) | (show HD _ _ _ _ _ _ _ _; first | apply hd_nil | refine d_q 100 (by exact rfl) (fun _ => qe S) ?_ | refine d_q 100 (by exact rfl) (fun _ => qb S) ?_ | refine d_q 100 (by exact rfl) (fun _ => qbA S) ?_ | refine d_q 100 (by exact rfl) (fun _ => qmPv) ?_ | refine dl S 100 ?_ | refine ds S 100 ?_ | refine d_n 100 ?_ | refine d_q 0 (by exact rfl) (fun _ => qC (ka)) ?_ | refine d_q 1 (by exact rfl) (fun _ => qC (ka)) ?_ | refine d_q 2 (by exact rfl) (fun _ => qC (ka)) ?_ | refine d_q 3 (by exact rfl) (fun _ => qC (ka)) ?_) | ((first | refine g_b (fun h => ?_) (fun h => ?_) | refine g_s (fun h => ?_) (fun h => ?_) | refine k_s (fun h => ?_) (fun h => ?_) | refine d_sp 100 (fun h => ?_) (fun h => ?_)) <;> ((try simp only [zA, zB, zC, zD, zE, zF, ne_eq, zG, zH, and_true, true_and, eq_self, zI, zJ, zK, reduceCtorEq, zL, zM] at h); (try (exfalso; first | omega | with_reducible exact h (by assumption) | with_reducible exact absurd h (by assumption))))) | (show HD _ _ _ _ _ _ _ _; refine da 101 ?_) | refine dx ?_ | apply dx0 | refine dxd ?_ | refine dxk ?_ | apply seqQ_normal | apply seqQ_ret)
            refine fo 4 ?_
            refine wpA S hv2 (Rd.cons ((hR7 []).mono fun b o hb => ?_) _) fc_len fc_one ?_ (hby := by simp only [List.length_eraseIdx]; split <;> omega) (hmax := by simp only [List.length_eraseIdx]; split <;> omega)
            · exact has_next (has_next (has_next (has_next (has_next (has_next (has_mem (by simpa [Has] using hb)))))))
            intro v'' c'' hv''
            obtain ⟨a9, cap9, rfl, -, -⟩ := hv''.rd fc_len
            repeat' (first | (show HW _ _ _ _ _ _; first | apply hw_seq | apply hw_region | refine g_t ?_ | refine g_f ?_ | apply hw_skip | apply hw_ret | refine g_k S ?_ | refine g_w S ?_) | (show HO _ _ _ _ _ _ _; first | apply ho_nil | refine g_q (qe S) ?_ | refine g_q (ql S) ?_ | refine g_q (qs S) ?_ | refine g_q (qb S) ?_ | refine g_q (qbA S) ?_ | refine g_q (qmPv) ?_ | refine g_q (qC (ka)) ?_ | refine g_n ?_ | refine g_on ?_ | refine wa S (fun b => ?_) | refine ws S ?_) | (show HQ _ _ _ _ _ _ _; first | apply hq_nil | refine k_q (qe S) ?_ | refine k_q (ql S) ?_ | refine k_q (qs S) ?_ | refine k_q (qb S) ?_ | refine k_q (qbA S) ?_ | refine k_q (qmPv) ?_ | refine k_q (qC (ka)) ?_ | refine k_n ?_) | (show HD _ _ _ _ _ _ _ _; first | apply hd_nil | refine d_q 100 (by exact rfl) (fun _ => qe S) ?_ | refine d_q 100 (by exact rfl) (fun _ => qb S) ?_ | refine d_q 100 (by exact rfl) (fun _ => qbA S) ?_ | refine d_q 100 (by exact rfl) (fun _ => qmPv) ?_ | refine dl S 100 ?_ | refine ds S 100 ?_ | refine d_n 100 ?_ | refine d_q 0 (by exact rfl) (fun _ => qC (ka)) ?_ | refine d_q 1 (by exact rfl) (fun _ => qC (ka)) ?_ | refine d_q 2 (by exact rfl) (fun _ => qC (ka)) ?_ | refine d_q 3 (by exact rfl) (fun _ => qC (ka)) ?_) | ((first | refine g_b (fun h => ?_) (fun h => ?_) | refine g_s (fun h => ?_) (fun h => ?_) | refine k_s (fun h => ?_) (fun h => ?_) | refine d_sp 100 (fun h => ?_) (fun h => ?_)) <;> ((try simp only [zA, zB, zC, zD, zE, zF, ne_eq, zG, zH, and_true, true_and, eq_self, zI, zJ, zK, reduceCtorEq, zL, zM] at h); (try (exfalso; first | omega | with_reducible exact h (by assumption) | with_reducible exact absurd h (by assumption))))) | (show HD _ _ _ _ _ _ _ _; refine da 101 ?_) | refine dx ?_ | apply dx0 | refine dxd ?_ | refine dxk ?_ | apply seqQ_normal | apply seqQ_ret)
            exact sp1 (by repeat (first | (with_reducible first | refine LS.p0 ?_ | refine LS.p1 ?_ | refine LS.p2 ?_ | refine LS.p3 ?_ | refine LS.p4 ?_ | refine LS.p5 ?_ | refine LS.p6 ?_ | refine LS.p7 ?_ | refine LS.p8 ?_ | refine LS.p9 ?_ | refine LS.p10 ?_ | refine LS.p11 ?_ | refine LS.p12 ?_ | refine LS.e ?_ | exact LS.refl _) | refine LS.p0 ?_ | refine LS.p1 ?_ | refine LS.p2 ?_ | refine LS.p3 ?_ | refine LS.p4 ?_ | refine LS.p5 ?_ | refine LS.p6 ?_ | refine LS.p7 ?_ | refine LS.p8 ?_ | refine LS.p9 ?_ | refine LS.p10 ?_ | refine LS.p11 ?_ | refine LS.p12 ?_ | (with_reducible refine LS.c ?_))) ⟨rfl, hcl2 _ c'' hv''⟩
          · simp only [wdH, wdT, wdO, List.cons_append, List.nil_append, e7]
            exact (by repeat (first | (with_reducible first | refine LS.p0 ?_ | refine LS.p1 ?_ | refine LS.p2 ?_ | refine LS.p3 ?_ | refine LS.p4 ?_ | refine LS.p5 ?_ | refine LS.p6 ?_ | refine LS.p7 ?_ | refine LS.p8 ?_ | refine LS.p9 ?_ | refine LS.p10 ?_ | refine LS.p11 ?_ | refine LS.p12 ?_ | refine LS.e ?_ | exact LS.refl _) | refine LS.p0 ?_ | refine LS.p1 ?_ | refine LS.p2 ?_ | refine LS.p3 ?_ | refine LS.p4 ?_ | refine LS.p5 ?_ | refine LS.p6 ?_ | refine LS.p7 ?_ | refine LS.p8 ?_ | refine LS.p9 ?_ | refine LS.p10 ?_ | refine LS.p11 ?_ | refine LS.p12 ?_ | (with_reducible refine LS.c ?_)))
end Go.HL
end

/-! WoT -/
section
namespace Go.HL
open Go Go.Proofs
set_option linter.unusedVariables false
set_option linter.unusedSimpArgs false
theorem wdP_shut {G G' : WdG} {M M1 : Wm} {s : Int} {g' : NdG} {m' : Nd} (L : Heap) (hl : G.nd.length = M.n.length) (h0 : 0 ≤ s) (h1 : s < M.n.length) (hW : WdOk G' M1) (e1 : G'.nd = G.nd) (e2 : M1.n = M.n) (e3 : G'.wp = G.wp) (hN : NdOk g' m') (e4 : g'.np = (npAt G s).np) :
    ∃ L', WdP G (setN M1 s m') L L' ∧ LS L'.flatten (wdOp G' s g' m' (ndsX G.nd M.n 0 s.toNat) L).flatten := by
  have hnp : g'.np = (npAt G' s).np := by rw [e4]; unfold npAt; rw [e1]
  refine ⟨wdH { G' with nd := G'.nd.set s.toNat g' } (setN M1 s m') ++ L, ⟨{ G' with nd := G'.nd.set s.toNat g' }, e3, ?_, hW.put h0 (by rw [e2]; exact h1) hN hnp, rfl⟩, ?_⟩
  · simp only
    rw [← e1]
    exact nps_set h0 (by rw [e1]; omega) hnp
  · simp only [wdH, setN, e1, e2]
    exact wd_close (G := G') h0 (by omega) (by omega) L
theorem LS.cutAt {a A x B : List Blk} {L L1 : Heap} (k0 : Nat) (h : LS a (A :: B :: L1).flatten) (hp : pickL k0 L = some (A ++ (x ++ B), L1) := by exact rfl) : LS a L.flatten := by
  refine LS.trans h (LS.trans ?_ (LS.of_perm (pickL_perm hp).symm.flatten))
  simp only [List.flatten_cons, List.append_assoc]
  exact LS.boths A (LS.skips x (LS.refl _))
theorem startM_len (m : Ld) : (startM m).length ≤ m.w.length := by
  unfold startM
  split <;> exact flat_len_le _ (allF_le m _ _) _
theorem leadE_none {M : Wm} (h : WI M) {s d a : Int} (h0 : 0 ≤ s) (h1 : s < M.n.length) (hd : 0 ≤ d ∧ d < 6) (ha : a ≤ 1048576) : leadE s d M.w a = none := by
  unfold leadE
  rw [h.w0]
  have := h.wn
  simp only
  rw [if_neg (by omega)]
theorem busy_any {M : Wm} {d : Int} {i : Nat} (hi : i < M.n.length) (hb : isBusy d (ndAt M (i : Int)) = true) : M.n.any (isBusy d) = true := by
  rw [List.any_eq_true]
  refine ⟨_, ?_, hb⟩
  unfold ndAt
  simp only [Int.toNat_natCast]
  rw [List.getD, List.getElem?_eq_getElem hi]
  exact List.getElem_mem _
theorem busy_none {M : Wm} {d : Int} (h : ∀ i, i < M.n.length → isBusy d (ndAt M (i : Int)) = false) : M.n.any (isBusy d) = false := by
  rw [List.any_eq_false]
  intro x hx
  obtain ⟨i, hi, rfl⟩ := List.mem_iff_getElem.1 hx
  have := h i hi
  unfold ndAt at this
  simp only [Int.toNat_natCast] at this
  rw [List.getD, List.getElem?_eq_getElem hi] at this
  simp only [Option.getD_some] at this
  rw [this]
  simp
attribute [local irreducible] HW HO HQ HD HC QOp Has Upd Puts Gets seqQ blkQ loopQ fnQ actQ nextP unQ MapF
attribute [local irreducible] ndL jcells plC siteM ldL openM
theorem wbegin_calls (T : Nat) (E : Nat → Addr) (G : WdG) (M : Wm) (s d : Int) (L : Heap) (hG : Er T E [2, 3, 4, 6, 8] L) (hW : WdOk G M) (hM : WI M) (hl : M.l.length ≤ 99999999) :
    HC Tryz.prog 21 [pt G.wp 0, iv s, iv d] (wdH G M ++ L) (fun v L' => v = eV T E (beginW M s d).2 ∧ WdP G (beginW M s d).1 L L') := by
  unfold beginW
  have hself := wdP_self hW L
  have hI := wd_in hW L
  have hwn := hM.wn
  have hwl := hM.wl
  obtain ⟨an, capn, hnv, hnr⟩ := hI.ns
  by_cases h : d < 0 ∨ 6 ≤ d ∨ s < 0 ∨ M.n.length ≤ s
  · simp only [if_pos h]
    have hG' := er_wdH hG G M
    have hw := hI.wp
    unfold wdO at hw
    rw [hnv] at hw
    generalize wdH G M ++ L = H at *
    refine hc_enter (fun _ _ => Tryz.call21 _ _) Tryz.func21 rfl Tryz.ntmps21 (Nat.le_of_ble_eq_true rfl) ?_; simp only [args0, Nat.reduceAdd]
    repeat' (first | (show HW _ _ _ _ _ _; first | apply hw_seq | apply hw_region | apply hw_block | apply hw_exit | refine g_t ?_ | refine g_f ?_ | apply hw_skip | apply hw_ret | refine g_k S ?_ | refine g_w S ?_) | (show HO _ _ _ _ _ _ _; first | apply ho_nil | refine g_q (qe S) ?_ | refine g_q (qg S) ?_ | refine g_q (ql S) ?_ | refine g_q (qs S) ?_ | refine g_q (qb S) ?_ | refine g_q (qbA S) ?_ | refine g_q (qB S) ?_ | refine g_n ?_ | refine g_on ?_ | refine wa S (fun b => ?_) | refine ws S ?_) | (show HQ _ _ _ _ _ _ _; first | apply hq_nil | refine k_q (qe S) ?_ | refine k_q (qg S) ?_ | refine k_q (ql S) ?_ | refine k_q (qs S) ?_ | refine k_q (qb S) ?_ | refine k_q (qbA S) ?_ | refine k_q (qB S) ?_ | refine k_n ?_) | (show HD _ _ _ _ _ _ _ _; first | apply hd_nil | refine d_q 100 (by exact rfl) (fun _ => qe S) ?_ | refine d_q 100 (by exact rfl) (fun _ => qb S) ?_ | refine d_q 100 (by exact rfl) (fun _ => qbA S) ?_ | refine d_q 100 (by exact rfl) (fun _ => qB S) ?_ | refine dl S 100 ?_ | refine ds S 100 ?_ | refine dg S 100 (fun _ _ => ?_) | refine d_n 100 ?_) | ((first | refine g_b (fun h => ?_) (fun h => ?_) | refine g_s (fun h => ?_) (fun h => ?_) | refine k_s (fun h => ?_) (fun h => ?_) | refine d_sp 100 (fun h => ?_) (fun h => ?_)) <;> ((try simp only [zA, zB, zC, zD, zE, zF, ne_eq, zG, zH, and_true, true_and, eq_self, zI, zJ, zK, reduceCtorEq, zL, zM] at h); (try (exfalso; first | omega | with_reducible exact h (by assumption) | with_reducible exact absurd h (by assumption))))) | (show HD _ _ _ _ _ _ _ _; refine da 101 ?_) | refine dx ?_ | apply dx0 | refine dxd ?_ | refine dxk ?_ | apply seqQ_normal | apply seqQ_ret | apply seqQ_exit | apply blkQ_here | refine g_bx ?_ | apply blkQ_ret | apply blkQ_normal | apply loopQ_ret | apply loopQ_exit | apply unQ_ret | apply unQ_exit | apply unQ_succ)
    all_goals exact er1 rfl ⟨rfl, hself⟩
  simp only [if_neg h]
  rcases up_err (M := M) (s := s) with ⟨e, he⟩ | ⟨he, hn, h0, h1, j, ref, hs⟩
  · have ku := kup_H s hG.sub hW
    have hG' := er_wdH hG G M
    have hw := hI.wp
    unfold wdO at hw
    rw [hnv] at hw
    generalize wdH G M ++ L = H at *
    simp only [he] at ku ⊢
    refine hc_enter (fun _ _ => Tryz.call21 _ _) Tryz.func21 rfl Tryz.ntmps21 (Nat.le_of_ble_eq_true rfl) ?_; simp only [args0, Nat.reduceAdd]
    repeat' (first | (show HW _ _ _ _ _ _; first | apply hw_seq | apply hw_region | apply hw_block | apply hw_exit | refine g_t ?_ | refine g_f ?_ | apply hw_skip | apply hw_ret | refine g_k S ?_ | refine g_w S ?_) | (show HO _ _ _ _ _ _ _; first | apply ho_nil | refine g_q (qe S) ?_ | refine g_q (qg S) ?_ | refine g_q (ql S) ?_ | refine g_q (qs S) ?_ | refine g_q (qb S) ?_ | refine g_q (qbA S) ?_ | refine g_q (qB S) ?_ | refine g_q (qC (ku)) ?_ | refine g_n ?_ | refine g_on ?_ | refine wa S (fun b => ?_) | refine ws S ?_) | (show HQ _ _ _ _ _ _ _; first | apply hq_nil | refine k_q (qe S) ?_ | refine k_q (qg S) ?_ | refine k_q (ql S) ?_ | refine k_q (qs S) ?_ | refine k_q (qb S) ?_ | refine k_q (qbA S) ?_ | refine k_q (qB S) ?_ | refine k_q (qC (ku)) ?_ | refine k_n ?_) | (show HD _ _ _ _ _ _ _ _; first | apply hd_nil | refine d_q 100 (by exact rfl) (fun _ => qe S) ?_ | refine d_q 100 (by exact rfl) (fun _ => qb S) ?_ | refine d_q 100 (by exact rfl) (fun _ => qbA S) ?_ | refine d_q 100 (by exact rfl) (fun _ => qB S) ?_ | refine dl S 100 ?_ | refine ds S 100 ?_ | refine dg S 100 (fun _ _ => ?_) | refine d_n 100 ?_ | refine d_q 0 (by exact rfl) (fun _ => qC (ku)) ?_ | refine d_q 1 (by exact rfl) (fun _ => qC (ku)) ?_ | refine d_q 2 (by exact rfl) (fun _ => qC (ku)) ?_ | refine d_q 3 (by exact rfl) (fun _ => qC (ku)) ?_) | ((first | refine g_b (fun h => ?_) (fun h => ?_) | refine g_s (fun h => ?_) (fun h => ?_) | refine k_s (fun h => ?_) (fun h => ?_) | refine d_sp 100 (fun h => ?_) (fun h => ?_)) <;> ((try simp only [zA, zB, zC, zD, zE, zF, ne_eq, zG, zH, and_true, true_and, eq_self, zI, zJ, zK, reduceCtorEq, zL, zM] at h); (try (exfalso; first | omega | with_reducible exact h (by assumption) | with_reducible exact absurd h (by assumption))))) | (show HD _ _ _ _ _ _ _ _; refine da 101 ?_) | refine dx ?_ | apply dx0 | refine dxd ?_ | refine dxk ?_ | apply seqQ_normal | apply seqQ_ret | apply seqQ_exit | apply blkQ_here | refine g_bx ?_ | apply blkQ_ret | apply blkQ_normal | apply loopQ_ret | apply loopQ_exit | apply unQ_ret | apply unQ_exit | apply unQ_succ)
    exact er1 rfl ⟨rfl, hself⟩
  · simp only [he]
    have ku := kup_H s hG.sub hW
    have hG' := er_wdH hG G M
    have hw := hI.wp
    unfold wdO at hw
    rw [hnv] at hw
    generalize hH : wdH G M ++ L = H at *
    simp only [he, upV_up hn] at ku
    refine hc_enter (fun _ _ => Tryz.call21 _ _) Tryz.func21 rfl Tryz.ntmps21 (Nat.le_of_ble_eq_true rfl) ?_; simp only [args0, Nat.reduceAdd]
    repeat' (first | (show HW _ _ _ _ _ _; first | apply hw_seq | apply hw_region | apply hw_block | apply hw_exit | refine g_t ?_ | refine g_f ?_ | apply hw_skip | apply hw_ret | refine g_k S ?_ | refine g_w S ?_) | (show HO _ _ _ _ _ _ _; first | apply ho_nil | refine g_q (qe S) ?_ | refine g_q (qg S) ?_ | refine g_q (ql S) ?_ | refine g_q (qs S) ?_ | refine g_q (qb S) ?_ | refine g_q (qbA S) ?_ | refine g_q (qB S) ?_ | refine g_q (qC (ku)) ?_ | refine g_n ?_ | refine g_on ?_ | refine wa S (fun b => ?_) | refine ws S ?_) | (show HQ _ _ _ _ _ _ _; first | apply hq_nil | refine k_q (qe S) ?_ | refine k_q (qg S) ?_ | refine k_q (ql S) ?_ | refine k_q (qs S) ?_ | refine k_q (qb S) ?_ | refine k_q (qbA S) ?_ | refine k_q (qB S) ?_ | refine k_q (qC (ku)) ?_ | refine k_n ?_) | (show HD _ _ _ _ _ _ _ _; first | apply hd_nil | refine d_q 100 (by exact rfl) (fun _ => qe S) ?_ | refine d_q 100 (by exact rfl) (fun _ => qb S) ?_ | refine d_q 100 (by exact rfl) (fun _ => qbA S) ?_ | refine d_q 100 (by exact rfl) (fun _ => qB S) ?_ | refine dl S 100 ?_ | refine ds S 100 ?_ | refine dg S 100 (fun _ _ => ?_) | refine d_n 100 ?_ | refine d_q 0 (by exact rfl) (fun _ => qC (ku)) ?_ | refine d_q 1 (by exact rfl) (fun _ => qC (ku)) ?_ | refine d_q 2 (by exact rfl) (fun _ => qC (ku)) ?_ | refine d_q 3 (by exact rfl) (fun _ => qC (ku)) ?_) | ((first | refine g_b (fun h => ?_) (fun h => ?_) | refine g_s (fun h => ?_) (fun h => ?_) | refine k_s (fun h => ?_) (fun h => ?_) | refine d_sp 100 (fun h => ?_) (fun h => ?_)) <;> ((try simp only [zA, zB, zC, zD, zE, zF, ne_eq, zG, zH, and_true, true_and, eq_self, zI, zJ, zK, reduceCtorEq, zL, zM] at h); (try (exfalso; first | omega | with_reducible exact h (by assumption) | with_reducible exact absurd h (by assumption))))) | (show HD _ _ _ _ _ _ _ _; refine da 101 ?_) | refine dx ?_ | apply dx0 | refine dxd ?_ | refine dxk ?_ | apply seqQ_normal | apply seqQ_ret | apply seqQ_exit | apply blkQ_here | refine g_bx ?_ | apply blkQ_ret | apply blkQ_normal | apply loopQ_ret | apply loopQ_exit | apply unQ_ret | apply unQ_exit | apply unQ_succ)
    have hB : ∀ {i : Int} (h0 : 0 ≤ i) (h1 : i < M.n.length) {b : Nat} {o : Obj}, (b, o) ∈ ndA (npAt G i) i (ndAt M i) → Has H b o := fun {i} h0 h1 {b o} hb => by
      have := wd_has hW.ndl h0 h1 hb L
      subst hH
      unfold Has wdH at *
      rw [List.append_assoc, List.flatten_append]
      exact List.mem_append_right _ this
    obtain ⟨dn, rfl⟩ := Int.eq_ofNat_of_zero_le (show 0 ≤ d by omega)
    have hd6 : dn < 6 := by omega
    refine hw_loop (σ := Nat) (fun i => [(0, pt G.wp 0), (1, iv s), (2, iv dn), (7, pt (npAt G s).np 0), (45, .slice an M.n.length capn), (46, iv M.n.length), (47, iv i)]) (fun _ => H) (fun i => i ≤ M.n.length ∧ ∀ k, k < i → isBusy dn (ndAt M (k : Int)) = false) (fun i => M.n.length - i) 0 (by repeat (first | exact trivial | refine ⟨rfl, ?_⟩)) (List.Sublist.refl _) ⟨by simp, fun k hk => by omega⟩ ?_
    rintro i ⟨hi, hfree⟩
    by_cases hlt : i < M.n.length
    · have hBi := fun {b o} => hB (i := (i : Int)) (by omega) (by omega) (b := b) (o := o)
      have hni := wi_at hM (s := (i : Int)) (by omega) (by omega)
      have hok := wdOk_at hW (s := (i : Int)) (by omega) (by omega)
      obtain ⟨⟨b, bi, l, F, fr, cap2, e7, hb, hg2⟩, -, -⟩ := npIn_of hW (s := (i : Int)) (by omega) (by omega) (H := H) (fun b o hb => by
        subst hH
        simp only [Has, wdH, wdT, List.flatten_cons, List.cons_append, List.nil_append]
        simp [hb])
      rw [hnv] at e7
      obtain ⟨rfl, -, rfl⟩ := Value.slice.inj e7
      have hNi : Has H (npAt G i).np (ndO (npAt G i) (ndAt M i)) := hBi (by simp [ndA, ndB])
      have kst := wstate_calls T E G M i dn H hG'.sub hI hW.ndl (fun _ => hNi) (fun _ => ⟨by rw [hni.b512]; omega, by rw [hni.b512]; omega, fun p hp => hBi (by
        unfold ndA plC
        simp only [List.mem_cons, List.not_mem_nil, or_false] at hp
        rcases hp with rfl | rfl
        · simp [plB]
        · simp [plD])⟩)
      have e1 : wstateE M i dn = none := by
        unfold wstateE
        rw [nodeE_ok (by omega) (by omega)]
        simp only
        rw [if_neg (by omega)]
      have e2 : wstate M i dn = plSt (ndAt M i).pl dn := by unfold wstate; rw [e1]
      rw [e1, e2] at kst
      have hm1 : (ndAt M i).leads[dn]? = some ((ndAt M i).leads.getD dn none) := getD_some (by rw [hni.leads]; exact hd6)
      obtain ⟨q, hq⟩ : ∃ q, (npAt G i).ld[dn]? = some q := ⟨_, List.getElem?_eq_getElem (by rw [hok.ld]; exact hd6)⟩
      have hv := ldVs_at hm1 hq
      have gL := ndL_lead (sv := stV (npAt G i) (ndAt M i).site) (bp := (npAt G i).bp) (dn := (ndAt M i).done) hv
      have hbz : isBusy dn (ndAt M i) = (decide (plSt (ndAt M i).pl dn ≠ zeroS) || ((ndAt M i).leads.getD dn none).isSome) := rfl
      have hbu := busy_any (M := M) (d := dn) hlt
      unfold ndO at hNi
      generalize hmi : ndAt M i = m at *
      generalize npAt G i = g at *
      generalize plSt m.pl dn = st at *
      obtain ⟨ph, pr, att⟩ := st
      cases hx : m.leads.getD dn none with
      | some x =>
        rw [hx] at gL hbz
        simp only [ldV] at gL
        have hb1 : isBusy dn m = true := by rw [hbz]; simp
        rw [if_pos (hbu hb1)]
        repeat' (first | (show HW _ _ _ _ _ _; first | apply hw_seq | apply hw_region | apply hw_block | apply hw_exit | refine g_t ?_ | refine g_f ?_ | apply hw_skip | apply hw_ret | refine g_k S ?_ | refine g_w S ?_) | (show HO _ _ _ _ _ _ _; first | apply ho_nil | refine g_q (qe S) ?_ | refine g_q (qg S) ?_ | refine g_q (ql S) ?_ | refine g_q (qs S) ?_ | refine g_q (qb S) ?_ | refine g_q (qbA S) ?_ | refine g_q (qB S) ?_ | refine g_q (qC (kst)) ?_ | refine g_n ?_ | refine g_on ?_ | refine wa S (fun b => ?_) | refine ws S ?_) | (show HQ _ _ _ _ _ _ _; first | apply hq_nil | refine k_q (qe S) ?_ | refine k_q (qg S) ?_ | refine k_q (ql S) ?_ | refine k_q (qs S) ?_ | refine k_q (qb S) ?_ | refine k_q (qbA S) ?_ | refine k_q (qB S) ?_ | refine k_q (qC (kst)) ?_ | refine k_n ?_) | (show HD _ _ _ _ _ _ _ _; first | apply hd_nil | refine d_q 100 (by exact rfl) (fun _ => qe S) ?_ | refine d_q 100 (by exact rfl) (fun _ => qb S) ?_ | refine d_q 100 (by exact rfl) (fun _ => qbA S) ?_ | refine d_q 100 (by exact rfl) (fun _ => qB S) ?_ | refine dl S 100 ?_ | refine ds S 100 ?_ | refine dg S 100 (fun _ _ => ?_) | refine d_n 100 ?_ | refine d_q 0 (by exact rfl) (fun _ => qC (kst)) ?_ | refine d_q 1 (by exact rfl) (fun _ => qC (kst)) ?_ | refine d_q 2 (by exact rfl) (fun _ => qC (kst)) ?_ | refine d_q 3 (by exact rfl) (fun _ => qC (kst)) ?_) | ((first | refine g_b (fun h => ?_) (fun h => ?_) | refine g_s (fun h => ?_) (fun h => ?_) | refine k_s (fun h => ?_) (fun h => ?_) | refine d_sp 100 (fun h => ?_) (fun h => ?_)) <;> ((try simp only [zA, zB, zC, zD, zE, zF, ne_eq, zG, zH, and_true, true_and, eq_self, zI, zJ, zK, reduceCtorEq, zL, zM] at h); (try (exfalso; first | omega | with_reducible exact h (by assumption) | with_reducible exact absurd h (by assumption))))) | (show HD _ _ _ _ _ _ _ _; refine da 101 ?_) | refine dx ?_ | apply dx0 | refine dxd ?_ | refine dxk ?_ | apply seqQ_normal | apply seqQ_ret | apply seqQ_exit | apply blkQ_here | refine g_bx ?_ | apply blkQ_ret | apply blkQ_normal | apply loopQ_ret | apply loopQ_exit | apply unQ_ret | apply unQ_exit | apply unQ_succ)
        all_goals exact sp1 (LS.c (LS.refl _)) ⟨rfl, hself⟩
      | none =>
        rw [hx] at gL hbz
        simp only [ldV] at gL
        by_cases hz : ph = 0 ∧ pr = 0 ∧ att = 0
        · obtain ⟨rfl, rfl, rfl⟩ := hz
          have hb0 : isBusy dn m = false := by rw [hbz]; rfl
          repeat' (first | (show HW _ _ _ _ _ _; first | apply hw_seq | apply hw_region | apply hw_block | apply hw_exit | refine g_t ?_ | refine g_f ?_ | apply hw_skip | apply hw_ret | refine g_k S ?_ | refine g_w S ?_) | (show HO _ _ _ _ _ _ _; first | apply ho_nil | refine g_q (qe S) ?_ | refine g_q (qg S) ?_ | refine g_q (ql S) ?_ | refine g_q (qs S) ?_ | refine g_q (qb S) ?_ | refine g_q (qbA S) ?_ | refine g_q (qB S) ?_ | refine g_q (qC (kst)) ?_ | refine g_n ?_ | refine g_on ?_ | refine wa S (fun b => ?_) | refine ws S ?_) | (show HQ _ _ _ _ _ _ _; first | apply hq_nil | refine k_q (qe S) ?_ | refine k_q (qg S) ?_ | refine k_q (ql S) ?_ | refine k_q (qs S) ?_ | refine k_q (qb S) ?_ | refine k_q (qbA S) ?_ | refine k_q (qB S) ?_ | refine k_q (qC (kst)) ?_ | refine k_n ?_) | (show HD _ _ _ _ _ _ _ _; first | apply hd_nil | refine d_q 100 (by exact rfl) (fun _ => qe S) ?_ | refine d_q 100 (by exact rfl) (fun _ => qb S) ?_ | refine d_q 100 (by exact rfl) (fun _ => qbA S) ?_ | refine d_q 100 (by exact rfl) (fun _ => qB S) ?_ | refine dl S 100 ?_ | refine ds S 100 ?_ | refine dg S 100 (fun _ _ => ?_) | refine d_n 100 ?_ | refine d_q 0 (by exact rfl) (fun _ => qC (kst)) ?_ | refine d_q 1 (by exact rfl) (fun _ => qC (kst)) ?_ | refine d_q 2 (by exact rfl) (fun _ => qC (kst)) ?_ | refine d_q 3 (by exact rfl) (fun _ => qC (kst)) ?_) | ((first | refine g_b (fun h => ?_) (fun h => ?_) | refine g_s (fun h => ?_) (fun h => ?_) | refine k_s (fun h => ?_) (fun h => ?_) | refine d_sp 100 (fun h => ?_) (fun h => ?_)) <;> ((try simp only [zA, zB, zC, zD, zE, zF, ne_eq, zG, zH, and_true, true_and, eq_self, zI, zJ, zK, reduceCtorEq, zL, zM] at h); (try (exfalso; first | omega | with_reducible exact h (by assumption) | with_reducible exact absurd h (by assumption))))) | (show HD _ _ _ _ _ _ _ _; refine da 101 ?_) | refine dx ?_ | apply dx0 | refine dxd ?_ | refine dxk ?_ | apply seqQ_normal | apply seqQ_ret | apply seqQ_exit | apply blkQ_here | refine g_bx ?_ | apply blkQ_ret | apply blkQ_normal | apply loopQ_ret | apply loopQ_exit | apply unQ_ret | apply unQ_exit | apply unQ_succ)
          all_goals refine loopQ_sp (i + 1) (by repeat (first | exact trivial | refine ⟨rfl, ?_⟩)) (LS.c (LS.refl _)) ⟨by omega, fun k hk => ?_⟩ (by omega)
          all_goals by_cases e : k = i
          all_goals first | (subst e; rw [hmi]; exact hb0; done) | exact hfree k (by omega)
        · have hb1 : isBusy dn m = true := by
            rw [hbz, decide_eq_true]
            · rfl
            · intro e
              cases e
              exact hz ⟨rfl, rfl, rfl⟩
          rw [if_pos (hbu hb1)]
          repeat' (first | (show HW _ _ _ _ _ _; first | apply hw_seq | apply hw_region | apply hw_block | apply hw_exit | refine g_t ?_ | refine g_f ?_ | apply hw_skip | apply hw_ret | refine g_k S ?_ | refine g_w S ?_) | (show HO _ _ _ _ _ _ _; first | apply ho_nil | refine g_q (qe S) ?_ | refine g_q (qg S) ?_ | refine g_q (ql S) ?_ | refine g_q (qs S) ?_ | refine g_q (qb S) ?_ | refine g_q (qbA S) ?_ | refine g_q (qB S) ?_ | refine g_q (qC (kst)) ?_ | refine g_n ?_ | refine g_on ?_ | refine wa S (fun b => ?_) | refine ws S ?_) | (show HQ _ _ _ _ _ _ _; first | apply hq_nil | refine k_q (qe S) ?_ | refine k_q (qg S) ?_ | refine k_q (ql S) ?_ | refine k_q (qs S) ?_ | refine k_q (qb S) ?_ | refine k_q (qbA S) ?_ | refine k_q (qB S) ?_ | refine k_q (qC (kst)) ?_ | refine k_n ?_) | (show HD _ _ _ _ _ _ _ _; first | apply hd_nil | refine d_q 100 (by exact rfl) (fun _ => qe S) ?_ | refine d_q 100 (by exact rfl) (fun _ => qb S) ?_ | refine d_q 100 (by exact rfl) (fun _ => qbA S) ?_ | refine d_q 100 (by exact rfl) (fun _ => qB S) ?_ | refine dl S 100 ?_ | refine ds S 100 ?_ | refine dg S 100 (fun _ _ => ?_) | refine d_n 100 ?_ | refine d_q 0 (by exact rfl) (fun _ => qC (kst)) ?_ | refine d_q 1 (by exact rfl) (fun _ => qC (kst)) ?_ | refine d_q 2 (by exact rfl) (fun _ => qC (kst)) ?_ | refine d_q 3 (by exact rfl) (fun _ => qC (kst)) ?_) | ((first | refine g_b (fun h => ?_) (fun h => ?_) | refine g_s (fun h => ?_) (fun h => ?_) | refine k_s (fun h => ?_) (fun h => ?_) | refine d_sp 100 (fun h => ?_) (fun h => ?_)) <;> ((try simp only [zA, zB, zC, zD, zE, zF, ne_eq, zG, zH, and_true, true_and, eq_self, zI, zJ, zK, reduceCtorEq, zL, zM] at h); (try (exfalso; first | omega | with_reducible exact h (by assumption) | with_reducible exact absurd h (by assumption))))) | (show HD _ _ _ _ _ _ _ _; refine da 101 ?_) | refine dx ?_ | apply dx0 | refine dxd ?_ | refine dxk ?_ | apply seqQ_normal | apply seqQ_ret | apply seqQ_exit | apply blkQ_here | refine g_bx ?_ | apply blkQ_ret | apply blkQ_normal | apply loopQ_ret | apply loopQ_exit | apply unQ_ret | apply unQ_exit | apply unQ_succ)
          all_goals first | exact sp1 (LS.c (LS.refl _)) ⟨rfl, hself⟩ | (exfalso; simp_all; done)
    · obtain rfl : i = M.n.length := by omega
      have hany : M.n.any (isBusy (dn : Int)) = false := busy_none hfree
      simp only [hany, Bool.false_eq_true, if_false]
      subst hH
      obtain ⟨aw, capw, hwv, -, hwr⟩ := hW.w.rd ic_len
      obtain ⟨al, capl, hlv5, -, hlr⟩ := hW.l.rd fc_len
      have hvl := hW.l
      have hok := wdOk_at hW h0 h1
      have hni := wi_at hM h0 h1
      have hm1 : (ndAt M s).leads[dn]? = some ((ndAt M s).leads.getD dn none) := getD_some (by rw [hni.leads]; exact hd6)
      obtain ⟨q, hq⟩ : ∃ q, (npAt G s).ld[dn]? = some q := ⟨_, List.getElem?_eq_getElem (by rw [hok.ld]; exact hd6)⟩
      have hv := ldVs_at hm1 hq
      obtain ⟨A, B, eA, eB⟩ := lds_open hm1 hq
      have hlE := leadE_none hM (s := s) (d := dn) (a := 0) h0 h1 ⟨by omega, by omega⟩ (by omega)
      have kb := fun L hG hR => begin_calls T E s dn aw capw M.w L hG hR (by omega)
      rw [hlE] at kb
      rw [hlv5] at hvl
      have hsl := startM_len (newLd s dn M.w 0 2)
      have hslw : (newLd s dn M.w 0 2).w = M.w := rfl
      rw [hslw] at hsl
      have hsh := fun G' M1 g' m' a b c d e f => wdP_shut (G := G) (G' := G') (M := M) (M1 := M1) (s := s) (g' := g') (m' := m') L hW.ndl h0 h1 a b c d e f
      have hWL := fun {lv lc l} hv => hW.setL (lv := lv) (lc := lc) (l := l) hv
      have hlv : (ldVs (npAt G s) (ndAt M s)).length = 6 := by simp [ldVs, hni.leads, hok.ld]
      refine hw_sp (L' := wdOp G s (npAt G s) (ndAt M s) (ndsX G.nd M.n 0 s.toNat) L) ?_ (wd_open hW.ndl h0 h1 L)
      generalize ndsX G.nd M.n 0 s.toNat = X at *
      generalize hmm : ndAt M s = m at *
      generalize hgg : npAt G s = g at *
      obtain ⟨pl, site, leads, done⟩ := m
      simp only at hs hm1 hlv
      subst hs
      simp only [wdOp, ndB, ndO, stV, siS, siN, siJ, wdO]
      rw [hwv, hnv, hlv5]
      repeat' (first | (show HW _ _ _ _ _ _; first | apply hw_seq | apply hw_region | apply hw_block | apply hw_exit | refine g_t ?_ | refine g_f ?_ | apply hw_skip | apply hw_ret | refine g_k S ?_ | refine g_w S ?_) | (show HO _ _ _ _ _ _ _; first | apply ho_nil | refine g_q (qe S) ?_ | refine g_q (qg S) ?_ | refine g_q (ql S) ?_ | refine g_q (qs S) ?_ | refine g_q (qb S) ?_ | refine g_q (qbA S) ?_ | refine g_q (qB S) ?_ | refine g_q (qC (ku)) ?_ | refine g_n ?_ | refine g_on ?_ | refine wa S (fun b => ?_) | refine ws S ?_) | (show HQ _ _ _ _ _ _ _; first | apply hq_nil | refine k_q (qe S) ?_ | refine k_q (qg S) ?_ | refine k_q (ql S) ?_ | refine k_q (qs S) ?_ | refine k_q (qb S) ?_ | refine k_q (qbA S) ?_ | refine k_q (qB S) ?_ | refine k_q (qC (ku)) ?_ | refine k_n ?_) | (show HD _ _ _ _ _ _ _ _; first | apply hd_nil | refine d_q 100 (by exact rfl) (fun _ => qe S) ?_ | refine d_q 100 (by exact rfl) (fun _ => qb S) ?_ | refine d_q 100 (by exact rfl) (fun _ => qbA S) ?_ | refine d_q 100 (by exact rfl) (fun _ => qB S) ?_ | refine dl S 100 ?_ | refine ds S 100 ?_ | refine dg S 100 (fun _ _ => ?_) | refine d_n 100 ?_ | refine d_q 0 (by exact rfl) (fun _ => qC (ku)) ?_ | refine d_q 1 (by exact rfl) (fun _ => qC (ku)) ?_ | refine d_q 2 (by exact rfl) (fun _ => qC (ku)) ?_ | refine d_q 3 (by exact rfl) (fun _ => qC (ku)) ?_) | ((first | refine g_b (fun h => ?_) (fun h => ?_) | refine g_s (fun h => ?_) (fun h => ?_) | refine k_s (fun h => ?_) (fun h => ?_) | refine d_sp 100 (fun h => ?_) (fun h => ?_)) <;> ((try simp only [zA, zB, zC, zD, zE, zF, ne_eq, zG, zH, and_true, true_and, eq_self, zI, zJ, zK, reduceCtorEq, zL, zM] at h); (try (exfalso; first | omega | with_reducible exact h (by assumption) | with_reducible exact absurd h (by assumption))))) | (show HD _ _ _ _ _ _ _ _; refine da 101 ?_) | refine dx ?_ | apply dx0 | refine dxd ?_ | refine dxk ?_ | apply seqQ_normal | apply seqQ_ret | apply seqQ_exit | apply blkQ_here | refine g_bx ?_ | apply blkQ_ret | apply blkQ_normal | apply loopQ_ret | apply loopQ_exit | apply unQ_ret | apply unQ_exit | apply unQ_succ)
      refine d_q 4 (by exact rfl) (fun _ => qe S) ?_
      refine d_q 4 (by exact rfl) (fun _ => qe S) ?_
      refine da 101 ?_
      refine gc (kb _ (by repeat (first | exact hG | exact hG.sub | apply Errs.cons)) ?_) ?_
      · repeat (first | exact hwr _ | apply Rd.cons)
      rintro v L' ⟨lp, wv', wc', rfl, hLd, rfl⟩
      have gP := ndL_put1 (sv := pt g.sp 0) (bp := g.bp) (lv := ldVs g ⟨pl, some (j, ref), leads, done⟩) (dn := done) (d := dn) (pt lp 0) (by omega)
      have gL2 := ndL_lead (sv := pt g.sp 0) (bp := g.bp) (lv := (ldVs g ⟨pl, some (j, ref), leads, done⟩).set dn (pt lp 0)) (dn := done) (d := dn) (v := pt lp 0) (by simp [hlv, hd6])
      have kst := fun L => start_calls lp wv' wc' (newLd s dn M.w 0 2) L hLd
      repeat' (first | (show HW _ _ _ _ _ _; first | apply hw_seq | apply hw_region | apply hw_block | apply hw_exit | refine g_t ?_ | refine g_f ?_ | apply hw_skip | apply hw_ret | refine g_k S ?_ | refine g_w S ?_) | (show HO _ _ _ _ _ _ _; first | apply ho_nil | refine g_q (qe S) ?_ | refine g_q (qg S) ?_ | refine g_q (ql S) ?_ | refine g_q (qs S) ?_ | refine g_q (qb S) ?_ | refine g_q (qbA S) ?_ | refine g_q (qB S) ?_ | refine g_q (qC (ku)) ?_ | refine g_n ?_ | refine g_on ?_ | refine wa S (fun b => ?_) | refine ws S ?_) | (show HQ _ _ _ _ _ _ _; first | apply hq_nil | refine k_q (qe S) ?_ | refine k_q (qg S) ?_ | refine k_q (ql S) ?_ | refine k_q (qs S) ?_ | refine k_q (qb S) ?_ | refine k_q (qbA S) ?_ | refine k_q (qB S) ?_ | refine k_q (qC (ku)) ?_ | refine k_n ?_) | (show HD _ _ _ _ _ _ _ _; first | apply hd_nil | refine d_q 100 (by exact rfl) (fun _ => qe S) ?_ | refine d_q 100 (by exact rfl) (fun _ => qb S) ?_ | refine d_q 100 (by exact rfl) (fun _ => qbA S) ?_ | refine d_q 100 (by exact rfl) (fun _ => qB S) ?_ | refine dl S 100 ?_ | refine ds S 100 ?_ | refine dg S 100 (fun _ _ => ?_) | refine d_n 100 ?_ | refine d_q 0 (by exact rfl) (fun _ => qC (ku)) ?_ | refine d_q 1 (by exact rfl) (fun _ => qC (ku)) ?_ | refine d_q 2 (by exact rfl) (fun _ => qC (ku)) ?_ | refine d_q 3 (by exact rfl) (fun _ => qC (ku)) ?_) | ((first | refine g_b (fun h => ?_) (fun h => ?_) | refine g_s (fun h => ?_) (fun h => ?_) | refine k_s (fun h => ?_) (fun h => ?_) | refine d_sp 100 (fun h => ?_) (fun h => ?_)) <;> ((try simp only [zA, zB, zC, zD, zE, zF, ne_eq, zG, zH, and_true, true_and, eq_self, zI, zJ, zK, reduceCtorEq, zL, zM] at h); (try (exfalso; first | omega | with_reducible exact h (by assumption) | with_reducible exact absurd h (by assumption))))) | (show HD _ _ _ _ _ _ _ _; refine da 101 ?_) | refine dx ?_ | apply dx0 | refine dxd ?_ | refine dxk ?_ | apply seqQ_normal | apply seqQ_ret | apply seqQ_exit | apply blkQ_here | refine g_bx ?_ | apply blkQ_ret | apply blkQ_normal | apply loopQ_ret | apply loopQ_exit | apply unQ_ret | apply unQ_exit | apply unQ_succ)
      refine gc (kst _) ?_
      rintro v L' ⟨c2, hv2, rfl⟩
      obtain ⟨a7, cap7, rfl, -, hR7⟩ := hv2.rd fc_len
      repeat' (first | (show HW _ _ _ _ _ _; first | apply hw_seq | apply hw_region | apply hw_block | apply hw_exit | refine g_t ?_ | refine g_f ?_ | apply hw_skip | apply hw_ret | refine g_k S ?_ | refine g_w S ?_) | (show HO _ _ _ _ _ _ _; first | apply ho_nil | refine g_q (qe S) ?_ | refine g_q (qg S) ?_ | refine g_q (ql S) ?_ | refine g_q (qs S) ?_ | refine g_q (qb S) ?_ | refine g_q (qbA S) ?_ | refine g_q (qB S) ?_ | refine g_q (qC (ku)) ?_ | refine g_n ?_ | refine g_on ?_ | refine wa S (fun b => ?_) | refine ws S ?_) | (show HQ _ _ _ _ _ _ _; first | apply hq_nil | refine k_q (qe S) ?_ | refine k_q (qg S) ?_ | refine k_q (ql S) ?_ | refine k_q (qs S) ?_ | refine k_q (qb S) ?_ | refine k_q (qbA S) ?_ | refine k_q (qB S) ?_ | refine k_q (qC (ku)) ?_ | refine k_n ?_) | (show HD _ _ _ _ _ _ _ _; first | apply hd_nil | refine d_q 100 (by exact rfl) (fun _ => qe S) ?_ | refine d_q 100 (by exact rfl) (fun _ => qb S) ?_ | refine d_q 100 (by exact rfl) (fun _ => qbA S) ?_ | refine d_q 100 (by exact rfl) (fun _ => qB S) ?_ | refine dl S 100 ?_ | refine ds S 100 ?_ | refine dg S 100 (fun _ _ => ?_) | refine d_n 100 ?_ | refine d_q 0 (by exact rfl) (fun _ => qC (ku)) ?_ | refine d_q 1 (by exact rfl) (fun _ => qC (ku)) ?_ | refine d_q 2 (by exact rfl) (fun _ => qC (ku)) ?_ | refine d_q 3 (by exact rfl) (fun _ => qC (ku)) ?_) | ((first | refine g_b (fun h => ?_) (fun h => ?_) | refine g_s (fun h => ?_) (fun h => ?_) | refine k_s (fun h => ?_) (fun h => ?_) | refine d_sp 100 (fun h => ?_) (fun h => ?_)) <;> ((try simp only [zA, zB, zC, zD, zE, zF, ne_eq, zG, zH, and_true, true_and, eq_self, zI, zJ, zK, reduceCtorEq, zL, zM] at h); (try (exfalso; first | omega | with_reducible exact h (by assumption) | with_reducible exact absurd h (by assumption))))) | (show HD _ _ _ _ _ _ _ _; refine da 101 ?_) | refine dx ?_ | apply dx0 | refine dxd ?_ | refine dxk ?_ | apply seqQ_normal | apply seqQ_ret | apply seqQ_exit | apply blkQ_here | refine g_bx ?_ | apply blkQ_ret | apply blkQ_normal | apply loopQ_ret | apply loopQ_exit | apply unQ_ret | apply unQ_exit | apply unQ_succ)
      refine fo 10 ?_
      refine wpA S hvl (Rd.cons (hR7 _) _) fc_len fc_one ?_ (hby := by omega) (hmax := by omega)
      intro v'' c'' hv''
      obtain ⟨a8, cap8, rfl, -, -⟩ := hv''.rd fc_len
      repeat' (first | (show HW _ _ _ _ _ _; first | apply hw_seq | apply hw_region | apply hw_block | apply hw_exit | refine g_t ?_ | refine g_f ?_ | apply hw_skip | apply hw_ret | refine g_k S ?_ | refine g_w S ?_) | (show HO _ _ _ _ _ _ _; first | apply ho_nil | refine g_q (qe S) ?_ | refine g_q (qg S) ?_ | refine g_q (ql S) ?_ | refine g_q (qs S) ?_ | refine g_q (qb S) ?_ | refine g_q (qbA S) ?_ | refine g_q (qB S) ?_ | refine g_q (qC (ku)) ?_ | refine g_n ?_ | refine g_on ?_ | refine wa S (fun b => ?_) | refine ws S ?_) | (show HQ _ _ _ _ _ _ _; first | apply hq_nil | refine k_q (qe S) ?_ | refine k_q (qg S) ?_ | refine k_q (ql S) ?_ | refine k_q (qs S) ?_ | refine k_q (qb S) ?_ | refine k_q (qbA S) ?_ | refine k_q (qB S) ?_ | refine k_q (qC (ku)) ?_ | refine k_n ?_) | (show HD _ _ _ _ _ _ _ _; first | apply hd_nil | refine d_q 100 (by exact rfl) (fun _ => qe S) ?_ | refine d_q 100 (by exact rfl) (fun _ => qb S) ?_ | refine d_q 100 (by exact rfl) (fun _ => qbA S) ?_ | refine d_q 100 (by exact rfl) (fun _ => qB S) ?_ | refine dl S 100 ?_ | refine ds S 100 ?_ | refine dg S 100 (fun _ _ => ?_) | refine d_n 100 ?_ | refine d_q 0 (by exact rfl) (fun _ => qC (ku)) ?_ | refine d_q 1 (by exact rfl) (fun _ => qC (ku)) ?_ | refine d_q 2 (by exact rfl) (fun _ => qC (ku)) ?_ | refine d_q 3 (by exact rfl) (fun _ => qC (ku)) ?_) | ((first | refine g_b (fun h => ?_) (fun h => ?_) | refine g_s (fun h => ?_) (fun h => ?_) | refine k_s (fun h => ?_) (fun h => ?_) | refine d_sp 100 (fun h => ?_) (fun h => ?_)) <;> ((try simp only [zA, zB, zC, zD, zE, zF, ne_eq, zG, zH, and_true, true_and, eq_self, zI, zJ, zK, reduceCtorEq, zL, zM] at h); (try (exfalso; first | omega | with_reducible exact h (by assumption) | with_reducible exact absurd h (by assumption))))) | (show HD _ _ _ _ _ _ _ _; refine da 101 ?_) | refine dx ?_ | apply dx0 | refine dxd ?_ | refine dxk ?_ | apply seqQ_normal | apply seqQ_ret | apply seqQ_exit | apply blkQ_here | refine g_bx ?_ | apply blkQ_ret | apply blkQ_normal | apply loopQ_ret | apply loopQ_exit | apply unQ_ret | apply unQ_exit | apply unQ_succ)
      obtain ⟨L2, hw2, hls2⟩ := hsh { G with lv := .slice a8 (M.l ++ startM (newLd s dn M.w 0 2)).length cap8, lc := c'' } { M with l := M.l ++ startM (newLd s dn M.w 0 2) } { g with ld := g.ld.set dn (lp, wv', wc') } ⟨pl, some (j, ref), leads.set dn (some (newLd s dn M.w 0 2)), done⟩
        (hW.setL hv'') rfl rfl rfl (hok.lead (q := (lp, wv', wc')) hLd) rfl
      refine sp1 (LS.trans hls2 ?_) ⟨rfl, hw2⟩
      have eB2 := eB (some (newLd s dn M.w 0 2)) (lp, wv', wc') ⟨pl, some (j, ref), leads.set dn (some (newLd s dn M.w 0 2)), done⟩ { g with ld := g.ld.set dn (lp, wv', wc') } rfl rfl
      have eV2 := ldVs_set (g := g) (g' := { g with ld := g.ld.set dn (lp, wv', wc') }) (m := ⟨pl, some (j, ref), leads, done⟩) (m' := ⟨pl, some (j, ref), leads.set dn (some (newLd s dn M.w 0 2)), done⟩) (o' := some (newLd s dn M.w 0 2)) (q' := (lp, wv', wc')) rfl rfl
      simp only [wdOp, ndB, ndO, stV, siS, siN, siJ, wdO, eV2]
      rw [eB2, eA, hwv, hnv]
      simp only [ldB, ldC, ldV]
      refine LS.trans ls7 (LS.cutAt 10 ?_)
      exact (by repeat (first | (with_reducible first | refine LS.p0 ?_ | refine LS.p1 ?_ | refine LS.p2 ?_ | refine LS.p3 ?_ | refine LS.p4 ?_ | refine LS.p5 ?_ | refine LS.p6 ?_ | refine LS.p7 ?_ | refine LS.p8 ?_ | refine LS.p9 ?_ | refine LS.p10 ?_ | refine LS.p11 ?_ | refine LS.p12 ?_ | refine LS.e ?_ | exact LS.refl _) | refine LS.p0 ?_ | refine LS.p1 ?_ | refine LS.p2 ?_ | refine LS.p3 ?_ | refine LS.p4 ?_ | refine LS.p5 ?_ | refine LS.p6 ?_ | refine LS.p7 ?_ | refine LS.p8 ?_ | refine LS.p9 ?_ | refine LS.p10 ?_ | refine LS.p11 ?_ | refine LS.p12 ?_ | (with_reducible refine LS.c ?_)))
end Go.HL
end

/-! WoU -/
section
namespace Go.HL
open Go Go.Proofs
set_option linter.unusedVariables false
set_option linter.unusedSimpArgs false
theorem att_step {k s a j : Int} (hk : 0 < k) (hs0 : 0 ≤ s) (hs1 : s < k) (hj0 : 0 ≤ j) (hj : j ≤ (s - a) % k) : ((a + j) % k = s ↔ j = (s - a) % k) := by
  have hr0 := Int.emod_nonneg (s - a) (by omega : k ≠ 0)
  have hr1 := Int.emod_lt_of_pos (s - a) hk
  have e1 := Int.emod_add_mul_ediv (s - a) k
  have e2 := Int.emod_add_mul_ediv (a + j) k
  have h0 := Int.emod_nonneg (a + j) (by omega : k ≠ 0)
  have h1 := Int.emod_lt_of_pos (a + j) hk
  generalize (s - a) % k = r at *
  generalize (a + j) % k = t at *
  generalize (s - a) / k = u at *
  generalize (a + j) / k = v at *
  -- s - a = r + k u, a + j = t + k v
  have e3 : s - t = (r - j) + k * (u + v) := by rw [Int.mul_add]; omega
  constructor
  · intro h
    subst h
    have : (r - j) = - (k * (u + v)) := by omega
    have hz : u + v = 0 := by
      rcases Int.lt_trichotomy (u + v) 0 with h | h | h
      · have : k * (u + v) ≤ k * (-1) := Int.mul_le_mul_of_nonneg_left (by omega) (by omega)
        omega
      · exact h
      · have : k * 1 ≤ k * (u + v) := Int.mul_le_mul_of_nonneg_left (by omega) (by omega)
        omega
    rw [hz] at this
    omega
  · intro h
    subst h
    have hz : u + v = 0 := by
      rcases Int.lt_trichotomy (u + v) 0 with h | h | h
      · have : k * (u + v) ≤ k * (-1) := Int.mul_le_mul_of_nonneg_left (by omega) (by omega)
        omega
      · exact h
      · have : k * 1 ≤ k * (u + v) := Int.mul_le_mul_of_nonneg_left (by omega) (by omega)
        omega
    rw [hz] at e3
    omega
theorem hearsM_succ (x : Ld) (l : List Fr) (i : Nat) (h : i < l.length) : hearsM x (l.take (i + 1)) = ((hearM (hearsM x (l.take i)).1 l[i]).1, (hearsM x (l.take i)).2 ++ (hearM (hearsM x (l.take i)).1 l[i]).2) := by
  unfold hearsM
  rw [List.take_add_one, List.getElem?_eq_getElem h, Option.toList_some, List.foldl_append]
  rfl
attribute [local irreducible] HW HO HQ HD HC QOp Has Upd Puts Gets seqQ blkQ loopQ fnQ actQ nextP unQ MapF
attribute [local irreducible] ndL jcells plC siteM ldL openM
theorem wtry_calls (T : Nat) (E : Nat → Addr) (G : WdG) (M : Wm) (s d p : Int) (L : Heap) (hG : Er T E [2, 3, 4, 5, 6] L) (hW : WdOk G M) (hM : WI M) (hl : M.l.length ≤ 99999900) (h0 : 0 ≤ s) (h1 : s < M.n.length) (hs : (ndAt M s).site ≠ none) (hd : 0 ≤ d ∧ d < 6) (hp : 0 ≤ p ∧ p ≤ 1048576) :
    HC Tryz.prog 144 [pt G.wp 0, iv s, iv d, iv p] (wdH G M ++ L) (fun v L' => v = .bool (tryW M s d p).2 ∧ WdP G (tryW M s d p).1 L L') := by
  have hself := wdP_self hW L
  have hI := wd_in hW L
  have hwn := hM.wn
  have hwl := hM.wl
  have hw1 := hM.w1
  have hG' := er_wdH hG G M
  have hw := hI.wp
  obtain ⟨⟨nb, ni, nl, nF, nfr, ncap, hnv, hnb, hng⟩, -, -⟩ := npIn_of hW h0 h1 (H := wdH G M ++ L) (fun b o hb => by
    simp only [Has, wdH, wdT, List.flatten_cons, List.cons_append, List.nil_append]
    simp [hb])
  obtain ⟨aw, capw, hwv, -, hwr⟩ := hW.w.rd ic_len
  unfold wdO at hw
  rw [hnv, hwv] at hw
  have hok := wdOk_at hW h0 h1
  have hni := wi_at hM h0 h1
  obtain ⟨dn, rfl⟩ := Int.eq_ofNat_of_zero_le hd.1
  have hd6 : dn < 6 := by omega
  have hm1 : (ndAt M s).leads[dn]? = some ((ndAt M s).leads.getD dn none) := getD_some (by rw [hni.leads]; exact hd6)
  obtain ⟨q, hq⟩ : ∃ q, (npAt G s).ld[dn]? = some q := ⟨_, List.getElem?_eq_getElem (by rw [hok.ld]; exact hd6)⟩
  have hv := ldVs_at hm1 hq
  have gL := ndL_lead (sv := stV (npAt G s) (ndAt M s).site) (bp := (npAt G s).bp) (dn := (ndAt M s).done) hv
  have hN := wd_hasW hW.ndl h0 h1 L
  have hB : ∀ {b : Nat} {o : Obj}, (b, o) ∈ ndA (npAt G s) s (ndAt M s) → Has (wdH G M ++ L) b o := fun {b o} hb => by
    have := wd_has hW.ndl h0 h1 hb L
    unfold Has wdH at *
    rw [List.append_assoc, List.flatten_append]
    exact List.mem_append_right _ this
  have kse : ∀ x, (ndAt M s).leads[dn]? = some (some x) → HC Tryz.prog 191 [pt q.1 0] (wdH G M ++ L) (fun v L' => v = iv x.seen ∧ L' = (wdH G M ++ L)) := fun x hx => lseenH q.1 q.2.1 x _ (hni.ldi dn x hx).told (hB (by
    unfold ndA
    exact List.mem_append_right _ (ldBs_mem hx hq (by simp [ldC]))))
  have hab : 0 ≤ tryAbove (ndAt M s) dn p ∧ tryAbove (ndAt M s) dn p ≤ 1048576 := by
    unfold tryAbove
    split
    · exact hp
    · rename_i x hx
      have := hni.ldi dn x (by rw [hm1]; simp only [Int.toNat_natCast] at hx; rw [hx])
      have h1 := this.seen0
      have h2 := this.seen1
      omega
  have hr0 := Int.emod_nonneg (s - (tryAbove (ndAt M s) dn p + 1)) (by omega : (M.w.length : Int) ≠ 0)
  have hr1 := Int.emod_lt_of_pos (s - (tryAbove (ndAt M s) dn p + 1)) (by omega : (0 : Int) < M.w.length)
  unfold ndO at hN
  generalize hH : wdH G M ++ L = H at *
  unfold tryW tryAtt
  have habv : tryAbove (ndAt M s) dn p = match (ndAt M s).leads.getD dn none with
    | none => p
    | some x => max p x.seen := rfl
  generalize hab2 : tryAbove (ndAt M s) dn p = ab at *
  refine hc_enter (fun _ _ => Tryz.call144 _ _) Tryz.func144 rfl Tryz.ntmps144 (Nat.le_of_ble_eq_true rfl) ?_; simp only [args0, Nat.reduceAdd]
  apply once_w (ι := Int) (fun a => a = ab) (fun a => [(0, pt G.wp 0), (1, iv s), (2, iv dn), (9, pt (npAt G s).np 0), (12, iv M.w.length), (13, iv (a + 1))]) (fun _ => H)
  · intro key
    cases hx : (ndAt M s).leads.getD dn none with
    | none =>
      rw [hx] at gL habv
      simp only [ldV] at gL habv
      repeat' (first | (show HW _ _ _ _ _ _; first | apply hw_seq | apply hw_region | apply hw_block | apply hw_exit | refine g_t ?_ | refine g_f ?_ | apply hw_skip | apply hw_ret | refine g_k S ?_ | refine g_w S ?_) | (show HO _ _ _ _ _ _ _; first | apply ho_nil | refine g_q (qe S) ?_ | refine g_q (ql S) ?_ | refine g_q (qs S) ?_ | refine g_q (qn S) ?_ | refine g_q (qb S) ?_ | refine g_q (qbA S) ?_ | refine g_q (qC (kse _ hx)) ?_ | refine wa S (fun b => ?_) | refine ws S ?_) | (show HQ _ _ _ _ _ _ _; first | apply hq_nil | refine k_q (qe S) ?_ | refine k_q (ql S) ?_ | refine k_q (qs S) ?_ | refine k_q (qn S) ?_ | refine k_q (qb S) ?_ | refine k_q (qbA S) ?_ | refine k_q (qC (kse _ hx)) ?_) | (show HD _ _ _ _ _ _ _ _; first | apply hd_nil | refine d_q 100 (by exact rfl) (fun _ => qe S) ?_ | refine d_q 100 (by exact rfl) (fun _ => qn S) ?_ | refine d_q 100 (by exact rfl) (fun _ => qb S) ?_ | refine d_q 100 (by exact rfl) (fun _ => qbA S) ?_ | refine dl S 100 ?_ | refine ds S 100 ?_ | refine d_q 0 (by exact rfl) (fun _ => qC (kse _ hx)) ?_ | refine d_q 1 (by exact rfl) (fun _ => qC (kse _ hx)) ?_ | refine d_q 2 (by exact rfl) (fun _ => qC (kse _ hx)) ?_ | refine d_q 3 (by exact rfl) (fun _ => qC (kse _ hx)) ?_) | ((first | refine g_b (fun h => ?_) (fun h => ?_)) <;> ((try simp only [zA, zB, zC, zD, zE, zF, ne_eq, zG, zH, and_true, true_and, eq_self, zI, zJ, zK, reduceCtorEq, zL, zM] at h); (try (exfalso; first | omega | with_reducible exact h (by assumption) | with_reducible exact absurd h (by assumption))))) | (show HD _ _ _ _ _ _ _ _; refine da 101 ?_) | refine dx ?_ | apply dx0 | refine dxd ?_ | refine dxk ?_ | apply seqQ_normal | apply seqQ_ret | apply seqQ_exit | apply blkQ_here | refine g_bx ?_ | apply blkQ_ret | apply blkQ_normal | apply loopQ_ret | apply loopQ_exit | apply unQ_ret | apply unQ_exit | apply unQ_succ)
      exact hw_sp (hw_sub (key _ habv.symm) (by repeat (first | exact trivial | refine ⟨rfl, ?_⟩))) (LS.refl _)
    | some x =>
      rw [hx] at gL habv hm1
      simp only [ldV] at gL habv
      have kse2 := kse x hm1
      repeat' (first | (show HW _ _ _ _ _ _; first | apply hw_seq | apply hw_region | apply hw_block | apply hw_exit | refine g_t ?_ | refine g_f ?_ | apply hw_skip | apply hw_ret | refine g_k S ?_ | refine g_w S ?_) | (show HO _ _ _ _ _ _ _; first | apply ho_nil | refine g_q (qe S) ?_ | refine g_q (ql S) ?_ | refine g_q (qs S) ?_ | refine g_q (qn S) ?_ | refine g_q (qb S) ?_ | refine g_q (qbA S) ?_ | refine g_q (qC (kse2)) ?_ | refine wa S (fun b => ?_) | refine ws S ?_) | (show HQ _ _ _ _ _ _ _; first | apply hq_nil | refine k_q (qe S) ?_ | refine k_q (ql S) ?_ | refine k_q (qs S) ?_ | refine k_q (qn S) ?_ | refine k_q (qb S) ?_ | refine k_q (qbA S) ?_ | refine k_q (qC (kse2)) ?_) | (show HD _ _ _ _ _ _ _ _; first | apply hd_nil | refine d_q 100 (by exact rfl) (fun _ => qe S) ?_ | refine d_q 100 (by exact rfl) (fun _ => qn S) ?_ | refine d_q 100 (by exact rfl) (fun _ => qb S) ?_ | refine d_q 100 (by exact rfl) (fun _ => qbA S) ?_ | refine dl S 100 ?_ | refine ds S 100 ?_ | refine d_q 0 (by exact rfl) (fun _ => qC (kse2)) ?_ | refine d_q 1 (by exact rfl) (fun _ => qC (kse2)) ?_ | refine d_q 2 (by exact rfl) (fun _ => qC (kse2)) ?_ | refine d_q 3 (by exact rfl) (fun _ => qC (kse2)) ?_) | ((first | refine g_b (fun h => ?_) (fun h => ?_)) <;> ((try simp only [zA, zB, zC, zD, zE, zF, ne_eq, zG, zH, and_true, true_and, eq_self, zI, zJ, zK, reduceCtorEq, zL, zM] at h); (try (exfalso; first | omega | with_reducible exact h (by assumption) | with_reducible exact absurd h (by assumption))))) | (show HD _ _ _ _ _ _ _ _; refine da 101 ?_) | refine dx ?_ | apply dx0 | refine dxd ?_ | refine dxk ?_ | apply seqQ_normal | apply seqQ_ret | apply seqQ_exit | apply blkQ_here | refine g_bx ?_ | apply blkQ_ret | apply blkQ_normal | apply loopQ_ret | apply loopQ_exit | apply unQ_ret | apply unQ_exit | apply unQ_succ)
      exact hw_sp (hw_sub (key _ habv.symm) (by repeat (first | exact trivial | refine ⟨rfl, ?_⟩))) (LS.refl _)
  rintro ab' rfl
  refine hw_loop (σ := Int) (fun x => [(0, pt G.wp 0), (1, iv s), (2, iv dn), (9, pt (npAt G s).np 0), (12, iv M.w.length), (13, iv x)]) (fun _ => H) (fun x => ∃ j : Nat, x = ab' + 1 + j ∧ (j : Int) ≤ (s - (ab' + 1)) % M.w.length) (fun x => (ab' + 1 + (s - (ab' + 1)) % M.w.length - x).toNat) (ab' + 1) (by repeat (first | exact trivial | refine ⟨rfl, ?_⟩)) (List.Sublist.refl _) ⟨0, by simp, hr0⟩ ?_
  rintro x ⟨j, rfl, hj⟩
  have hst := att_step (k := M.w.length) (s := s) (a := ab' + 1) (j := j) (by omega) h0 (by omega) (by omega) hj
  by_cases hlt : (j : Int) = (s - (ab' + 1)) % M.w.length
  · rw [← hlt]
    have hst2 := hst.2 hlt
    have kH := fun x => whearW_calls T E G M s (tryF s dn x) L hG.sub hW hM h0 h1 hs
    have hRI := fun x => hM.hear (f := tryF s dn x) h0 h1 (by show s < _; omega)
    have hRl := fun x => hearW_len M s (tryF s dn x)
    have hRw : ∀ x, (hearW M s (tryF s dn x)).1.w = M.w := fun x => rfl
    have hRL : ∀ x, (hearW M s (tryF s dn x)).1.l = M.l := fun x => rfl
    have hRn : ∀ x, (hearW M s (tryF s dn x)).1.n.length = M.n.length := fun x => by
      exact (hRI x).1.wn.trans ((congrArg List.length (hRw x)).trans hwn.symm)
    subst hH
    clear hst kse hB hnb
    have ha1 : 1 ≤ ab' + 1 + j := by omega
    have ha2 : ab' + 1 + j ≤ 1048590 := by omega
    have ha3 : 0 ≤ ab' + 1 + (j : Int) := by omega
    clear hj
    generalize ab' + 1 + (j : Int) = a at *
    specialize kH a
    specialize hRI a
    specialize hRl a
    specialize hRw a
    specialize hRL a
    specialize hRn a
    generalize hearW M s (tryF s dn a) = R at *
    obtain ⟨M2, told, ok⟩ := R
    simp only at kH hRI hRl hRw hRL hRn ⊢
    obtain ⟨hM2, hfo⟩ := hRI
    repeat' (first | (show HW _ _ _ _ _ _; first | apply hw_seq | apply hw_region | apply hw_block | apply hw_exit | refine g_t ?_ | refine g_f ?_ | apply hw_skip | apply hw_ret | refine g_k S ?_ | refine g_w S ?_) | (show HO _ _ _ _ _ _ _; first | apply ho_nil | refine g_q (qe S) ?_ | refine g_q (ql S) ?_ | refine g_q (qs S) ?_ | refine g_q (qn S) ?_ | refine g_q (qb S) ?_ | refine g_q (qbA S) ?_ | refine g_q (qC (hab)) ?_ | refine wa S (fun b => ?_) | refine ws S ?_) | (show HQ _ _ _ _ _ _ _; first | apply hq_nil | refine k_q (qe S) ?_ | refine k_q (ql S) ?_ | refine k_q (qs S) ?_ | refine k_q (qn S) ?_ | refine k_q (qb S) ?_ | refine k_q (qbA S) ?_ | refine k_q (qC (hab)) ?_) | (show HD _ _ _ _ _ _ _ _; first | apply hd_nil | refine d_q 100 (by exact rfl) (fun _ => qe S) ?_ | refine d_q 100 (by exact rfl) (fun _ => qn S) ?_ | refine d_q 100 (by exact rfl) (fun _ => qb S) ?_ | refine d_q 100 (by exact rfl) (fun _ => qbA S) ?_ | refine dl S 100 ?_ | refine ds S 100 ?_ | refine d_q 0 (by exact rfl) (fun _ => qC (hab)) ?_ | refine d_q 1 (by exact rfl) (fun _ => qC (hab)) ?_ | refine d_q 2 (by exact rfl) (fun _ => qC (hab)) ?_ | refine d_q 3 (by exact rfl) (fun _ => qC (hab)) ?_) | ((first | refine g_b (fun h => ?_) (fun h => ?_)) <;> ((try simp only [zA, zB, zC, zD, zE, zF, ne_eq, zG, zH, and_true, true_and, eq_self, zI, zJ, zK, reduceCtorEq, zL, zM] at h); (try (exfalso; first | omega | with_reducible exact h (by assumption) | with_reducible exact absurd h (by assumption))))) | (show HD _ _ _ _ _ _ _ _; refine da 101 ?_) | refine dx ?_ | apply dx0 | refine dxd ?_ | refine dxk ?_ | apply seqQ_normal | apply seqQ_ret | apply seqQ_exit | apply blkQ_here | refine g_bx ?_ | apply blkQ_ret | apply blkQ_normal | apply loopQ_ret | apply loopQ_exit | apply unQ_ret | apply unQ_exit | apply unQ_succ)
    · rw [if_pos h]
      exact sp1 (LS.refl _) ⟨rfl, hself⟩
    all_goals rw [if_neg h]
    all_goals refine gc kH ?_
    all_goals rintro v L' ⟨c, ⟨fv, hfv, rfl⟩, G2, e1, e2, hW2, rfl⟩
    all_goals obtain ⟨af, capf, rfl, -, hRf⟩ := hfv.rd fc_len
    all_goals cases ok with
    | false =>
      simp only [if_true]
      repeat' (first | (show HW _ _ _ _ _ _; first | apply hw_seq | apply hw_region | apply hw_block | apply hw_exit | refine g_t ?_ | refine g_f ?_ | apply hw_skip | apply hw_ret | refine g_k S ?_ | refine g_w S ?_) | (show HO _ _ _ _ _ _ _; first | apply ho_nil | refine g_q (qe S) ?_ | refine g_q (ql S) ?_ | refine g_q (qs S) ?_ | refine g_q (qn S) ?_ | refine g_q (qb S) ?_ | refine g_q (qbA S) ?_ | refine g_q (qC (hab)) ?_ | refine wa S (fun b => ?_) | refine ws S ?_) | (show HQ _ _ _ _ _ _ _; first | apply hq_nil | refine k_q (qe S) ?_ | refine k_q (ql S) ?_ | refine k_q (qs S) ?_ | refine k_q (qn S) ?_ | refine k_q (qb S) ?_ | refine k_q (qbA S) ?_ | refine k_q (qC (hab)) ?_) | (show HD _ _ _ _ _ _ _ _; first | apply hd_nil | refine d_q 100 (by exact rfl) (fun _ => qe S) ?_ | refine d_q 100 (by exact rfl) (fun _ => qn S) ?_ | refine d_q 100 (by exact rfl) (fun _ => qb S) ?_ | refine d_q 100 (by exact rfl) (fun _ => qbA S) ?_ | refine dl S 100 ?_ | refine ds S 100 ?_ | refine d_q 0 (by exact rfl) (fun _ => qC (hab)) ?_ | refine d_q 1 (by exact rfl) (fun _ => qC (hab)) ?_ | refine d_q 2 (by exact rfl) (fun _ => qC (hab)) ?_ | refine d_q 3 (by exact rfl) (fun _ => qC (hab)) ?_) | ((first | refine g_b (fun h => ?_) (fun h => ?_)) <;> ((try simp only [zA, zB, zC, zD, zE, zF, ne_eq, zG, zH, and_true, true_and, eq_self, zI, zJ, zK, reduceCtorEq, zL, zM] at h); (try (exfalso; first | omega | with_reducible exact h (by assumption) | with_reducible exact absurd h (by assumption))))) | (show HD _ _ _ _ _ _ _ _; refine da 101 ?_) | refine dx ?_ | apply dx0 | refine dxd ?_ | refine dxk ?_ | apply seqQ_normal | apply seqQ_ret | apply seqQ_exit | apply blkQ_here | refine g_bx ?_ | apply blkQ_ret | apply blkQ_normal | apply loopQ_ret | apply loopQ_exit | apply unQ_ret | apply unQ_exit | apply unQ_succ)
      refine sp1 (L' := wdH G2 M2 ++ L) ?_ ⟨rfl, G2, e1, e2, hW2, rfl⟩
      simp only [List.flatten_append, List.flatten_cons]
      exact LS.boths _ (LS.skips _ (LS.refl _))
    | true =>
      simp only [Bool.true_eq_false, if_false]
      have h1' : s < M2.n.length := by rw [hRn]; exact h1
      have hl2 := hW2.ndl
      have hnp2 := np_same e2 h0 (by rw [hW.ndl]; exact h1)
      have hok2 := wdOk_at hW2 h0 h1'
      have hni2 := wi_at hM2 h0 h1'
      have hw22 := hW2.w
      rw [hRw] at hw22
      obtain ⟨aw2, capw2, hwv2, -, hwr2⟩ := hw22.rd ic_len
      obtain ⟨al2, capl2, hlv2, -, -⟩ := hW2.l.rd fc_len
      have hvl := hW2.l
      rw [hlv2] at hvl
      have hm2 : (ndAt M2 s).leads[dn]? = some ((ndAt M2 s).leads.getD dn none) := getD_some (by rw [hni2.leads]; exact hd6)
      obtain ⟨q2, hq2⟩ : ∃ q2, (npAt G2 s).ld[dn]? = some q2 := ⟨_, List.getElem?_eq_getElem (by rw [hok2.ld]; exact hd6)⟩
      have hv2 := ldVs_at hm2 hq2
      obtain ⟨A, B, eA, eB⟩ := lds_open hm2 hq2
      have htE : tryE s dn M.w a = none := by
        unfold tryE
        rw [leadE_none hM h0 h1 hd (by omega)]
        simp only
        rw [if_neg (by omega)]
      have kt := fun L hG hR => try_calls T E s dn aw2 capw2 M.w a L hG hR (by omega)
      rw [htE] at kt
      have hNI : LdI M.w s.toNat dn (newLd s dn M.w a 4) := by
        have := newLd_I (w := M.w) (s := s.toNat) (d := dn) (a := a) (k := 4) (by omega) (by omega)
        rw [show ((s.toNat : Nat) : Int) = s by omega] at this
        exact this
      have hsl := startM_len (newLd s dn M.w a 4)
      have hslw : (newLd s dn M.w a 4).w = M.w := rfl
      rw [hslw] at hsl
      have hsh := fun G' M1 g' m' a b c d e f => wdP_shut (G := G2) (G' := G') (M := M2) (M1 := M1) (s := s) (g' := g') (m' := m') L hl2 h0 h1' a b c d e f
      have hlvs : (ldVs (npAt G2 s) (ndAt M2 s)).length = 6 := by simp [ldVs, hni2.leads, hok2.ld]
      refine ho_sp (L' := wdOp G2 s (npAt G2 s) (ndAt M2 s) (ndsX G2.nd M2.n 0 s.toNat) (c :: L)) ?_ (wd_open hl2 h0 h1' _)
      simp only [← hnp2]
      have hGP : ∀ L L', WdP G2 { setN M2 s { ndAt M2 s with leads := (ndAt M2 s).leads.set dn (some (hearsM (newLd s dn M.w a 4) told).1) } with l := M2.l ++ startM (newLd s dn M.w a 4) ++ (hearsM (newLd s dn M.w a 4) told).2 } L L' →
          WdP G { setN M2 s { ndAt M2 s with leads := (ndAt M2 s).leads.set dn (some (hearsM (newLd s dn M.w a 4) told).1) } with l := M2.l ++ startM (newLd s dn M.w a 4) ++ (hearsM (newLd s dn M.w a 4) told).2 } L L' := fun L L' h => by
        obtain ⟨G3, f1, f2, f3, f4⟩ := h
        exact ⟨G3, f1.trans e1, f2.trans e2, f3, f4⟩
      generalize ndsX G2.nd M2.n 0 s.toNat = X at *
      generalize hmm : ndAt M2 s = m at *
      generalize hgg : npAt G2 s = g at *
      simp only [wdOp, ndB, ndO, wdO, e1]
      rw [hwv2, hlv2]
      repeat' (first | (show HW _ _ _ _ _ _; first | apply hw_seq | apply hw_region | apply hw_block | apply hw_exit | refine g_t ?_ | refine g_f ?_ | apply hw_skip | apply hw_ret | refine g_k S ?_ | refine g_w S ?_) | (show HO _ _ _ _ _ _ _; first | apply ho_nil | refine g_q (qe S) ?_ | refine g_q (ql S) ?_ | refine g_q (qs S) ?_ | refine g_q (qn S) ?_ | refine g_q (qb S) ?_ | refine g_q (qbA S) ?_ | refine g_q (qC (hab)) ?_ | refine wa S (fun b => ?_) | refine ws S ?_) | (show HQ _ _ _ _ _ _ _; first | apply hq_nil | refine k_q (qe S) ?_ | refine k_q (ql S) ?_ | refine k_q (qs S) ?_ | refine k_q (qn S) ?_ | refine k_q (qb S) ?_ | refine k_q (qbA S) ?_ | refine k_q (qC (hab)) ?_) | (show HD _ _ _ _ _ _ _ _; first | apply hd_nil | refine d_q 100 (by exact rfl) (fun _ => qe S) ?_ | refine d_q 100 (by exact rfl) (fun _ => qn S) ?_ | refine d_q 100 (by exact rfl) (fun _ => qb S) ?_ | refine d_q 100 (by exact rfl) (fun _ => qbA S) ?_ | refine dl S 100 ?_ | refine ds S 100 ?_ | refine d_q 0 (by exact rfl) (fun _ => qC (hab)) ?_ | refine d_q 1 (by exact rfl) (fun _ => qC (hab)) ?_ | refine d_q 2 (by exact rfl) (fun _ => qC (hab)) ?_ | refine d_q 3 (by exact rfl) (fun _ => qC (hab)) ?_) | ((first | refine g_b (fun h => ?_) (fun h => ?_)) <;> ((try simp only [zA, zB, zC, zD, zE, zF, ne_eq, zG, zH, and_true, true_and, eq_self, zI, zJ, zK, reduceCtorEq, zL, zM] at h); (try (exfalso; first | omega | with_reducible exact h (by assumption) | with_reducible exact absurd h (by assumption))))) | (show HD _ _ _ _ _ _ _ _; refine da 101 ?_) | refine dx ?_ | apply dx0 | refine dxd ?_ | refine dxk ?_ | apply seqQ_normal | apply seqQ_ret | apply seqQ_exit | apply blkQ_here | refine g_bx ?_ | apply blkQ_ret | apply blkQ_normal | apply loopQ_ret | apply loopQ_exit | apply unQ_ret | apply unQ_exit | apply unQ_succ)
      refine gc (kt _ (by repeat (first | exact hG | exact hG.sub | apply Errs.cons)) ?_) ?_
      · repeat (first | exact hwr2 _ | apply Rd.cons)
      rintro v L' ⟨lp, wv', wc', rfl, hLd, rfl⟩
      have gP := ndL_put1 (sv := stV g m.site) (bp := g.bp) (lv := ldVs g m) (dn := m.done) (d := dn) (pt lp 0) (by omega)
      have kst := fun L => start_calls lp wv' wc' (newLd s dn M.w a 4) L hLd
      repeat' (first | (show HW _ _ _ _ _ _; first | apply hw_seq | apply hw_region | apply hw_block | apply hw_exit | refine g_t ?_ | refine g_f ?_ | apply hw_skip | apply hw_ret | refine g_k S ?_ | refine g_w S ?_) | (show HO _ _ _ _ _ _ _; first | apply ho_nil | refine g_q (qe S) ?_ | refine g_q (ql S) ?_ | refine g_q (qs S) ?_ | refine g_q (qn S) ?_ | refine g_q (qb S) ?_ | refine g_q (qbA S) ?_ | refine g_q (qC (hab)) ?_ | refine wa S (fun b => ?_) | refine ws S ?_) | (show HQ _ _ _ _ _ _ _; first | apply hq_nil | refine k_q (qe S) ?_ | refine k_q (ql S) ?_ | refine k_q (qs S) ?_ | refine k_q (qn S) ?_ | refine k_q (qb S) ?_ | refine k_q (qbA S) ?_ | refine k_q (qC (hab)) ?_) | (show HD _ _ _ _ _ _ _ _; first | apply hd_nil | refine d_q 100 (by exact rfl) (fun _ => qe S) ?_ | refine d_q 100 (by exact rfl) (fun _ => qn S) ?_ | refine d_q 100 (by exact rfl) (fun _ => qb S) ?_ | refine d_q 100 (by exact rfl) (fun _ => qbA S) ?_ | refine dl S 100 ?_ | refine ds S 100 ?_ | refine d_q 0 (by exact rfl) (fun _ => qC (hab)) ?_ | refine d_q 1 (by exact rfl) (fun _ => qC (hab)) ?_ | refine d_q 2 (by exact rfl) (fun _ => qC (hab)) ?_ | refine d_q 3 (by exact rfl) (fun _ => qC (hab)) ?_) | ((first | refine g_b (fun h => ?_) (fun h => ?_)) <;> ((try simp only [zA, zB, zC, zD, zE, zF, ne_eq, zG, zH, and_true, true_and, eq_self, zI, zJ, zK, reduceCtorEq, zL, zM] at h); (try (exfalso; first | omega | with_reducible exact h (by assumption) | with_reducible exact absurd h (by assumption))))) | (show HD _ _ _ _ _ _ _ _; refine da 101 ?_) | refine dx ?_ | apply dx0 | refine dxd ?_ | refine dxk ?_ | apply seqQ_normal | apply seqQ_ret | apply seqQ_exit | apply blkQ_here | refine g_bx ?_ | apply blkQ_ret | apply blkQ_normal | apply loopQ_ret | apply loopQ_exit | apply unQ_ret | apply unQ_exit | apply unQ_succ)
      refine gc (kst _) ?_
      rintro v L' ⟨c2, hv2, rfl⟩
      obtain ⟨a7, cap7, rfl, -, hR7⟩ := hv2.rd fc_len
      repeat' (first | (show HW _ _ _ _ _ _; first | apply hw_seq | apply hw_region | apply hw_block | apply hw_exit | refine g_t ?_ | refine g_f ?_ | apply hw_skip | apply hw_ret | refine g_k S ?_ | refine g_w S ?_) | (show HO _ _ _ _ _ _ _; first | apply ho_nil | refine g_q (qe S) ?_ | refine g_q (ql S) ?_ | refine g_q (qs S) ?_ | refine g_q (qn S) ?_ | refine g_q (qb S) ?_ | refine g_q (qbA S) ?_ | refine g_q (qC (hab)) ?_ | refine wa S (fun b => ?_) | refine ws S ?_) | (show HQ _ _ _ _ _ _ _; first | apply hq_nil | refine k_q (qe S) ?_ | refine k_q (ql S) ?_ | refine k_q (qs S) ?_ | refine k_q (qn S) ?_ | refine k_q (qb S) ?_ | refine k_q (qbA S) ?_ | refine k_q (qC (hab)) ?_) | (show HD _ _ _ _ _ _ _ _; first | apply hd_nil | refine d_q 100 (by exact rfl) (fun _ => qe S) ?_ | refine d_q 100 (by exact rfl) (fun _ => qn S) ?_ | refine d_q 100 (by exact rfl) (fun _ => qb S) ?_ | refine d_q 100 (by exact rfl) (fun _ => qbA S) ?_ | refine dl S 100 ?_ | refine ds S 100 ?_ | refine d_q 0 (by exact rfl) (fun _ => qC (hab)) ?_ | refine d_q 1 (by exact rfl) (fun _ => qC (hab)) ?_ | refine d_q 2 (by exact rfl) (fun _ => qC (hab)) ?_ | refine d_q 3 (by exact rfl) (fun _ => qC (hab)) ?_) | ((first | refine g_b (fun h => ?_) (fun h => ?_)) <;> ((try simp only [zA, zB, zC, zD, zE, zF, ne_eq, zG, zH, and_true, true_and, eq_self, zI, zJ, zK, reduceCtorEq, zL, zM] at h); (try (exfalso; first | omega | with_reducible exact h (by assumption) | with_reducible exact absurd h (by assumption))))) | (show HD _ _ _ _ _ _ _ _; refine da 101 ?_) | refine dx ?_ | apply dx0 | refine dxd ?_ | refine dxk ?_ | apply seqQ_normal | apply seqQ_ret | apply seqQ_exit | apply blkQ_here | refine g_bx ?_ | apply blkQ_ret | apply blkQ_normal | apply loopQ_ret | apply loopQ_exit | apply unQ_ret | apply unQ_exit | apply unQ_succ)
      refine fo 10 ?_
      refine wpA S hvl (Rd.cons (hR7 _) _) fc_len fc_one ?_ (hby := by rw [hRL]; omega) (hmax := by rw [hRL]; omega)
      intro v'' c'' hv''
      obtain ⟨a8, cap8, rfl, -, -⟩ := hv''.rd fc_len
      repeat' (first | (show HW _ _ _ _ _ _; first | apply hw_seq | apply hw_region | apply hw_block | apply hw_exit | refine g_t ?_ | refine g_f ?_ | apply hw_skip | apply hw_ret | refine g_k S ?_ | refine g_w S ?_) | (show HO _ _ _ _ _ _ _; first | apply ho_nil | refine g_q (qe S) ?_ | refine g_q (ql S) ?_ | refine g_q (qs S) ?_ | refine g_q (qn S) ?_ | refine g_q (qb S) ?_ | refine g_q (qbA S) ?_ | refine g_q (qC (hab)) ?_ | refine wa S (fun b => ?_) | refine ws S ?_) | (show HQ _ _ _ _ _ _ _; first | apply hq_nil | refine k_q (qe S) ?_ | refine k_q (ql S) ?_ | refine k_q (qs S) ?_ | refine k_q (qn S) ?_ | refine k_q (qb S) ?_ | refine k_q (qbA S) ?_ | refine k_q (qC (hab)) ?_) | (show HD _ _ _ _ _ _ _ _; first | apply hd_nil | refine d_q 100 (by exact rfl) (fun _ => qe S) ?_ | refine d_q 100 (by exact rfl) (fun _ => qn S) ?_ | refine d_q 100 (by exact rfl) (fun _ => qb S) ?_ | refine d_q 100 (by exact rfl) (fun _ => qbA S) ?_ | refine dl S 100 ?_ | refine ds S 100 ?_ | refine d_q 0 (by exact rfl) (fun _ => qC (hab)) ?_ | refine d_q 1 (by exact rfl) (fun _ => qC (hab)) ?_ | refine d_q 2 (by exact rfl) (fun _ => qC (hab)) ?_ | refine d_q 3 (by exact rfl) (fun _ => qC (hab)) ?_) | ((first | refine g_b (fun h => ?_) (fun h => ?_)) <;> ((try simp only [zA, zB, zC, zD, zE, zF, ne_eq, zG, zH, and_true, true_and, eq_self, zI, zJ, zK, reduceCtorEq, zL, zM] at h); (try (exfalso; first | omega | with_reducible exact h (by assumption) | with_reducible exact absurd h (by assumption))))) | (show HD _ _ _ _ _ _ _ _; refine da 101 ?_) | refine dx ?_ | apply dx0 | refine dxd ?_ | refine dxk ?_ | apply seqQ_normal | apply seqQ_ret | apply seqQ_exit | apply blkQ_here | refine g_bx ?_ | apply blkQ_ret | apply blkQ_normal | apply loopQ_ret | apply loopQ_exit | apply unQ_ret | apply unQ_exit | apply unQ_succ)
      have hho := fun i => hearsM_ok (w := M.w) (s := s.toNat) (d := dn) (by omega) hwl hd6 (told.take i) (newLd s dn M.w a 4) [] hNI (fun f hf => hfo f (List.mem_of_mem_take hf)) (fun f hf => by cases hf)
      change ∀ i, LdI M.w s.toNat dn (hearsM (newLd s dn M.w a 4) (told.take i)).1 ∧ ∀ f ∈ (hearsM (newLd s dn M.w a 4) (told.take i)).2, okF M.w.length f at hho
      refine hw_loop (σ := Nat × Value × List Blk) (fun r => [(0, pt G.wp 0), (16, pt lp 0), (96, .slice af told.length capf), (97, iv told.length), (98, iv r.1)])
        (fun r => r.2.2 :: ldC lp wv' wc' (hearsM (newLd s dn M.w a 4) (told.take r.1)).1 :: [(G.wp, .cells ⟨[.slice aw2 M.w.length capw2, G2.nv, .map (some G2.mb), r.2.1, G2.ev]⟩ 110)] :: G2.ec :: [(g.np, .cells ⟨ndL (stV g m.site) g.bp ((ldVs g m).set dn (pt lp 0)) m.done⟩ 122)] :: siS g s m.site :: siN g m.site :: plC g.bp g.ba m.pl :: siJ g m.site :: ldBs g m :: G2.wc :: G2.nc :: [(G2.mb, .map ⟨G2.es⟩ G2.ck)] :: X :: c :: L)
        (fun r => r.1 ≤ told.length ∧ (hearsM (newLd s dn M.w a 4) (told.take r.1)).2.length ≤ 7 * r.1 ∧ FrVec r.2.1 (M2.l ++ startM (newLd s dn M.w a 4) ++ (hearsM (newLd s dn M.w a 4) (told.take r.1)).2) r.2.2) (fun r => told.length - r.1) (0, .slice a8 (M2.l ++ startM (newLd s dn M.w a 4)).length cap8, c'') (by repeat (first | exact trivial | refine ⟨rfl, ?_⟩)) (by refine List.Sublist.cons_cons _ (List.Sublist.cons _ (List.Sublist.refl _))) ⟨by simp, by simp [hearsM], by simpa [hearsM] using hv''⟩ ?_
      rintro ⟨i, lv3, lc3⟩ ⟨hi, hlen, hv3⟩
      simp only at hi hlen hv3 ⊢
      obtain ⟨hI3, hF3⟩ := hho i
      have hlast : i = told.length → hearsM (newLd s dn M.w a 4) (told.take i) = hearsM (newLd s dn M.w a 4) told := fun e => by rw [e, List.take_length]
      have hsucc := fun h => hearsM_succ (newLd s dn M.w a 4) told i h
      have hLO3 : LdOk wv' wc' (hearsM (newLd s dn M.w a 4) (told.take i)).1 := hLd.of hI3.ww (by rw [hI3.told]; rfl)
      have hhd3 : (hearsM (newLd s dn M.w a 4) (told.take i)).1.heard < 2 ^ (hearsM (newLd s dn M.w a 4) (told.take i)).1.w.length := by rw [hI3.ww]; exact hI3.heard
      obtain ⟨al3, capl3, hlv3, -, -⟩ := hv3.rd fc_len
      subst hlv3
      by_cases hit : i < told.length
      · specialize hsucc hit
        have hq := hho (i + 1)
        have hl3 := hear_len (hearsM (newLd s dn M.w a 4) (told.take i)).1 told[i]
        rw [hI3.ww] at hl3
        rw [hsucc] at hq
        have kh := fun L hG => hear_calls T E lp wv' wc' (hearsM (newLd s dn M.w a 4) (told.take i)).1 told[i] L hG hLO3 hhd3
        obtain ⟨b5, i5, l5, F5, fr5, e6, hb5, hg5⟩ := (hRf L).at (j := (i : Int)) (by omega) (by omega)
        subst e6
        have hgi : told[(i : Int).toNat]'(by omega) = told[i] := rfl
        rw [hgi] at hg5
        clear hlast hI3 hF3 hho
        generalize hearsM (newLd s dn M.w a 4) (told.take i) = Q at *
        obtain ⟨x3, fs3⟩ := Q
        simp only at hlen hv3 hLO3 hhd3 hl3 kh hsucc ⊢
        generalize told[i] = f at *
        obtain ⟨ffr, fto, fdl, fkd, fatt, fys, fs⟩ := f
        repeat' (first | (show HW _ _ _ _ _ _; first | apply hw_seq | apply hw_region | apply hw_block | apply hw_exit | refine g_t ?_ | refine g_f ?_ | apply hw_skip | apply hw_ret | refine g_k S ?_ | refine g_w S ?_) | (show HO _ _ _ _ _ _ _; first | apply ho_nil | refine g_q (qe S) ?_ | refine g_q (ql S) ?_ | refine g_q (qs S) ?_ | refine g_q (qn S) ?_ | refine g_q (qb S) ?_ | refine g_q (qbA S) ?_ | refine g_q (qC (hab)) ?_ | refine wa S (fun b => ?_) | refine ws S ?_) | (show HQ _ _ _ _ _ _ _; first | apply hq_nil | refine k_q (qe S) ?_ | refine k_q (ql S) ?_ | refine k_q (qs S) ?_ | refine k_q (qn S) ?_ | refine k_q (qb S) ?_ | refine k_q (qbA S) ?_ | refine k_q (qC (hab)) ?_) | (show HD _ _ _ _ _ _ _ _; first | apply hd_nil | refine d_q 100 (by exact rfl) (fun _ => qe S) ?_ | refine d_q 100 (by exact rfl) (fun _ => qn S) ?_ | refine d_q 100 (by exact rfl) (fun _ => qb S) ?_ | refine d_q 100 (by exact rfl) (fun _ => qbA S) ?_ | refine dl S 100 ?_ | refine ds S 100 ?_ | refine d_q 0 (by exact rfl) (fun _ => qC (hab)) ?_ | refine d_q 1 (by exact rfl) (fun _ => qC (hab)) ?_ | refine d_q 2 (by exact rfl) (fun _ => qC (hab)) ?_ | refine d_q 3 (by exact rfl) (fun _ => qC (hab)) ?_) | ((first | refine g_b (fun h => ?_) (fun h => ?_)) <;> ((try simp only [zA, zB, zC, zD, zE, zF, ne_eq, zG, zH, and_true, true_and, eq_self, zI, zJ, zK, reduceCtorEq, zL, zM] at h); (try (exfalso; first | omega | with_reducible exact h (by assumption) | with_reducible exact absurd h (by assumption))))) | (show HD _ _ _ _ _ _ _ _; refine da 101 ?_) | refine dx ?_ | apply dx0 | refine dxd ?_ | refine dxk ?_ | apply seqQ_normal | apply seqQ_ret | apply seqQ_exit | apply blkQ_here | refine g_bx ?_ | apply blkQ_ret | apply blkQ_normal | apply loopQ_ret | apply loopQ_exit | apply unQ_ret | apply unQ_exit | apply unQ_succ)
        refine fo 2 ?_
        refine gc (kh _ (by repeat (first | exact hG | exact hG.sub | apply Errs.cons))) ?_
        rintro v L' ⟨c4, hv4, rfl⟩
        obtain ⟨a9, cap9, rfl, -, hR9⟩ := hv4.rd fc_len
        repeat' (first | (show HW _ _ _ _ _ _; first | apply hw_seq | apply hw_region | apply hw_block | apply hw_exit | refine g_t ?_ | refine g_f ?_ | apply hw_skip | apply hw_ret | refine g_k S ?_ | refine g_w S ?_) | (show HO _ _ _ _ _ _ _; first | apply ho_nil | refine g_q (qe S) ?_ | refine g_q (ql S) ?_ | refine g_q (qs S) ?_ | refine g_q (qn S) ?_ | refine g_q (qb S) ?_ | refine g_q (qbA S) ?_ | refine g_q (qC (hab)) ?_ | refine wa S (fun b => ?_) | refine ws S ?_) | (show HQ _ _ _ _ _ _ _; first | apply hq_nil | refine k_q (qe S) ?_ | refine k_q (ql S) ?_ | refine k_q (qs S) ?_ | refine k_q (qn S) ?_ | refine k_q (qb S) ?_ | refine k_q (qbA S) ?_ | refine k_q (qC (hab)) ?_) | (show HD _ _ _ _ _ _ _ _; first | apply hd_nil | refine d_q 100 (by exact rfl) (fun _ => qe S) ?_ | refine d_q 100 (by exact rfl) (fun _ => qn S) ?_ | refine d_q 100 (by exact rfl) (fun _ => qb S) ?_ | refine d_q 100 (by exact rfl) (fun _ => qbA S) ?_ | refine dl S 100 ?_ | refine ds S 100 ?_ | refine d_q 0 (by exact rfl) (fun _ => qC (hab)) ?_ | refine d_q 1 (by exact rfl) (fun _ => qC (hab)) ?_ | refine d_q 2 (by exact rfl) (fun _ => qC (hab)) ?_ | refine d_q 3 (by exact rfl) (fun _ => qC (hab)) ?_) | ((first | refine g_b (fun h => ?_) (fun h => ?_)) <;> ((try simp only [zA, zB, zC, zD, zE, zF, ne_eq, zG, zH, and_true, true_and, eq_self, zI, zJ, zK, reduceCtorEq, zL, zM] at h); (try (exfalso; first | omega | with_reducible exact h (by assumption) | with_reducible exact absurd h (by assumption))))) | (show HD _ _ _ _ _ _ _ _; refine da 101 ?_) | refine dx ?_ | apply dx0 | refine dxd ?_ | refine dxk ?_ | apply seqQ_normal | apply seqQ_ret | apply seqQ_exit | apply blkQ_here | refine g_bx ?_ | apply blkQ_ret | apply blkQ_normal | apply loopQ_ret | apply loopQ_exit | apply unQ_ret | apply unQ_exit | apply unQ_succ)
        refine fo 3 ?_
        refine wpA S hv3 (Rd.cons (hR9 _) _) fc_len fc_one ?_ (hby := by simp only [List.length_append, hRL]; omega) (hmax := by simp only [List.length_append, hRL]; omega)
        intro v5 c5 hv5
        obtain ⟨a10, cap10, rfl, -, -⟩ := hv5.rd fc_len
        repeat' (first | (show HW _ _ _ _ _ _; first | apply hw_seq | apply hw_region | apply hw_block | apply hw_exit | refine g_t ?_ | refine g_f ?_ | apply hw_skip | apply hw_ret | refine g_k S ?_ | refine g_w S ?_) | (show HO _ _ _ _ _ _ _; first | apply ho_nil | refine g_q (qe S) ?_ | refine g_q (ql S) ?_ | refine g_q (qs S) ?_ | refine g_q (qn S) ?_ | refine g_q (qb S) ?_ | refine g_q (qbA S) ?_ | refine g_q (qC (hab)) ?_ | refine wa S (fun b => ?_) | refine ws S ?_) | (show HQ _ _ _ _ _ _ _; first | apply hq_nil | refine k_q (qe S) ?_ | refine k_q (ql S) ?_ | refine k_q (qs S) ?_ | refine k_q (qn S) ?_ | refine k_q (qb S) ?_ | refine k_q (qbA S) ?_ | refine k_q (qC (hab)) ?_) | (show HD _ _ _ _ _ _ _ _; first | apply hd_nil | refine d_q 100 (by exact rfl) (fun _ => qe S) ?_ | refine d_q 100 (by exact rfl) (fun _ => qn S) ?_ | refine d_q 100 (by exact rfl) (fun _ => qb S) ?_ | refine d_q 100 (by exact rfl) (fun _ => qbA S) ?_ | refine dl S 100 ?_ | refine ds S 100 ?_ | refine d_q 0 (by exact rfl) (fun _ => qC (hab)) ?_ | refine d_q 1 (by exact rfl) (fun _ => qC (hab)) ?_ | refine d_q 2 (by exact rfl) (fun _ => qC (hab)) ?_ | refine d_q 3 (by exact rfl) (fun _ => qC (hab)) ?_) | ((first | refine g_b (fun h => ?_) (fun h => ?_)) <;> ((try simp only [zA, zB, zC, zD, zE, zF, ne_eq, zG, zH, and_true, true_and, eq_self, zI, zJ, zK, reduceCtorEq, zL, zM] at h); (try (exfalso; first | omega | with_reducible exact h (by assumption) | with_reducible exact absurd h (by assumption))))) | (show HD _ _ _ _ _ _ _ _; refine da 101 ?_) | refine dx ?_ | apply dx0 | refine dxd ?_ | refine dxk ?_ | apply seqQ_normal | apply seqQ_ret | apply seqQ_exit | apply blkQ_here | refine g_bx ?_ | apply blkQ_ret | apply blkQ_normal | apply loopQ_ret | apply loopQ_exit | apply unQ_ret | apply unQ_exit | apply unQ_succ)
        refine loopQ_sp (i + 1, .slice a10 (M2.l ++ startM (newLd s dn M.w a 4) ++ fs3 ++ (hearM x3 ⟨ffr, fto, fdl, fkd, fatt, fys, fs⟩).2).length cap10, c5) (by repeat (first | exact trivial | refine ⟨rfl, ?_⟩)) ?_ ⟨by simp only; omega, ?_, ?_⟩ (by simp only; omega)
        · simp only [hsucc, ldC]
          exact (by repeat (first | (with_reducible first | refine LS.p0 ?_ | refine LS.p1 ?_ | refine LS.p2 ?_ | refine LS.p3 ?_ | refine LS.p4 ?_ | refine LS.p5 ?_ | refine LS.p6 ?_ | refine LS.p7 ?_ | refine LS.p8 ?_ | refine LS.p9 ?_ | refine LS.p10 ?_ | refine LS.p11 ?_ | refine LS.p12 ?_ | refine LS.e ?_ | exact LS.refl _) | refine LS.p0 ?_ | refine LS.p1 ?_ | refine LS.p2 ?_ | refine LS.p3 ?_ | refine LS.p4 ?_ | refine LS.p5 ?_ | refine LS.p6 ?_ | refine LS.p7 ?_ | refine LS.p8 ?_ | refine LS.p9 ?_ | refine LS.p10 ?_ | refine LS.p11 ?_ | refine LS.p12 ?_ | (with_reducible refine LS.c ?_)))
        · simp only [hsucc, List.length_append]
          omega
        · simp only [hsucc]
          rw [← List.append_assoc]
          exact hv5
      · obtain rfl : i = told.length := by omega
        rw [hlast rfl] at hv3 hI3 ⊢
        have hLO4 := hlast rfl ▸ hLO3
        repeat' (first | (show HW _ _ _ _ _ _; first | apply hw_seq | apply hw_region | apply hw_block | apply hw_exit | refine g_t ?_ | refine g_f ?_ | apply hw_skip | apply hw_ret | refine g_k S ?_ | refine g_w S ?_) | (show HO _ _ _ _ _ _ _; first | apply ho_nil | refine g_q (qe S) ?_ | refine g_q (ql S) ?_ | refine g_q (qs S) ?_ | refine g_q (qn S) ?_ | refine g_q (qb S) ?_ | refine g_q (qbA S) ?_ | refine g_q (qC (hab)) ?_ | refine wa S (fun b => ?_) | refine ws S ?_) | (show HQ _ _ _ _ _ _ _; first | apply hq_nil | refine k_q (qe S) ?_ | refine k_q (ql S) ?_ | refine k_q (qs S) ?_ | refine k_q (qn S) ?_ | refine k_q (qb S) ?_ | refine k_q (qbA S) ?_ | refine k_q (qC (hab)) ?_) | (show HD _ _ _ _ _ _ _ _; first | apply hd_nil | refine d_q 100 (by exact rfl) (fun _ => qe S) ?_ | refine d_q 100 (by exact rfl) (fun _ => qn S) ?_ | refine d_q 100 (by exact rfl) (fun _ => qb S) ?_ | refine d_q 100 (by exact rfl) (fun _ => qbA S) ?_ | refine dl S 100 ?_ | refine ds S 100 ?_ | refine d_q 0 (by exact rfl) (fun _ => qC (hab)) ?_ | refine d_q 1 (by exact rfl) (fun _ => qC (hab)) ?_ | refine d_q 2 (by exact rfl) (fun _ => qC (hab)) ?_ | refine d_q 3 (by exact rfl) (fun _ => qC (hab)) ?_) | ((first | refine g_b (fun h => ?_) (fun h => ?_)) <;> ((try simp only [zA, zB, zC, zD, zE, zF, ne_eq, zG, zH, and_true, true_and, eq_self, zI, zJ, zK, reduceCtorEq, zL, zM] at h); (try (exfalso; first | omega | with_reducible exact h (by assumption) | with_reducible exact absurd h (by assumption))))) | (show HD _ _ _ _ _ _ _ _; refine da 101 ?_) | refine dx ?_ | apply dx0 | refine dxd ?_ | refine dxk ?_ | apply seqQ_normal | apply seqQ_ret | apply seqQ_exit | apply blkQ_here | refine g_bx ?_ | apply blkQ_ret | apply blkQ_normal | apply loopQ_ret | apply loopQ_exit | apply unQ_ret | apply unQ_exit | apply unQ_succ)
        obtain ⟨L2, hw2, hls2⟩ := hsh { G2 with lv := .slice al3 (M2.l ++ startM (newLd s dn M.w a 4) ++ (hearsM (newLd s dn M.w a 4) told).2).length capl3, lc := lc3 } { M2 with l := M2.l ++ startM (newLd s dn M.w a 4) ++ (hearsM (newLd s dn M.w a 4) told).2 } { g with ld := g.ld.set dn (lp, wv', wc') } { m with leads := m.leads.set dn (some (hearsM (newLd s dn M.w a 4) told).1) }
          (hW2.setL hv3) rfl rfl rfl (hok2.lead (q := (lp, wv', wc')) hLO4) rfl
        refine sp1 (LS.trans hls2 ?_) ⟨rfl, hGP _ _ hw2⟩
        have eB2 := eB (some (hearsM (newLd s dn M.w a 4) told).1) (lp, wv', wc') { m with leads := m.leads.set dn (some (hearsM (newLd s dn M.w a 4) told).1) } { g with ld := g.ld.set dn (lp, wv', wc') } rfl rfl
        have eV2 := ldVs_set (g := g) (g' := { g with ld := g.ld.set dn (lp, wv', wc') }) (m := m) (m' := { m with leads := m.leads.set dn (some (hearsM (newLd s dn M.w a 4) told).1) }) (o' := some (hearsM (newLd s dn M.w a 4) told).1) (q' := (lp, wv', wc')) rfl rfl
        simp only [wdOp, ndB, ndO, wdO, eV2]
        rw [eB2, eA, hwv2, e1]
        simp only [ldB, ldC, ldV]
        refine LS.trans ls7 (LS.cutAt 9 ?_)
        exact (by repeat (first | (with_reducible first | refine LS.p0 ?_ | refine LS.p1 ?_ | refine LS.p2 ?_ | refine LS.p3 ?_ | refine LS.p4 ?_ | refine LS.p5 ?_ | refine LS.p6 ?_ | refine LS.p7 ?_ | refine LS.p8 ?_ | refine LS.p9 ?_ | refine LS.p10 ?_ | refine LS.p11 ?_ | refine LS.p12 ?_ | refine LS.e ?_ | exact LS.refl _) | refine LS.p0 ?_ | refine LS.p1 ?_ | refine LS.p2 ?_ | refine LS.p3 ?_ | refine LS.p4 ?_ | refine LS.p5 ?_ | refine LS.p6 ?_ | refine LS.p7 ?_ | refine LS.p8 ?_ | refine LS.p9 ?_ | refine LS.p10 ?_ | refine LS.p11 ?_ | refine LS.p12 ?_ | (with_reducible refine LS.c ?_)))
  · have hst2 : ¬ (ab' + 1 + j) % M.w.length = s := fun h => hlt (hst.1 h)
    repeat' (first | (show HW _ _ _ _ _ _; first | apply hw_seq | apply hw_region | apply hw_block | apply hw_exit | refine g_t ?_ | refine g_f ?_ | apply hw_skip | apply hw_ret | refine g_k S ?_ | refine g_w S ?_) | (show HO _ _ _ _ _ _ _; first | apply ho_nil | refine g_q (qe S) ?_ | refine g_q (ql S) ?_ | refine g_q (qs S) ?_ | refine g_q (qn S) ?_ | refine g_q (qb S) ?_ | refine g_q (qbA S) ?_ | refine g_q (qC (hab)) ?_ | refine wa S (fun b => ?_) | refine ws S ?_) | (show HQ _ _ _ _ _ _ _; first | apply hq_nil | refine k_q (qe S) ?_ | refine k_q (ql S) ?_ | refine k_q (qs S) ?_ | refine k_q (qn S) ?_ | refine k_q (qb S) ?_ | refine k_q (qbA S) ?_ | refine k_q (qC (hab)) ?_) | (show HD _ _ _ _ _ _ _ _; first | apply hd_nil | refine d_q 100 (by exact rfl) (fun _ => qe S) ?_ | refine d_q 100 (by exact rfl) (fun _ => qn S) ?_ | refine d_q 100 (by exact rfl) (fun _ => qb S) ?_ | refine d_q 100 (by exact rfl) (fun _ => qbA S) ?_ | refine dl S 100 ?_ | refine ds S 100 ?_ | refine d_q 0 (by exact rfl) (fun _ => qC (hab)) ?_ | refine d_q 1 (by exact rfl) (fun _ => qC (hab)) ?_ | refine d_q 2 (by exact rfl) (fun _ => qC (hab)) ?_ | refine d_q 3 (by exact rfl) (fun _ => qC (hab)) ?_) | ((first | refine g_b (fun h => ?_) (fun h => ?_)) <;> ((try simp only [zA, zB, zC, zD, zE, zF, ne_eq, zG, zH, and_true, true_and, eq_self, zI, zJ, zK, reduceCtorEq, zL, zM] at h); (try (exfalso; first | omega | with_reducible exact h (by assumption) | with_reducible exact absurd h (by assumption))))) | (show HD _ _ _ _ _ _ _ _; refine da 101 ?_) | refine dx ?_ | apply dx0 | refine dxd ?_ | refine dxk ?_ | apply seqQ_normal | apply seqQ_ret | apply seqQ_exit | apply blkQ_here | refine g_bx ?_ | apply blkQ_ret | apply blkQ_normal | apply loopQ_ret | apply loopQ_exit | apply unQ_ret | apply unQ_exit | apply unQ_succ)
    refine loopQ_sp (ab' + 1 + (j : Int) + 1) (by repeat (first | exact trivial | refine ⟨rfl, ?_⟩)) (LS.refl _) ⟨j + 1, by push_cast; omega, by push_cast; omega⟩ (by omega)
end Go.HL
end

/-! StE -/
section
namespace Go.HL
open Go Go.Proofs
set_option linter.unusedVariables false
set_option linter.unusedSimpArgs false
theorem si_new {n : Nat} (h : 216 ≤ n) (h2 : n ≤ 1000000) : SI ⟨zeros n, false, -1⟩ ⟨openM (zeros n), false⟩ := by
  refine ⟨⟨by simpa [zeros] using h, by simpa [zeros] using h2, by simp, by simp, rfl, rfl⟩, fun d hd => ?_⟩
  have : stAt ⟨openM (zeros n), false⟩ d = zeroS := by
    unfold stAt
    rw [open_zeros h]
    show ((List.replicate 6 zeroE).getD d zeroE).s = zeroS
    rw [List.getD, List.getElem?_replicate]
    split <;> rfl
  rw [this]
  exact ⟨by decide, by decide, by decide, by decide, by decide⟩
attribute [local irreducible] HW HO HQ HD HC QOp Has Upd Puts Gets seqQ blkQ loopQ fnQ actQ nextP unQ MapF
attribute [local irreducible] jcells plC zeros openM putM turnM siteM
end Go.HL
end

/-! WoJ -/
section
namespace Go.HL
open Go Go.Proofs
set_option linter.unusedVariables false
set_option linter.unusedSimpArgs false
theorem WI.at {M : Wm} (h : WI M) {s : Int} (h0 : 0 ≤ s) (h1 : s < M.n.length) : NdI M.w s.toNat (ndAt M s) := h.nd s.toNat _ (getD_some (by omega))
theorem ndAt_set {M : Wm} {s : Int} {m : Nd} (h0 : 0 ≤ s) (h1 : s < M.n.length) : ndAt (setN M s m) s = m := by
  unfold ndAt setN
  simp only
  rw [List.getD, List.getElem?_set_self (by omega)]
  rfl
/-- how a step leaves a world's frame -/
structure Same (M M' : Wm) : Prop where
  w : M'.w = M.w
  n : M'.n.length = M.n.length
theorem Same.refl (M : Wm) : Same M M := ⟨rfl, rfl⟩
theorem Same.trans {A B C : Wm} (h : Same A B) (h' : Same B C) : Same A C := ⟨h'.w.trans h.w, h'.n.trans h.n⟩
theorem same_set (M : Wm) (s : Int) (m : Nd) : Same M (setN M s m) := ⟨rfl, by simp [setN]⟩
theorem same_hear (M : Wm) (s : Int) (f : Fr) : Same M (hearW M s f).1 := ⟨rfl, by simp [hearW, setN]⟩
theorem hearW_l (M : Wm) (s : Int) (f : Fr) : (hearW M s f).1.l = M.l := rfl
theorem hearW_site {M : Wm} {s : Int} {f : Fr} (h0 : 0 ≤ s) (h1 : s < M.n.length) (h : (hearW M s f).2.2 = true) : (ndAt (hearW M s f).1 s).site ≠ none := by
  have e : ndAt (hearW M s f).1 s = (hearNd s (ndAt M s) M.ev f).1 := by
    unfold hearW
    exact ndAt_set h0 h1
  rw [e]
  unfold hearW at h
  simp only at h
  unfold hearNd at h ⊢
  split at h
  · cases h
  · split at h
    · cases h
    · rename_i hoff
      simp only [if_neg hoff]
      simp
theorem hearW_one (M : Wm) (s : Int) (f : Fr) : (hearW M s f).2.1.length ≤ 1 := by
  unfold hearW hearNd
  split
  · simp
  · rename_i j ref _
    split
    · simp
    · simp only
      unfold siteM
      split
      · simp
      split
      · simp
      split
      · simp
      · simp only
        split <;> simp
theorem hearsM_len {w : List Int} {s d : Nat} (hs : s < w.length) (hw : w.length ≤ 7) (hd : d < 6) : ∀ (l : List Fr) (x : Ld) (acc : List Fr), LdI w s d x → (∀ f ∈ l, okF w.length f) → (l.foldl (fun q f => ((hearM q.1 f).1, q.2 ++ (hearM q.1 f).2)) (x, acc)).2.length ≤ acc.length + 7 * l.length
  | [], x, acc, hx, _ => by simp
  | f :: l, x, acc, hx, hl => by
    rw [List.foldl_cons]
    have k1 := (hx.hear hs hw hd (hl f (by simp)).1).1
    have k2 := hear_len x f
    rw [hx.ww] at k2
    have := hearsM_len hs hw hd l _ (acc ++ (hearM x f).2) k1 (fun g hg => hl g (by simp [hg]))
    simp only [List.length_append, List.length_cons] at this ⊢
    omega
theorem startM_le (m : Ld) : (startM m).length ≤ m.w.length := by
  unfold startM
  split <;> exact flat_len_le _ (allF_le m _ _) _
structure TryOk (M M' : Wm) (s : Int) (b : Bool) : Prop where
  wi : WI M'
  same : Same M M'
  len : M'.l.length ≤ M.l.length + 14
  up : b = true → (ndAt M' s).site ≠ none
theorem tryAbove_ok {w : List Int} {s : Nat} {m : Nd} (hm : NdI w s m) {d p : Int} (hd : 0 ≤ d ∧ d < 6) (hp : 0 ≤ p ∧ p ≤ 1048576) : 0 ≤ tryAbove m d p ∧ tryAbove m d p ≤ 1048576 := by
  unfold tryAbove
  split
  · exact hp
  · rename_i x hx
    have := hm.ldi d.toNat x (by
      have h6 := hm.leads
      rw [getD_some (x := none) (l := m.leads) (i := d.toNat) (by omega), hx])
    have h1 := this.seen0
    have h2 := this.seen1
    omega
theorem try_ok {M : Wm} (h : WI M) {s d p : Int} (h0 : 0 ≤ s) (h1 : s < M.n.length) (hs : (ndAt M s).site ≠ none) (hd : 0 ≤ d ∧ d < 6) (hp : 0 ≤ p ∧ p ≤ 1048576) : TryOk M (tryW M s d p).1 s (tryW M s d p).2 := by
  have hn := h.wn
  have hw := h.wl
  have hw1 := h.w1
  have hab := tryAbove_ok (h.at h0 h1) hd hp
  unfold tryW
  simp only
  generalize ha : tryAtt M.w.length s (tryAbove (ndAt M s) d p + 1) = a
  have ha1 : 1 ≤ a := by
    unfold tryAtt at ha
    have := Int.emod_nonneg (s - (tryAbove (ndAt M s) d p + 1)) (by omega : (M.w.length : Int) ≠ 0)
    omega
  split
  · exact ⟨h, .refl _, by simp, fun _ => hs⟩
  rename_i hle
  obtain ⟨hI, hF⟩ := h.hear (f := tryF s d a) h0 h1 (by show s < _; omega)
  have hS := same_hear M s (tryF s d a)
  have hone := hearW_one M s (tryF s d a)
  have hl := hearW_l M s (tryF s d a)
  have hst := hearW_site (f := tryF s d a) h0 h1
  generalize hearW M s (tryF s d a) = R at *
  split
  · rename_i hr
    exact ⟨hI, hS, by rw [hl]; omega, fun e => by cases e⟩
  rename_i hr
  have hr' : R.2.2 = true := by simpa using hr
  have h1' : s < R.1.n.length := by rw [hS.n]; exact h1
  have hx := hI.at h0 h1'
  have hNI : LdI M.w s.toNat d.toNat (newLd s d M.w a 4) := by
    have := newLd_I (w := M.w) (s := s.toNat) (d := d.toNat) (a := a) (k := 4) (by omega) (by omega)
    rw [show ((s.toNat : Nat) : Int) = s by omega, show ((d.toNat : Nat) : Int) = d by omega] at this
    exact this
  have hho := hearsM_ok (w := M.w) (s := s.toNat) (d := d.toNat) (by omega) hw (by omega) R.2.1 (newLd s d M.w a 4) [] hNI hF (fun f hf => by cases hf)
  have hhl := hearsM_len (w := M.w) (s := s.toNat) (d := d.toNat) (by omega) hw (by omega) R.2.1 (newLd s d M.w a 4) [] hNI hF
  change LdI M.w s.toNat d.toNat (hearsM (newLd s d M.w a 4) R.2.1).1 ∧ ∀ f ∈ (hearsM (newLd s d M.w a 4) R.2.1).2, okF M.w.length f at hho
  change (hearsM (newLd s d M.w a 4) R.2.1).2.length ≤ _ at hhl
  have hso := startM_ok hNI (by omega) hw (by omega)
  have hsl := startM_le (newLd s d M.w a 4)
  rw [show (newLd s d M.w a 4).w = M.w from rfl] at hsl
  have hset := hI.set (m := { ndAt R.1 s with leads := (ndAt R.1 s).leads.set d.toNat (some (hearsM (newLd s d M.w a 4) R.2.1).1) }) h0 (hx.lead (by rw [hS.w]; exact hho.1))
  refine ⟨hset.setL fun f hf => ?_, hS.trans ⟨rfl, by simp [setN]⟩, ?_, fun _ => ?_⟩
  · show okF R.1.w.length f
    rw [hS.w]
    rw [hl] at hf
    rcases List.mem_append.1 hf with hf | hf
    · rcases List.mem_append.1 hf with hf | hf
      · exact h.fr f hf
      · exact hso f hf
    · exact hho.2 f hf
  · simp only [List.length_append, hl]
    simp only [List.length_nil] at hhl
    omega
  · have e : (ndAt (setN R.1 s { ndAt R.1 s with leads := (ndAt R.1 s).leads.set d.toNat (some (hearsM (newLd s d M.w a 4) R.2.1).1) }) s).site ≠ none := by
      rw [ndAt_set h0 h1']
      exact hst hr'
    exact e
theorem decideF_ok {M : Wm} (h : WI M) {s : Int} {d : Nat} (h0 : 0 ≤ s) (h1 : s < M.n.length) (hd : d < 6) {st : St} (hst : stOk st) : ∀ f ∈ decideF M s d st, okF M.w.length f := by
  intro f hf
  have hn := h.wn
  have hw := h.wl
  unfold decideF at hf
  obtain ⟨i, hi, rfl⟩ := List.mem_map.1 hf
  have := List.mem_range.1 hi
  obtain ⟨g1, g2, g3, g4, g5⟩ := hst
  unfold okF badF
  simp only
  omega
theorem decideF_len (M : Wm) (s d : Int) (st : St) : (decideF M s d st).length = M.w.length := by simp [decideF]
structure TickOk (M : Wm) (q : Wm × Bool) (s : Int) (k : Nat) : Prop where
  wi : WI q.1
  same : Same M q.1
  len : q.1.l.length ≤ M.l.length + 14 * k
  up : q.2 = true → (ndAt q.1 s).site ≠ none
theorem tickD_ok {M : Wm} {q : Wm × Bool} {s : Int} {k d : Nat} (h : TickOk M q s k) (h0 : 0 ≤ s) (h1 : s < M.n.length) (hd : d < 6) : TickOk M (tickD s q d) s (k + 1) := by
  obtain ⟨M1, b⟩ := q
  have hl := h.len
  have hwl := h.wi.wl
  have hn := h.same.n
  simp only at hl hn hwl
  unfold tickD
  split
  · exact ⟨h.wi, h.same, by simp only; omega, h.up⟩
  split
  · exact ⟨h.wi, h.same, by simp only; omega, fun e => by cases e⟩
  rename_i hb _ j ref hs
  have hs' : (ndAt M1 s).site = some (j, ref) := hs
  have hni := h.wi.at (s := s) h0 (by simp only; omega)
  have hS := (hni.jn hs').st d hd
  split
  · exact ⟨h.wi, h.same, by simp only; omega, h.up⟩
  split
  · refine ⟨h.wi.setL fun f hf => ?_, ⟨h.same.w, h.same.n⟩, ?_, fun _ => h.up (by simpa using hb)⟩
    · rcases List.mem_append.1 hf with hf | hf
      · exact h.wi.fr f hf
      · exact decideF_ok h.wi h0 (by simp only; omega) hd hS f hf
    · simp only [List.length_append, decideF_len]
      omega
  · obtain ⟨g1, g2, g3, g4, g5⟩ := hS
    have ht := try_ok h.wi (s := s) (d := d) (p := (stAt j d).pr) h0 (by simp only; omega) (h.up (by simpa using hb)) (by omega) (by omega)
    have h4 : (tryW M1 s d (stAt j d).pr).1.l.length ≤ M1.l.length + 14 := ht.len
    have h5 : (tryW M1 s d (stAt j d).pr).1.l.length ≤ M.l.length + 14 * (k + 1) := by omega
    exact ⟨ht.wi, h.same.trans ht.same, h5, ht.up⟩
theorem ticks_ok {M : Wm} (h : WI M) {s : Int} (h0 : 0 ≤ s) (h1 : s < M.n.length) (hs : (ndAt M s).site ≠ none) : ∀ k, k ≤ 6 → TickOk M ((List.range k).foldl (tickD s) (M, true)) s k
  | 0, _ => ⟨h, .refl _, by simp, fun _ => hs⟩
  | k + 1, hk => by
    rw [List.range_succ, List.foldl_append]
    exact tickD_ok (ticks_ok h h0 h1 hs k (by omega)) h0 h1 (by omega)
/-- what a step keeps -/
structure StepOk (M M' : Wm) (k : Nat) : Prop where
  wi : WI M'
  same : Same M M'
  len : M'.l.length ≤ M.l.length + k
theorem StepOk.refl {M : Wm} (h : WI M) (k : Nat) : StepOk M M k := ⟨h, .refl _, by omega⟩
theorem StepOk.mono {M M' : Wm} {k k' : Nat} (h : StepOk M M' k) (hk : k ≤ k') : StepOk M M' k' := ⟨h.wi, h.same, by have := h.len; omega⟩
theorem up_site {M : Wm} {s : Int} (h : upE M s = none) : 0 ≤ s ∧ s < M.n.length ∧ (ndAt M s).site ≠ none := by
  unfold upE at h
  split at h
  · cases h
  · rename_i hn
    obtain ⟨h0, h1⟩ := nodeE_none hn
    split at h
    · cases h
    · rename_i hs
      exact ⟨h0, h1, fun e => hs (by rw [e]; rfl)⟩
theorem tick_ok {M : Wm} (h : WI M) (s : Int) : StepOk M (tickW M s).1 84 := by
  unfold tickW
  split
  · exact .refl h _
  · rename_i hu
    obtain ⟨h0, h1, hs⟩ := up_site hu
    have := ticks_ok h h0 h1 hs 6 (by omega)
    exact ⟨this.wi, this.same, this.len⟩
theorem begin_ok {M : Wm} (h : WI M) (s d : Int) : StepOk M (beginW M s d).1 7 := by
  have hn := h.wn
  have hw := h.wl
  unfold beginW
  split
  · exact .refl h _
  rename_i hb
  split
  · exact .refl h _
  split
  · exact .refl h _
  have hNI : LdI M.w s.toNat d.toNat (newLd s d M.w 0 2) := by
    have := newLd_I (w := M.w) (s := s.toNat) (d := d.toNat) (a := 0) (k := 2) (by omega) (by omega)
    rw [show ((s.toNat : Nat) : Int) = s by omega, show ((d.toNat : Nat) : Int) = d by omega] at this
    exact this
  have hso := startM_ok hNI (by omega) hw (by omega)
  have hsl := startM_le (newLd s d M.w 0 2)
  rw [show (newLd s d M.w 0 2).w = M.w from rfl] at hsl
  have hset := h.set (m := { ndAt M s with leads := (ndAt M s).leads.set d.toNat (some (newLd s d M.w 0 2)) }) (s := s) (by omega) ((h.at (by omega) (by omega)).lead hNI)
  refine ⟨hset.setL fun f hf => ?_, ⟨rfl, by simp [setN]⟩, by simp; omega⟩
  rcases List.mem_append.1 hf with hf | hf
  · exact h.fr f hf
  · exact hso f hf
theorem refuse_ok {M : Wm} (h : WI M) (s d : Int) : StepOk M (refuseW M s d).1 0 := by
  unfold refuseW
  split
  · exact .refl h _
  split
  · exact .refl h _
  rename_i hu
  obtain ⟨h0, h1, hs⟩ := up_site hu
  have hx := h.at h0 h1
  refine ⟨h.set h0 ?_, same_set _ _ _, by simp [setN]⟩
  unfold refuseN
  split
  · exact hx
  · rename_i j ref hj
    exact ⟨hx.leads, hx.done, hx.b512, hx.si, fun j2 r2 e => by cases e; exact hx.up j ref hj, fun e => (by cases e), hx.ldi⟩
theorem frame_at {M : Wm} (h : WI M) {k : Int} (hk : wat M k = none) : okF M.w.length (M.l.getD k.toNat zeroF) ∧ 0 ≤ k ∧ k < M.l.length := by
  unfold wat at hk
  split at hk
  · cases hk
  · have hlt : k.toNat < M.l.length := by omega
    have e : M.l.getD k.toNat zeroF = M.l[k.toNat] := by rw [List.getD, List.getElem?_eq_getElem hlt]; rfl
    rw [e]
    exact ⟨h.fr _ (List.getElem_mem _), by omega, by omega⟩
theorem deliver_ok {M : Wm} (h : WI M) (k : Int) : StepOk M (deliverW M k).1 6 := by
  have hn := h.wn
  have hw := h.wl
  unfold deliverW
  split
  · exact .refl h _
  rename_i hk
  obtain ⟨⟨hbad, hto, hfr⟩, hk0, hk1⟩ := frame_at h hk
  generalize M.l.getD k.toNat zeroF = f at *
  have hE := h.erase k.toNat
  have hel : (M.l.eraseIdx k.toNat).length = M.l.length - 1 := by rw [List.length_eraseIdx, if_pos (by omega)]
  have hS1 : Same M { M with l := M.l.eraseIdx k.toNat } := ⟨rfl, rfl⟩
  have hb2 := hbad
  unfold badF at hb2
  simp only
  split
  · exact ⟨hE, hS1, by simp only [hel]; omega⟩
  split
  · split
    · exact ⟨hE, hS1, by simp only [hel]; omega⟩
    · rename_i x hx
      have hni := hE.at (s := f.to) (by omega) (by simp only; omega)
      have h6 := hni.leads
      have hLI := hni.ldi f.dl.toNat x (by rw [getD_some (x := none) (by omega), hx])
      obtain ⟨k1, k2⟩ := hLI.hear (by simp only; omega) hw (by omega) hbad
      have k3 := hear_len x f
      rw [hLI.ww] at k3
      have hset := hE.set (m := { ndAt { M with l := M.l.eraseIdx k.toNat } f.to with leads := (ndAt { M with l := M.l.eraseIdx k.toNat } f.to).leads.set f.dl.toNat (some (hearM x f).1) }) (s := f.to) (by omega) (hni.lead k1)
      refine ⟨hset.setL fun g hg => ?_, ⟨rfl, by simp [setN]⟩, ?_⟩
      · rcases List.mem_append.1 hg with hg | hg
        · exact hE.fr g hg
        · exact k2 g hg
      · simp only [List.length_append, hel]
        simp only at k3
        omega
  · obtain ⟨k1, k2⟩ := hE.hear (s := f.to) (f := f) (by omega) (by simp only; omega) hfr
    have k3 := hearW_one { M with l := M.l.eraseIdx k.toNat } f.to f
    have k4 := same_hear { M with l := M.l.eraseIdx k.toNat } f.to f
    refine ⟨k1.setL fun g hg => ?_, ⟨k4.w, k4.n⟩, ?_⟩
    · show okF (hearW { M with l := M.l.eraseIdx k.toNat } f.to f).1.w.length g
      rw [k4.w]
      rcases List.mem_append.1 hg with hg | hg
      · exact hE.fr g hg
      · exact k2 g hg
    · simp only [List.length_append, hel]
      omega
theorem drop_ok {M : Wm} (h : WI M) (k : Int) : StepOk M (dropW M k).1 0 := by
  unfold dropW
  split
  · exact .refl h _
  · exact ⟨h.erase _, ⟨rfl, rfl⟩, by simp only [List.length_eraseIdx]; split <;> omega⟩
theorem twice_ok {M : Wm} (h : WI M) (k : Int) : StepOk M (twiceW M k).1 1 := by
  unfold twiceW
  split
  · exact .refl h _
  rename_i hk
  obtain ⟨hf, hk0, hk1⟩ := frame_at h hk
  refine ⟨h.setL fun g hg => ?_, ⟨rfl, rfl⟩, ?_⟩
  · rcases List.mem_append.1 hg with hg | hg
    · exact h.fr g (List.mem_of_mem_take hg)
    · rcases List.mem_cons.1 hg with hg | hg
      · rw [hg]; exact hf
      · exact h.fr g (List.mem_of_mem_drop hg)
  · simp only [List.length_append, List.length_take, List.length_cons, List.length_drop]
    omega
theorem link_ok {M : Wm} (h : WI M) (a b : Int) (c : Bool) : StepOk M (linkW M a b c).1 0 := by
  unfold linkW
  split
  · exact .refl h _
  · exact ⟨h.setB _, ⟨rfl, rfl⟩, by simp⟩
theorem cut_ok {M : Wm} (h : WI M) (s n : Int) (hn : n ≤ 9223372036854775807) : StepOk M (cutW M s n).1 0 := by
  unfold cutW
  split
  · exact .refl h _
  split
  · exact .refl h _
  rename_i hn0 _ hu
  obtain ⟨h0, h1, hs⟩ := up_site hu
  have hx := h.at h0 h1
  refine ⟨h.set h0 ⟨hx.leads, hx.done, hx.b512, hx.si.cut (by omega) hn, hx.up, hx.dn, hx.ldi⟩, same_set _ _ _, by simp [setN]⟩
theorem SI.down {m : Pl} {b : Bool} (h : SI m ⟨openM m.b, b⟩) : SI { m with off := true } ⟨openM m.b, true⟩ := ⟨⟨h.ji.lo, h.ji.hi, h.ji.c0, h.ji.c1, rfl, rfl⟩, h.st⟩
theorem down_ok {M : Wm} (h : WI M) (s : Int) : StepOk M (downW M s).1 0 := by
  unfold downW
  split
  · exact .refl h _
  rename_i hu
  obtain ⟨h0, h1, hs⟩ := up_site hu
  have hx := h.at h0 h1
  exact ⟨h.set h0 (hx.fall hx.b512 hx.si.down rfl), same_set _ _ _, by simp [setN]⟩
theorem NdI.boot {w : List Int} {s : Nat} {m : Nd} (h : NdI w s m) (dn : List Bool) (hd : dn.length = 6) : NdI w s { bootN m with done := dn } :=
  ⟨h.leads, hd, h.b512, h.si.boot, fun j ref e => by cases e; exact ⟨rfl, rfl⟩, fun e => (by cases e), h.ldi⟩
theorem up_ok {M : Wm} (h : WI M) (s : Int) : StepOk M (upW M s).1 0 := by
  unfold upW
  split
  · exact .refl h _
  split
  · exact .refl h _
  rename_i hu _
  obtain ⟨h0, h1⟩ := nodeE_none hu
  have hx := h.at h0 h1
  exact ⟨(h.set h0 (hx.boot _ (by rw [noteN_len]; exact hx.done))).setE (noteN_ev _ _ _ h.evl), ⟨rfl, by simp [setN]⟩, by simp [setN]⟩
theorem newNd_I (w : List Int) (s : Nat) : NdI w s newNd := by
  have hS := si_new (n := 512) (by omega) (by omega)
  refine ⟨rfl, rfl, (by show (zeros 512).length = 512; unfold zeros; exact List.length_replicate), hS, fun j ref e => by cases e; exact ⟨rfl, rfl⟩, fun e => (by cases e), fun d x hx => ?_⟩
  simp only [newNd, noLeads, List.getElem?_replicate] at hx
  split at hx <;> cases hx
theorem new_ok {w : List Int} (h : checkW w = none) : WI (newW w) := by
  obtain ⟨c1, c2, -⟩ := check_none h
  refine ⟨h, c2, c1, by simp [newW], fun f hf => (by cases hf), by simp [newW], fun s m hm => ?_⟩
  simp only [newW, List.getElem?_replicate] at hm
  split at hm
  · cases hm
    exact newNd_I _ _
  · cases hm
end Go.HL
end

/-! WoV -/
section
namespace Go.HL
open Go Go.Proofs
set_option linter.unusedVariables false
set_option linter.unusedSimpArgs false
def tickF (s : Int) (M : Wm) (k : Nat) : Wm × Bool := (List.range k).foldl (tickD s) (M, true)
theorem tickF_succ (s : Int) (M : Wm) (k : Nat) : tickF s M (k + 1) = tickD s (tickF s M k) k := by
  unfold tickF
  rw [List.range_succ, List.foldl_append]
  rfl
theorem tickF_stop {s : Int} {M : Wm} {k : Nat} (h : (tickF s M k).2 = false) : ∀ j, tickF s M (k + j) = tickF s M k
  | 0 => rfl
  | j + 1 => by
    rw [← Nat.add_assoc, tickF_succ, tickF_stop h j]
    unfold tickD
    rw [if_pos h]
theorem decideF_succ (M : Wm) (s d : Int) (st : St) (i : Nat) : ((List.range (i + 1)).map fun (i : Nat) => (⟨s, (i : Int), d, 7, st.pr, false, ⟨st.ph, 0, 0⟩⟩ : Fr)) = ((List.range i).map fun (i : Nat) => (⟨s, (i : Int), d, 7, st.pr, false, ⟨st.ph, 0, 0⟩⟩ : Fr)) ++ [⟨s, (i : Int), d, 7, st.pr, false, ⟨st.ph, 0, 0⟩⟩] := by
  rw [List.range_succ, List.map_append]
  rfl
theorem ls_out {A L : Heap} {c : List Blk} : LS (A ++ L).flatten (c :: (A ++ L)).flatten := by
  rw [List.flatten_cons]
  exact LS.skips c (LS.refl _)
theorem ls_in {A L : Heap} {c : List Blk} : LS (A ++ (c :: L)).flatten (c :: (A ++ L)).flatten := by
  simp only [List.flatten_cons, List.flatten_append]
  refine LS.of_perm ?_
  rw [← List.append_assoc, ← List.append_assoc]
  exact List.perm_append_comm.append_right _
attribute [local irreducible] HW HO HQ HD HC QOp Has Upd Puts Gets seqQ blkQ loopQ fnQ actQ nextP unQ MapF
attribute [local irreducible] ndL jcells plC siteM ldL openM tryW
theorem wtick_calls (T : Nat) (E : Nat → Addr) (G : WdG) (M : Wm) (s : Int) (L : Heap) (hG : Er T E [2, 3, 4, 5, 6] L) (hW : WdOk G M) (hM : WI M) (hl : M.l.length ≤ 99999000) :
    HC Tryz.prog 83 [pt G.wp 0, iv s] (wdH G M ++ L) (fun v L' => v = eV T E (tickW M s).2 ∧ WdP G (tickW M s).1 L L') := by
  unfold tickW
  have hself := wdP_self hW L
  rcases up_err (M := M) (s := s) with ⟨e, he⟩ | ⟨he, hn, h0, h1, j, ref, hs⟩
  · have ku := kup_H s hG.sub hW
    have hG' := er_wdH hG G M
    generalize wdH G M ++ L = H at *
    simp only [he] at ku ⊢
    refine hc_enter (fun _ _ => Tryz.call83 _ _) Tryz.func83 rfl Tryz.ntmps83 (Nat.le_of_ble_eq_true rfl) ?_; simp only [args0, Nat.reduceAdd]
    repeat' (first | (show HW _ _ _ _ _ _; first | apply hw_seq | apply hw_region | apply hw_block | apply hw_exit | refine g_t ?_ | refine g_f ?_ | apply hw_skip | apply hw_ret | refine g_k S ?_ | refine g_w S ?_) | (show HO _ _ _ _ _ _ _; first | apply ho_nil | refine g_q (qe S) ?_ | refine g_q (ql S) ?_ | refine g_q (qs S) ?_ | refine g_q (qn S) ?_ | refine g_q (qb S) ?_ | refine g_q (qbA S) ?_ | refine g_q (qA S) ?_ | refine g_q (qC (ku)) ?_ | refine g_n ?_ | refine g_on ?_ | refine wa S (fun b => ?_) | refine ws S ?_ | refine wS S (fun b => ?_) | refine wSa S (fun b => ?_) | refine wSn S (fun b => ?_)) | (show HQ _ _ _ _ _ _ _; first | apply hq_nil | refine k_q (qe S) ?_ | refine k_q (ql S) ?_ | refine k_q (qs S) ?_ | refine k_q (qn S) ?_ | refine k_q (qb S) ?_ | refine k_q (qbA S) ?_ | refine k_q (qA S) ?_ | refine k_q (qC (ku)) ?_ | refine k_n ?_) | (show HD _ _ _ _ _ _ _ _; first | apply hd_nil | refine d_q 100 (by exact rfl) (fun _ => qe S) ?_ | refine d_q 100 (by exact rfl) (fun _ => qn S) ?_ | refine d_q 100 (by exact rfl) (fun _ => qb S) ?_ | refine d_q 100 (by exact rfl) (fun _ => qbA S) ?_ | refine d_q 100 (by exact rfl) (fun _ => qA S) ?_ | refine dl S 100 ?_ | refine ds S 100 ?_ | refine d_n 100 ?_ | refine d_q 0 (by exact rfl) (fun _ => qC (ku)) ?_ | refine d_q 1 (by exact rfl) (fun _ => qC (ku)) ?_ | refine d_q 2 (by exact rfl) (fun _ => qC (ku)) ?_ | refine d_q 3 (by exact rfl) (fun _ => qC (ku)) ?_) | ((first | refine g_b (fun h => ?_) (fun h => ?_) | refine g_s (fun h => ?_) (fun h => ?_) | refine k_s (fun h => ?_) (fun h => ?_) | refine d_sp 100 (fun h => ?_) (fun h => ?_)) <;> ((try simp only [zA, zB, zC, zD, zE, zF, ne_eq, zG, zH, and_true, true_and, eq_self, zI, zJ, zK, reduceCtorEq, zL, zM] at h); (try (exfalso; first | omega | with_reducible exact h (by assumption) | with_reducible exact absurd h (by assumption))))) | (show HD _ _ _ _ _ _ _ _; refine da 101 ?_) | refine dx ?_ | apply dx0 | refine dxd ?_ | refine dxk ?_ | apply seqQ_normal | apply seqQ_ret | apply seqQ_exit | apply blkQ_here | refine g_bx ?_ | apply blkQ_ret | apply blkQ_normal | apply loopQ_ret | apply loopQ_exit | apply unQ_ret | apply unQ_exit | apply unQ_succ)
    exact er1 rfl ⟨rfl, hself⟩
  · have ku := kup_H s hG.sub hW
    simp only [he, upV_up hn] at ku ⊢
    have hticks := fun k hk => ticks_ok hM h0 h1 (by rw [hs]; simp) k hk
    change ∀ k, k ≤ 6 → TickOk M (tickF s M k) s k at hticks
    change HC _ _ _ _ (fun v L' => v = eV T E none ∧ WdP G (tickF s M 6).1 L L')
    refine hc_enter (fun _ _ => Tryz.call83 _ _) Tryz.func83 rfl Tryz.ntmps83 (Nat.le_of_ble_eq_true rfl) ?_; simp only [args0, Nat.reduceAdd]
    repeat' (first | (show HW _ _ _ _ _ _; first | apply hw_seq | apply hw_region | apply hw_block | apply hw_exit | refine g_t ?_ | refine g_f ?_ | apply hw_skip | apply hw_ret | refine g_k S ?_ | refine g_w S ?_) | (show HO _ _ _ _ _ _ _; first | apply ho_nil | refine g_q (qe S) ?_ | refine g_q (ql S) ?_ | refine g_q (qs S) ?_ | refine g_q (qn S) ?_ | refine g_q (qb S) ?_ | refine g_q (qbA S) ?_ | refine g_q (qA S) ?_ | refine g_q (qC (ku)) ?_ | refine g_n ?_ | refine g_on ?_ | refine wa S (fun b => ?_) | refine ws S ?_ | refine wS S (fun b => ?_) | refine wSa S (fun b => ?_) | refine wSn S (fun b => ?_)) | (show HQ _ _ _ _ _ _ _; first | apply hq_nil | refine k_q (qe S) ?_ | refine k_q (ql S) ?_ | refine k_q (qs S) ?_ | refine k_q (qn S) ?_ | refine k_q (qb S) ?_ | refine k_q (qbA S) ?_ | refine k_q (qA S) ?_ | refine k_q (qC (ku)) ?_ | refine k_n ?_) | (show HD _ _ _ _ _ _ _ _; first | apply hd_nil | refine d_q 100 (by exact rfl) (fun _ => qe S) ?_ | refine d_q 100 (by exact rfl) (fun _ => qn S) ?_ | refine d_q 100 (by exact rfl) (fun _ => qb S) ?_ | refine d_q 100 (by exact rfl) (fun _ => qbA S) ?_ | refine d_q 100 (by exact rfl) (fun _ => qA S) ?_ | refine dl S 100 ?_ | refine ds S 100 ?_ | refine d_n 100 ?_ | refine d_q 0 (by exact rfl) (fun _ => qC (ku)) ?_ | refine d_q 1 (by exact rfl) (fun _ => qC (ku)) ?_ | refine d_q 2 (by exact rfl) (fun _ => qC (ku)) ?_ | refine d_q 3 (by exact rfl) (fun _ => qC (ku)) ?_) | ((first | refine g_b (fun h => ?_) (fun h => ?_) | refine g_s (fun h => ?_) (fun h => ?_) | refine k_s (fun h => ?_) (fun h => ?_) | refine d_sp 100 (fun h => ?_) (fun h => ?_)) <;> ((try simp only [zA, zB, zC, zD, zE, zF, ne_eq, zG, zH, and_true, true_and, eq_self, zI, zJ, zK, reduceCtorEq, zL, zM] at h); (try (exfalso; first | omega | with_reducible exact h (by assumption) | with_reducible exact absurd h (by assumption))))) | (show HD _ _ _ _ _ _ _ _; refine da 101 ?_) | refine dx ?_ | apply dx0 | refine dxd ?_ | refine dxk ?_ | apply seqQ_normal | apply seqQ_ret | apply seqQ_exit | apply blkQ_here | refine g_bx ?_ | apply blkQ_ret | apply blkQ_normal | apply loopQ_ret | apply loopQ_exit | apply unQ_ret | apply unQ_exit | apply unQ_succ)
    refine hw_loop (σ := Nat × WdG) (fun r => [(0, pt G.wp 0), (1, iv s), (5, pt (npAt G s).np 0), (20, iv r.1)]) (fun r => wdH r.2 (tickF s M r.1).1 ++ L)
      (fun r => r.1 ≤ 6 ∧ (tickF s M r.1).2 = true ∧ WdOk r.2 (tickF s M r.1).1 ∧ r.2.wp = G.wp ∧ r.2.nd.map (·.np) = G.nd.map (·.np)) (fun r => 6 - r.1) (0, G) (by repeat (first | exact trivial | refine ⟨rfl, ?_⟩)) (List.Sublist.refl _) ⟨by simp, rfl, hW, rfl, rfl⟩ ?_
    rintro ⟨d, G1⟩ ⟨hd, hon, hW1, e1, e2⟩
    simp only at hd hon hW1 e1 e2 ⊢
    obtain ⟨hM1, hsame, hlen, hsite⟩ := hticks d hd
    have hsite1 := hsite hon
    have hnx := tickF_succ s M d
    by_cases hd6 : d < 6
    · have hnx2 := hticks (d + 1) (by omega)
      have hstop := fun h => tickF_stop (s := s) (M := M) (k := d + 1) h (5 - d)
      rw [show d + 1 + (5 - d) = 6 by omega] at hstop
      generalize tickF s M d = q at *
      obtain ⟨M1, b⟩ := q
      simp only at hon hW1 hM1 hsame hlen hsite1 ⊢
      subst hon
      have h1' : s < M1.n.length := by rw [hsame.n]; exact h1
      have hnp2 := np_same e2 h0 (by rw [hW.ndl]; exact h1)
      have hok := wdOk_at hW1 h0 h1'
      have hni := wi_at hM1 h0 h1'
      obtain ⟨⟨j1, ref1⟩, hs1⟩ := Option.ne_none_iff_exists'.1 hsite1
      have hj := hni.jn hs1
      have hst := hj.st d hd6
      have hB : ∀ {b : Nat} {o : Obj}, (b, o) ∈ ndA (npAt G1 s) s (ndAt M1 s) → Has (wdH G1 M1 ++ L) b o := fun {b o} hb => by
        have := wd_has hW1.ndl h0 h1' hb L
        unfold Has wdH at *
        rw [List.append_assoc, List.flatten_append]
        exact List.mem_append_right _ this
      have hN : Has (wdH G1 M1 ++ L) (npAt G1 s).np (ndO (npAt G1 s) (ndAt M1 s)) := wd_hasW hW1.ndl h0 h1' L
      have hA1 : Has (wdH G1 M1 ++ L) (npAt G1 s).sp (.cells ⟨[pt (npAt G1 s).bj 0, iv s, .map (some (npAt G1 s).mb)]⟩ 187) := hB (by simp [ndA, hs1, siB, siC])
      have hA2 : Has (wdH G1 M1 ++ L) (npAt G1 s).bj (.cells ⟨jcells (npAt G1 s).bp j1⟩ 261) := hB (by simp [ndA, hs1, siB, jC])
      have kst := sstateH_calls (npAt G1 s).sp (npAt G1 s).bj (npAt G1 s).mb (npAt G1 s).bp s j1 d _ hA1 hA2 hj.ji.jn.len hd6
      have htd : tickF s M (d + 1) = if stAt j1 d = zeroS then (M1, true) else if (stAt j1 d).ph = 2 ∨ (stAt j1 d).ph = 3 then ({ M1 with l := M1.l ++ decideF M1 s d (stAt j1 d) }, true) else tryW M1 s d (stAt j1 d).pr := by
        rw [hnx]
        unfold tickD
        simp only [hs1, Bool.true_eq_false, if_false]
      have g0 : (ndL (pt (npAt G1 s).sp 0) (npAt G1 s).bp (ldVs (npAt G1 s) (ndAt M1 s)) (ndAt M1 s).done)[0 + 0]? = some (pt (npAt G1 s).sp 0) := ndL_pre rfl
      unfold ndO at hN
      rw [hs1] at hN
      simp only [stV, hnp2] at hN
      change HC _ _ _ _ (fun v L' => v = .tuple ⟨[.agg ⟨sc (stAt j1 d)⟩, .nilIface]⟩ ∧ _) at kst
      have hdl := decideF_len M1 s d (stAt j1 d)
      have hdF : decideF M1 s d (stAt j1 d) = (List.range M1.w.length).map fun (i : Nat) => (⟨s, (i : Int), d, 7, (stAt j1 d).pr, false, ⟨(stAt j1 d).ph, 0, 0⟩⟩ : Fr) := rfl
      have hsuccF := fun i => decideF_succ M1 s d (stAt j1 d) i
      generalize stAt j1 d = st at *
      obtain ⟨ph, pr, att⟩ := st
      obtain ⟨q1, q2, q3, q4, q5⟩ := hst
      simp only at q1 q2 q3 q4 q5 hdF hsuccF
      have hwn := hM1.wn
      have hwl := hM1.wl
      by_cases hz : ph = 0 ∧ pr = 0 ∧ att = 0
      · obtain ⟨rfl, rfl, rfl⟩ := hz
        rw [if_pos (show (⟨0, 0, 0⟩ : St) = zeroS from rfl)] at htd
        clear hA1 hA2 hB
        generalize hH : wdH G1 M1 ++ L = H at *
        repeat' (first | (show HW _ _ _ _ _ _; first | apply hw_seq | apply hw_region | apply hw_block | apply hw_exit | refine g_t ?_ | refine g_f ?_ | apply hw_skip | apply hw_ret | refine g_k S ?_ | refine g_w S ?_) | (show HO _ _ _ _ _ _ _; first | apply ho_nil | refine g_q (qe S) ?_ | refine g_q (ql S) ?_ | refine g_q (qs S) ?_ | refine g_q (qn S) ?_ | refine g_q (qb S) ?_ | refine g_q (qbA S) ?_ | refine g_q (qA S) ?_ | refine g_q (qC (kst)) ?_ | refine g_n ?_ | refine g_on ?_ | refine wa S (fun b => ?_) | refine ws S ?_ | refine wS S (fun b => ?_) | refine wSa S (fun b => ?_) | refine wSn S (fun b => ?_)) | (show HQ _ _ _ _ _ _ _; first | apply hq_nil | refine k_q (qe S) ?_ | refine k_q (ql S) ?_ | refine k_q (qs S) ?_ | refine k_q (qn S) ?_ | refine k_q (qb S) ?_ | refine k_q (qbA S) ?_ | refine k_q (qA S) ?_ | refine k_q (qC (kst)) ?_ | refine k_n ?_) | (show HD _ _ _ _ _ _ _ _; first | apply hd_nil | refine d_q 100 (by exact rfl) (fun _ => qe S) ?_ | refine d_q 100 (by exact rfl) (fun _ => qn S) ?_ | refine d_q 100 (by exact rfl) (fun _ => qb S) ?_ | refine d_q 100 (by exact rfl) (fun _ => qbA S) ?_ | refine d_q 100 (by exact rfl) (fun _ => qA S) ?_ | refine dl S 100 ?_ | refine ds S 100 ?_ | refine d_n 100 ?_ | refine d_q 0 (by exact rfl) (fun _ => qC (kst)) ?_ | refine d_q 1 (by exact rfl) (fun _ => qC (kst)) ?_ | refine d_q 2 (by exact rfl) (fun _ => qC (kst)) ?_ | refine d_q 3 (by exact rfl) (fun _ => qC (kst)) ?_) | ((first | refine g_b (fun h => ?_) (fun h => ?_) | refine g_s (fun h => ?_) (fun h => ?_) | refine k_s (fun h => ?_) (fun h => ?_) | refine d_sp 100 (fun h => ?_) (fun h => ?_)) <;> ((try simp only [zA, zB, zC, zD, zE, zF, ne_eq, zG, zH, and_true, true_and, eq_self, zI, zJ, zK, reduceCtorEq, zL, zM] at h); (try (exfalso; first | omega | with_reducible exact h (by assumption) | with_reducible exact absurd h (by assumption))))) | (show HD _ _ _ _ _ _ _ _; refine da 101 ?_) | refine dx ?_ | apply dx0 | refine dxd ?_ | refine dxk ?_ | apply seqQ_normal | apply seqQ_ret | apply seqQ_exit | apply blkQ_here | refine g_bx ?_ | apply blkQ_ret | apply blkQ_normal | apply loopQ_ret | apply loopQ_exit | apply unQ_ret | apply unQ_exit | apply unQ_succ)
        all_goals subst hH
        all_goals refine loopQ_sp (d + 1, G1) (by repeat (first | exact trivial | refine ⟨rfl, ?_⟩)) ?_ ⟨by simp only; omega, by simp only [htd], by simp only [htd]; exact hW1, e1, e2⟩ (by simp only; omega)
        all_goals simp only [htd]
        all_goals exact ls_out
      have hz2 : ¬ ((⟨ph, pr, att⟩ : St) = zeroS) := fun e => by cases e; exact hz ⟨rfl, rfl, rfl⟩
      rw [if_neg hz2] at htd
      by_cases hf : ph = 2 ∨ ph = 3
      · rw [if_pos hf] at htd
        obtain ⟨aw2, capw2, hwv2, -, -⟩ := hW1.w.rd ic_len
        obtain ⟨al2, capl2, hlv2, -, -⟩ := hW1.l.rd fc_len
        have hvl := hW1.l
        rw [hlv2] at hvl
        have hwp := (wd_in hW1 L).wp
        unfold wdO at hwp
        rw [hwv2, hlv2] at hwp
        rw [e1] at hwp
        clear hA1 hA2 hB
        generalize hH : wdH G1 M1 ++ L = H at *
        repeat' (first | (show HW _ _ _ _ _ _; first | apply hw_seq | apply hw_region | apply hw_block | apply hw_exit | refine g_t ?_ | refine g_f ?_ | apply hw_skip | apply hw_ret | refine g_k S ?_ | refine g_w S ?_) | (show HO _ _ _ _ _ _ _; first | apply ho_nil | refine g_q (qe S) ?_ | refine g_q (ql S) ?_ | refine g_q (qs S) ?_ | refine g_q (qn S) ?_ | refine g_q (qb S) ?_ | refine g_q (qbA S) ?_ | refine g_q (qA S) ?_ | refine g_q (qC (kst)) ?_ | refine g_n ?_ | refine g_on ?_ | refine wa S (fun b => ?_) | refine ws S ?_ | refine wS S (fun b => ?_) | refine wSa S (fun b => ?_) | refine wSn S (fun b => ?_)) | (show HQ _ _ _ _ _ _ _; first | apply hq_nil | refine k_q (qe S) ?_ | refine k_q (ql S) ?_ | refine k_q (qs S) ?_ | refine k_q (qn S) ?_ | refine k_q (qb S) ?_ | refine k_q (qbA S) ?_ | refine k_q (qA S) ?_ | refine k_q (qC (kst)) ?_ | refine k_n ?_) | (show HD _ _ _ _ _ _ _ _; first | apply hd_nil | refine d_q 100 (by exact rfl) (fun _ => qe S) ?_ | refine d_q 100 (by exact rfl) (fun _ => qn S) ?_ | refine d_q 100 (by exact rfl) (fun _ => qb S) ?_ | refine d_q 100 (by exact rfl) (fun _ => qbA S) ?_ | refine d_q 100 (by exact rfl) (fun _ => qA S) ?_ | refine dl S 100 ?_ | refine ds S 100 ?_ | refine d_n 100 ?_ | refine d_q 0 (by exact rfl) (fun _ => qC (kst)) ?_ | refine d_q 1 (by exact rfl) (fun _ => qC (kst)) ?_ | refine d_q 2 (by exact rfl) (fun _ => qC (kst)) ?_ | refine d_q 3 (by exact rfl) (fun _ => qC (kst)) ?_) | ((first | refine g_b (fun h => ?_) (fun h => ?_) | refine g_s (fun h => ?_) (fun h => ?_) | refine k_s (fun h => ?_) (fun h => ?_) | refine d_sp 100 (fun h => ?_) (fun h => ?_)) <;> ((try simp only [zA, zB, zC, zD, zE, zF, ne_eq, zG, zH, and_true, true_and, eq_self, zI, zJ, zK, reduceCtorEq, zL, zM] at h); (try (exfalso; first | omega | with_reducible exact h (by assumption) | with_reducible exact absurd h (by assumption))))) | (show HD _ _ _ _ _ _ _ _; refine da 101 ?_) | refine dx ?_ | apply dx0 | refine dxd ?_ | refine dxk ?_ | apply seqQ_normal | apply seqQ_ret | apply seqQ_exit | apply blkQ_here | refine g_bx ?_ | apply blkQ_ret | apply blkQ_normal | apply loopQ_ret | apply loopQ_exit | apply unQ_ret | apply unQ_exit | apply unQ_succ)
        all_goals subst hH
        all_goals refine hw_sp (L' := [(b, .cells ⟨sc ⟨ph, pr, att⟩⟩ 43)] :: G1.lc :: [(G.wp, .cells ⟨[.slice aw2 M1.w.length capw2, G1.nv, .map (some G1.mb), .slice al2 M1.l.length capl2, G1.ev]⟩ 110)] :: G1.wc :: G1.nc :: [(G1.mb, .map ⟨G1.es⟩ G1.ck)] :: G1.ec :: ndsB G1.nd M1.n 0 :: L) ?_ (by simp only [wdH, wdT, wdO, List.cons_append, List.nil_append, hwv2, hlv2, e1]; exact (by repeat (first | (with_reducible first | refine LS.p0 ?_ | refine LS.p1 ?_ | refine LS.p2 ?_ | refine LS.p3 ?_ | refine LS.p4 ?_ | refine LS.p5 ?_ | refine LS.p6 ?_ | refine LS.p7 ?_ | refine LS.p8 ?_ | refine LS.p9 ?_ | refine LS.p10 ?_ | refine LS.p11 ?_ | refine LS.p12 ?_ | refine LS.e ?_ | exact LS.refl _) | refine LS.p0 ?_ | refine LS.p1 ?_ | refine LS.p2 ?_ | refine LS.p3 ?_ | refine LS.p4 ?_ | refine LS.p5 ?_ | refine LS.p6 ?_ | refine LS.p7 ?_ | refine LS.p8 ?_ | refine LS.p9 ?_ | refine LS.p10 ?_ | refine LS.p11 ?_ | refine LS.p12 ?_ | (with_reducible refine LS.c ?_))))
        all_goals refine hw_loop (σ := Nat × Value × List Blk) (fun r => [(0, pt G.wp 0), (1, iv s), (5, pt (npAt G s).np 0), (7, iv d), (8, pt b 0), (20, iv d), (49, iv M1.w.length), (50, iv r.1)]) (fun r => [(b, .cells ⟨sc ⟨ph, pr, att⟩⟩ 43)] :: r.2.2 :: [(G.wp, .cells ⟨[.slice aw2 M1.w.length capw2, G1.nv, .map (some G1.mb), r.2.1, G1.ev]⟩ 110)] :: G1.wc :: G1.nc :: [(G1.mb, .map ⟨G1.es⟩ G1.ck)] :: G1.ec :: ndsB G1.nd M1.n 0 :: L) (fun r => r.1 ≤ M1.w.length ∧ FrVec r.2.1 (M1.l ++ (List.range r.1).map fun (i : Nat) => (⟨s, (i : Int), d, 7, pr, false, ⟨ph, 0, 0⟩⟩ : Fr)) r.2.2) (fun r => M1.w.length - r.1) (0, .slice al2 M1.l.length capl2, G1.lc) (by repeat (first | exact trivial | refine ⟨rfl, ?_⟩)) (List.Sublist.refl _) ⟨by simp, by simpa using hvl⟩ ?_
        all_goals rintro ⟨i, lv3, lc3⟩ ⟨hi, hv3⟩
        all_goals simp only at hi hv3 ⊢
        all_goals obtain ⟨al3, capl3, hlv3, -, -⟩ := hv3.rd fc_len
        all_goals subst hlv3
        all_goals
          by_cases hit : i < M1.w.length
          · repeat' (first | (show HW _ _ _ _ _ _; first | apply hw_seq | apply hw_region | apply hw_block | apply hw_exit | refine g_t ?_ | refine g_f ?_ | apply hw_skip | apply hw_ret | refine g_k S ?_ | refine g_w S ?_) | (show HO _ _ _ _ _ _ _; first | apply ho_nil | refine g_q (qe S) ?_ | refine g_q (ql S) ?_ | refine g_q (qs S) ?_ | refine g_q (qn S) ?_ | refine g_q (qb S) ?_ | refine g_q (qbA S) ?_ | refine g_q (qA S) ?_ | refine g_n ?_ | refine g_on ?_ | refine wa S (fun b => ?_) | refine ws S ?_ | refine wS S (fun b => ?_) | refine wSa S (fun b => ?_) | refine wSn S (fun b => ?_)) | (show HQ _ _ _ _ _ _ _; first | apply hq_nil | refine k_q (qe S) ?_ | refine k_q (ql S) ?_ | refine k_q (qs S) ?_ | refine k_q (qn S) ?_ | refine k_q (qb S) ?_ | refine k_q (qbA S) ?_ | refine k_q (qA S) ?_ | refine k_n ?_) | (show HD _ _ _ _ _ _ _ _; first | apply hd_nil | refine d_q 100 (by exact rfl) (fun _ => qe S) ?_ | refine d_q 100 (by exact rfl) (fun _ => qn S) ?_ | refine d_q 100 (by exact rfl) (fun _ => qb S) ?_ | refine d_q 100 (by exact rfl) (fun _ => qbA S) ?_ | refine d_q 100 (by exact rfl) (fun _ => qA S) ?_ | refine dl S 100 ?_ | refine ds S 100 ?_ | refine d_n 100 ?_) | ((first | refine g_b (fun h => ?_) (fun h => ?_) | refine g_s (fun h => ?_) (fun h => ?_) | refine k_s (fun h => ?_) (fun h => ?_) | refine d_sp 100 (fun h => ?_) (fun h => ?_)) <;> ((try simp only [zA, zB, zC, zD, zE, zF, ne_eq, zG, zH, and_true, true_and, eq_self, zI, zJ, zK, reduceCtorEq, zL, zM] at h); (try (exfalso; first | omega | with_reducible exact h (by assumption) | with_reducible exact absurd h (by assumption))))) | (show HD _ _ _ _ _ _ _ _; refine da 101 ?_) | refine dx ?_ | apply dx0 | refine dxd ?_ | refine dxk ?_ | apply seqQ_normal | apply seqQ_ret | apply seqQ_exit | apply blkQ_here | refine g_bx ?_ | apply blkQ_ret | apply blkQ_normal | apply loopQ_ret | apply loopQ_exit | apply unQ_ret | apply unQ_exit | apply unQ_succ)
            refine fo 2 ?_
            refine wp1 S (⟨s, (i : Int), d, 7, pr, false, ⟨ph, 0, 0⟩⟩ : Fr) hv3 fc_len fc_one ?_ (hby := by simp only [List.length_append, List.length_map, List.length_range]; omega) (hmax := by simp only [List.length_append, List.length_map, List.length_range]; omega)
            intro v' c' hv'
            obtain ⟨a6, cap6, he6, -, -⟩ := hv'.rd fc_len
            subst he6
            rw [List.append_assoc, ← hsuccF i] at hv'
            repeat' (first | (show HW _ _ _ _ _ _; first | apply hw_seq | apply hw_region | apply hw_block | apply hw_exit | refine g_t ?_ | refine g_f ?_ | apply hw_skip | apply hw_ret | refine g_k S ?_ | refine g_w S ?_) | (show HO _ _ _ _ _ _ _; first | apply ho_nil | refine g_q (qe S) ?_ | refine g_q (ql S) ?_ | refine g_q (qs S) ?_ | refine g_q (qn S) ?_ | refine g_q (qb S) ?_ | refine g_q (qbA S) ?_ | refine g_q (qA S) ?_ | refine g_n ?_ | refine g_on ?_ | refine wa S (fun b => ?_) | refine ws S ?_ | refine wS S (fun b => ?_) | refine wSa S (fun b => ?_) | refine wSn S (fun b => ?_)) | (show HQ _ _ _ _ _ _ _; first | apply hq_nil | refine k_q (qe S) ?_ | refine k_q (ql S) ?_ | refine k_q (qs S) ?_ | refine k_q (qn S) ?_ | refine k_q (qb S) ?_ | refine k_q (qbA S) ?_ | refine k_q (qA S) ?_ | refine k_n ?_) | (show HD _ _ _ _ _ _ _ _; first | apply hd_nil | refine d_q 100 (by exact rfl) (fun _ => qe S) ?_ | refine d_q 100 (by exact rfl) (fun _ => qn S) ?_ | refine d_q 100 (by exact rfl) (fun _ => qb S) ?_ | refine d_q 100 (by exact rfl) (fun _ => qbA S) ?_ | refine d_q 100 (by exact rfl) (fun _ => qA S) ?_ | refine dl S 100 ?_ | refine ds S 100 ?_ | refine d_n 100 ?_) | ((first | refine g_b (fun h => ?_) (fun h => ?_) | refine g_s (fun h => ?_) (fun h => ?_) | refine k_s (fun h => ?_) (fun h => ?_) | refine d_sp 100 (fun h => ?_) (fun h => ?_)) <;> ((try simp only [zA, zB, zC, zD, zE, zF, ne_eq, zG, zH, and_true, true_and, eq_self, zI, zJ, zK, reduceCtorEq, zL, zM] at h); (try (exfalso; first | omega | with_reducible exact h (by assumption) | with_reducible exact absurd h (by assumption))))) | (show HD _ _ _ _ _ _ _ _; refine da 101 ?_) | refine dx ?_ | apply dx0 | refine dxd ?_ | refine dxk ?_ | apply seqQ_normal | apply seqQ_ret | apply seqQ_exit | apply blkQ_here | refine g_bx ?_ | apply blkQ_ret | apply blkQ_normal | apply loopQ_ret | apply loopQ_exit | apply unQ_ret | apply unQ_exit | apply unQ_succ)
            refine loopQ_sp (i + 1, _, c') (by repeat (first | exact trivial | refine ⟨rfl, ?_⟩)) ?_ ⟨by simp only; omega, hv'⟩ (by simp only; omega)
            rw [List.append_assoc, ← hsuccF i]
            exact (by repeat (first | (with_reducible first | refine LS.p0 ?_ | refine LS.p1 ?_ | refine LS.p2 ?_ | refine LS.p3 ?_ | refine LS.p4 ?_ | refine LS.p5 ?_ | refine LS.p6 ?_ | refine LS.p7 ?_ | refine LS.p8 ?_ | refine LS.p9 ?_ | refine LS.p10 ?_ | refine LS.p11 ?_ | refine LS.p12 ?_ | refine LS.e ?_ | exact LS.refl _) | refine LS.p0 ?_ | refine LS.p1 ?_ | refine LS.p2 ?_ | refine LS.p3 ?_ | refine LS.p4 ?_ | refine LS.p5 ?_ | refine LS.p6 ?_ | refine LS.p7 ?_ | refine LS.p8 ?_ | refine LS.p9 ?_ | refine LS.p10 ?_ | refine LS.p11 ?_ | refine LS.p12 ?_ | (with_reducible refine LS.c ?_)))
          · obtain rfl : i = M1.w.length := by omega
            rw [← hdF] at hv3
            repeat' (first | (show HW _ _ _ _ _ _; first | apply hw_seq | apply hw_region | apply hw_block | apply hw_exit | refine g_t ?_ | refine g_f ?_ | apply hw_skip | apply hw_ret | refine g_k S ?_ | refine g_w S ?_) | (show HO _ _ _ _ _ _ _; first | apply ho_nil | refine g_q (qe S) ?_ | refine g_q (ql S) ?_ | refine g_q (qs S) ?_ | refine g_q (qn S) ?_ | refine g_q (qb S) ?_ | refine g_q (qbA S) ?_ | refine g_q (qA S) ?_ | refine g_n ?_ | refine g_on ?_ | refine wa S (fun b => ?_) | refine ws S ?_ | refine wS S (fun b => ?_) | refine wSa S (fun b => ?_) | refine wSn S (fun b => ?_)) | (show HQ _ _ _ _ _ _ _; first | apply hq_nil | refine k_q (qe S) ?_ | refine k_q (ql S) ?_ | refine k_q (qs S) ?_ | refine k_q (qn S) ?_ | refine k_q (qb S) ?_ | refine k_q (qbA S) ?_ | refine k_q (qA S) ?_ | refine k_n ?_) | (show HD _ _ _ _ _ _ _ _; first | apply hd_nil | refine d_q 100 (by exact rfl) (fun _ => qe S) ?_ | refine d_q 100 (by exact rfl) (fun _ => qn S) ?_ | refine d_q 100 (by exact rfl) (fun _ => qb S) ?_ | refine d_q 100 (by exact rfl) (fun _ => qbA S) ?_ | refine d_q 100 (by exact rfl) (fun _ => qA S) ?_ | refine dl S 100 ?_ | refine ds S 100 ?_ | refine d_n 100 ?_) | ((first | refine g_b (fun h => ?_) (fun h => ?_) | refine g_s (fun h => ?_) (fun h => ?_) | refine k_s (fun h => ?_) (fun h => ?_) | refine d_sp 100 (fun h => ?_) (fun h => ?_)) <;> ((try simp only [zA, zB, zC, zD, zE, zF, ne_eq, zG, zH, and_true, true_and, eq_self, zI, zJ, zK, reduceCtorEq, zL, zM] at h); (try (exfalso; first | omega | with_reducible exact h (by assumption) | with_reducible exact absurd h (by assumption))))) | (show HD _ _ _ _ _ _ _ _; refine da 101 ?_) | refine dx ?_ | apply dx0 | refine dxd ?_ | refine dxk ?_ | apply seqQ_normal | apply seqQ_ret | apply seqQ_exit | apply blkQ_here | refine g_bx ?_ | apply blkQ_ret | apply blkQ_normal | apply loopQ_ret | apply loopQ_exit | apply unQ_ret | apply unQ_exit | apply unQ_succ)
            refine loopQ_sp (d + 1, { G1 with lv := .slice al3 (M1.l ++ decideF M1 s d ⟨ph, pr, att⟩).length capl3, lc := lc3 }) (by repeat (first | exact trivial | refine ⟨rfl, ?_⟩)) ?_ ⟨by simp only; omega, by simp only [htd], by simp only [htd]; exact hW1.setL hv3, e1, e2⟩ (by simp only; omega)
            simp only [htd, wdH, wdT, wdO, List.cons_append, List.nil_append, hwv2, e1, hdF]
            exact (by repeat (first | (with_reducible first | refine LS.p0 ?_ | refine LS.p1 ?_ | refine LS.p2 ?_ | refine LS.p3 ?_ | refine LS.p4 ?_ | refine LS.p5 ?_ | refine LS.p6 ?_ | refine LS.p7 ?_ | refine LS.p8 ?_ | refine LS.p9 ?_ | refine LS.p10 ?_ | refine LS.p11 ?_ | refine LS.p12 ?_ | refine LS.e ?_ | exact LS.refl _) | refine LS.p0 ?_ | refine LS.p1 ?_ | refine LS.p2 ?_ | refine LS.p3 ?_ | refine LS.p4 ?_ | refine LS.p5 ?_ | refine LS.p6 ?_ | refine LS.p7 ?_ | refine LS.p8 ?_ | refine LS.p9 ?_ | refine LS.p10 ?_ | refine LS.p11 ?_ | refine LS.p12 ?_ | (with_reducible refine LS.c ?_)))
      · rw [if_neg hf] at htd
        have hk := fun L hG => wtry_calls T E G1 M1 s d pr L hG hW1 hM1 (by omega) h0 h1' hsite1 (by omega) (by omega)
        rw [← htd] at hk
        simp only [e1] at hk
        have ho : (tickF s M (d + 1)).2 = true ∨ (tickF s M (d + 1)).2 = false := by cases (tickF s M (d + 1)).2 <;> simp
        clear hA1 hA2 hB
        generalize hH : wdH G1 M1 ++ L = H at *
        rcases ho with ho | ho
        · rw [ho] at hk
          repeat' (first | (show HW _ _ _ _ _ _; first | apply hw_seq | apply hw_region | apply hw_block | apply hw_exit | refine g_t ?_ | refine g_f ?_ | apply hw_skip | apply hw_ret | refine g_k S ?_ | refine g_w S ?_) | (show HO _ _ _ _ _ _ _; first | apply ho_nil | refine g_q (qe S) ?_ | refine g_q (ql S) ?_ | refine g_q (qs S) ?_ | refine g_q (qn S) ?_ | refine g_q (qb S) ?_ | refine g_q (qbA S) ?_ | refine g_q (qA S) ?_ | refine g_q (qC (kst)) ?_ | refine g_n ?_ | refine g_on ?_ | refine wa S (fun b => ?_) | refine ws S ?_ | refine wS S (fun b => ?_) | refine wSa S (fun b => ?_) | refine wSn S (fun b => ?_)) | (show HQ _ _ _ _ _ _ _; first | apply hq_nil | refine k_q (qe S) ?_ | refine k_q (ql S) ?_ | refine k_q (qs S) ?_ | refine k_q (qn S) ?_ | refine k_q (qb S) ?_ | refine k_q (qbA S) ?_ | refine k_q (qA S) ?_ | refine k_q (qC (kst)) ?_ | refine k_n ?_) | (show HD _ _ _ _ _ _ _ _; first | apply hd_nil | refine d_q 100 (by exact rfl) (fun _ => qe S) ?_ | refine d_q 100 (by exact rfl) (fun _ => qn S) ?_ | refine d_q 100 (by exact rfl) (fun _ => qb S) ?_ | refine d_q 100 (by exact rfl) (fun _ => qbA S) ?_ | refine d_q 100 (by exact rfl) (fun _ => qA S) ?_ | refine dl S 100 ?_ | refine ds S 100 ?_ | refine d_n 100 ?_ | refine d_q 0 (by exact rfl) (fun _ => qC (kst)) ?_ | refine d_q 1 (by exact rfl) (fun _ => qC (kst)) ?_ | refine d_q 2 (by exact rfl) (fun _ => qC (kst)) ?_ | refine d_q 3 (by exact rfl) (fun _ => qC (kst)) ?_) | ((first | refine g_b (fun h => ?_) (fun h => ?_) | refine g_s (fun h => ?_) (fun h => ?_) | refine k_s (fun h => ?_) (fun h => ?_) | refine d_sp 100 (fun h => ?_) (fun h => ?_)) <;> ((try simp only [zA, zB, zC, zD, zE, zF, ne_eq, zG, zH, and_true, true_and, eq_self, zI, zJ, zK, reduceCtorEq, zL, zM] at h); (try (exfalso; first | omega | with_reducible exact h (by assumption) | with_reducible exact absurd h (by assumption))))) | (show HD _ _ _ _ _ _ _ _; refine da 101 ?_) | refine dx ?_ | apply dx0 | refine dxd ?_ | refine dxk ?_ | apply seqQ_normal | apply seqQ_ret | apply seqQ_exit | apply blkQ_here | refine g_bx ?_ | apply blkQ_ret | apply blkQ_normal | apply loopQ_ret | apply loopQ_exit | apply unQ_ret | apply unQ_exit | apply unQ_succ)
          all_goals subst hH
          all_goals refine ho_sp (L' := wdH G1 M1 ++ ([(b, .cells ⟨sc ⟨ph, pr, att⟩⟩ 43)] :: L)) ?_ ls_in
          all_goals refine gc (hk _ (hG.cons _)) ?_
          all_goals rintro v L' ⟨rfl, G3, f1, f2, f3, rfl⟩
          all_goals repeat' (first | (show HW _ _ _ _ _ _; first | apply hw_seq | apply hw_region | apply hw_block | apply hw_exit | refine g_t ?_ | refine g_f ?_ | apply hw_skip | apply hw_ret | refine g_k S ?_ | refine g_w S ?_) | (show HO _ _ _ _ _ _ _; first | apply ho_nil | refine g_q (qe S) ?_ | refine g_q (ql S) ?_ | refine g_q (qs S) ?_ | refine g_q (qn S) ?_ | refine g_q (qb S) ?_ | refine g_q (qbA S) ?_ | refine g_q (qA S) ?_ | refine g_q (qC (kst)) ?_ | refine g_n ?_ | refine g_on ?_ | refine wa S (fun b => ?_) | refine ws S ?_ | refine wS S (fun b => ?_) | refine wSa S (fun b => ?_) | refine wSn S (fun b => ?_)) | (show HQ _ _ _ _ _ _ _; first | apply hq_nil | refine k_q (qe S) ?_ | refine k_q (ql S) ?_ | refine k_q (qs S) ?_ | refine k_q (qn S) ?_ | refine k_q (qb S) ?_ | refine k_q (qbA S) ?_ | refine k_q (qA S) ?_ | refine k_q (qC (kst)) ?_ | refine k_n ?_) | (show HD _ _ _ _ _ _ _ _; first | apply hd_nil | refine d_q 100 (by exact rfl) (fun _ => qe S) ?_ | refine d_q 100 (by exact rfl) (fun _ => qn S) ?_ | refine d_q 100 (by exact rfl) (fun _ => qb S) ?_ | refine d_q 100 (by exact rfl) (fun _ => qbA S) ?_ | refine d_q 100 (by exact rfl) (fun _ => qA S) ?_ | refine dl S 100 ?_ | refine ds S 100 ?_ | refine d_n 100 ?_ | refine d_q 0 (by exact rfl) (fun _ => qC (kst)) ?_ | refine d_q 1 (by exact rfl) (fun _ => qC (kst)) ?_ | refine d_q 2 (by exact rfl) (fun _ => qC (kst)) ?_ | refine d_q 3 (by exact rfl) (fun _ => qC (kst)) ?_) | ((first | refine g_b (fun h => ?_) (fun h => ?_) | refine g_s (fun h => ?_) (fun h => ?_) | refine k_s (fun h => ?_) (fun h => ?_) | refine d_sp 100 (fun h => ?_) (fun h => ?_)) <;> ((try simp only [zA, zB, zC, zD, zE, zF, ne_eq, zG, zH, and_true, true_and, eq_self, zI, zJ, zK, reduceCtorEq, zL, zM] at h); (try (exfalso; first | omega | with_reducible exact h (by assumption) | with_reducible exact absurd h (by assumption))))) | (show HD _ _ _ _ _ _ _ _; refine da 101 ?_) | refine dx ?_ | apply dx0 | refine dxd ?_ | refine dxk ?_ | apply seqQ_normal | apply seqQ_ret | apply seqQ_exit | apply blkQ_here | refine g_bx ?_ | apply blkQ_ret | apply blkQ_normal | apply loopQ_ret | apply loopQ_exit | apply unQ_ret | apply unQ_exit | apply unQ_succ)
          all_goals refine loopQ_sp (d + 1, G3) (by repeat (first | exact trivial | refine ⟨rfl, ?_⟩)) ?_ ⟨by simp only; omega, ho, f3, f1.trans e1, f2.trans e2⟩ (by simp only; omega)
          all_goals simp only [List.flatten_append, List.flatten_cons]
          all_goals exact LS.boths _ (LS.skips _ (LS.refl _))
        · rw [ho] at hk
          rw [hstop ho]
          repeat' (first | (show HW _ _ _ _ _ _; first | apply hw_seq | apply hw_region | apply hw_block | apply hw_exit | refine g_t ?_ | refine g_f ?_ | apply hw_skip | apply hw_ret | refine g_k S ?_ | refine g_w S ?_) | (show HO _ _ _ _ _ _ _; first | apply ho_nil | refine g_q (qe S) ?_ | refine g_q (ql S) ?_ | refine g_q (qs S) ?_ | refine g_q (qn S) ?_ | refine g_q (qb S) ?_ | refine g_q (qbA S) ?_ | refine g_q (qA S) ?_ | refine g_q (qC (kst)) ?_ | refine g_n ?_ | refine g_on ?_ | refine wa S (fun b => ?_) | refine ws S ?_ | refine wS S (fun b => ?_) | refine wSa S (fun b => ?_) | refine wSn S (fun b => ?_)) | (show HQ _ _ _ _ _ _ _; first | apply hq_nil | refine k_q (qe S) ?_ | refine k_q (ql S) ?_ | refine k_q (qs S) ?_ | refine k_q (qn S) ?_ | refine k_q (qb S) ?_ | refine k_q (qbA S) ?_ | refine k_q (qA S) ?_ | refine k_q (qC (kst)) ?_ | refine k_n ?_) | (show HD _ _ _ _ _ _ _ _; first | apply hd_nil | refine d_q 100 (by exact rfl) (fun _ => qe S) ?_ | refine d_q 100 (by exact rfl) (fun _ => qn S) ?_ | refine d_q 100 (by exact rfl) (fun _ => qb S) ?_ | refine d_q 100 (by exact rfl) (fun _ => qbA S) ?_ | refine d_q 100 (by exact rfl) (fun _ => qA S) ?_ | refine dl S 100 ?_ | refine ds S 100 ?_ | refine d_n 100 ?_ | refine d_q 0 (by exact rfl) (fun _ => qC (kst)) ?_ | refine d_q 1 (by exact rfl) (fun _ => qC (kst)) ?_ | refine d_q 2 (by exact rfl) (fun _ => qC (kst)) ?_ | refine d_q 3 (by exact rfl) (fun _ => qC (kst)) ?_) | ((first | refine g_b (fun h => ?_) (fun h => ?_) | refine g_s (fun h => ?_) (fun h => ?_) | refine k_s (fun h => ?_) (fun h => ?_) | refine d_sp 100 (fun h => ?_) (fun h => ?_)) <;> ((try simp only [zA, zB, zC, zD, zE, zF, ne_eq, zG, zH, and_true, true_and, eq_self, zI, zJ, zK, reduceCtorEq, zL, zM] at h); (try (exfalso; first | omega | with_reducible exact h (by assumption) | with_reducible exact absurd h (by assumption))))) | (show HD _ _ _ _ _ _ _ _; refine da 101 ?_) | refine dx ?_ | apply dx0 | refine dxd ?_ | refine dxk ?_ | apply seqQ_normal | apply seqQ_ret | apply seqQ_exit | apply blkQ_here | refine g_bx ?_ | apply blkQ_ret | apply blkQ_normal | apply loopQ_ret | apply loopQ_exit | apply unQ_ret | apply unQ_exit | apply unQ_succ)
          all_goals subst hH
          all_goals refine ho_sp (L' := wdH G1 M1 ++ ([(b, .cells ⟨sc ⟨ph, pr, att⟩⟩ 43)] :: L)) ?_ ls_in
          all_goals refine gc (hk _ (hG.cons _)) ?_
          all_goals rintro v L' ⟨rfl, G3, f1, f2, f3, rfl⟩
          all_goals repeat' (first | (show HW _ _ _ _ _ _; first | apply hw_seq | apply hw_region | apply hw_block | apply hw_exit | refine g_t ?_ | refine g_f ?_ | apply hw_skip | apply hw_ret | refine g_k S ?_ | refine g_w S ?_) | (show HO _ _ _ _ _ _ _; first | apply ho_nil | refine g_q (qe S) ?_ | refine g_q (ql S) ?_ | refine g_q (qs S) ?_ | refine g_q (qn S) ?_ | refine g_q (qb S) ?_ | refine g_q (qbA S) ?_ | refine g_q (qA S) ?_ | refine g_q (qC (kst)) ?_ | refine g_n ?_ | refine g_on ?_ | refine wa S (fun b => ?_) | refine ws S ?_ | refine wS S (fun b => ?_) | refine wSa S (fun b => ?_) | refine wSn S (fun b => ?_)) | (show HQ _ _ _ _ _ _ _; first | apply hq_nil | refine k_q (qe S) ?_ | refine k_q (ql S) ?_ | refine k_q (qs S) ?_ | refine k_q (qn S) ?_ | refine k_q (qb S) ?_ | refine k_q (qbA S) ?_ | refine k_q (qA S) ?_ | refine k_q (qC (kst)) ?_ | refine k_n ?_) | (show HD _ _ _ _ _ _ _ _; first | apply hd_nil | refine d_q 100 (by exact rfl) (fun _ => qe S) ?_ | refine d_q 100 (by exact rfl) (fun _ => qn S) ?_ | refine d_q 100 (by exact rfl) (fun _ => qb S) ?_ | refine d_q 100 (by exact rfl) (fun _ => qbA S) ?_ | refine d_q 100 (by exact rfl) (fun _ => qA S) ?_ | refine dl S 100 ?_ | refine ds S 100 ?_ | refine d_n 100 ?_ | refine d_q 0 (by exact rfl) (fun _ => qC (kst)) ?_ | refine d_q 1 (by exact rfl) (fun _ => qC (kst)) ?_ | refine d_q 2 (by exact rfl) (fun _ => qC (kst)) ?_ | refine d_q 3 (by exact rfl) (fun _ => qC (kst)) ?_) | ((first | refine g_b (fun h => ?_) (fun h => ?_) | refine g_s (fun h => ?_) (fun h => ?_) | refine k_s (fun h => ?_) (fun h => ?_) | refine d_sp 100 (fun h => ?_) (fun h => ?_)) <;> ((try simp only [zA, zB, zC, zD, zE, zF, ne_eq, zG, zH, and_true, true_and, eq_self, zI, zJ, zK, reduceCtorEq, zL, zM] at h); (try (exfalso; first | omega | with_reducible exact h (by assumption) | with_reducible exact absurd h (by assumption))))) | (show HD _ _ _ _ _ _ _ _; refine da 101 ?_) | refine dx ?_ | apply dx0 | refine dxd ?_ | refine dxk ?_ | apply seqQ_normal | apply seqQ_ret | apply seqQ_exit | apply blkQ_here | refine g_bx ?_ | apply blkQ_ret | apply blkQ_normal | apply loopQ_ret | apply loopQ_exit | apply unQ_ret | apply unQ_exit | apply unQ_succ)
          all_goals refine sp1 (L' := wdH G3 (tickF s M (d + 1)).1 ++ L) ?_ ⟨rfl, G3, f1.trans e1, f2.trans e2, f3, rfl⟩
          all_goals simp only [List.flatten_append, List.flatten_cons]
          all_goals exact LS.boths _ (LS.skips _ (LS.refl _))
    · obtain rfl : d = 6 := by omega
      repeat' (first | (show HW _ _ _ _ _ _; first | apply hw_seq | apply hw_region | apply hw_block | apply hw_exit | refine g_t ?_ | refine g_f ?_ | apply hw_skip | apply hw_ret | refine g_k S ?_ | refine g_w S ?_) | (show HO _ _ _ _ _ _ _; first | apply ho_nil | refine g_q (qe S) ?_ | refine g_q (ql S) ?_ | refine g_q (qs S) ?_ | refine g_q (qn S) ?_ | refine g_q (qb S) ?_ | refine g_q (qbA S) ?_ | refine g_q (qA S) ?_ | refine g_n ?_ | refine g_on ?_ | refine wa S (fun b => ?_) | refine ws S ?_ | refine wS S (fun b => ?_) | refine wSa S (fun b => ?_) | refine wSn S (fun b => ?_)) | (show HQ _ _ _ _ _ _ _; first | apply hq_nil | refine k_q (qe S) ?_ | refine k_q (ql S) ?_ | refine k_q (qs S) ?_ | refine k_q (qn S) ?_ | refine k_q (qb S) ?_ | refine k_q (qbA S) ?_ | refine k_q (qA S) ?_ | refine k_n ?_) | (show HD _ _ _ _ _ _ _ _; first | apply hd_nil | refine d_q 100 (by exact rfl) (fun _ => qe S) ?_ | refine d_q 100 (by exact rfl) (fun _ => qn S) ?_ | refine d_q 100 (by exact rfl) (fun _ => qb S) ?_ | refine d_q 100 (by exact rfl) (fun _ => qbA S) ?_ | refine d_q 100 (by exact rfl) (fun _ => qA S) ?_ | refine dl S 100 ?_ | refine ds S 100 ?_ | refine d_n 100 ?_) | ((first | refine g_b (fun h => ?_) (fun h => ?_) | refine g_s (fun h => ?_) (fun h => ?_) | refine k_s (fun h => ?_) (fun h => ?_) | refine d_sp 100 (fun h => ?_) (fun h => ?_)) <;> ((try simp only [zA, zB, zC, zD, zE, zF, ne_eq, zG, zH, and_true, true_and, eq_self, zI, zJ, zK, reduceCtorEq, zL, zM] at h); (try (exfalso; first | omega | with_reducible exact h (by assumption) | with_reducible exact absurd h (by assumption))))) | (show HD _ _ _ _ _ _ _ _; refine da 101 ?_) | refine dx ?_ | apply dx0 | refine dxd ?_ | refine dxk ?_ | apply seqQ_normal | apply seqQ_ret | apply seqQ_exit | apply blkQ_here | refine g_bx ?_ | apply blkQ_ret | apply blkQ_normal | apply loopQ_ret | apply loopQ_exit | apply unQ_ret | apply unQ_exit | apply unQ_succ)
      exact er1 rfl ⟨rfl, G1, e1, e2, hW1, rfl⟩
end Go.HL
end

/-! WoW -/
section
namespace Go.HL
open Go Go.Proofs
set_option linter.unusedVariables false
set_option linter.unusedSimpArgs false
def newG (np bp ba sp bj mb : Nat) : NdG := ⟨np, bp, ba, sp, bj, mb, [], 0, List.replicate 6 (0, .pointer none, [])⟩
theorem nds_snoc : ∀ {gs : List NdG} {ms : List Nd} {i : Nat} {g : NdG} {m : Nd}, gs.length = ms.length → ndsB (gs ++ [g]) (ms ++ [m]) i = ndsB gs ms i ++ ndA g ((i + gs.length : Nat) : Int) m
  | [], [], i, g, m, _ => by simp [ndsB]
  | [], _ :: _, _, _, _, h => by simp at h
  | _ :: _, [], _, _, _, h => by simp at h
  | g0 :: gs, m0 :: ms, i, g, m, h => by
    have ih := nds_snoc (gs := gs) (ms := ms) (i := i + 1) (g := g) (m := m) (by simpa using h)
    simp only [List.cons_append, ndsB, ih, List.append_assoc, List.length_cons]
    rw [show i + 1 + gs.length = i + (gs.length + 1) by omega]
theorem newNd_ok (np bp ba sp bj mb : Nat) : NdOk (newG np bp ba sp bj mb) newNd := by
  refine ⟨rfl, fun d x hx => ?_, fun j ref e => by cases e; exact mapF_nil⟩
  simp only [newNd, noLeads, List.getElem?_replicate] at hx
  split at hx <;> cases hx
theorem newNd_lds (np bp ba sp bj mb : Nat) : ldBs (newG np bp ba sp bj mb) newNd = [] := rfl
theorem newNd_ndL (np bp ba sp bj mb : Nat) : ndL (stV (newG np bp ba sp bj mb) newNd.site) bp (ldVs (newG np bp ba sp bj mb) newNd) newNd.done = [pt sp 0, pt bp 0, .pointer none, .pointer none, .pointer none, .pointer none, .pointer none, .pointer none, .bool false, .bool false, .bool false, .bool false, .bool false, .bool false] := rfl
theorem nds_new {gs : List NdG} {i : Nat} (np bp ba sp bj mb : Nat) (h : gs.length = i) : ndsB (gs ++ [newG np bp ba sp bj mb]) (List.replicate (i + 1) newNd) 0 = ndsB gs (List.replicate i newNd) 0 ++ (ndB (newG np bp ba sp bj mb) newNd ++ (plC bp ba ⟨zeros 512, false, -1⟩ ++ (siC sp bj mb i ++ (mpC mb [] 0 ++ jC bj bp ⟨openM (zeros 512), false⟩)))) := by
  rw [List.replicate_succ', nds_snoc (show gs.length = (List.replicate i newNd).length by rw [List.length_replicate, h]), h]
  unfold ndA
  rw [newNd_lds, List.append_nil, Nat.zero_add]
  have : siB (newG np bp ba sp bj mb) i newNd.site = siC sp bj mb i ++ mpC mb [] 0 ++ jC bj bp ⟨openM (zeros 512), false⟩ := rfl
  rw [this]
  simp only [List.append_assoc]
  rfl
attribute [local irreducible] HW HO HQ HD HC QOp Has Upd Puts Gets seqQ blkQ loopQ fnQ actQ nextP unQ MapF
attribute [local irreducible] plC openM zeros
theorem wnew_calls (T : Nat) (E : Nat → Addr) (v : Value) (w : List Int) (c : List Blk) (L : Heap) (hG : Er T E [2, 3, 4, 6] L) (hv : Vec 3 1 ic v w c) (hl : w.length ≤ 1000000) :
    HC Tryz.prog 17 [v] (c :: L) (fun u L' => match checkW w with
      | some e => u = .tuple ⟨[.pointer none, eV T E (some e)]⟩ ∧ L' = c :: L
      | none => ∃ G, u = .tuple ⟨[pt G.wp 0, .nilIface]⟩ ∧ WdOk G (newW w) ∧ L' = wdH G (newW w) ++ (c :: L)) := by
  obtain ⟨aw, capw, rfl, -, hR⟩ := hv.rd ic_len
  have kc := check_calls T E aw capw w (c :: L) (hG.sub.cons c) (hR L) hl
  have kcl := fun L => clone_ints _ w c L hv (by omega)
  cases hc : checkW w with
  | some e =>
    rw [hc] at kc
    refine hc_enter (fun _ _ => Tryz.call17 _ _) Tryz.func17 rfl Tryz.ntmps17 (Nat.le_of_ble_eq_true rfl) ?_; simp only [args0, Nat.reduceAdd]
    repeat' (first | (show HW _ _ _ _ _ _; first | apply hw_seq | apply hw_region | apply hw_block | apply hw_exit | refine g_t ?_ | refine g_f ?_ | apply hw_skip | apply hw_ret) | (show HO _ _ _ _ _ _ _; first | apply ho_nil | refine g_q (qe S) ?_ | refine g_q (ql S) ?_ | refine g_q (qb S) ?_ | refine g_q (qbA S) ?_ | refine g_q (qC (kc)) ?_ | refine wb (fun b => ?_) | refine ws S ?_ | refine wS S (fun b => ?_) | refine wSa S (fun b => ?_) | refine wSn S (fun b => ?_) | refine wMk (fun b => ?_)) | ((first | refine g_b (fun h => ?_) (fun h => ?_)) <;> ((try simp only [zA, zB, zC, zD, zE, zF, ne_eq, zG, zH, and_true, true_and, eq_self, zI, zJ, zK, reduceCtorEq, zL, zM] at h); (try (exfalso; first | omega | with_reducible exact h (by assumption) | with_reducible exact absurd h (by assumption))))) | apply seqQ_normal | apply seqQ_ret | apply seqQ_exit | apply blkQ_here | refine g_bx ?_ | apply blkQ_ret | apply blkQ_normal | apply loopQ_ret | apply loopQ_exit | apply unQ_ret | apply unQ_exit | apply unQ_succ)
    exact er2 rfl ⟨rfl, rfl⟩
  | none =>
    rw [hc] at kc
    obtain ⟨c1, c2, -⟩ := check_none hc
    have kp := fun L hG => new_calls T E 512 L hG
    rw [show newP 512 = some ⟨zeros 512, false, -1⟩ from rfl] at kp
    have hz := zeros_len 512
    have ks := fun (i : Nat) (hi : i < 7) bp ba L hG => snew_calls T E (i : Int) bp ba ⟨zeros 512, false, -1⟩ L hG (by simp only; omega)
    have hse : ∀ i : Nat, i < 7 → siteE (i : Int) ⟨zeros 512, false, -1⟩ = none := fun i hi => by
      unfold siteE
      rw [if_neg (by omega)]
      simp only
      rw [if_neg (by omega)]
      simp
    refine hc_enter (fun _ _ => Tryz.call17 _ _) Tryz.func17 rfl Tryz.ntmps17 (Nat.le_of_ble_eq_true rfl) ?_; simp only [args0, Nat.reduceAdd]
    repeat' (first | (show HW _ _ _ _ _ _; first | apply hw_seq | apply hw_region | apply hw_block | apply hw_exit | refine g_t ?_ | refine g_f ?_ | apply hw_skip | apply hw_ret) | (show HO _ _ _ _ _ _ _; first | apply ho_nil | refine g_q (qe S) ?_ | refine g_q (ql S) ?_ | refine g_q (qb S) ?_ | refine g_q (qbA S) ?_ | refine g_q (qC (kc)) ?_ | refine wb (fun b => ?_) | refine ws S ?_ | refine wS S (fun b => ?_) | refine wSa S (fun b => ?_) | refine wSn S (fun b => ?_) | refine wMk (fun b => ?_)) | ((first | refine g_b (fun h => ?_) (fun h => ?_)) <;> ((try simp only [zA, zB, zC, zD, zE, zF, ne_eq, zG, zH, and_true, true_and, eq_self, zI, zJ, zK, reduceCtorEq, zL, zM] at h); (try (exfalso; first | omega | with_reducible exact h (by assumption) | with_reducible exact absurd h (by assumption))))) | apply seqQ_normal | apply seqQ_ret | apply seqQ_exit | apply blkQ_here | refine g_bx ?_ | apply blkQ_ret | apply blkQ_normal | apply loopQ_ret | apply loopQ_exit | apply unQ_ret | apply unQ_exit | apply unQ_succ)
    refine gc (kcl _) ?_
    rintro u L' ⟨cw, hvw, rfl⟩
    obtain ⟨aw2, capw2, rfl, -, -⟩ := hvw.rd ic_len
    repeat' (first | (show HW _ _ _ _ _ _; first | apply hw_seq | apply hw_region | apply hw_block | apply hw_exit | refine g_t ?_ | refine g_f ?_ | apply hw_skip | apply hw_ret) | (show HO _ _ _ _ _ _ _; first | apply ho_nil | refine g_q (qe S) ?_ | refine g_q (ql S) ?_ | refine g_q (qb S) ?_ | refine g_q (qbA S) ?_ | refine g_q (qC (kc)) ?_ | refine wb (fun b => ?_) | refine ws S ?_ | refine wS S (fun b => ?_) | refine wSa S (fun b => ?_) | refine wSn S (fun b => ?_) | refine wMk (fun b => ?_)) | ((first | refine g_b (fun h => ?_) (fun h => ?_)) <;> ((try simp only [zA, zB, zC, zD, zE, zF, ne_eq, zG, zH, and_true, true_and, eq_self, zI, zJ, zK, reduceCtorEq, zL, zM] at h); (try (exfalso; first | omega | with_reducible exact h (by assumption) | with_reducible exact absurd h (by assumption))))) | apply seqQ_normal | apply seqQ_ret | apply seqQ_exit | apply blkQ_here | refine g_bx ?_ | apply blkQ_ret | apply blkQ_normal | apply loopQ_ret | apply loopQ_exit | apply unQ_ret | apply unQ_exit | apply unQ_succ)
    rename_i mb
    obtain ⟨wp, rfl⟩ : ∃ wp, wp = b := ⟨b, rfl⟩
    refine hw_sp (L' := [(wp, .cells ⟨[.slice aw2 w.length capw2, nilS, .map (some mb), nilS, nilS]⟩ 110)] :: [] :: [(mb, .map ⟨[]⟩ 0)] :: cw :: [] :: c :: L) ?_ (by repeat (first | (with_reducible first | refine LS.p0 ?_ | refine LS.p1 ?_ | refine LS.p2 ?_ | refine LS.p3 ?_ | refine LS.p4 ?_ | refine LS.p5 ?_ | refine LS.p6 ?_ | refine LS.p7 ?_ | refine LS.p8 ?_ | refine LS.p9 ?_ | refine LS.p10 ?_ | refine LS.p11 ?_ | refine LS.p12 ?_ | refine LS.e ?_ | exact LS.refl _) | refine LS.p0 ?_ | refine LS.p1 ?_ | refine LS.p2 ?_ | refine LS.p3 ?_ | refine LS.p4 ?_ | refine LS.p5 ?_ | refine LS.p6 ?_ | refine LS.p7 ?_ | refine LS.p8 ?_ | refine LS.p9 ?_ | refine LS.p10 ?_ | refine LS.p11 ?_ | refine LS.p12 ?_ | (with_reducible refine LS.c ?_)))
    refine hw_loop (σ := Nat × Value × List Blk × List NdG) (fun r => [(5, pt wp 0), (20, .slice aw w.length capw), (21, iv w.length), (22, iv r.1)])
      (fun r => [(wp, .cells ⟨[.slice aw2 w.length capw2, r.2.1, .map (some mb), nilS, nilS]⟩ 110)] :: r.2.2.1 :: [(mb, .map ⟨[]⟩ 0)] :: cw :: ndsB r.2.2.2 (List.replicate r.1 newNd) 0 :: c :: L)
      (fun r => r.1 ≤ w.length ∧ r.2.2.2.length = r.1 ∧ Vec 117 1 pc r.2.1 (r.2.2.2.map (·.np)) r.2.2.1 ∧ ∀ (k : Nat) (g : NdG), r.2.2.2[k]? = some g → NdOk g newNd) (fun r => w.length - r.1) (0, nilS, [], []) (by repeat (first | exact trivial | refine ⟨rfl, ?_⟩)) (List.Sublist.refl _) ⟨by simp, rfl, vec_nil, fun k g h => by simp at h⟩ ?_
    rintro ⟨i, nv, nc, gs⟩ ⟨hi, hgl, hnv, hgk⟩
    simp only at hi hgl hnv hgk ⊢
    obtain ⟨an, capn, he, -, -⟩ := hnv.rd pc_len
    subst he
    have hml : (gs.map (·.np)).length = i := by simp [hgl]
    by_cases hit : i < w.length
    · have ks2 := ks i (by omega)
      rw [hse i (by omega)] at ks2
      repeat' (first | (show HW _ _ _ _ _ _; first | apply hw_seq | apply hw_region | apply hw_block | apply hw_exit | refine g_t ?_ | refine g_f ?_ | apply hw_skip | apply hw_ret) | (show HO _ _ _ _ _ _ _; first | apply ho_nil | refine g_q (qe S) ?_ | refine g_q (ql S) ?_ | refine g_q (qb S) ?_ | refine g_q (qbA S) ?_ | refine g_q (qC (kc)) ?_ | refine wb (fun b => ?_) | refine ws S ?_ | refine wS S (fun b => ?_) | refine wSa S (fun b => ?_) | refine wSn S (fun b => ?_) | refine wMk (fun b => ?_)) | ((first | refine g_b (fun h => ?_) (fun h => ?_)) <;> ((try simp only [zA, zB, zC, zD, zE, zF, ne_eq, zG, zH, and_true, true_and, eq_self, zI, zJ, zK, reduceCtorEq, zL, zM] at h); (try (exfalso; first | omega | with_reducible exact h (by assumption) | with_reducible exact absurd h (by assumption))))) | apply seqQ_normal | apply seqQ_ret | apply seqQ_exit | apply blkQ_here | refine g_bx ?_ | apply blkQ_ret | apply blkQ_normal | apply loopQ_ret | apply loopQ_exit | apply unQ_ret | apply unQ_exit | apply unQ_succ)
      refine gc (kp _ (by repeat (first | exact hG | exact hG.sub | apply Errs.cons))) ?_
      rintro v L' ⟨bp, ba, rfl, rfl⟩
      repeat' (first | (show HW _ _ _ _ _ _; first | apply hw_seq | apply hw_region | apply hw_block | apply hw_exit | refine g_t ?_ | refine g_f ?_ | apply hw_skip | apply hw_ret) | (show HO _ _ _ _ _ _ _; first | apply ho_nil | refine g_q (qe S) ?_ | refine g_q (ql S) ?_ | refine g_q (qb S) ?_ | refine g_q (qbA S) ?_ | refine g_q (qC (kc)) ?_ | refine wb (fun b => ?_) | refine ws S ?_ | refine wS S (fun b => ?_) | refine wSa S (fun b => ?_) | refine wSn S (fun b => ?_) | refine wMk (fun b => ?_)) | ((first | refine g_b (fun h => ?_) (fun h => ?_)) <;> ((try simp only [zA, zB, zC, zD, zE, zF, ne_eq, zG, zH, and_true, true_and, eq_self, zI, zJ, zK, reduceCtorEq, zL, zM] at h); (try (exfalso; first | omega | with_reducible exact h (by assumption) | with_reducible exact absurd h (by assumption))))) | apply seqQ_normal | apply seqQ_ret | apply seqQ_exit | apply blkQ_here | refine g_bx ?_ | apply blkQ_ret | apply blkQ_normal | apply loopQ_ret | apply loopQ_exit | apply unQ_ret | apply unQ_exit | apply unQ_succ)
      refine gc (ks2 bp ba _ (by repeat (first | exact hG | exact hG.sub | apply Errs.cons))) ?_
      rintro v L' ⟨sp, bj, mb2, rfl, rfl⟩
      repeat' (first | (show HW _ _ _ _ _ _; first | apply hw_seq | apply hw_region | apply hw_block | apply hw_exit | refine g_t ?_ | refine g_f ?_ | apply hw_skip | apply hw_ret) | (show HO _ _ _ _ _ _ _; first | apply ho_nil | refine g_q (qe S) ?_ | refine g_q (ql S) ?_ | refine g_q (qb S) ?_ | refine g_q (qbA S) ?_ | refine g_q (qC (kc)) ?_ | refine wb (fun b => ?_) | refine ws S ?_ | refine wS S (fun b => ?_) | refine wSa S (fun b => ?_) | refine wSn S (fun b => ?_) | refine wMk (fun b => ?_)) | ((first | refine g_b (fun h => ?_) (fun h => ?_)) <;> ((try simp only [zA, zB, zC, zD, zE, zF, ne_eq, zG, zH, and_true, true_and, eq_self, zI, zJ, zK, reduceCtorEq, zL, zM] at h); (try (exfalso; first | omega | with_reducible exact h (by assumption) | with_reducible exact absurd h (by assumption))))) | apply seqQ_normal | apply seqQ_ret | apply seqQ_exit | apply blkQ_here | refine g_bx ?_ | apply blkQ_ret | apply blkQ_normal | apply loopQ_ret | apply loopQ_exit | apply unQ_ret | apply unQ_exit | apply unQ_succ)
      rename_i np
      refine fo 7 ?_
      refine wp1 S np hnv pc_len pc_one ?_ (hby := by rw [hml]; omega) (hmax := by rw [hml]; omega)
      intro v' c' hv'
      obtain ⟨an2, capn2, he2, -, -⟩ := hv'.rd pc_len
      subst he2
      have hnew := newNd_ok np bp ba sp bj mb2
      repeat' (first | (show HW _ _ _ _ _ _; first | apply hw_seq | apply hw_region | apply hw_block | apply hw_exit | refine g_t ?_ | refine g_f ?_ | apply hw_skip | apply hw_ret) | (show HO _ _ _ _ _ _ _; first | apply ho_nil | refine g_q (qe S) ?_ | refine g_q (ql S) ?_ | refine g_q (qb S) ?_ | refine g_q (qbA S) ?_ | refine g_q (qC (kc)) ?_ | refine wb (fun b => ?_) | refine ws S ?_ | refine wS S (fun b => ?_) | refine wSa S (fun b => ?_) | refine wSn S (fun b => ?_) | refine wMk (fun b => ?_)) | ((first | refine g_b (fun h => ?_) (fun h => ?_)) <;> ((try simp only [zA, zB, zC, zD, zE, zF, ne_eq, zG, zH, and_true, true_and, eq_self, zI, zJ, zK, reduceCtorEq, zL, zM] at h); (try (exfalso; first | omega | with_reducible exact h (by assumption) | with_reducible exact absurd h (by assumption))))) | apply seqQ_normal | apply seqQ_ret | apply seqQ_exit | apply blkQ_here | refine g_bx ?_ | apply blkQ_ret | apply blkQ_normal | apply loopQ_ret | apply loopQ_exit | apply unQ_ret | apply unQ_exit | apply unQ_succ)
      refine loopQ_sp (i + 1, .slice an2 (gs.map (·.np) ++ [np]).length capn2, c', gs ++ [newG np bp ba sp bj mb2]) (by repeat (first | exact trivial | refine ⟨rfl, ?_⟩)) ?_ ⟨by simp only; omega, by simp [hgl], by rw [List.map_append]; exact hv', fun k g hk => ?_⟩ (by simp only; omega)
      · simp only [nds_new np bp ba sp bj mb2 hgl]
        refine LS.trans (b := ([(wp, .cells ⟨[.slice aw2 w.length capw2, .slice an2 (gs.map (·.np) ++ [np]).length capn2, .map (some mb), nilS, nilS]⟩ 110)] :: c' :: [(mb, .map ⟨[]⟩ 0)] :: cw :: ndsB gs (List.replicate i newNd) 0 :: ndB (newG np bp ba sp bj mb2) newNd :: plC bp ba ⟨zeros 512, false, -1⟩ :: siC sp bj mb2 i :: mpC mb2 [] 0 :: jC bj bp ⟨openM (zeros 512), false⟩ :: c :: L).flatten) (LS.of_eq ?_) ?_
        · simp only [List.flatten_cons, List.append_assoc]
        · simp only [ndB, ndO, newNd_ndL]
          exact (by repeat (first | (with_reducible first | refine LS.p0 ?_ | refine LS.p1 ?_ | refine LS.p2 ?_ | refine LS.p3 ?_ | refine LS.p4 ?_ | refine LS.p5 ?_ | refine LS.p6 ?_ | refine LS.p7 ?_ | refine LS.p8 ?_ | refine LS.p9 ?_ | refine LS.p10 ?_ | refine LS.p11 ?_ | refine LS.p12 ?_ | refine LS.e ?_ | exact LS.refl _) | refine LS.p0 ?_ | refine LS.p1 ?_ | refine LS.p2 ?_ | refine LS.p3 ?_ | refine LS.p4 ?_ | refine LS.p5 ?_ | refine LS.p6 ?_ | refine LS.p7 ?_ | refine LS.p8 ?_ | refine LS.p9 ?_ | refine LS.p10 ?_ | refine LS.p11 ?_ | refine LS.p12 ?_ | (with_reducible refine LS.c ?_)))
      · rw [List.getElem?_append] at hk
        split at hk
        · exact hgk k g hk
        · rename_i hk2
          have : k - gs.length = 0 := by
            by_cases e : k - gs.length = 0
            · exact e
            · simp [e] at hk
          rw [this] at hk
          cases hk
          exact hnew
    · obtain rfl : i = w.length := by omega
      repeat' (first | (show HW _ _ _ _ _ _; first | apply hw_seq | apply hw_region | apply hw_block | apply hw_exit | refine g_t ?_ | refine g_f ?_ | apply hw_skip | apply hw_ret) | (show HO _ _ _ _ _ _ _; first | apply ho_nil | refine g_q (qe S) ?_ | refine g_q (ql S) ?_ | refine g_q (qb S) ?_ | refine g_q (qbA S) ?_ | refine g_q (qC (kc)) ?_ | refine wb (fun b => ?_) | refine ws S ?_ | refine wS S (fun b => ?_) | refine wSa S (fun b => ?_) | refine wSn S (fun b => ?_) | refine wMk (fun b => ?_)) | ((first | refine g_b (fun h => ?_) (fun h => ?_)) <;> ((try simp only [zA, zB, zC, zD, zE, zF, ne_eq, zG, zH, and_true, true_and, eq_self, zI, zJ, zK, reduceCtorEq, zL, zM] at h); (try (exfalso; first | omega | with_reducible exact h (by assumption) | with_reducible exact absurd h (by assumption))))) | apply seqQ_normal | apply seqQ_ret | apply seqQ_exit | apply blkQ_here | refine g_bx ?_ | apply blkQ_ret | apply blkQ_normal | apply loopQ_ret | apply loopQ_exit | apply unQ_ret | apply unQ_exit | apply unQ_succ)
      refine sp2 (L' := wdH ⟨wp, .slice aw2 w.length capw2, cw, .slice an (gs.map (·.np)).length capn, nc, mb, [], 0, nilS, [], nilS, [], gs⟩ (newW w) ++ (c :: L)) ?_ ⟨⟨wp, .slice aw2 w.length capw2, cw, .slice an (gs.map (·.np)).length capn, nc, mb, [], 0, nilS, [], nilS, [], gs⟩, rfl, ⟨hvw, hnv, by simp [newW, hgl], mapF_nil, vec_nil, vec_nil, fun s g m h1 h2 => ?_⟩, rfl⟩
      · simp only [wdH, wdT, wdO, List.cons_append, List.nil_append, newW]
        exact (by repeat (first | (with_reducible first | refine LS.p0 ?_ | refine LS.p1 ?_ | refine LS.p2 ?_ | refine LS.p3 ?_ | refine LS.p4 ?_ | refine LS.p5 ?_ | refine LS.p6 ?_ | refine LS.p7 ?_ | refine LS.p8 ?_ | refine LS.p9 ?_ | refine LS.p10 ?_ | refine LS.p11 ?_ | refine LS.p12 ?_ | refine LS.e ?_ | exact LS.refl _) | refine LS.p0 ?_ | refine LS.p1 ?_ | refine LS.p2 ?_ | refine LS.p3 ?_ | refine LS.p4 ?_ | refine LS.p5 ?_ | refine LS.p6 ?_ | refine LS.p7 ?_ | refine LS.p8 ?_ | refine LS.p9 ?_ | refine LS.p10 ?_ | refine LS.p11 ?_ | refine LS.p12 ?_ | (with_reducible refine LS.c ?_)))
      · simp only [newW, List.getElem?_replicate] at h2
        split at h2
        · cases h2
          exact hgk s g h1
        · cases h2
end Go.HL
end

/-! PwA -/
section
namespace Go.HL
open Go Go.Proofs
set_option linter.unusedVariables false
set_option linter.unusedSimpArgs false
/-- one number of a play -/
def oneW (M : Wm) (v : Int) : Wm × Option Nat :=
  if v % 16 < 9 ∧ M.l.length = 0 then (M, some 4) else
  if v % 16 = 7 then dropW M (v / 16 % M.l.length) else
  if v % 16 = 8 then twiceW M (v / 16 % M.l.length) else
  if v % 16 = 9 then beginW M (v / 16 % 7) (v / 16 / 7 % 6) else
  if v % 16 = 10 then tickW M (v / 16 % 7) else
  if v % 16 = 11 then refuseW M (v / 16 % 7) (v / 16 / 7 % 6) else
  if v % 16 = 12 then linkW M (v / 16 % 7) (v / 16 / 7 % 6) (decide (v / 16 % 2 = 0)) else
  if v % 16 = 13 then cutW M (v / 16 % 7) (v / 16 % 40) else
  if v % 16 = 14 then downW M (v / 16 % 7) else
  if v % 16 = 15 then upW M (v / 16 % 7) else
  deliverW M (v / 16 % M.l.length)
theorem one_ok {M : Wm} (h : WI M) (v : Int) : StepOk M (oneW M v).1 84 := by
  unfold oneW
  split
  · exact .refl h _
  split
  · exact (drop_ok h _).mono (by omega)
  split
  · exact (twice_ok h _).mono (by omega)
  split
  · exact (begin_ok h _ _).mono (by omega)
  split
  · exact (tick_ok h _).mono (by omega)
  split
  · exact (refuse_ok h _ _).mono (by omega)
  split
  · exact (link_ok h _ _ _).mono (by omega)
  split
  · exact (cut_ok h _ _ (by omega)).mono (by omega)
  split
  · exact (down_ok h _).mono (by omega)
  split
  · exact (up_ok h _).mono (by omega)
  · exact (deliver_ok h _).mono (by omega)
def okW (e : Option Nat) : Prop := e = none ∨ e = some 2 ∨ e = some 4 ∨ e = some 6 ∨ e = some 8
theorem nodeE_w (M : Wm) (s : Int) : okW (nodeE M s) := by unfold nodeE okW; split <;> simp
theorem upE_w (M : Wm) (s : Int) : okW (upE M s) := by
  unfold upE
  have := nodeE_w M s
  split
  · rename_i e he
    rw [he] at this
    exact this
  · unfold okW; split <;> simp
theorem wat_w (M : Wm) (k : Int) : okW (wat M k) := by unfold wat okW; split <;> simp
theorem begin_w (M : Wm) (s d : Int) : okW (beginW M s d).2 := by
  unfold beginW
  split
  · unfold okW; simp
  have := upE_w M s
  split
  · rename_i e he
    rw [he] at this
    exact this
  split <;> (unfold okW; simp)
theorem refuse_w (M : Wm) (s d : Int) : okW (refuseW M s d).2 := by
  unfold refuseW
  split
  · unfold okW; simp
  have := upE_w M s
  split
  · rename_i e he
    rw [he] at this
    exact this
  · unfold okW; simp
theorem tick_w (M : Wm) (s : Int) : okW (tickW M s).2 := by
  unfold tickW
  have := upE_w M s
  split
  · rename_i e he
    rw [he] at this
    exact this
  · unfold okW; simp
theorem deliver_w (M : Wm) (k : Int) : okW (deliverW M k).2 := by
  unfold deliverW
  have := wat_w M k
  split
  · rename_i e he
    rw [he] at this
    exact this
  · simp only
    split
    · unfold okW; simp
    split
    · split <;> (unfold okW; simp)
    · unfold okW; simp
theorem drop_w (M : Wm) (k : Int) : okW (dropW M k).2 := by
  unfold dropW
  have := wat_w M k
  split
  · rename_i e he
    rw [he] at this
    exact this
  · unfold okW; simp
theorem twice_w (M : Wm) (k : Int) : okW (twiceW M k).2 := by
  unfold twiceW
  have := wat_w M k
  split
  · rename_i e he
    rw [he] at this
    exact this
  · unfold okW; simp
theorem link_w (M : Wm) (a b : Int) (c : Bool) : okW (linkW M a b c).2 := by unfold linkW; split <;> (unfold okW; simp)
theorem cut_w (M : Wm) (s n : Int) : okW (cutW M s n).2 := by
  unfold cutW
  split
  · unfold okW; simp
  have := upE_w M s
  split
  · rename_i e he
    rw [he] at this
    exact this
  · unfold okW; simp
theorem down_w (M : Wm) (s : Int) : okW (downW M s).2 := by
  unfold downW
  have := upE_w M s
  split
  · rename_i e he
    rw [he] at this
    exact this
  · unfold okW; simp
theorem up_w (M : Wm) (s : Int) : okW (upW M s).2 := by
  unfold upW
  have := nodeE_w M s
  split
  · rename_i e he
    rw [he] at this
    exact this
  · split <;> (unfold okW; simp)
theorem one_w (M : Wm) (v : Int) : okW (oneW M v).2 := by
  unfold oneW
  split
  · unfold okW; simp
  split
  · exact drop_w _ _
  split
  · exact twice_w _ _
  split
  · exact begin_w _ _ _
  split
  · exact tick_w _ _
  split
  · exact refuse_w _ _ _
  split
  · exact link_w _ _ _ _
  split
  · exact cut_w _ _ _
  split
  · exact down_w _ _
  split
  · exact up_w _ _
  · exact deliver_w _ _
theorem okW.ok {e : Option Nat} (h : okW e) : okE e := by
  rcases h with h | h | h | h | h <;> (rw [h]; first | exact .inl rfl | (refine .inr ⟨_, rfl, ?_⟩; decide) | trivial | decide)
attribute [local irreducible] HW HO HQ HD HC QOp Has Upd Puts Gets seqQ blkQ loopQ fnQ actQ nextP unQ MapF
attribute [local irreducible] ndL jcells plC siteM ldL openM tryW tickW beginW deliverW upW
theorem one_calls (T : Nat) (E : Nat → Addr) (G : WdG) (M : Wm) (v : Int) (L : Heap) (hG : Er T E [2, 3, 4, 5, 6, 8] L) (hW : WdOk G M) (hM : WI M) (hl : M.l.length ≤ 99999000) (hv : 0 ≤ v) (hv2 : v ≤ 9223372036854775807) :
    HC Tryz.prog 104 [pt G.wp 0, iv v] (wdH G M ++ L) (fun u L' => u = eV T E (oneW M v).2 ∧ WdP G (oneW M v).1 L L') := by
  have hself := wdP_self hW L
  have hI := wd_in hW L
  have hG' := er_wdH hG G M
  have kf := wfly_calls G M _ hI
  have k7 := fun k => wdrop_calls T E G M k L hG.sub hW (by omega)
  have k8 := fun k => wtwice_calls T E G M k L hG.sub hW (by omega)
  have k9 := fun s d => wbegin_calls T E G M s d L hG.sub hW hM (by omega)
  have k10 := fun s => wtick_calls T E G M s L hG.sub hW hM (by omega)
  have k11 := fun s d => wrefuse_calls T E G M s d L hG.sub hW hM
  have k12 := fun a b w => wlink_calls T E G M a b w L hG.sub hW
  have k13 := fun s n => wcut_calls T E G M s n L hG.sub hW hM
  have k14 := fun s => wdown_calls T E G M s L hG.sub hW hM
  have k15 := fun s => wupS_calls T E G M s L hG.sub hW hM
  have k0 := fun k => wdeliver_calls T E G M k L hG.sub hW hM (by omega)
  generalize wdH G M ++ L = H at *
  unfold oneW
  have hq0 : 0 ≤ v / 16 := by omega
  have hr0 : 0 ≤ v % 16 ∧ v % 16 < 16 := by omega
  refine hc_enter (fun _ _ => Tryz.call104 _ _) Tryz.func104 rfl Tryz.ntmps104 (Nat.le_of_ble_eq_true rfl) ?_; simp only [args0, Nat.reduceAdd]
  repeat' (first | (show HW _ _ _ _ _ _; first | apply hw_seq | apply hw_region | apply hw_block | apply hw_exit | refine g_t ?_ | refine g_f ?_ | apply hw_skip | apply hw_ret) | (show HO _ _ _ _ _ _ _; first | apply ho_nil | refine g_q (qe S) ?_ | refine g_q (qg S) ?_ | refine g_q (qC (kf)) ?_ | refine g_n ?_ | refine g_on ?_) | ((first | refine g_b (fun h => ?_) (fun h => ?_) | refine g_s (fun h => ?_) (fun h => ?_)) <;> ((try simp only [zA, zB, zC, zD, zE, zF, ne_eq, zG, zH, and_true, true_and, eq_self, zI, zJ, zK, reduceCtorEq, zL, zM] at h); (try (exfalso; first | omega | with_reducible exact h (by assumption) | with_reducible exact absurd h (by assumption))))) | apply seqQ_normal | apply seqQ_ret | apply seqQ_exit | apply blkQ_here | refine g_bx ?_ | apply blkQ_ret | apply blkQ_normal)
  all_goals first | (rw [if_pos (show v % 16 < 9 ∧ M.l.length = 0 by omega)]; exact er1 rfl ⟨rfl, hself⟩) | (refine gc (k7 _) ?_; rintro u L' ⟨rfl, hP⟩; (repeat' (first | (show HW _ _ _ _ _ _; first | apply hw_seq | apply hw_region | apply hw_block | apply hw_exit | refine g_t ?_ | refine g_f ?_ | apply hw_skip | apply hw_ret) | (show HO _ _ _ _ _ _ _; first | apply ho_nil | refine g_q (qe S) ?_ | refine g_q (qg S) ?_ | refine g_q (qC (kf)) ?_ | refine g_n ?_ | refine g_on ?_) | ((first | refine g_b (fun h => ?_) (fun h => ?_) | refine g_s (fun h => ?_) (fun h => ?_)) <;> ((try simp only [zA, zB, zC, zD, zE, zF, ne_eq, zG, zH, and_true, true_and, eq_self, zI, zJ, zK, reduceCtorEq, zL, zM] at h); (try (exfalso; first | omega | with_reducible exact h (by assumption) | with_reducible exact absurd h (by assumption))))) | apply seqQ_normal | apply seqQ_ret | apply seqQ_exit | apply blkQ_here | refine g_bx ?_ | apply blkQ_ret | apply blkQ_normal)); rw [if_neg (show ¬ (v % 16 < 9 ∧ M.l.length = 0) by omega), if_pos (show v % 16 = 7 by omega)]; exact er1 rfl ⟨rfl, hP⟩) | (refine gc (k8 _) ?_; rintro u L' ⟨rfl, hP⟩; (repeat' (first | (show HW _ _ _ _ _ _; first | apply hw_seq | apply hw_region | apply hw_block | apply hw_exit | refine g_t ?_ | refine g_f ?_ | apply hw_skip | apply hw_ret) | (show HO _ _ _ _ _ _ _; first | apply ho_nil | refine g_q (qe S) ?_ | refine g_q (qg S) ?_ | refine g_q (qC (kf)) ?_ | refine g_n ?_ | refine g_on ?_) | ((first | refine g_b (fun h => ?_) (fun h => ?_) | refine g_s (fun h => ?_) (fun h => ?_)) <;> ((try simp only [zA, zB, zC, zD, zE, zF, ne_eq, zG, zH, and_true, true_and, eq_self, zI, zJ, zK, reduceCtorEq, zL, zM] at h); (try (exfalso; first | omega | with_reducible exact h (by assumption) | with_reducible exact absurd h (by assumption))))) | apply seqQ_normal | apply seqQ_ret | apply seqQ_exit | apply blkQ_here | refine g_bx ?_ | apply blkQ_ret | apply blkQ_normal)); rw [if_neg (show ¬ (v % 16 < 9 ∧ M.l.length = 0) by omega), if_neg (show ¬ v % 16 = 7 by omega), if_pos (show v % 16 = 8 by omega)]; exact er1 rfl ⟨rfl, hP⟩) | (refine gc (k9 _ _) ?_; rintro u L' ⟨rfl, hP⟩; (repeat' (first | (show HW _ _ _ _ _ _; first | apply hw_seq | apply hw_region | apply hw_block | apply hw_exit | refine g_t ?_ | refine g_f ?_ | apply hw_skip | apply hw_ret) | (show HO _ _ _ _ _ _ _; first | apply ho_nil | refine g_q (qe S) ?_ | refine g_q (qg S) ?_ | refine g_q (qC (kf)) ?_ | refine g_n ?_ | refine g_on ?_) | ((first | refine g_b (fun h => ?_) (fun h => ?_) | refine g_s (fun h => ?_) (fun h => ?_)) <;> ((try simp only [zA, zB, zC, zD, zE, zF, ne_eq, zG, zH, and_true, true_and, eq_self, zI, zJ, zK, reduceCtorEq, zL, zM] at h); (try (exfalso; first | omega | with_reducible exact h (by assumption) | with_reducible exact absurd h (by assumption))))) | apply seqQ_normal | apply seqQ_ret | apply seqQ_exit | apply blkQ_here | refine g_bx ?_ | apply blkQ_ret | apply blkQ_normal)); rw [if_neg (show ¬ (v % 16 < 9 ∧ M.l.length = 0) by omega), if_neg (show ¬ v % 16 = 7 by omega), if_neg (show ¬ v % 16 = 8 by omega), if_pos (show v % 16 = 9 by omega)]; exact er1 rfl ⟨rfl, hP⟩) | (refine gc (k10 _) ?_; rintro u L' ⟨rfl, hP⟩; (repeat' (first | (show HW _ _ _ _ _ _; first | apply hw_seq | apply hw_region | apply hw_block | apply hw_exit | refine g_t ?_ | refine g_f ?_ | apply hw_skip | apply hw_ret) | (show HO _ _ _ _ _ _ _; first | apply ho_nil | refine g_q (qe S) ?_ | refine g_q (qg S) ?_ | refine g_q (qC (kf)) ?_ | refine g_n ?_ | refine g_on ?_) | ((first | refine g_b (fun h => ?_) (fun h => ?_) | refine g_s (fun h => ?_) (fun h => ?_)) <;> ((try simp only [zA, zB, zC, zD, zE, zF, ne_eq, zG, zH, and_true, true_and, eq_self, zI, zJ, zK, reduceCtorEq, zL, zM] at h); (try (exfalso; first | omega | with_reducible exact h (by assumption) | with_reducible exact absurd h (by assumption))))) | apply seqQ_normal | apply seqQ_ret | apply seqQ_exit | apply blkQ_here | refine g_bx ?_ | apply blkQ_ret | apply blkQ_normal)); rw [if_neg (show ¬ (v % 16 < 9 ∧ M.l.length = 0) by omega), if_neg (show ¬ v % 16 = 7 by omega), if_neg (show ¬ v % 16 = 8 by omega), if_neg (show ¬ v % 16 = 9 by omega), if_pos (show v % 16 = 10 by omega)]; exact er1 rfl ⟨rfl, hP⟩) | (refine gc (k11 _ _) ?_; rintro u L' ⟨rfl, hP⟩; (repeat' (first | (show HW _ _ _ _ _ _; first | apply hw_seq | apply hw_region | apply hw_block | apply hw_exit | refine g_t ?_ | refine g_f ?_ | apply hw_skip | apply hw_ret) | (show HO _ _ _ _ _ _ _; first | apply ho_nil | refine g_q (qe S) ?_ | refine g_q (qg S) ?_ | refine g_q (qC (kf)) ?_ | refine g_n ?_ | refine g_on ?_) | ((first | refine g_b (fun h => ?_) (fun h => ?_) | refine g_s (fun h => ?_) (fun h => ?_)) <;> ((try simp only [zA, zB, zC, zD, zE, zF, ne_eq, zG, zH, and_true, true_and, eq_self, zI, zJ, zK, reduceCtorEq, zL, zM] at h); (try (exfalso; first | omega | with_reducible exact h (by assumption) | with_reducible exact absurd h (by assumption))))) | apply seqQ_normal | apply seqQ_ret | apply seqQ_exit | apply blkQ_here | refine g_bx ?_ | apply blkQ_ret | apply blkQ_normal)); rw [if_neg (show ¬ (v % 16 < 9 ∧ M.l.length = 0) by omega), if_neg (show ¬ v % 16 = 7 by omega), if_neg (show ¬ v % 16 = 8 by omega), if_neg (show ¬ v % 16 = 9 by omega), if_neg (show ¬ v % 16 = 10 by omega), if_pos (show v % 16 = 11 by omega)]; exact er1 rfl ⟨rfl, hP⟩) | (refine gc (k12 _ _ _) ?_; rintro u L' ⟨rfl, hP⟩; (repeat' (first | (show HW _ _ _ _ _ _; first | apply hw_seq | apply hw_region | apply hw_block | apply hw_exit | refine g_t ?_ | refine g_f ?_ | apply hw_skip | apply hw_ret) | (show HO _ _ _ _ _ _ _; first | apply ho_nil | refine g_q (qe S) ?_ | refine g_q (qg S) ?_ | refine g_q (qC (kf)) ?_ | refine g_n ?_ | refine g_on ?_) | ((first | refine g_b (fun h => ?_) (fun h => ?_) | refine g_s (fun h => ?_) (fun h => ?_)) <;> ((try simp only [zA, zB, zC, zD, zE, zF, ne_eq, zG, zH, and_true, true_and, eq_self, zI, zJ, zK, reduceCtorEq, zL, zM] at h); (try (exfalso; first | omega | with_reducible exact h (by assumption) | with_reducible exact absurd h (by assumption))))) | apply seqQ_normal | apply seqQ_ret | apply seqQ_exit | apply blkQ_here | refine g_bx ?_ | apply blkQ_ret | apply blkQ_normal)); rw [if_neg (show ¬ (v % 16 < 9 ∧ M.l.length = 0) by omega), if_neg (show ¬ v % 16 = 7 by omega), if_neg (show ¬ v % 16 = 8 by omega), if_neg (show ¬ v % 16 = 9 by omega), if_neg (show ¬ v % 16 = 10 by omega), if_neg (show ¬ v % 16 = 11 by omega), if_pos (show v % 16 = 12 by omega)]; exact er1 rfl ⟨rfl, hP⟩) | (refine gc (k13 _ _) ?_; rintro u L' ⟨rfl, hP⟩; (repeat' (first | (show HW _ _ _ _ _ _; first | apply hw_seq | apply hw_region | apply hw_block | apply hw_exit | refine g_t ?_ | refine g_f ?_ | apply hw_skip | apply hw_ret) | (show HO _ _ _ _ _ _ _; first | apply ho_nil | refine g_q (qe S) ?_ | refine g_q (qg S) ?_ | refine g_q (qC (kf)) ?_ | refine g_n ?_ | refine g_on ?_) | ((first | refine g_b (fun h => ?_) (fun h => ?_) | refine g_s (fun h => ?_) (fun h => ?_)) <;> ((try simp only [zA, zB, zC, zD, zE, zF, ne_eq, zG, zH, and_true, true_and, eq_self, zI, zJ, zK, reduceCtorEq, zL, zM] at h); (try (exfalso; first | omega | with_reducible exact h (by assumption) | with_reducible exact absurd h (by assumption))))) | apply seqQ_normal | apply seqQ_ret | apply seqQ_exit | apply blkQ_here | refine g_bx ?_ | apply blkQ_ret | apply blkQ_normal)); rw [if_neg (show ¬ (v % 16 < 9 ∧ M.l.length = 0) by omega), if_neg (show ¬ v % 16 = 7 by omega), if_neg (show ¬ v % 16 = 8 by omega), if_neg (show ¬ v % 16 = 9 by omega), if_neg (show ¬ v % 16 = 10 by omega), if_neg (show ¬ v % 16 = 11 by omega), if_neg (show ¬ v % 16 = 12 by omega), if_pos (show v % 16 = 13 by omega)]; exact er1 rfl ⟨rfl, hP⟩) | (refine gc (k14 _) ?_; rintro u L' ⟨rfl, hP⟩; (repeat' (first | (show HW _ _ _ _ _ _; first | apply hw_seq | apply hw_region | apply hw_block | apply hw_exit | refine g_t ?_ | refine g_f ?_ | apply hw_skip | apply hw_ret) | (show HO _ _ _ _ _ _ _; first | apply ho_nil | refine g_q (qe S) ?_ | refine g_q (qg S) ?_ | refine g_q (qC (kf)) ?_ | refine g_n ?_ | refine g_on ?_) | ((first | refine g_b (fun h => ?_) (fun h => ?_) | refine g_s (fun h => ?_) (fun h => ?_)) <;> ((try simp only [zA, zB, zC, zD, zE, zF, ne_eq, zG, zH, and_true, true_and, eq_self, zI, zJ, zK, reduceCtorEq, zL, zM] at h); (try (exfalso; first | omega | with_reducible exact h (by assumption) | with_reducible exact absurd h (by assumption))))) | apply seqQ_normal | apply seqQ_ret | apply seqQ_exit | apply blkQ_here | refine g_bx ?_ | apply blkQ_ret | apply blkQ_normal)); rw [if_neg (show ¬ (v % 16 < 9 ∧ M.l.length = 0) by omega), if_neg (show ¬ v % 16 = 7 by omega), if_neg (show ¬ v % 16 = 8 by omega), if_neg (show ¬ v % 16 = 9 by omega), if_neg (show ¬ v % 16 = 10 by omega), if_neg (show ¬ v % 16 = 11 by omega), if_neg (show ¬ v % 16 = 12 by omega), if_neg (show ¬ v % 16 = 13 by omega), if_pos (show v % 16 = 14 by omega)]; exact er1 rfl ⟨rfl, hP⟩) | (refine gc (k15 _) ?_; rintro u L' ⟨rfl, hP⟩; (repeat' (first | (show HW _ _ _ _ _ _; first | apply hw_seq | apply hw_region | apply hw_block | apply hw_exit | refine g_t ?_ | refine g_f ?_ | apply hw_skip | apply hw_ret) | (show HO _ _ _ _ _ _ _; first | apply ho_nil | refine g_q (qe S) ?_ | refine g_q (qg S) ?_ | refine g_q (qC (kf)) ?_ | refine g_n ?_ | refine g_on ?_) | ((first | refine g_b (fun h => ?_) (fun h => ?_) | refine g_s (fun h => ?_) (fun h => ?_)) <;> ((try simp only [zA, zB, zC, zD, zE, zF, ne_eq, zG, zH, and_true, true_and, eq_self, zI, zJ, zK, reduceCtorEq, zL, zM] at h); (try (exfalso; first | omega | with_reducible exact h (by assumption) | with_reducible exact absurd h (by assumption))))) | apply seqQ_normal | apply seqQ_ret | apply seqQ_exit | apply blkQ_here | refine g_bx ?_ | apply blkQ_ret | apply blkQ_normal)); rw [if_neg (show ¬ (v % 16 < 9 ∧ M.l.length = 0) by omega), if_neg (show ¬ v % 16 = 7 by omega), if_neg (show ¬ v % 16 = 8 by omega), if_neg (show ¬ v % 16 = 9 by omega), if_neg (show ¬ v % 16 = 10 by omega), if_neg (show ¬ v % 16 = 11 by omega), if_neg (show ¬ v % 16 = 12 by omega), if_neg (show ¬ v % 16 = 13 by omega), if_neg (show ¬ v % 16 = 14 by omega), if_pos (show v % 16 = 15 by omega)]; exact er1 rfl ⟨rfl, hP⟩) | (refine gc (k0 _) ?_; rintro u L' ⟨rfl, hP⟩; (repeat' (first | (show HW _ _ _ _ _ _; first | apply hw_seq | apply hw_region | apply hw_block | apply hw_exit | refine g_t ?_ | refine g_f ?_ | apply hw_skip | apply hw_ret) | (show HO _ _ _ _ _ _ _; first | apply ho_nil | refine g_q (qe S) ?_ | refine g_q (qg S) ?_ | refine g_q (qC (kf)) ?_ | refine g_n ?_ | refine g_on ?_) | ((first | refine g_b (fun h => ?_) (fun h => ?_) | refine g_s (fun h => ?_) (fun h => ?_)) <;> ((try simp only [zA, zB, zC, zD, zE, zF, ne_eq, zG, zH, and_true, true_and, eq_self, zI, zJ, zK, reduceCtorEq, zL, zM] at h); (try (exfalso; first | omega | with_reducible exact h (by assumption) | with_reducible exact absurd h (by assumption))))) | apply seqQ_normal | apply seqQ_ret | apply seqQ_exit | apply blkQ_here | refine g_bx ?_ | apply blkQ_ret | apply blkQ_normal)); rw [if_neg (show ¬ (v % 16 < 9 ∧ M.l.length = 0) by omega), if_neg (show ¬ v % 16 = 7 by omega), if_neg (show ¬ v % 16 = 8 by omega), if_neg (show ¬ v % 16 = 9 by omega), if_neg (show ¬ v % 16 = 10 by omega), if_neg (show ¬ v % 16 = 11 by omega), if_neg (show ¬ v % 16 = 12 by omega), if_neg (show ¬ v % 16 = 13 by omega), if_neg (show ¬ v % 16 = 14 by omega), if_neg (show ¬ v % 16 = 15 by omega)]; exact er1 rfl ⟨rfl, hP⟩)
end Go.HL
end

/-! PwB -/
section
namespace Go.HL
open Go Go.Proofs
set_option linter.unusedVariables false
set_option linter.unusedSimpArgs false
def runV (q : Wm × List Int) (v : Int) : Wm × List Int := if 0 ≤ v then ((oneW q.1 v).1, q.2 ++ [cdN (oneW q.1 v).2]) else (q.1, q.2 ++ [-1])
def runW (M : Wm) (l : List Int) : Wm × List Int := (l.take 3000).foldl runV (M, [])
theorem runV_ok {M : Wm} {q : Wm × List Int} {k : Nat} (h : StepOk M q.1 k) (v : Int) : StepOk M (runV q v).1 (k + 84) ∧ (runV q v).2.length = q.2.length + 1 := by
  unfold runV
  split
  · have h2 := one_ok h.wi v
    have h3 := h.len
    have h4 := h2.len
    exact ⟨⟨h2.wi, h.same.trans h2.same, by simp only; omega⟩, by simp⟩
  · exact ⟨h.mono (by omega), by simp⟩
theorem runF_ok : ∀ (l : List Int) {M : Wm} {q : Wm × List Int} {k : Nat}, StepOk M q.1 k → StepOk M (l.foldl runV q).1 (k + 84 * l.length) ∧ (l.foldl runV q).2.length = q.2.length + l.length
  | [], M, q, k, h => ⟨h, by simp⟩
  | v :: l, M, q, k, h => by
    obtain ⟨h1, h2⟩ := runV_ok h v
    obtain ⟨h3, h4⟩ := runF_ok l h1
    rw [List.foldl_cons]
    refine ⟨h3.mono (by simp only [List.length_cons]; omega), by rw [h4, h2, List.length_cons]; omega⟩
theorem run_ok {M : Wm} (h : WI M) (l : List Int) : StepOk M (runW M l).1 (84 * l.length) ∧ (runW M l).2.length ≤ l.length := by
  obtain ⟨h1, h2⟩ := runF_ok (l.take 3000) (M := M) (q := (M, [])) (k := 0) (.refl h 0)
  have : (l.take 3000).length ≤ l.length := by simp; omega
  exact ⟨h1.mono (by omega), by unfold runW; rw [h2]; simp; omega⟩
theorem run_take_succ (M : Wm) (l : List Int) (i : Nat) (h : i < l.length) : (l.take (i + 1)).foldl runV (M, []) = runV ((l.take i).foldl runV (M, [])) l[i] := by
  rw [List.take_add_one, List.getElem?_eq_getElem h, Option.toList_some, List.foldl_append]
  rfl
theorem has_app {A L : Heap} {b : Nat} {o : Obj} (h : Has L b o) : Has (A ++ L) b o := by
  unfold Has at *
  rw [List.flatten_append]
  exact List.mem_append_right _ h
theorem ls_in' {A L : Heap} {c : List Blk} : LS (c :: (A ++ L)).flatten (A ++ (c :: L)).flatten := by
  simp only [List.flatten_cons, List.flatten_append]
  refine LS.of_perm ?_
  rw [← List.append_assoc, ← List.append_assoc]
  exact List.perm_append_comm.append_right _
attribute [local irreducible] HW HO HQ HD HC QOp Has Upd Puts Gets seqQ blkQ loopQ fnQ actQ nextP unQ MapF
attribute [local irreducible] oneW
theorem run_calls (T : Nat) (E : Nat → Addr) (G : WdG) (M : Wm) (a : Option Addr) (cap : Nat) (l : List Int) (L : Heap) (hE : Ez T E L) (hW : WdOk G M) (hM : WI M) (hl : M.l.length + 84 * l.length ≤ 99999000) (hR : Rd ic 1 L a l) (hcap : l.length ≤ cap) (hd : ∀ v ∈ l, v ≤ 9223372036854775807) :
    HC Tryz.prog 42 [pt G.wp 0, .slice a l.length cap] (wdH G M ++ L) (fun v L' => ∃ c, Vec 3 1 ic v (runW M l).2 c ∧ WdP G (runW M l).1 (c :: L) L') := by
  have hlen : (l.take 3000).length = min 3000 l.length := List.length_take
  refine hc_enter (fun _ _ => Tryz.call42 _ _) Tryz.func42 rfl Tryz.ntmps42 (Nat.le_of_ble_eq_true rfl) ?_; simp only [args0, Nat.reduceAdd]
  repeat' (first | (show HW _ _ _ _ _ _; first | apply hw_seq | apply hw_region | apply hw_block | apply hw_exit | refine g_t ?_ | refine g_f ?_ | apply hw_skip | apply hw_ret) | (show HO _ _ _ _ _ _ _; first | apply ho_nil | refine g_q (qe S) ?_ | refine g_q (ql S) ?_ | refine g_q (qSl S) ?_ | refine g_q (qSh S) ?_ | refine g_q (qSb S) ?_ | refine wS S (fun b => ?_) | refine wSa S (fun b => ?_) | refine wSn S (fun b => ?_)) | ((first | refine g_b (fun h => ?_) (fun h => ?_)) <;> ((try simp only [zA, zB, zC, zD, zE, zF, ne_eq, zG, zH, and_true, true_and, eq_self, zI, zJ, zK, reduceCtorEq, zL, zM] at h); (try (exfalso; first | omega | with_reducible exact h (by assumption) | with_reducible exact absurd h (by assumption))))) | apply seqQ_normal | apply seqQ_ret | apply seqQ_exit | apply blkQ_here | refine g_bx ?_ | apply blkQ_ret | apply blkQ_normal | apply loopQ_ret | apply loopQ_exit | apply unQ_ret | apply unQ_exit | apply unQ_succ)
  generalize hN : (min (l.length : Int) 3000).toNat = N
  have hN1 : N ≤ l.length := by omega
  have hN2 : N = min 3000 l.length := by omega
  have hfin : (l.take N).foldl runV (M, []) = runW M l := by
    unfold runW
    congr 1
    rw [hN2]
    by_cases h : l.length ≤ 3000
    · rw [Nat.min_eq_right h, List.take_of_length_le (Nat.le_refl _), List.take_of_length_le h]
    · rw [Nat.min_eq_left (by omega)]
  have hok := fun i => runF_ok (l.take i) (M := M) (q := (M, [])) (k := 0) (.refl hM 0)
  have hsucc := run_take_succ M l
  refine hw_sp (L' := [] :: (wdH G M ++ L)) ?_ (LS.refl _)
  refine hw_loop (σ := Nat × Value × List Blk × WdG) (fun r => [(0, pt G.wp 0), (5, r.2.1), (13, .slice a N cap), (14, iv N), (15, iv r.1)])
    (fun r => r.2.2.1 :: (wdH r.2.2.2 ((l.take r.1).foldl runV (M, [])).1 ++ L))
    (fun r => r.1 ≤ N ∧ Vec 3 1 ic r.2.1 ((l.take r.1).foldl runV (M, [])).2 r.2.2.1 ∧ WdOk r.2.2.2 ((l.take r.1).foldl runV (M, [])).1 ∧ r.2.2.2.wp = G.wp ∧ r.2.2.2.nd.map (·.np) = G.nd.map (·.np)) (fun r => N - r.1) (0, nilS, [], G) (by repeat (first | exact trivial | refine ⟨rfl, ?_⟩)) (List.Sublist.refl _) ⟨by simp, vec_nil, hW, rfl, rfl⟩ ?_
  rintro ⟨i, v1, c, G1⟩ ⟨hi, hv, hW1, e1, e2⟩
  simp only at hi hv hW1 e1 e2 ⊢
  obtain ⟨a5, cap5, he5, -, -⟩ := hv.rd ic_len
  subst he5
  obtain ⟨⟨hM1, hsame, hlen⟩, hl2⟩ := hok i
  have hti : (l.take i).length = i := by rw [List.length_take]; omega
  rw [hti] at hlen hl2
  by_cases hit : i < N
  · have hs := hsucc i (by omega)
    obtain ⟨b, bi, q, F, fr, rfl, hb, hg⟩ := hR.at1 (j := (i : Int)) (by omega) (by omega)
    have eg : l[(i : Int).toNat]'(by omega) = l[i] := rfl
    rw [eg] at hg
    have hdi := hd l[i] (List.getElem_mem _)
    clear hok hfin hsucc eg
    obtain ⟨M1, cs, hQ⟩ : ∃ M1 cs, (l.take i).foldl runV (M, []) = (M1, cs) := ⟨_, _, rfl⟩
    simp only [hQ, List.length_nil, Nat.zero_add] at hs hv hW1 hM1 hsame hlen hl2 ⊢
    generalize l[i] = x at *
    have hb' : Has (wdH G1 M1 ++ L) b (.cells ⟨q⟩ F fr) := has_app hb
    by_cases hx : 0 ≤ x
    · have k1 := fun L hG => one_calls T E G1 M1 x L hG hW1 hM1 (by omega) hx hdi
      have kw := one_w M1 x
      have hrv : runV (M1, cs) x = ((oneW M1 x).1, cs ++ [cdN (oneW M1 x).2]) := if_pos hx
      rw [hrv] at hs
      clear hrv
      generalize oneW M1 x = R at *
      obtain ⟨M2, e⟩ := R
      simp only [e1] at k1 kw hs
      generalize hH : wdH G1 M1 ++ L = H at *
      repeat' (first | (show HW _ _ _ _ _ _; first | apply hw_seq | apply hw_region | apply hw_block | apply hw_exit | refine g_t ?_ | refine g_f ?_ | apply hw_skip | apply hw_ret) | (show HO _ _ _ _ _ _ _; first | apply ho_nil | refine g_q (qe S) ?_ | refine g_q (ql S) ?_ | refine g_q (qSl S) ?_ | refine g_q (qSh S) ?_ | refine g_q (qSb S) ?_ | refine wS S (fun b => ?_) | refine wSa S (fun b => ?_) | refine wSn S (fun b => ?_)) | ((first | refine g_b (fun h => ?_) (fun h => ?_)) <;> ((try simp only [zA, zB, zC, zD, zE, zF, ne_eq, zG, zH, and_true, true_and, eq_self, zI, zJ, zK, reduceCtorEq, zL, zM] at h); (try (exfalso; first | omega | with_reducible exact h (by assumption) | with_reducible exact absurd h (by assumption))))) | apply seqQ_normal | apply seqQ_ret | apply seqQ_exit | apply blkQ_here | refine g_bx ?_ | apply blkQ_ret | apply blkQ_normal | apply loopQ_ret | apply loopQ_exit | apply unQ_ret | apply unQ_exit | apply unQ_succ)
      subst hH
      refine ho_sp (L' := wdH G1 M1 ++ (c :: L)) ?_ ls_in
      refine gc (k1 _ ((hE.er [2, 3, 4, 5, 6, 8]).cons _)) ?_
      rintro v L' ⟨rfl, G2, f1, f2, f3, rfl⟩
      have kc := code_all T E e (wdH G2 M2 ++ (c :: L)) (hE.mono fun b o h => has_app (has_next h)) kw.ok
      generalize hH2 : wdH G2 M2 ++ (c :: L) = H2 at *
      repeat' (first | (show HW _ _ _ _ _ _; first | apply hw_seq | apply hw_region | apply hw_block | apply hw_exit | refine g_t ?_ | refine g_f ?_ | apply hw_skip | apply hw_ret) | (show HO _ _ _ _ _ _ _; first | apply ho_nil | refine g_q (qe S) ?_ | refine g_q (ql S) ?_ | refine g_q (qSl S) ?_ | refine g_q (qSh S) ?_ | refine g_q (qSb S) ?_ | refine g_q (qC (kc)) ?_ | refine wS S (fun b => ?_) | refine wSa S (fun b => ?_) | refine wSn S (fun b => ?_)) | ((first | refine g_b (fun h => ?_) (fun h => ?_)) <;> ((try simp only [zA, zB, zC, zD, zE, zF, ne_eq, zG, zH, and_true, true_and, eq_self, zI, zJ, zK, reduceCtorEq, zL, zM] at h); (try (exfalso; first | omega | with_reducible exact h (by assumption) | with_reducible exact absurd h (by assumption))))) | apply seqQ_normal | apply seqQ_ret | apply seqQ_exit | apply blkQ_here | refine g_bx ?_ | apply blkQ_ret | apply blkQ_normal | apply loopQ_ret | apply loopQ_exit | apply unQ_ret | apply unQ_exit | apply unQ_succ)
      subst hH2
      refine ho_sp (L' := c :: [(b, .cells ⟨[iv (cdN e)]⟩ 3)] :: (wdH G2 M2 ++ L)) ?_ (LS.trans (LS.p1 (LS.refl _)) (LS.k ls_in'))
      refine wp1 S (cdN e) hv ic_len ic_one ?_
      intro v' c' hv'
      repeat' (first | (show HW _ _ _ _ _ _; first | apply hw_seq | apply hw_region | apply hw_block | apply hw_exit | refine g_t ?_ | refine g_f ?_ | apply hw_skip | apply hw_ret) | (show HO _ _ _ _ _ _ _; first | apply ho_nil | refine g_q (qe S) ?_ | refine g_q (ql S) ?_ | refine g_q (qSl S) ?_ | refine g_q (qSh S) ?_ | refine g_q (qSb S) ?_ | refine wS S (fun b => ?_) | refine wSa S (fun b => ?_) | refine wSn S (fun b => ?_)) | ((first | refine g_b (fun h => ?_) (fun h => ?_)) <;> ((try simp only [zA, zB, zC, zD, zE, zF, ne_eq, zG, zH, and_true, true_and, eq_self, zI, zJ, zK, reduceCtorEq, zL, zM] at h); (try (exfalso; first | omega | with_reducible exact h (by assumption) | with_reducible exact absurd h (by assumption))))) | apply seqQ_normal | apply seqQ_ret | apply seqQ_exit | apply blkQ_here | refine g_bx ?_ | apply blkQ_ret | apply blkQ_normal | apply loopQ_ret | apply loopQ_exit | apply unQ_ret | apply unQ_exit | apply unQ_succ)
      refine loopQ_sp (i + 1, v', c', G2) (by repeat (first | exact trivial | refine ⟨rfl, ?_⟩)) ?_ ⟨by simp only; omega, by simp only [hs]; exact hv', by simp only [hs]; exact f3, f1.trans e1, f2.trans e2⟩ (by simp only; omega)
      simp only [hs]
      exact (by repeat (first | (with_reducible first | refine LS.p0 ?_ | refine LS.p1 ?_ | refine LS.p2 ?_ | refine LS.p3 ?_ | refine LS.p4 ?_ | refine LS.p5 ?_ | refine LS.p6 ?_ | refine LS.p7 ?_ | refine LS.p8 ?_ | refine LS.p9 ?_ | refine LS.p10 ?_ | refine LS.p11 ?_ | refine LS.p12 ?_ | refine LS.e ?_ | exact LS.refl _) | refine LS.p0 ?_ | refine LS.p1 ?_ | refine LS.p2 ?_ | refine LS.p3 ?_ | refine LS.p4 ?_ | refine LS.p5 ?_ | refine LS.p6 ?_ | refine LS.p7 ?_ | refine LS.p8 ?_ | refine LS.p9 ?_ | refine LS.p10 ?_ | refine LS.p11 ?_ | refine LS.p12 ?_ | (with_reducible refine LS.c ?_)))
    · have hrv : runV (M1, cs) x = (M1, cs ++ [-1]) := if_neg hx
      rw [hrv] at hs
      generalize hH : wdH G1 M1 ++ L = H at *
      repeat' (first | (show HW _ _ _ _ _ _; first | apply hw_seq | apply hw_region | apply hw_block | apply hw_exit | refine g_t ?_ | refine g_f ?_ | apply hw_skip | apply hw_ret) | (show HO _ _ _ _ _ _ _; first | apply ho_nil | refine g_q (qe S) ?_ | refine g_q (ql S) ?_ | refine g_q (qSl S) ?_ | refine g_q (qSh S) ?_ | refine g_q (qSb S) ?_ | refine wS S (fun b => ?_) | refine wSa S (fun b => ?_) | refine wSn S (fun b => ?_)) | ((first | refine g_b (fun h => ?_) (fun h => ?_)) <;> ((try simp only [zA, zB, zC, zD, zE, zF, ne_eq, zG, zH, and_true, true_and, eq_self, zI, zJ, zK, reduceCtorEq, zL, zM] at h); (try (exfalso; first | omega | with_reducible exact h (by assumption) | with_reducible exact absurd h (by assumption))))) | apply seqQ_normal | apply seqQ_ret | apply seqQ_exit | apply blkQ_here | refine g_bx ?_ | apply blkQ_ret | apply blkQ_normal | apply loopQ_ret | apply loopQ_exit | apply unQ_ret | apply unQ_exit | apply unQ_succ)
      subst hH
      refine fo 1 ?_
      refine wp1 S (-1 : Int) hv ic_len ic_one ?_
      intro v' c' hv'
      repeat' (first | (show HW _ _ _ _ _ _; first | apply hw_seq | apply hw_region | apply hw_block | apply hw_exit | refine g_t ?_ | refine g_f ?_ | apply hw_skip | apply hw_ret) | (show HO _ _ _ _ _ _ _; first | apply ho_nil | refine g_q (qe S) ?_ | refine g_q (ql S) ?_ | refine g_q (qSl S) ?_ | refine g_q (qSh S) ?_ | refine g_q (qSb S) ?_ | refine wS S (fun b => ?_) | refine wSa S (fun b => ?_) | refine wSn S (fun b => ?_)) | ((first | refine g_b (fun h => ?_) (fun h => ?_)) <;> ((try simp only [zA, zB, zC, zD, zE, zF, ne_eq, zG, zH, and_true, true_and, eq_self, zI, zJ, zK, reduceCtorEq, zL, zM] at h); (try (exfalso; first | omega | with_reducible exact h (by assumption) | with_reducible exact absurd h (by assumption))))) | apply seqQ_normal | apply seqQ_ret | apply seqQ_exit | apply blkQ_here | refine g_bx ?_ | apply blkQ_ret | apply blkQ_normal | apply loopQ_ret | apply loopQ_exit | apply unQ_ret | apply unQ_exit | apply unQ_succ)
      refine loopQ_sp (i + 1, v', c', G1) (by repeat (first | exact trivial | refine ⟨rfl, ?_⟩)) ?_ ⟨by simp only; omega, by simp only [hs]; exact hv', by simp only [hs]; exact hW1, e1, e2⟩ (by simp only; omega)
      simp only [hs]
      exact (by repeat (first | (with_reducible first | refine LS.p0 ?_ | refine LS.p1 ?_ | refine LS.p2 ?_ | refine LS.p3 ?_ | refine LS.p4 ?_ | refine LS.p5 ?_ | refine LS.p6 ?_ | refine LS.p7 ?_ | refine LS.p8 ?_ | refine LS.p9 ?_ | refine LS.p10 ?_ | refine LS.p11 ?_ | refine LS.p12 ?_ | refine LS.e ?_ | exact LS.refl _) | refine LS.p0 ?_ | refine LS.p1 ?_ | refine LS.p2 ?_ | refine LS.p3 ?_ | refine LS.p4 ?_ | refine LS.p5 ?_ | refine LS.p6 ?_ | refine LS.p7 ?_ | refine LS.p8 ?_ | refine LS.p9 ?_ | refine LS.p10 ?_ | refine LS.p11 ?_ | refine LS.p12 ?_ | (with_reducible refine LS.c ?_)))
  · obtain rfl : i = N := by omega
    rw [hfin] at hv hW1 ⊢
    repeat' (first | (show HW _ _ _ _ _ _; first | apply hw_seq | apply hw_region | apply hw_block | apply hw_exit | refine g_t ?_ | refine g_f ?_ | apply hw_skip | apply hw_ret) | (show HO _ _ _ _ _ _ _; first | apply ho_nil | refine g_q (qe S) ?_ | refine g_q (ql S) ?_ | refine g_q (qSl S) ?_ | refine g_q (qSh S) ?_ | refine g_q (qSb S) ?_ | refine wS S (fun b => ?_) | refine wSa S (fun b => ?_) | refine wSn S (fun b => ?_)) | ((first | refine g_b (fun h => ?_) (fun h => ?_)) <;> ((try simp only [zA, zB, zC, zD, zE, zF, ne_eq, zG, zH, and_true, true_and, eq_self, zI, zJ, zK, reduceCtorEq, zL, zM] at h); (try (exfalso; first | omega | with_reducible exact h (by assumption) | with_reducible exact absurd h (by assumption))))) | apply seqQ_normal | apply seqQ_ret | apply seqQ_exit | apply blkQ_here | refine g_bx ?_ | apply blkQ_ret | apply blkQ_normal | apply loopQ_ret | apply loopQ_exit | apply unQ_ret | apply unQ_exit | apply unQ_succ)
    exact sp1 (L' := wdH G1 (runW M l).1 ++ (c :: L)) ls_in ⟨c, hv, G1, e1, e2, hW1, rfl⟩
end Go.HL
end

/-! ErD3 -/
section
namespace Go.HL
open Go Go.Proofs
set_option linter.unusedVariables false
set_option linter.unusedSimpArgs false
attribute [local irreducible] HW HO HQ HD HC QOp Has Upd Puts Gets seqQ blkQ loopQ fnQ actQ nextP unQ MapF
theorem coded3_calls (T : Nat) (E : Nat → Addr) (e : Option Nat) (k : Int) (L : Heap) (hE : Ez T E L) (he : okE e) : HC Tryz.prog 28 [eV T E e, iv k] L (fun v L' => v = .bool (decide (cdN e = k)) ∧ L' = L) := by
  have hc := code_all T E e L hE he
  refine hc_enter (fun _ _ => Tryz.call28 _ _) Tryz.func28 rfl Tryz.ntmps28 (Nat.le_of_ble_eq_true rfl) ?_; simp only [args0, Nat.reduceAdd]
  repeat' (first | (show HW _ _ _ _ _ _; first | apply hw_seq | apply hw_region | apply hw_ret) | (show HO _ _ _ _ _ _ _; first | apply ho_nil | refine g_q (qe S) ?_ | refine g_q (qC (hc)) ?_ | refine g_n ?_ | refine g_on ?_) | ((first | refine g_s (fun h => ?_) (fun h => ?_)) <;> ((try simp only [zA, zB, zC, zD, zE, zF, ne_eq, zG, zH, and_true, true_and, eq_self, zI, zJ, zK, reduceCtorEq, zL, zM] at h); (try (exfalso; first | omega | with_reducible exact h (by assumption) | with_reducible exact absurd h (by assumption))))) | apply seqQ_normal | apply seqQ_ret)
  all_goals (refine sp1 (by repeat (first | exact LS.refl _ | apply LS.k | apply LS.c)) ⟨?_, rfl⟩; simp [*])
end Go.HL
end

/-! PwC -/
section
namespace Go.HL
open Go Go.Proofs
set_option linter.unusedVariables false
set_option linter.unusedSimpArgs false
theorem plSt_new (d : Int) : plSt newNd.pl d = zeroS := by
  unfold plSt newNd
  simp only
  rw [open_zeros (by omega)]
  rw [List.getD, List.getElem?_replicate]
  split <;> rfl
def w111 : List Int := [1, 1, 1]
theorem check111 : checkW w111 = none := by decide +kernel
def b111 : Wm := (beginW (newW w111) 1 0).1
theorem busy_new (w : List Int) (d : Int) : (newW w).n.any (isBusy d) = false := by
  rw [List.any_eq_false]
  intro x hx
  rw [(List.mem_replicate.1 hx).2]
  unfold isBusy
  rw [plSt_new]
  simp only [ne_eq, not_true_eq_false, decide_false, Bool.false_or]
  unfold newNd noLeads
  simp only [List.getD, List.getElem?_replicate]
  split <;> simp
theorem ndAt_new {w : List Int} {s : Int} (h0 : 0 ≤ s) (h1 : s < w.length) : ndAt (newW w) s = newNd := by
  unfold ndAt newW
  simp only [List.getD, List.getElem?_replicate]
  rw [if_pos (by omega)]
  rfl
theorem upE_new {w : List Int} {s : Int} (h0 : 0 ≤ s) (h1 : s < w.length) : upE (newW w) s = none := by
  unfold upE
  rw [nodeE_ok h0 (by simpa [newW] using h1)]
  simp only
  rw [ndAt_new h0 h1]
  rfl
theorem begin_new {w : List Int} {s d : Int} (h0 : 0 ≤ s) (h1 : s < w.length) (hd : 0 ≤ d ∧ d < 6) : beginW (newW w) s d = ({ setN (newW w) s { newNd with leads := noLeads.set d.toNat (some (newLd s d w 0 2)) } with l := startM (newLd s d w 0 2) }, none) := by
  have hl : (newW w).n.length = w.length := by simp [newW]
  unfold beginW
  rw [if_neg (by rw [hl]; omega), upE_new h0 h1, busy_new, ndAt_new h0 h1]
  rfl
theorem b111_e : (beginW (newW w111) 1 0).2 = none := by rw [begin_new (by omega) (by simp [w111]) (by omega)]
theorem b111_l : b111.l.length = 3 := by
  unfold b111
  rw [begin_new (by omega) (by simp [w111]) (by omega)]
  rfl
theorem b111_lead : leadW b111 1 0 = (sAsking, none) := by
  unfold b111
  rw [begin_new (by omega) (by simp [w111]) (by omega)]
  unfold leadW
  rw [if_neg (by simp [setN, newW, w111])]
  show (match (ndAt (setN (newW w111) 1 { newNd with leads := noLeads.set 0 (some (newLd 1 0 w111 0 2)) }) 1).leads.getD 0 none with
    | none => ([110, 111, 110, 101], none)
    | some x => (x.state, none)) = (sAsking, none)
  rw [ndAt_set (by omega) (by simp [newW, w111])]
  rfl
theorem b111_held : (beginW b111 0 0).2 = some 8 := by
  unfold b111
  rw [begin_new (by omega) (by simp [w111]) (by omega)]
  unfold beginW
  have hl : (setN (newW w111) 1 { newNd with leads := noLeads.set 0 (some (newLd 1 0 w111 0 2)) }).n.length = 3 := by simp [setN, newW, w111]
  rw [if_neg (by show ¬ ((0 : Int) < 0 ∨ (6 : Int) ≤ 0 ∨ (0 : Int) < 0 ∨ ((setN (newW w111) 1 { newNd with leads := noLeads.set 0 (some (newLd 1 0 w111 0 2)) }).n.length : Int) ≤ 0); rw [hl]; omega)]
  have hu : upE { setN (newW w111) 1 { newNd with leads := noLeads.set (Int.toNat 0) (some (newLd 1 0 w111 0 2)) } with l := startM (newLd 1 0 w111 0 2) } 0 = none := by
    unfold upE
    rw [nodeE_ok (by omega) (by show (0 : Int) < ((setN (newW w111) 1 { newNd with leads := noLeads.set 0 (some (newLd 1 0 w111 0 2)) }).n.length : Int); rw [hl]; omega)]
    simp only
    have : ndAt { setN (newW w111) 1 { newNd with leads := noLeads.set (Int.toNat 0) (some (newLd 1 0 w111 0 2)) } with l := startM (newLd 1 0 w111 0 2) } 0 = newNd := rfl
    rw [this]
    rfl
  rw [hu]
  simp only
  have hb : (setN (newW w111) 1 { newNd with leads := noLeads.set (Int.toNat 0) (some (newLd 1 0 w111 0 2)) }).n.any (isBusy 0) = true := by
    rw [List.any_eq_true]
    refine ⟨{ newNd with leads := noLeads.set 0 (some (newLd 1 0 w111 0 2)) }, by simp [setN, newW, w111], ?_⟩
    unfold isBusy
    simp only [noLeads]
    simp
  rw [if_pos hb]
attribute [local irreducible] HW HO HQ HD HC QOp Has Upd Puts Gets seqQ blkQ loopQ fnQ actQ nextP unQ MapF
attribute [local irreducible] beginW newW
theorem born_calls (T : Nat) (E : Nat → Addr) (L : Heap) (hE : Ez T E L) : HC Tryz.prog 14 [] L (fun v L' => v = .bool true ∧ L' = L) := by
  have kn := fun v c L hG hv => wnew_calls T E v w111 c L hG hv (by simp [w111])
  rw [check111] at kn
  have hM := new_ok check111
  have hl0 : (newW w111).l.length ≤ 99999999 := by unfold newW; simp
  have kb := fun G L hG hW => wbegin_calls T E G (newW w111) 1 0 L hG hW hM hl0
  have hM1 := (begin_ok hM 1 0).wi
  have e1 := b111_e
  have e2 := b111_l
  have e3 := b111_lead
  have e4 := b111_held
  rw [e1] at kb
  change WI b111 at hM1
  have kb : ∀ G L, Er T E [2, 3, 4, 6, 8] L → WdOk G (newW w111) → HC Tryz.prog 21 [pt G.wp 0, iv 1, iv 0] (wdH G (newW w111) ++ L) (fun v L' => v = eV T E none ∧ WdP G b111 L L') := kb
  have kl := fun G L hG hW => wlead_calls T E G b111 1 0 L hG hW hM1
  rw [e3] at kl
  have kf := fun G L hW => wflying_calls G b111 L hW (by omega)
  have kb2 := fun G L hG hW => wbegin_calls T E G b111 0 0 L hG hW hM1 (by omega)
  rw [e4] at kb2
  have kc := fun L h => coded3_calls T E (some 8) 8 L h rfl
  refine hc_enter (fun _ _ => Tryz.call14 _ _) Tryz.func14 rfl Tryz.ntmps14 (Nat.le_of_ble_eq_true rfl) ?_; simp only [args0, Nat.reduceAdd]
  repeat' (first | (show HW _ _ _ _ _ _; first | apply hw_seq | apply hw_region | refine g_t ?_ | refine g_f ?_ | apply hw_skip | apply hw_ret) | (show HO _ _ _ _ _ _ _; first | apply ho_nil | refine g_q (qe S) ?_ | refine g_n ?_ | refine g_on ?_ | refine wS S (fun b => ?_) | refine wSa S (fun b => ?_) | refine wSn S (fun b => ?_)) | ((first | refine g_b (fun h => ?_) (fun h => ?_) | refine g_s (fun h => ?_) (fun h => ?_)) <;> ((try simp only [zA, zB, zC, zD, zE, zF, ne_eq, zG, zH, and_true, true_and, eq_self, zI, zJ, zK, reduceCtorEq, zL, zM] at h); (try (exfalso; first | omega | with_reducible exact h (by assumption) | with_reducible exact absurd h (by assumption))))) | apply seqQ_normal | apply seqQ_ret)
  refine gc (kn _ _ _ ((hE.er [2, 3, 4, 6])) (.inr ⟨b, 3, [], rfl, rfl, rfl, by simp [w111], rfl⟩)) ?_
  rintro v L' ⟨G, rfl, hW, rfl⟩
  repeat' (first | (show HW _ _ _ _ _ _; first | apply hw_seq | apply hw_region | refine g_t ?_ | refine g_f ?_ | apply hw_skip | apply hw_ret) | (show HO _ _ _ _ _ _ _; first | apply ho_nil | refine g_q (qe S) ?_ | refine g_n ?_ | refine g_on ?_ | refine wS S (fun b => ?_) | refine wSa S (fun b => ?_) | refine wSn S (fun b => ?_)) | ((first | refine g_b (fun h => ?_) (fun h => ?_) | refine g_s (fun h => ?_) (fun h => ?_)) <;> ((try simp only [zA, zB, zC, zD, zE, zF, ne_eq, zG, zH, and_true, true_and, eq_self, zI, zJ, zK, reduceCtorEq, zL, zM] at h); (try (exfalso; first | omega | with_reducible exact h (by assumption) | with_reducible exact absurd h (by assumption))))) | apply seqQ_normal | apply seqQ_ret)
  refine gc (kb G _ ((hE.er [2, 3, 4, 6, 8]).cons _) hW) ?_
  rintro v L' ⟨rfl, G1, f1, f2, hW1, rfl⟩
  rw [← f1]
  repeat' (first | (show HW _ _ _ _ _ _; first | apply hw_seq | apply hw_region | refine g_t ?_ | refine g_f ?_ | apply hw_skip | apply hw_ret) | (show HO _ _ _ _ _ _ _; first | apply ho_nil | refine g_q (qe S) ?_ | refine g_n ?_ | refine g_on ?_ | refine wS S (fun b => ?_) | refine wSa S (fun b => ?_) | refine wSn S (fun b => ?_)) | ((first | refine g_b (fun h => ?_) (fun h => ?_) | refine g_s (fun h => ?_) (fun h => ?_)) <;> ((try simp only [zA, zB, zC, zD, zE, zF, ne_eq, zG, zH, and_true, true_and, eq_self, zI, zJ, zK, reduceCtorEq, zL, zM] at h); (try (exfalso; first | omega | with_reducible exact h (by assumption) | with_reducible exact absurd h (by assumption))))) | apply seqQ_normal | apply seqQ_ret)
  refine gc (kl G1 _ ((hE.er [2]).cons _) hW1) ?_
  rintro v L' ⟨rfl, rfl⟩
  repeat' (first | (show HW _ _ _ _ _ _; first | apply hw_seq | apply hw_region | refine g_t ?_ | refine g_f ?_ | apply hw_skip | apply hw_ret) | (show HO _ _ _ _ _ _ _; first | apply ho_nil | refine g_q (qe S) ?_ | refine g_n ?_ | refine g_on ?_ | refine wS S (fun b => ?_) | refine wSa S (fun b => ?_) | refine wSn S (fun b => ?_)) | ((first | refine g_b (fun h => ?_) (fun h => ?_) | refine g_s (fun h => ?_) (fun h => ?_)) <;> ((try simp only [zA, zB, zC, zD, zE, zF, ne_eq, zG, zH, and_true, true_and, eq_self, zI, zJ, zK, reduceCtorEq, zL, zM] at h); (try (exfalso; first | omega | with_reducible exact h (by assumption) | with_reducible exact absurd h (by assumption))))) | apply seqQ_normal | apply seqQ_ret)
  refine gc (kf G1 _ hW1) ?_
  rintro v L' ⟨c2, hv2, rfl⟩
  obtain ⟨a7, cap7, rfl, -, -⟩ := hv2.rd fc_len
  rw [e2]
  repeat' (first | (show HW _ _ _ _ _ _; first | apply hw_seq | apply hw_region | refine g_t ?_ | refine g_f ?_ | apply hw_skip | apply hw_ret) | (show HO _ _ _ _ _ _ _; first | apply ho_nil | refine g_q (qe S) ?_ | refine g_n ?_ | refine g_on ?_ | refine wS S (fun b => ?_) | refine wSa S (fun b => ?_) | refine wSn S (fun b => ?_)) | ((first | refine g_b (fun h => ?_) (fun h => ?_) | refine g_s (fun h => ?_) (fun h => ?_)) <;> ((try simp only [zA, zB, zC, zD, zE, zF, ne_eq, zG, zH, and_true, true_and, eq_self, zI, zJ, zK, reduceCtorEq, zL, zM] at h); (try (exfalso; first | omega | with_reducible exact h (by assumption) | with_reducible exact absurd h (by assumption))))) | apply seqQ_normal | apply seqQ_ret)
  refine ho_sp (L' := wdH G1 b111 ++ (c2 :: [(b, .cells ⟨[iv 1, iv 1, iv 1]⟩ 3)] :: L)) ?_ ls_in
  refine gc (kb2 G1 _ (((hE.er [2, 3, 4, 6, 8]).cons _).cons _) hW1) ?_
  rintro v L' ⟨rfl, G2, g1, g2, hW2, rfl⟩
  have kc2 := kc (wdH G2 (beginW b111 0 0).1 ++ (c2 :: [(b, .cells ⟨[iv 1, iv 1, iv 1]⟩ 3)] :: L)) (hE.mono fun b o h => has_app (has_next (has_next h)))
  generalize hH : wdH G2 (beginW b111 0 0).1 ++ (c2 :: [(b, .cells ⟨[iv 1, iv 1, iv 1]⟩ 3)] :: L) = H at *
  repeat' (first | (show HW _ _ _ _ _ _; first | apply hw_seq | apply hw_region | refine g_t ?_ | refine g_f ?_ | apply hw_skip | apply hw_ret) | (show HO _ _ _ _ _ _ _; first | apply ho_nil | refine g_q (qe S) ?_ | refine g_q (qC (kc2)) ?_ | refine g_n ?_ | refine g_on ?_ | refine wS S (fun b => ?_) | refine wSa S (fun b => ?_) | refine wSn S (fun b => ?_)) | ((first | refine g_b (fun h => ?_) (fun h => ?_) | refine g_s (fun h => ?_) (fun h => ?_)) <;> ((try simp only [zA, zB, zC, zD, zE, zF, ne_eq, zG, zH, and_true, true_and, eq_self, zI, zJ, zK, reduceCtorEq, zL, zM] at h); (try (exfalso; first | omega | with_reducible exact h (by assumption) | with_reducible exact absurd h (by assumption))))) | apply seqQ_normal | apply seqQ_ret)
  subst hH
  refine sp1 (L' := L) ?_ ⟨rfl, rfl⟩
  simp only [List.flatten_append, List.flatten_cons]
  exact LS.skips _ (LS.skips _ (LS.skips _ (LS.refl _)))
abbrev REvt (v : Value) (xs : List Evt) (c : List Blk) : Prop := Vec 162 3 ec v xs c
theorem backEvents_calls (a : Option Addr) (cap : Nat) (xs : List Evt) (L : Heap) (hR : Rd ec 3 L a xs) (hl : xs.length ≤ 100000000) :
    HC Tryz.prog 46 [.slice a xs.length cap] L (fun v L' => ∃ c, REvt v xs c ∧ L' = c :: L) := by
  refine hc_enter (fun _ _ => Tryz.call46 _ _) Tryz.func46 rfl Tryz.ntmps46 (Nat.le_of_ble_eq_true rfl) ?_; simp only [args0, Nat.reduceAdd]
  repeat' (first | (show HW _ _ _ _ _ _; first | apply hw_seq | apply hw_region | apply hw_block | apply hw_exit | refine g_t ?_ | refine g_f ?_ | apply hw_skip | apply hw_ret | refine g_k S ?_ | refine g_w S ?_) | (show HO _ _ _ _ _ _ _; first | apply ho_nil | refine g_q (qe S) ?_ | refine g_q (ql S) ?_ | refine g_q (qb S) ?_ | refine g_q (qbA S) ?_ | refine wS S (fun b => ?_) | refine wSa S (fun b => ?_) | refine wSn S (fun b => ?_)) | (show HQ _ _ _ _ _ _ _; first | apply hq_nil | refine k_q (qe S) ?_ | refine k_q (ql S) ?_ | refine k_q (qb S) ?_ | refine k_q (qbA S) ?_) | (show HD _ _ _ _ _ _ _ _; first | apply hd_nil | refine d_q 100 (by exact rfl) (fun _ => qe S) ?_ | refine d_q 100 (by exact rfl) (fun _ => qb S) ?_ | refine d_q 100 (by exact rfl) (fun _ => qbA S) ?_ | refine dl S 100 ?_) | ((first | refine g_b (fun h => ?_) (fun h => ?_)) <;> ((try simp only [zA, zB, zC, zD, zE, zF, ne_eq, zG, zH, and_true, true_and, eq_self, zI, zJ, zK, reduceCtorEq, zL, zM] at h); (try (exfalso; first | omega | with_reducible exact h (by assumption) | with_reducible exact absurd h (by assumption))))) | (show HD _ _ _ _ _ _ _ _; refine da 101 ?_) | refine dx ?_ | apply dx0 | refine dxd ?_ | refine dxk ?_ | apply seqQ_normal | apply seqQ_ret | apply seqQ_exit | apply blkQ_here | refine g_bx ?_ | apply blkQ_ret | apply blkQ_normal | apply loopQ_ret | apply loopQ_exit | apply unQ_ret | apply unQ_exit | apply unQ_succ)
  refine hw_sp (L' := [] :: L) ?_ (LS.refl _)
  refine hw_loop (σ := Nat × Value × List Blk) (fun r => [(0, .slice a xs.length cap), (3, r.2.1), (4, iv r.1)]) (fun r => r.2.2 :: L) (fun r => r.1 ≤ xs.length ∧ REvt r.2.1 (xs.take r.1) r.2.2) (fun r => xs.length - r.1) (0, nilS, []) (by repeat (first | exact trivial | refine ⟨rfl, ?_⟩)) (List.Sublist.refl _) ⟨by simp, vec_nil⟩ ?_
  rintro ⟨i, v, c⟩ ⟨hi, hv⟩
  simp only at hi hv ⊢
  by_cases hlt : i < xs.length
  · obtain ⟨b, ia, l, E, fr, rfl, hb, hg⟩ := hR.at (j := (i : Int)) (by omega) (by omega)
    have ex : xs[(i : Int).toNat]'(by omega) = xs[i] := rfl
    rw [ex] at hg
    have hst : xs.take (i + 1) = xs.take i ++ [xs[i]] := List.take_succ_eq_append_getElem hlt
    have hti : (xs.take i).length = i := by rw [List.length_take]; omega
    obtain ⟨a5, cap5, he5, -, -⟩ := hv.rd ec_len
    subst he5
    generalize xs[i] = x at *
    obtain ⟨xs1, xd, xp⟩ := x
    simp only [ec] at hg
    repeat' (first | (show HW _ _ _ _ _ _; first | apply hw_seq | apply hw_region | apply hw_block | apply hw_exit | refine g_t ?_ | refine g_f ?_ | apply hw_skip | apply hw_ret | refine g_k S ?_ | refine g_w S ?_) | (show HO _ _ _ _ _ _ _; first | apply ho_nil | refine g_q (qe S) ?_ | refine g_q (ql S) ?_ | refine g_q (qb S) ?_ | refine g_q (qbA S) ?_ | refine wS S (fun b => ?_) | refine wSa S (fun b => ?_) | refine wSn S (fun b => ?_)) | (show HQ _ _ _ _ _ _ _; first | apply hq_nil | refine k_q (qe S) ?_ | refine k_q (ql S) ?_ | refine k_q (qb S) ?_ | refine k_q (qbA S) ?_) | (show HD _ _ _ _ _ _ _ _; first | apply hd_nil | refine d_q 100 (by exact rfl) (fun _ => qe S) ?_ | refine d_q 100 (by exact rfl) (fun _ => qb S) ?_ | refine d_q 100 (by exact rfl) (fun _ => qbA S) ?_ | refine dl S 100 ?_) | ((first | refine g_b (fun h => ?_) (fun h => ?_)) <;> ((try simp only [zA, zB, zC, zD, zE, zF, ne_eq, zG, zH, and_true, true_and, eq_self, zI, zJ, zK, reduceCtorEq, zL, zM] at h); (try (exfalso; first | omega | with_reducible exact h (by assumption) | with_reducible exact absurd h (by assumption))))) | (show HD _ _ _ _ _ _ _ _; refine da 101 ?_) | refine dx ?_ | apply dx0 | refine dxd ?_ | refine dxk ?_ | apply seqQ_normal | apply seqQ_ret | apply seqQ_exit | apply blkQ_here | refine g_bx ?_ | apply blkQ_ret | apply blkQ_normal | apply loopQ_ret | apply loopQ_exit | apply unQ_ret | apply unQ_exit | apply unQ_succ)
    refine fo 1 ?_
    refine wp1 S (⟨xs1, xd, xp⟩ : Evt) hv ec_len ec_one ?_ (hby := by rw [hti]; omega) (hmax := by rw [hti]; omega)
    intro v' c' hv'
    obtain ⟨a6, cap6, he6, -, -⟩ := hv'.rd ec_len
    subst he6
    repeat' (first | (show HW _ _ _ _ _ _; first | apply hw_seq | apply hw_region | apply hw_block | apply hw_exit | refine g_t ?_ | refine g_f ?_ | apply hw_skip | apply hw_ret | refine g_k S ?_ | refine g_w S ?_) | (show HO _ _ _ _ _ _ _; first | apply ho_nil | refine g_q (qe S) ?_ | refine g_q (ql S) ?_ | refine g_q (qb S) ?_ | refine g_q (qbA S) ?_ | refine wS S (fun b => ?_) | refine wSa S (fun b => ?_) | refine wSn S (fun b => ?_)) | (show HQ _ _ _ _ _ _ _; first | apply hq_nil | refine k_q (qe S) ?_ | refine k_q (ql S) ?_ | refine k_q (qb S) ?_ | refine k_q (qbA S) ?_) | (show HD _ _ _ _ _ _ _ _; first | apply hd_nil | refine d_q 100 (by exact rfl) (fun _ => qe S) ?_ | refine d_q 100 (by exact rfl) (fun _ => qb S) ?_ | refine d_q 100 (by exact rfl) (fun _ => qbA S) ?_ | refine dl S 100 ?_) | ((first | refine g_b (fun h => ?_) (fun h => ?_)) <;> ((try simp only [zA, zB, zC, zD, zE, zF, ne_eq, zG, zH, and_true, true_and, eq_self, zI, zJ, zK, reduceCtorEq, zL, zM] at h); (try (exfalso; first | omega | with_reducible exact h (by assumption) | with_reducible exact absurd h (by assumption))))) | (show HD _ _ _ _ _ _ _ _; refine da 101 ?_) | refine dx ?_ | apply dx0 | refine dxd ?_ | refine dxk ?_ | apply seqQ_normal | apply seqQ_ret | apply seqQ_exit | apply blkQ_here | refine g_bx ?_ | apply blkQ_ret | apply blkQ_normal | apply loopQ_ret | apply loopQ_exit | apply unQ_ret | apply unQ_exit | apply unQ_succ)
    refine loopQ_sp (i + 1, _, c') (by repeat (first | exact trivial | refine ⟨rfl, ?_⟩)) ?_ ⟨by simp only; omega, by simp only [hst]; exact hv'⟩ (by simp only; omega)
    exact (by repeat (first | (with_reducible first | refine LS.p0 ?_ | refine LS.p1 ?_ | refine LS.p2 ?_ | refine LS.p3 ?_ | refine LS.p4 ?_ | refine LS.p5 ?_ | refine LS.p6 ?_ | refine LS.p7 ?_ | refine LS.p8 ?_ | refine LS.p9 ?_ | refine LS.p10 ?_ | refine LS.p11 ?_ | refine LS.p12 ?_ | refine LS.e ?_ | exact LS.refl _) | refine LS.p0 ?_ | refine LS.p1 ?_ | refine LS.p2 ?_ | refine LS.p3 ?_ | refine LS.p4 ?_ | refine LS.p5 ?_ | refine LS.p6 ?_ | refine LS.p7 ?_ | refine LS.p8 ?_ | refine LS.p9 ?_ | refine LS.p10 ?_ | refine LS.p11 ?_ | refine LS.p12 ?_ | (with_reducible refine LS.c ?_)))
  · obtain rfl : i = xs.length := by omega
    rw [List.take_length] at hv
    repeat' (first | (show HW _ _ _ _ _ _; first | apply hw_seq | apply hw_region | apply hw_block | apply hw_exit | refine g_t ?_ | refine g_f ?_ | apply hw_skip | apply hw_ret | refine g_k S ?_ | refine g_w S ?_) | (show HO _ _ _ _ _ _ _; first | apply ho_nil | refine g_q (qe S) ?_ | refine g_q (ql S) ?_ | refine g_q (qb S) ?_ | refine g_q (qbA S) ?_ | refine wS S (fun b => ?_) | refine wSa S (fun b => ?_) | refine wSn S (fun b => ?_)) | (show HQ _ _ _ _ _ _ _; first | apply hq_nil | refine k_q (qe S) ?_ | refine k_q (ql S) ?_ | refine k_q (qb S) ?_ | refine k_q (qbA S) ?_) | (show HD _ _ _ _ _ _ _ _; first | apply hd_nil | refine d_q 100 (by exact rfl) (fun _ => qe S) ?_ | refine d_q 100 (by exact rfl) (fun _ => qb S) ?_ | refine d_q 100 (by exact rfl) (fun _ => qbA S) ?_ | refine dl S 100 ?_) | ((first | refine g_b (fun h => ?_) (fun h => ?_)) <;> ((try simp only [zA, zB, zC, zD, zE, zF, ne_eq, zG, zH, and_true, true_and, eq_self, zI, zJ, zK, reduceCtorEq, zL, zM] at h); (try (exfalso; first | omega | with_reducible exact h (by assumption) | with_reducible exact absurd h (by assumption))))) | (show HD _ _ _ _ _ _ _ _; refine da 101 ?_) | refine dx ?_ | apply dx0 | refine dxd ?_ | refine dxk ?_ | apply seqQ_normal | apply seqQ_ret | apply seqQ_exit | apply blkQ_here | refine g_bx ?_ | apply blkQ_ret | apply blkQ_normal | apply loopQ_ret | apply loopQ_exit | apply unQ_ret | apply unQ_exit | apply unQ_succ)
    exact sp1 (LS.refl _) ⟨c, hv, rfl⟩
theorem sameEvents_calls (a a2 : Option Addr) (cap cap2 : Nat) (xs ys : List Evt) (L : Heap) (hR : Rd ec 3 L a xs) (hR2 : Rd ec 3 L a2 ys) (hl : xs.length ≤ 100000000) :
    HC Tryz.prog 45 [.slice a xs.length cap, .slice a2 ys.length cap2] L (fun v L' => v = .bool (decide (xs = ys)) ∧ L' = L) := by
  have kb := fun L hR => backEvents_calls a cap xs L hR hl
  refine hc_enter (fun _ _ => Tryz.call45 _ _) Tryz.func45 rfl Tryz.ntmps45 (Nat.le_of_ble_eq_true rfl) ?_; simp only [args0, Nat.reduceAdd]
  repeat' (first | (show HW _ _ _ _ _ _; first | apply hw_seq | apply hw_region | apply hw_block | apply hw_exit | refine g_t ?_ | refine g_f ?_ | apply hw_skip | apply hw_ret | refine g_k S ?_) | (show HO _ _ _ _ _ _ _; first | apply ho_nil | refine g_q (qe S) ?_ | refine g_q (qs S) ?_ | refine g_q (qB S) ?_) | (show HQ _ _ _ _ _ _ _; first | apply hq_nil | refine k_q (qe S) ?_ | refine k_q (qs S) ?_ | refine k_q (qB S) ?_) | ((first | refine g_b (fun h => ?_) (fun h => ?_)) <;> ((try simp only [zA, zB, zC, zD, zE, zF, ne_eq, zG, zH, and_true, true_and, eq_self, zI, zJ, zK, reduceCtorEq, zL, zM] at h); (try (exfalso; first | omega | with_reducible exact h (by assumption) | with_reducible exact absurd h (by assumption))))) | apply seqQ_normal | apply seqQ_ret | apply seqQ_exit | apply blkQ_here | refine g_bx ?_ | apply blkQ_ret | apply blkQ_normal | apply loopQ_ret | apply loopQ_exit | apply unQ_ret | apply unQ_exit | apply unQ_succ)
  refine gc (kb _ hR) ?_
  rintro v L' ⟨c, hv, rfl⟩
  obtain ⟨a5, cap5, rfl, -, hR5⟩ := hv.rd ec_len
  repeat' (first | (show HW _ _ _ _ _ _; first | apply hw_seq | apply hw_region | apply hw_block | apply hw_exit | refine g_t ?_ | refine g_f ?_ | apply hw_skip | apply hw_ret | refine g_k S ?_) | (show HO _ _ _ _ _ _ _; first | apply ho_nil | refine g_q (qe S) ?_ | refine g_q (qs S) ?_ | refine g_q (qB S) ?_) | (show HQ _ _ _ _ _ _ _; first | apply hq_nil | refine k_q (qe S) ?_ | refine k_q (qs S) ?_ | refine k_q (qB S) ?_) | ((first | refine g_b (fun h => ?_) (fun h => ?_)) <;> ((try simp only [zA, zB, zC, zD, zE, zF, ne_eq, zG, zH, and_true, true_and, eq_self, zI, zJ, zK, reduceCtorEq, zL, zM] at h); (try (exfalso; first | omega | with_reducible exact h (by assumption) | with_reducible exact absurd h (by assumption))))) | apply seqQ_normal | apply seqQ_ret | apply seqQ_exit | apply blkQ_here | refine g_bx ?_ | apply blkQ_ret | apply blkQ_normal | apply loopQ_ret | apply loopQ_exit | apply unQ_ret | apply unQ_exit | apply unQ_succ)
  · exact sp1 (LS.skips _ (LS.refl _)) ⟨by rw [decide_eq_false]; intro e; subst e; exact absurd rfl ‹_›, rfl⟩
  refine hw_loop (σ := Nat) (fun i => [(5, .slice a5 xs.length cap5), (1, .slice a2 ys.length cap2), (6, iv i)]) (fun _ => c :: L) (fun i => i ≤ xs.length ∧ xs.take i = ys.take i) (fun i => xs.length - i) 0 (by repeat (first | exact trivial | refine ⟨rfl, ?_⟩)) (List.Sublist.refl _) ⟨by omega, by simp⟩ ?_
  rintro i ⟨h1, h2⟩
  by_cases hlt : i < xs.length
  · obtain ⟨b, ia, l, E, fr, rfl, hb, hg⟩ := (hR5 L).at (j := (i : Int)) (by omega) (by omega)
    obtain ⟨b2, ia2, l2, E2, fr2, rfl, hb2, hg2⟩ := hR2.at (j := (i : Int)) (by omega) (by omega)
    have ex : xs[(i : Int).toNat]'(by omega) = xs[i] := rfl
    have ey : ys[(i : Int).toNat]'(by omega) = ys[i]'(by omega) := rfl
    rw [ex] at hg
    rw [ey] at hg2
    have hst := take_eq_succ (xs := xs) (ys := ys) hlt (by omega)
    have hne : xs[i] ≠ ys[i]'(by omega) → xs ≠ ys := fun h e => h (by subst e; rfl)
    generalize xs[i] = x at *
    generalize ys[i]'(by omega) = y at *
    repeat' (first | (show HW _ _ _ _ _ _; first | apply hw_seq | apply hw_region | apply hw_block | apply hw_exit | refine g_t ?_ | refine g_f ?_ | apply hw_skip | apply hw_ret | refine g_k S ?_) | (show HO _ _ _ _ _ _ _; first | apply ho_nil | refine g_q (qe S) ?_ | refine g_q (qs S) ?_ | refine g_q (qB S) ?_) | (show HQ _ _ _ _ _ _ _; first | apply hq_nil | refine k_q (qe S) ?_ | refine k_q (qs S) ?_ | refine k_q (qB S) ?_) | ((first | refine g_b (fun h => ?_) (fun h => ?_)) <;> ((try simp only [zA, zB, zC, zD, zE, zF, ne_eq, zG, zH, and_true, true_and, eq_self, zI, zJ, zK, reduceCtorEq, zL, zM] at h); (try (exfalso; first | omega | with_reducible exact h (by assumption) | with_reducible exact absurd h (by assumption))))) | apply seqQ_normal | apply seqQ_ret | apply seqQ_exit | apply blkQ_here | refine g_bx ?_ | apply blkQ_ret | apply blkQ_normal | apply loopQ_ret | apply loopQ_exit | apply unQ_ret | apply unQ_exit | apply unQ_succ)
    · refine sp1 (LS.skips _ (LS.refl _)) ⟨?_, rfl⟩
      rw [decide_eq_false (hne (fun e => by subst e; simp at h))]
    · have e : x = y := by
        obtain ⟨x1, x2, x3⟩ := x
        obtain ⟨y1, y2, y3⟩ := y
        simp at h
        obtain ⟨rfl, rfl, rfl⟩ := h
        rfl
      exact loopQ_normal (i + 1) (by repeat (first | exact trivial | refine ⟨rfl, ?_⟩)) (List.Sublist.refl _) ⟨by omega, hst.2 ⟨h2, e⟩⟩ (by omega)
  · repeat' (first | (show HW _ _ _ _ _ _; first | apply hw_seq | apply hw_region | apply hw_block | apply hw_exit | refine g_t ?_ | refine g_f ?_ | apply hw_skip | apply hw_ret | refine g_k S ?_) | (show HO _ _ _ _ _ _ _; first | apply ho_nil | refine g_q (qe S) ?_ | refine g_q (qs S) ?_ | refine g_q (qB S) ?_) | (show HQ _ _ _ _ _ _ _; first | apply hq_nil | refine k_q (qe S) ?_ | refine k_q (qs S) ?_ | refine k_q (qB S) ?_) | ((first | refine g_b (fun h => ?_) (fun h => ?_)) <;> ((try simp only [zA, zB, zC, zD, zE, zF, ne_eq, zG, zH, and_true, true_and, eq_self, zI, zJ, zK, reduceCtorEq, zL, zM] at h); (try (exfalso; first | omega | with_reducible exact h (by assumption) | with_reducible exact absurd h (by assumption))))) | apply seqQ_normal | apply seqQ_ret | apply seqQ_exit | apply blkQ_here | refine g_bx ?_ | apply blkQ_ret | apply blkQ_normal | apply loopQ_ret | apply loopQ_exit | apply unQ_ret | apply unQ_exit | apply unQ_succ)
    refine sp1 (LS.skips _ (LS.refl _)) ⟨?_, rfl⟩
    rw [decide_eq_true]
    have e1 : xs.take i = xs := List.take_of_length_le (by omega)
    have e2 : ys.take i = ys := List.take_of_length_le (by omega)
    rw [← e1, h2, e2]
end Go.HL
end
