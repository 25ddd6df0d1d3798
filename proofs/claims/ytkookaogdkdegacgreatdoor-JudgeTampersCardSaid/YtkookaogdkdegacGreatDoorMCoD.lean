/- Texts laid into one, without what the claim does not use. Conditions: none. -/
import Derived.Test.YtkookaogdkdegacGreatDoorMCoC
/-! WoP -/
section
namespace Go.HL
open Go Go.Proofs
set_option linter.unusedVariables false
set_option linter.unusedSimpArgs false
theorem er_wdOp {T : Nat} {E : Nat → Addr} {ns : List Nat} {L : Heap} (h : Er T E ns L) (G : WdG) (s : Int) (g : NdG) (m : Nd) (X : List Blk) : Er T E ns (wdOp G s g m X L) :=
  ((((((((((((h.cons _).cons _).cons _).cons _).cons _).cons _).cons _).cons _).cons _).cons _).cons _).cons _).cons _
theorem er_wdH {T : Nat} {E : Nat → Addr} {ns : List Nat} {L : Heap} (h : Er T E ns L) (G : WdG) (M : Wm) : Er T E ns (wdH G M ++ L) :=
  ((((((h.cons _).cons _).cons _).cons _).cons _).cons _).cons _
/-- a call that ends with an error, the world as9 it was -/
theorem up_err {M : Wm} {s : Int} : (∃ e, upE M s = some e) ∨ (upE M s = none ∧ nodeE M s = none ∧ 0 ≤ s ∧ s < M.n.length ∧ ∃ j ref, (ndAt M s).site = some (j, ref)) := by
  cases h : upE M s with
  | some e => exact .inl ⟨e, rfl⟩
  | none => exact .inr ⟨rfl, up_node h⟩
set_option maxHeartbeats 2000000 attribute [local irreducible] HW HO HQ HD HC QOp Has Upd Puts Gets seqQ blkQ loopQ fnQ actQ nextP unQ MapF
attribute [local irreducible] ndL jcells plC siteM ldL
theorem kup_H {T : Nat} {E : Nat → Addr} {G : WdG} {M : Wm} (s : Int) {L : Heap} (hG : Er T E [2, 6] L) (hW : WdOk G M) : HC Tryz.prog 66 [pt G.wp 0, iv s] (wdH G M ++ L) (fun v L' => v = .tuple ⟨[upV G M s, eV T E (upE M s)]⟩ ∧ L' = wdH G M ++ L) :=
  wupv_calls T E G M s _ (er_wdH hG G M) (wd_in hW L) hW.ndl (fun hn => by
    obtain ⟨h0, h1⟩ := nodeE_none hn
    exact wd_hasW hW.ndl h0 h1 L)
theorem kup_Op {T : Nat} {E : Nat → Addr} {G : WdG} {M : Wm} {s : Int} {L : Heap} (hG : Er T E [2, 6] L) (hW : WdOk G M) (hu : upE M s = none) (X : List Blk) : HC Tryz.prog 66 [pt G.wp 0, iv s] (wdOp G s (npAt G s) (ndAt M s) X L) (fun v L' => v = .tuple ⟨[pt (npAt G s).np 0, .nilIface]⟩ ∧ L' = wdOp G s (npAt G s) (ndAt M s) X L) := by
  have := wupv_calls T E G M s _ (er_wdOp hG G s (npAt G s) (ndAt M s) X) (wdOp_in hW s _ _ X L) hW.ndl (fun hn => wdOp_has)
  rw [hu, upV_up (up_node hu).1] at this
  exact this
theorem wrefuse_calls (T : Nat) (E : Nat → Addr) (G : WdG) (M : Wm) (s d : Int) (L : Heap) (hG : Er T E [2, 6] L) (hW : WdOk G M) (hM : WI M) :
    HC Tryz.prog 20 [pt G.wp 0, iv s, iv d] (wdH G M ++ L) (fun v L' => v = eV T E (refuseW M s d).2 ∧ WdP G (refuseW M s d).1 L L') := by
  unfold refuseW
  have hself := wdP_self hW L
  by_cases hd : d < 0 ∨ 6 ≤ d
  · simp only [if_pos hd]
    have hG' := er_wdH hG G M
    generalize wdH G M ++ L = H at *
    refine Za (fun _ _ => Tryz.call20 _ _) Tryz.func20 rfl Tryz.ntmps20 (Nat.le_of_ble_eq_true rfl) ?_; simp only [args0, Nat.reduceAdd]
    repeat' (first | refine uN ?_ | (refine uP ?_ ?_ <;> (intro h; ((try simp only [zs, ne_eq, and_true, true_and, eq_self, reduceCtorEq] at h); try exact zx))) | fail)
    all_goals exact er1 rfl ⟨rfl, hself⟩
  simp only [if_neg hd]
  rcases up_err (M := M) (s := s) with ⟨e, he⟩ | ⟨he, hn, h0, h1, j, ref, hs⟩
  · have ku := kup_H s hG hW
    have hG' := er_wdH hG G M
    generalize wdH G M ++ L = H at *
    simp only [he] at ku ⊢
    refine Za (fun _ _ => Tryz.call20 _ _) Tryz.func20 rfl Tryz.ntmps20 (Nat.le_of_ble_eq_true rfl) ?_; simp only [args0, Nat.reduceAdd]
    repeat' (first | refine uN ?_ | refine uC (ku) ?_ | (refine uP ?_ ?_ <;> (intro h; ((try simp only [zs, ne_eq, and_true, true_and, eq_self, reduceCtorEq] at h); try exact zx))) | fail)
    exact er1 rfl ⟨rfl, hself⟩
  · simp only [he]
    refine HC.node hW h0 h1 ?_
    have ku := kup_Op (X := ndsX G.nd M.n 0 s.toNat) hG hW he
    have hok := wdOk_at hW h0 h1
    have hni := wi_at hM h0 h1
    generalize ndsX G.nd M.n 0 s.toNat = X at *
    generalize ndAt M s = m at *
    generalize npAt G s = g at *
    obtain ⟨pl, site, leads, done⟩ := m
    simp only at hs
    subst hs
    have hF := hok.map j ref rfl
    have hj := (hni.jn rfl).ji.jn
    have g0 : (ndL (pt g.sp 0) g.bp (ldVs g ⟨pl, some (j, ref), leads, done⟩) done)[0 + 0]? = some (pt g.sp 0) := ndL_pre rfl
    have kr := fun L hG => refuse_calls T E g.sp g.bj g.mb g.bp s g.es g.ck ref j d L hG hj.len hF
    simp only [if_neg hd] at kr
    simp only [wdOp, ndB, ndO, stV, siS, siN, siJ] at ku ⊢
    refine Za (fun _ _ => Tryz.call20 _ _) Tryz.func20 rfl Tryz.ntmps20 (Nat.le_of_ble_eq_true rfl) ?_; simp only [args0, Nat.reduceAdd]
    repeat' (first | refine uN ?_ | refine uC (ku) ?_ | (refine uP ?_ ?_ <;> (intro h; ((try simp only [zs, ne_eq, and_true, true_and, eq_self, reduceCtorEq] at h); try exact zx))) | fail)
    refine fo 6 ?_
    refine fo 5 ?_
    refine fo 5 ?_
    refine gc (kr _ ?_) ?_
    · exact (((((((((hG.sub.cons _).cons _).cons _).cons _).cons _).cons _).cons _).cons _).cons _).cons _
    rintro v L' ⟨es', ck', hF', rfl, rfl⟩
    repeat' (first | refine uN ?_ | refine uC (ku) ?_ | (refine uP ?_ ?_ <;> (intro h; ((try simp only [zs, ne_eq, and_true, true_and, eq_self, reduceCtorEq] at h); try exact zx))) | fail)
    refine sp1 (L' := wdOp G s { g with es := es', ck := ck' } (refuseN ⟨pl, some (j, ref), leads, done⟩ d) X L) ?_ ⟨rfl, G, M, { g with es := es', ck := ck' }, refuseN ⟨pl, some (j, ref), leads, done⟩ d, hW, rfl, rfl, rfl, ⟨hok.ld, hok.lok, fun j2 r2 e => by cases e; exact hF'⟩, rfl, rfl, rfl⟩
    simp only [wdOp, ndB, ndO, stV, siS, siN, siJ, refuseN]
    exact uL
theorem wcut_calls (T : Nat) (E : Nat → Addr) (G : WdG) (M : Wm) (s n : Int) (L : Heap) (hG : Er T E [2, 6] L) (hW : WdOk G M) (hM : WI M) :
    HC Tryz.prog 91 [pt G.wp 0, iv s, iv n] (wdH G M ++ L) (fun v L' => v = eV T E (cutW M s n).2 ∧ WdP G (cutW M s n).1 L L') := by
  unfold cutW
  have hself := wdP_self hW L
  by_cases hd : n < 0
  · simp only [if_pos hd]
    have hG' := er_wdH hG G M
    generalize wdH G M ++ L = H at *
    refine Za (fun _ _ => Tryz.call91 _ _) Tryz.func91 rfl Tryz.ntmps91 (Nat.le_of_ble_eq_true rfl) ?_; simp only [args0, Nat.reduceAdd]
    repeat' (first | refine uN ?_ | (refine uP ?_ ?_ <;> (intro h; ((try simp only [zs, ne_eq, and_true, true_and, eq_self, reduceCtorEq] at h); try exact zx))) | fail)
    all_goals exact er1 rfl ⟨rfl, hself⟩
  simp only [if_neg hd]
  rcases up_err (M := M) (s := s) with ⟨e, he⟩ | ⟨he, hn, h0, h1, j, ref, hs⟩
  · have ku := kup_H s hG hW
    have hG' := er_wdH hG G M
    generalize wdH G M ++ L = H at *
    simp only [he] at ku ⊢
    refine Za (fun _ _ => Tryz.call91 _ _) Tryz.func91 rfl Tryz.ntmps91 (Nat.le_of_ble_eq_true rfl) ?_; simp only [args0, Nat.reduceAdd]
    repeat' (first | refine uN ?_ | refine uC (ku) ?_ | (refine uP ?_ ?_ <;> (intro h; ((try simp only [zs, ne_eq, and_true, true_and, eq_self, reduceCtorEq] at h); try exact zx))) | fail)
    exact er1 rfl ⟨rfl, hself⟩
  · simp only [he]
    refine HC.node hW h0 h1 ?_
    have ku := kup_Op (X := ndsX G.nd M.n 0 s.toNat) hG hW he
    have hok := wdOk_at hW h0 h1
    have hni := wi_at hM h0 h1
    generalize ndsX G.nd M.n 0 s.toNat = X at *
    generalize hmm : ndAt M s = m at *
    generalize npAt G s = g at *
    obtain ⟨pl, site, leads, done⟩ := m
    simp only at hs
    subst hs
    have hoff : pl.off = false := (hni.up j ref rfl).2
    have g1 : (ndL (pt g.sp 0) g.bp (ldVs g ⟨pl, some (j, ref), leads, done⟩) done)[0 + 1]? = some (pt g.bp 0) := ndL_pre rfl
    have kr := fun L hG => cut_calls T E g.bp g.ba pl n L hG
    simp only [if_neg hd, hoff, Bool.false_eq_true, if_false] at kr
    simp only [wdOp, ndB, ndO, stV, siS, siN, siJ] at ku ⊢
    refine Za (fun _ _ => Tryz.call91 _ _) Tryz.func91 rfl Tryz.ntmps91 (Nat.le_of_ble_eq_true rfl) ?_; simp only [args0, Nat.reduceAdd]
    repeat' (first | refine uN ?_ | refine uC (ku) ?_ | (refine uP ?_ ?_ <;> (intro h; ((try simp only [zs, ne_eq, and_true, true_and, eq_self, reduceCtorEq] at h); try exact zx))) | fail)
    refine fo 5 ?_
    refine gc (kr _ ?_) ?_
    · exact ((((((((((((hG.sub.cons _).cons _).cons _).cons _).cons _).cons _).cons _).cons _).cons _).cons _).cons _).cons _)
    rintro v L' ⟨rfl, rfl⟩
    repeat' (first | refine uN ?_ | refine uC (ku) ?_ | (refine uP ?_ ?_ <;> (intro h; ((try simp only [zs, ne_eq, and_true, true_and, eq_self, reduceCtorEq] at h); try exact zx))) | fail)
    refine sp1 (L' := wdOp G s g ⟨{ pl with cut := n }, some (j, ref), leads, done⟩ X L) ?_ ⟨rfl, G, M, g, ⟨{ pl with cut := n }, some (j, ref), leads, done⟩, hW, rfl, rfl, rfl, hok.same rfl _ _ _, rfl, rfl, rfl⟩
    have e1 : ldBs g ⟨{ pl with cut := n }, some (j, ref), leads, done⟩ = ldBs g ⟨pl, some (j, ref), leads, done⟩ := rfl
    have e2 : ldVs g ⟨{ pl with cut := n }, some (j, ref), leads, done⟩ = ldVs g ⟨pl, some (j, ref), leads, done⟩ := rfl
    simp only [wdOp, ndB, ndO, stV, siS, siN, siJ]
    rw [e1, e2]
    simp only [hoff]
    exact uL
theorem wdown_calls (T : Nat) (E : Nat → Addr) (G : WdG) (M : Wm) (s : Int) (L : Heap) (hG : Er T E [2, 6] L) (hW : WdOk G M) (hM : WI M) :
    HC Tryz.prog 37 [pt G.wp 0, iv s] (wdH G M ++ L) (fun v L' => v = eV T E (downW M s).2 ∧ WdP G (downW M s).1 L L') := by
  unfold downW
  have hself := wdP_self hW L
  rcases up_err (M := M) (s := s) with ⟨e, he⟩ | ⟨he, hn, h0, h1, j, ref, hs⟩
  · have ku := kup_H s hG hW
    have hG' := er_wdH hG G M
    generalize wdH G M ++ L = H at *
    simp only [he] at ku ⊢
    refine Za (fun _ _ => Tryz.call37 _ _) Tryz.func37 rfl Tryz.ntmps37 (Nat.le_of_ble_eq_true rfl) ?_; simp only [args0, Nat.reduceAdd]
    repeat' (first | refine uN ?_ | refine uC (ku) ?_ | (refine uP ?_ ?_ <;> (intro h; ((try simp only [zs, ne_eq, and_true, true_and, eq_self, reduceCtorEq] at h); try exact zx))) | fail)
    exact er1 rfl ⟨rfl, hself⟩
  · simp only [he]
    refine HC.node hW h0 h1 ?_
    have ku := kup_Op (X := ndsX G.nd M.n 0 s.toNat) hG hW he
    have hok := wdOk_at hW h0 h1
    have hni := wi_at hM h0 h1
    generalize ndsX G.nd M.n 0 s.toNat = X at *
    generalize hmm : ndAt M s = m at *
    generalize npAt G s = g at *
    obtain ⟨pl, site, leads, done⟩ := m
    simp only at hs
    subst hs
    have g1 : (ndL (pt g.sp 0) g.bp (ldVs g ⟨pl, some (j, ref), leads, done⟩) done)[0 + 1]? = some (pt g.bp 0) := ndL_pre rfl
    have kr := fun L => off_calls g.bp g.ba pl L
    have hlv : (ldVs g ⟨pl, some (j, ref), leads, done⟩).length = 6 := by simp [ldVs, hni.leads, hok.ld]
    have kf := fun L => wfall_calls g ⟨pl, some (j, ref), leads, done⟩ L hlv hok.ld
    simp only [wdOp, ndB, ndO, stV, siS, siN, siJ] at ku kf ⊢
    refine Za (fun _ _ => Tryz.call37 _ _) Tryz.func37 rfl Tryz.ntmps37 (Nat.le_of_ble_eq_true rfl) ?_; simp only [args0, Nat.reduceAdd]
    repeat' (first | refine uN ?_ | refine uC (ku) ?_ | (refine uP ?_ ?_ <;> (intro h; ((try simp only [zs, ne_eq, and_true, true_and, eq_self, reduceCtorEq] at h); try exact zx))) | fail)
    refine fo 5 ?_
    refine gc (kr _) ?_
    rintro v L' ⟨rfl, rfl⟩
    repeat' (first | refine uN ?_ | refine uC (ku) ?_ | (refine uP ?_ ?_ <;> (intro h; ((try simp only [zs, ne_eq, and_true, true_and, eq_self, reduceCtorEq] at h); try exact zx))) | fail)
    refine fo 3 ?_
    refine gc (kf _) ?_
    rintro v L' ⟨rfl, rfl⟩
    repeat' (first | refine uN ?_ | refine uC (ku) ?_ | (refine uP ?_ ?_ <;> (intro h; ((try simp only [zs, ne_eq, and_true, true_and, eq_self, reduceCtorEq] at h); try exact zx))) | fail)
    refine sp1 (L' := wdOp G s g (downN ⟨pl, some (j, ref), leads, done⟩) X L) ?_ ⟨rfl, G, M, g, downN ⟨pl, some (j, ref), leads, done⟩, hW, rfl, rfl, rfl, hok.fall _ _, rfl, rfl, rfl⟩
    simp only [wdOp, ndB, ndO, stV, siS, siN, siJ, downN]
    have : ldBs g ⟨{ pl with off := true }, none, noLeads, done⟩ = [] := by
      unfold ldBs noLeads
      have := hok.ld
      obtain ⟨a, b, c, d, e, f, hh⟩ : ∃ a b c d e f, g.ld = [a, b, c, d, e, f] := by
        match g.ld, this with
        | [a, b, c, d, e, f], _ => exact ⟨_, _, _, _, _, _, rfl⟩
      rw [hh]; rfl
    rw [this]
    exact uL
end Go.HL
end

/-! WoQ -/
section
namespace Go.HL
open Go Go.Proofs
set_option linter.unusedVariables false
set_option linter.unusedSimpArgs false
set_option maxHeartbeats 2000000 attribute [local irreducible] HW HO HQ HD HC QOp Has Upd Puts Gets seqQ blkQ loopQ fnQ actQ nextP unQ MapF
attribute [local irreducible] ndL jcells plC siteM ldL openM
theorem wupS_calls (T : Nat) (E : Nat → Addr) (G : WdG) (M : Wm) (s : Int) (L : Heap) (hG : Er T E [2, 3, 6, 8] L) (hW : WdOk G M) (hM : WI M) :
    HC Tryz.prog 38 [pt G.wp 0, iv s] (wdH G M ++ L) (fun v L' => v = eV T E (upW M s).2 ∧ WdP G (upW M s).1 L L') := by
  unfold upW
  have hself := wdP_self hW L
  have hnl := hM.wn
  have hwl := hM.wl
  rcases node_cases (M := M) s with he | ⟨he, h0, h1⟩
  · have kn := wnode_calls T E G M s _ (er_wdH hG.sub G M) (wd_in hW L) hW.ndl
    generalize wdH G M ++ L = H at *
    simp only [he] at kn ⊢
    refine Za (fun _ _ => Tryz.call38 _ _) Tryz.func38 rfl Tryz.ntmps38 (Nat.le_of_ble_eq_true rfl) ?_; simp only [args0, Nat.reduceAdd]
    repeat' (first | refine uN ?_ | refine uC (kn) ?_ | (refine uP ?_ ?_ <;> (intro h; ((try simp only [zs, ne_eq, and_true, true_and, eq_self, reduceCtorEq] at h); try exact zx))) | fail)
    exact er1 rfl ⟨rfl, hself⟩
  · simp only [he]
    cases hs : (ndAt M s).site with
    | some q =>
      have kn := wnode_calls T E G M s _ (er_wdH hG.sub G M) (wd_in hW L) hW.ndl
      have hN := wd_hasW hW.ndl h0 h1 L
      have hG' := er_wdH hG G M
      generalize wdH G M ++ L = H at *
      simp only [he, Option.isSome_some, if_true] at kn ⊢
      unfold ndO at hN
      rw [hs] at hN
      obtain ⟨q1, q2⟩ := q
      have g0 : (ndL (pt (npAt G s).sp 0) (npAt G s).bp (ldVs (npAt G s) (ndAt M s)) (ndAt M s).done)[0 + 0]? = some (pt (npAt G s).sp 0) := ndL_pre rfl
      refine Za (fun _ _ => Tryz.call38 _ _) Tryz.func38 rfl Tryz.ntmps38 (Nat.le_of_ble_eq_true rfl) ?_; simp only [args0, Nat.reduceAdd]
      repeat' (first | refine uN ?_ | refine uC (kn) ?_ | (refine uP ?_ ?_ <;> (intro h; ((try simp only [zs, ne_eq, and_true, true_and, eq_self, reduceCtorEq] at h); try exact zx))) | fail)
      exact er1 rfl ⟨rfl, hself⟩
    | none =>
      simp only [Option.isSome_none, Bool.false_eq_true, if_false]
      refine HC.node hW h0 h1 ?_
      have kn := wnode_calls T E G M s _ (er_wdOp hG.sub G s (npAt G s) (ndAt M s) (ndsX G.nd M.n 0 s.toNat)) (wdOp_in hW s _ _ _ L) hW.ndl
      have hok := wdOk_at hW h0 h1
      have hni := wi_at hM h0 h1
      have hnp := fun H hH => npIn_of hW h0 h1 (H := H) hH
      simp only [he] at kn
      generalize ndsX G.nd M.n 0 s.toNat = X at *
      generalize hmm : ndAt M s = m at *
      generalize npAt G s = g at *
      obtain ⟨pl, site, leads, done⟩ := m
      simp only at hs
      subst hs
      have hpl : pl.b.length = 512 := hni.b512
      have g0 : ∀ v, (ndL v g.bp (ldVs g ⟨pl, none, leads, done⟩) done)[0 + 0]? = some v := fun v => ndL_pre rfl
      have g1 : ∀ v, (ndL v g.bp (ldVs g ⟨pl, none, leads, done⟩) done)[0 + 1]? = some (pt g.bp 0) := fun v => ndL_pre rfl
      have g0n := g0 (.pointer none)
      have g1n := g1 (.pointer none)
      have p0 := fun v => ndL_put0 (sv := .pointer none) (sv' := v) (bp := g.bp) (lv := ldVs g ⟨pl, none, leads, done⟩) (dn := done)
      have kon := fun L => on_calls g.bp g.ba pl L
      have kne := fun L hG => snew_calls T E s g.bp g.ba { pl with off := false, cut := -1 } L hG (by simp only; omega)
      have hse : siteE s { pl with off := false, cut := -1 } = none := by
        unfold siteE
        rw [if_neg (by omega)]
        simp only
        rw [if_neg (by omega)]
        simp
      simp only [hse] at kne
      have hlv : (ldVs g ⟨pl, none, leads, done⟩).length = 6 := by simp [ldVs, hni.leads, hok.ld]
      simp only [wdOp, ndB, ndO, stV, siS, siN, siJ] at kn ⊢
      refine Za (fun _ _ => Tryz.call38 _ _) Tryz.func38 rfl Tryz.ntmps38 (Nat.le_of_ble_eq_true rfl) ?_; simp only [args0, Nat.reduceAdd]
      repeat' (first | refine uN ?_ | refine uC (kn) ?_ | (refine uP ?_ ?_ <;> (intro h; ((try simp only [zs, ne_eq, and_true, true_and, eq_self, reduceCtorEq] at h); try exact zx))) | fail)
      refine fo 5 ?_
      refine gc (kon _) ?_
      rintro v L' ⟨rfl, rfl⟩
      repeat' (first | refine uN ?_ | refine uC (kn) ?_ | (refine uP ?_ ?_ <;> (intro h; ((try simp only [zs, ne_eq, and_true, true_and, eq_self, reduceCtorEq] at h); try exact zx))) | fail)
      refine gc (kne _ ?_) ?_
      · exact ((((((((((((hG.sub.cons _).cons _).cons _).cons _).cons _).cons _).cons _).cons _).cons _).cons _).cons _).cons _)
      rintro v L' ⟨sp, bj, mb, rfl, rfl⟩
      have p0n := p0 (pt sp 0)
      repeat' (first | refine uN ?_ | refine uC (kn) ?_ | (refine uP ?_ ?_ <;> (intro h; ((try simp only [zs, ne_eq, and_true, true_and, eq_self, reduceCtorEq] at h); try exact zx))) | fail)
      have kw := fun L hp hs => wnote_calls G s { g with sp := sp, bj := bj, mb := mb, es := [], ck := 0 } (bootN ⟨pl, none, leads, done⟩) M.ev M.n.length L hW.ev hM.evl hp hni.done hlv hs
      have g0s := g0 (pt sp 0)
      refine fo 6 ?_
      refine fo 6 ?_
      refine fo 6 ?_
      refine gc (kw _ ?_ ?_) ?_
      · exact hnp _ (fun b o hb => Zd (Zd (Zd (Zd (Zd (Zd (Zd (Zd (Zd (Zd (has_mem hb)))))))))))
      · intro j r hjr
        cases hjr
        refine ⟨⟨Zh, ?_⟩, openM_six _⟩
        exact Zd (Zd (Zd Zh))
      rintro v L' ⟨evv, c, hev, rfl, rfl⟩
      repeat' (first | refine uN ?_ | refine uC (kn) ?_ | (refine uP ?_ ?_ <;> (intro h; ((try simp only [zs, ne_eq, and_true, true_and, eq_self, reduceCtorEq] at h); try exact zx))) | fail)
      refine sp1 (L' := wdOp { G with ev := evv, ec := c } s { g with sp := sp, bj := bj, mb := mb, es := [], ck := 0 } { bootN ⟨pl, none, leads, done⟩ with done := (noteN s (bootN ⟨pl, none, leads, done⟩) M.ev).1 } X L) ?_ ⟨rfl, { G with ev := evv, ec := c }, { M with ev := (noteN s (bootN ⟨pl, none, leads, done⟩) M.ev).2 }, { g with sp := sp, bj := bj, mb := mb, es := [], ck := 0 }, { bootN ⟨pl, none, leads, done⟩ with done := (noteN s (bootN ⟨pl, none, leads, done⟩) M.ev).1 }, hW.setE hev, rfl, rfl, rfl, ⟨hok.ld, hok.lok, fun j2 r2 e => by cases e; exact mapF_nil⟩, rfl, rfl, rfl⟩
      simp only [wdOp, bootN, siS, siN, siJ]
      exact uL
end Go.HL
end

/-! WoR -/
section
namespace Go.HL
open Go Go.Proofs
set_option linter.unusedVariables false
set_option linter.unusedSimpArgs false
section nd
variable {P : Program} {n : Nat} {ops : List Oper} {Q : Exit → Env → Heap → Prop} {ρ : Env} {L : Heap} {l : List Oper}
theorem ho_nodup (h : (L.flatten.map (·.1)).Nodup → HO P n ops Q l ρ L) : HO P n ops Q l ρ L := fun k w a hs ha => h hs.nodup k w a hs ha
end nd
theorem wdP_top {G G' : WdG} {M' : Wm} {L : Heap} (h : WdOk G' M') (e1 : G'.wp = G.wp) (e2 : G'.nd = G.nd) : WdP G M' L (wdH G' M' ++ L) := ⟨G', e1, by rw [e2], h, rfl⟩
set_option maxHeartbeats 2000000 attribute [local irreducible] HW HO HQ HD HC QOp Has Upd Puts Gets seqQ blkQ loopQ fnQ actQ nextP unQ MapF
attribute [local irreducible] ndL jcells plC siteM ldL openM
theorem wlink_calls (T : Nat) (E : Nat → Addr) (G : WdG) (M : Wm) (a b : Int) (whole : Bool) (L : Heap) (hG : Er T E [2] L) (hW : WdOk G M) :
    HC Tryz.prog 36 [pt G.wp 0, iv a, iv b, .bool whole] (wdH G M ++ L) (fun v L' => v = eV T E (linkW M a b whole).2 ∧ WdP G (linkW M a b whole).1 L L') := by
  unfold linkW
  have hself := wdP_self hW L
  have hI := wd_in hW L
  obtain ⟨an, capn, hnv, hnr⟩ := hI.ns
  by_cases h : a < 0 ∨ M.n.length ≤ a ∨ b < 0 ∨ M.n.length ≤ b
  · simp only [if_pos h]
    have hG' := er_wdH hG G M
    have hw := hI.wp
    unfold wdO at hw
    rw [hnv] at hw
    generalize wdH G M ++ L = H at *
    refine Za (fun _ _ => Tryz.call36 _ _) Tryz.func36 rfl Tryz.ntmps36 (Nat.le_of_ble_eq_true rfl) ?_; simp only [args0, Nat.reduceAdd]
    repeat' (first | refine uN ?_ | (refine uP ?_ ?_ <;> (intro h; ((try simp only [zs, ne_eq, and_true, true_and, eq_self, reduceCtorEq] at h); try exact zx))) | fail)
    all_goals exact er1 rfl ⟨rfl, hself⟩
  · simp only [if_neg h]
    have hF := hW.br
    have key : ∀ es' ck' x, MapF pk es' (fun y => if y = (min a b, max a b) then x else M.br y) → WdP G { M with br := fun y => if y = (min a b, max a b) then x else M.br y } L (wdH { G with es := es', ck := ck' } { M with br := fun y => if y = (min a b, max a b) then x else M.br y } ++ L) := fun es' ck' x hF' => wdP_top (hW.setB hF') rfl rfl
    simp only [wdH, wdT, wdO, List.cons_append, List.nil_append, hnv] at key ⊢
    cases whole with
    | true =>
      simp only [Bool.not_true, Bool.false_and]
      refine Za (fun _ _ => Tryz.call36 _ _) Tryz.func36 rfl Tryz.ntmps36 (Nat.le_of_ble_eq_true rfl) ?_; simp only [args0, Nat.reduceAdd]
      repeat' (first | refine uN ?_ | (refine uP ?_ ?_ <;> (intro h; ((try simp only [zs, ne_eq, and_true, true_and, eq_self, reduceCtorEq] at h); try exact zx))) | fail)
      all_goals refine fo 3 ?_
      all_goals refine wmP (v := false) hF (fun es' ck' hF' => ?_)
      all_goals repeat' (first | refine uN ?_ | (refine uP ?_ ?_ <;> (intro h; ((try simp only [zs, ne_eq, and_true, true_and, eq_self, reduceCtorEq] at h); try exact zx))) | fail)
      all_goals exact sp1 uL ⟨rfl, key es' ck' _ hF'⟩
    | false =>
      simp only [Bool.not_false, Bool.true_and]
      refine Za (fun _ _ => Tryz.call36 _ _) Tryz.func36 rfl Tryz.ntmps36 (Nat.le_of_ble_eq_true rfl) ?_; simp only [args0, Nat.reduceAdd]
      repeat' (first | refine uN ?_ | (refine uP ?_ ?_ <;> (intro h; ((try simp only [zs, ne_eq, and_true, true_and, eq_self, reduceCtorEq] at h); try exact zx))) | fail)
      all_goals refine fo 3 ?_
      all_goals refine wmP (v := decide (a ≠ b)) hF (fun es' ck' hF' => ?_)
      all_goals repeat' (first | refine uN ?_ | (refine uP ?_ ?_ <;> (intro h; ((try simp only [zs, ne_eq, and_true, true_and, eq_self, reduceCtorEq] at h); try exact zx))) | fail)
      all_goals exact sp1 uL ⟨rfl, key es' ck' _ hF'⟩
theorem wdrop_calls (T : Nat) (E : Nat → Addr) (G : WdG) (M : Wm) (k : Int) (L : Heap) (hG : Er T E [4] L) (hW : WdOk G M) (hl : M.l.length ≤ 100000000) :
    HC Tryz.prog 35 [pt G.wp 0, iv k] (wdH G M ++ L) (fun v L' => v = eV T E (dropW M k).2 ∧ WdP G (dropW M k).1 L L') := by
  unfold dropW
  have hself := wdP_self hW L
  have hI := wd_in hW L
  have ka := wat_calls T E G M k _ (er_wdH hG G M) hI
  unfold wat at *
  by_cases h : k < 0 ∨ M.l.length ≤ k
  · simp only [if_pos h] at ka ⊢
    generalize wdH G M ++ L = H at *
    refine Za (fun _ _ => Tryz.call35 _ _) Tryz.func35 rfl Tryz.ntmps35 (Nat.le_of_ble_eq_true rfl) ?_; simp only [args0, Nat.reduceAdd]
    repeat' (first | refine uN ?_ | refine uC (ka) ?_ | (refine uP ?_ ?_ <;> (intro h; ((try simp only [zs, ne_eq, and_true, true_and, eq_self, reduceCtorEq] at h); try exact zx))) | fail)
    all_goals exact er1 rfl ⟨rfl, hself⟩
  · simp only [if_neg h] at ka ⊢
    have key : ∀ lv lc, FrVec lv (M.l.eraseIdx k.toNat) lc → WdP G { M with l := M.l.eraseIdx k.toNat } L (wdH { G with lv := lv, lc := lc } { M with l := M.l.eraseIdx k.toNat } ++ L) := fun lv lc hv => wdP_top (hW.setL hv) rfl rfl
    have kd := fun L => delete_calls G.lv M.l G.lc k (k + 1) L hW.l hl (by omega) (by omega) rfl
    simp only [wdH, wdT, wdO, List.cons_append, List.nil_append] at key ka ⊢
    obtain ⟨a5, cap5, he5, -, -⟩ := hW.l.rd fc_len
    rw [he5] at ka kd ⊢
    refine Za (fun _ _ => Tryz.call35 _ _) Tryz.func35 rfl Tryz.ntmps35 (Nat.le_of_ble_eq_true rfl) ?_; simp only [args0, Nat.reduceAdd]
    repeat' (first | refine uN ?_ | refine uC (ka) ?_ | (refine uP ?_ ?_ <;> (intro h; ((try simp only [zs, ne_eq, and_true, true_and, eq_self, reduceCtorEq] at h); try exact zx))) | fail)
    refine fo 4 ?_
    refine gc (kd _) ?_
    rintro v L' ⟨c', hv', rfl⟩
    obtain ⟨a6, cap6, rfl, -, -⟩ := hv'.rd fc_len
    repeat' (first | refine uN ?_ | refine uC (ka) ?_ | (refine uP ?_ ?_ <;> (intro h; ((try simp only [zs, ne_eq, and_true, true_and, eq_self, reduceCtorEq] at h); try exact zx))) | fail)
    exact sp1 uL ⟨rfl, key _ c' hv'⟩
theorem wfly_calls (G : WdG) (M : Wm) (L : Heap) (hI : WdIn L G M) : HC Tryz.prog 157 [pt G.wp 0] L (fun v L' => v = iv M.l.length ∧ L' = L) := by
  have hw := hI.wp
  unfold wdO at hw
  obtain ⟨a, cap, hlv, -⟩ := hI.ls
  rw [hlv] at hw
  refine Za (fun _ _ => Tryz.call157 _ _) Tryz.func157 rfl Tryz.ntmps157 (Nat.le_of_ble_eq_true rfl) ?_; simp only [args0, Nat.reduceAdd]
  repeat' (first | refine uN ?_)
  exact er1 rfl ⟨rfl, rfl⟩
theorem wsites_calls (G : WdG) (M : Wm) (L : Heap) (hI : WdIn L G M) : HC Tryz.prog 102 [pt G.wp 0] L (fun v L' => v = iv M.n.length ∧ L' = L) := by
  have hw := hI.wp
  unfold wdO at hw
  obtain ⟨a, cap, hlv, -⟩ := hI.ns
  rw [hlv] at hw
  refine Za (fun _ _ => Tryz.call102 _ _) Tryz.func102 rfl Tryz.ntmps102 (Nat.le_of_ble_eq_true rfl) ?_; simp only [args0, Nat.reduceAdd]
  repeat' (first | refine uN ?_)
  exact er1 rfl ⟨rfl, rfl⟩
theorem wflying_calls (G : WdG) (M : Wm) (L : Heap) (hW : WdOk G M) (hl : M.l.length ≤ 100000000) :
    HC Tryz.prog 22 [pt G.wp 0] (wdH G M ++ L) (fun v L' => ∃ c, FrVec v M.l c ∧ L' = c :: (wdH G M ++ L)) := by
  have kd := fun L => clone_frames G.lv M.l G.lc L hW.l hl
  obtain ⟨a5, cap5, he5, -, -⟩ := hW.l.rd fc_len
  simp only [wdH, wdT, wdO, List.cons_append, List.nil_append]
  rw [he5] at kd ⊢
  refine Za (fun _ _ => Tryz.call22 _ _) Tryz.func22 rfl Tryz.ntmps22 (Nat.le_of_ble_eq_true rfl) ?_; simp only [args0, Nat.reduceAdd]
  repeat' (first | refine uN ?_)
  refine fo 4 ?_
  refine gc (kd _) ?_
  rintro v L' ⟨c', hv', rfl⟩
  repeat' (first | refine uN ?_)
  exact sp1 uL ⟨c', hv', rfl⟩
theorem wevents_calls (G : WdG) (M : Wm) (L : Heap) (hW : WdOk G M) (hl : M.ev.length ≤ 100000000) :
    HC Tryz.prog 27 [pt G.wp 0] (wdH G M ++ L) (fun v L' => ∃ c, Vec 81 3 ec v M.ev c ∧ L' = c :: (wdH G M ++ L)) := by
  have kd := fun L => clone_events G.ev M.ev G.ec L hW.ev hl
  obtain ⟨a5, cap5, he5, -, -⟩ := hW.ev.rd ec_len
  simp only [wdH, wdT, wdO, List.cons_append, List.nil_append]
  rw [he5] at kd ⊢
  refine Za (fun _ _ => Tryz.call27 _ _) Tryz.func27 rfl Tryz.ntmps27 (Nat.le_of_ble_eq_true rfl) ?_; simp only [args0, Nat.reduceAdd]
  repeat' (first | refine uN ?_)
  refine fo 5 ?_
  refine gc (kd _) ?_
  rintro v L' ⟨c', hv', rfl⟩
  repeat' (first | refine uN ?_)
  exact sp1 uL ⟨c', hv', rfl⟩
theorem wtwice_calls (T : Nat) (E : Nat → Addr) (G : WdG) (M : Wm) (k : Int) (L : Heap) (hG : Er T E [4] L) (hW : WdOk G M) (hl : M.l.length ≤ 99999999) :
    HC Tryz.prog 88 [pt G.wp 0, iv k] (wdH G M ++ L) (fun v L' => v = eV T E (twiceW M k).2 ∧ WdP G (twiceW M k).1 L L') := by
  unfold twiceW
  have hself := wdP_self hW L
  have hI := wd_in hW L
  have ka := wat_calls T E G M k _ (er_wdH hG G M) hI
  unfold wat at *
  by_cases h : k < 0 ∨ M.l.length ≤ k
  · simp only [if_pos h] at ka ⊢
    generalize wdH G M ++ L = H at *
    refine Za (fun _ _ => Tryz.call88 _ _) Tryz.func88 rfl Tryz.ntmps88 (Nat.le_of_ble_eq_true rfl) ?_; simp only [args0, Nat.reduceAdd]
    repeat' (first | refine uN ?_ | refine g_k S ?_ | refine g_w S ?_ | refine uC (ka) ?_ | refine uD0 (fun _ => ka) ?_ | refine uD1 (fun _ => ka) ?_ | refine uD2 (fun _ => ka) ?_ | refine uD3 (fun _ => ka) ?_ | (refine uB ?_; intro b) | (refine uP ?_ ?_ <;> (intro h; ((try simp only [zs, ne_eq, and_true, true_and, eq_self, reduceCtorEq] at h); try exact zx))) | refine da 101 ?_ | fail)
    all_goals exact er1 rfl ⟨rfl, hself⟩
  · simp only [if_neg h] at ka ⊢
    have key : ∀ lv lc, FrVec lv (M.l.take (k + 1).toNat ++ M.l.getD k.toNat zeroF :: M.l.drop (k + 1).toNat) lc → WdP G { M with l := M.l.take (k + 1).toNat ++ M.l.getD k.toNat zeroF :: M.l.drop (k + 1).toNat } L (wdH { G with lv := lv, lc := lc } { M with l := M.l.take (k + 1).toNat ++ M.l.getD k.toNat zeroF :: M.l.drop (k + 1).toNat } ++ L) := fun lv lc hv => wdP_top (hW.setL hv) rfl rfl
    have kd := fun eb L hne => insert_calls G.lv M.l G.lc (k + 1) (M.l.getD k.toNat zeroF) eb L hW.l (by omega) (by omega) (by omega) hne
    obtain ⟨a5, cap5, he5, -, hR5⟩ := hW.l.rd fc_len
    have hR6 := (hR5 []).mono (L' := wdH G M ++ L) fun b o hb => by
      simp only [Has, wdH, wdT, List.flatten_cons, List.flatten_nil, List.append_nil, List.cons_append, List.nil_append] at hb ⊢
      simp [hb]
    obtain ⟨b, i, l, F, fr, e6, hb, hg⟩ := hR6.at (j := k) (by omega) (by omega)
    have hgk : M.l[k.toNat]'(by omega) = M.l.getD k.toNat zeroF := by
      rw [List.getD, List.getElem?_eq_getElem (by omega)]; rfl
    rw [hgk] at hg
    rw [e6] at he5
    simp only [wdH, wdT, wdO, List.cons_append, List.nil_append] at key ka hb ⊢
    rw [he5] at ka kd hb ⊢
    refine Za (fun _ _ => Tryz.call88 _ _) Tryz.func88 rfl Tryz.ntmps88 (Nat.le_of_ble_eq_true rfl) ?_; simp only [args0, Nat.reduceAdd]
    repeat' (first | refine uN ?_ | refine g_d S ?_ | refine uC (ka) ?_ | refine uD0 (fun _ => ka) ?_ | refine uD1 (fun _ => ka) ?_ | refine uD2 (fun _ => ka) ?_ | refine uD3 (fun _ => ka) ?_ | (refine uB ?_; intro b) | (refine uP ?_ ?_ <;> (intro h; ((try simp only [zs, ne_eq, and_true, true_and, eq_self, reduceCtorEq] at h); try exact zx))) | refine da 101 ?_ | fail)
    refine ho_nodup fun hnd => ?_
    refine fo 5 ?_
    refine gc (kd b _ ?_) ?_
    · intro q o hq hqe
      subst hqe
      rw [List.flatten_cons, List.singleton_append, List.map_cons, List.nodup_cons] at hnd
      refine hnd.1 (List.mem_map.2 ⟨(b, o), ?_, rfl⟩)
      simp [hq]
    rintro v L' ⟨c', hv', rfl⟩
    obtain ⟨a6, cap6, rfl, -, -⟩ := hv'.rd fc_len
    repeat' (first | refine uN ?_ | refine g_d S ?_ | refine uC (ka) ?_ | refine uD0 (fun _ => ka) ?_ | refine uD1 (fun _ => ka) ?_ | refine uD2 (fun _ => ka) ?_ | refine uD3 (fun _ => ka) ?_ | (refine uB ?_; intro b) | (refine uP ?_ ?_ <;> (intro h; ((try simp only [zs, ne_eq, and_true, true_and, eq_self, reduceCtorEq] at h); try exact zx))) | refine da 101 ?_ | fail)
    exact sp1 uL ⟨rfl, key _ c' hv'⟩
end Go.HL
end

/-! WgD -/
section
namespace Go.HL
open Go Go.Proofs
set_option linter.unusedVariables false
set_option linter.unusedSimpArgs false

theorem wsum_or_and : ∀ (l : List Int) (a b : Nat), wsum l (a ||| b) + wsum l (a &&& b) = wsum l a + wsum l b
  | [], _, _ => rfl
  | x :: r, a, b => by
    have h := wsum_or_and r (a / 2) (b / 2)
    have h1 : (a ||| b) / 2 = a / 2 ||| b / 2 := Nat.or_div_two
    have h2 : (a &&& b) / 2 = a / 2 &&& b / 2 := Nat.and_div_two
    have h3 : (a ||| b) % 2 = 1 ↔ a % 2 = 1 ∨ b % 2 = 1 := Nat.or_mod_two_eq_one
    have h4 : (a &&& b) % 2 = 1 ↔ a % 2 = 1 ∧ b % 2 = 1 := Nat.and_mod_two_eq_one
    simp only [wsum, h1, h2, h3, h4]
    by_cases ha : a % 2 = 1 <;> by_cases hb : b % 2 = 1 <;> simp [ha, hb] <;> omega
theorem wsum_zero : ∀ l : List Int, wsum l 0 = 0
  | [] => rfl
  | x :: r => by simp [wsum, wsum_zero r]
theorem mx_mem {l : List Int} (h : l ≠ []) : mx l ∈ l := by
  have key : ∀ (r : List Int) (x : Int), r.foldl max x ∈ x :: r := by
    intro r
    induction r with
    | nil => intro x; simp
    | cons y r ih =>
      intro x
      have := ih (max x y)
      simp only [List.foldl_cons, List.mem_cons] at this ⊢
      rcases this with h | h
      · rw [h]
        by_cases hc : x ≤ y
        · right; left; omega
        · left; omega
      · exact .inr (.inr h)
  cases l with
  | nil => exact absurd rfl h
  | cons x r => exact key r x
theorem wsum_all_pos : ∀ (l : List Int), (∀ x ∈ l, 0 ≤ x) → ∀ y ∈ l, y ≤ wsum l (2 ^ l.length - 1) ∧ 0 ≤ wsum l (2 ^ l.length - 1)
  | [], _, y, hy => by simp at hy
  | x :: r, h, y, hy => by
    have hq := Nat.two_pow_pos r.length
    have e2 : (2 ^ r.length * 2 - 1) / 2 = 2 ^ r.length - 1 := by omega
    have e3 : (2 ^ r.length * 2 - 1) % 2 = 1 := by omega
    simp only [List.length_cons, Nat.pow_succ, wsum, e2, e3, if_true]
    have hx := h x (by simp)
    have hr : 0 ≤ wsum r (2 ^ r.length - 1) := by
      cases r with
      | nil => simp [wsum]
      | cons z r' => exact (wsum_all_pos (z :: r') (fun w hw => h w (by simp [hw])) z (by simp)).2
    rcases List.mem_cons.1 hy with rfl | hy
    · omega
    · have := wsum_all_pos r (fun w hw => h w (by simp [hw])) y hy
      omega
def quor (ws : List Int) (s : Nat) : Bool := decide (wsum ws (2 ^ ws.length - 1) < 2 * wsum ws s)
theorem en_ok {ws : List Int} (hc : checkW ws = none) {s : Nat} (h : s < 2 ^ ws.length) : enoughW ws (s : Int) = (quor ws s, none) := by
  have e : sumW ws (s : Int) = (wsum ws s, none) := by
    unfold sumW
    rw [hc]
    simp only [Int.toNat_natCast]
    rw [if_neg]
    have := blen_le.2 h
    omega
  unfold enoughW
  rw [e, all_none hc]
  rfl
theorem en_none {ws : List Int} {s : Int} (h : (enoughW ws s).2 = none) : checkW ws = none ∧ ∃ n : Nat, s = n ∧ n < 2 ^ ws.length := by
  unfold enoughW at h
  split at h
  · cases h
  · rename_i n hs
    have := sumW_none (ws := ws) (set := s) (by rw [hs])
    refine ⟨this.1, s.toNat, by omega, blen_le.1 this.2.2.1⟩
theorem quor_meet {ws : List Int} (hc : checkW ws = none) {a b : Nat} (hx : quor ws a = true) (hy : quor ws b = true) : a &&& b ≠ 0 := by
  intro h0
  obtain ⟨c1, c2, c3, c4⟩ := check_none hc
  have h1 := wsum_or_and ws a b
  rw [h0, wsum_zero] at h1
  have h2 : wsum ws (a ||| b) ≤ wsum ws (2 ^ ws.length - 1) := by
    have key : ∀ (l : List Int) (s : Nat), (∀ x ∈ l, 0 ≤ x) → wsum l s ≤ wsum l (2 ^ l.length - 1) := by
      intro l
      induction l with
      | nil => intro s _; simp [wsum]
      | cons x r ih =>
        intro s h
        have hq := Nat.two_pow_pos r.length
        have e2 : (2 ^ r.length * 2 - 1) / 2 = 2 ^ r.length - 1 := by omega
        have e3 : (2 ^ r.length * 2 - 1) % 2 = 1 := by omega
        simp only [List.length_cons, Nat.pow_succ, wsum, e2, e3, if_true]
        have := ih (s / 2) (fun w hw => h w (by simp [hw]))
        have hx := h x (by simp)
        split <;> omega
    exact key ws _ (fun x hx => (c3 x hx).1)
  simp only [quor, decide_eq_true_eq] at hx hy
  omega
theorem quor_more {ws : List Int} (hc : checkW ws = none) {a b : Nat} (hx : quor ws a = true) : quor ws (a ||| b) = true := by
  obtain ⟨c1, c2, c3, c4⟩ := check_none hc
  have h1 := wsum_or_and ws a b
  have key : ∀ (l : List Int) (a b : Nat), (∀ x ∈ l, 0 ≤ x) → wsum l (a &&& b) ≤ wsum l b := by
    intro l
    induction l with
    | nil => intro a b _; simp [wsum]
    | cons x r ih =>
      intro a b h
      have h2 : (a &&& b) / 2 = a / 2 &&& b / 2 := Nat.and_div_two
      have h4 : (a &&& b) % 2 = 1 ↔ a % 2 = 1 ∧ b % 2 = 1 := Nat.and_mod_two_eq_one
      have := ih (a / 2) (b / 2) (fun w hw => h w (by simp [hw]))
      have hx := h x (by simp)
      simp only [wsum, h2, h4]
      by_cases ha : a % 2 = 1 <;> by_cases hb : b % 2 = 1 <;> simp [ha, hb] <;> omega
  have h2 := key ws a b (fun x hx => (c3 x hx).1)
  simp only [quor, decide_eq_true_eq] at *
  omega
theorem quor_all {ws : List Int} (hc : checkW ws = none) : quor ws (2 ^ ws.length - 1) = true := by
  obtain ⟨c1, c2, c3, c4⟩ := check_none hc
  have hne : ws ≠ [] := by intro e; subst e; simp at c1
  have h1 := wsum_all_pos ws (fun x hx => (c3 x hx).1) _ (mx_mem hne)
  have h2 := (c3 _ (mx_mem hne)).1
  simp only [quor, decide_eq_true_eq]
  omega
end Go.HL
end

/-! RfW -/
section
namespace Go.HL
open Go Go.Proofs
set_option linter.unusedVariables false
set_option linter.unusedSimpArgs false
def cdN' : Option Nat → Int
  | none => 0
  | some c => c
def isum : List Int → Int
  | [] => 0
  | x :: r => x + isum r
theorem isum_snoc (l : List Int) (y : Int) : isum (l ++ [y]) = isum l + y := by
  induction l with
  | nil => simp [isum]
  | cons x r ih => simp only [List.cons_append, isum, ih]; omega
theorem isum_le : ∀ (l : List Int), (∀ x ∈ l, 0 ≤ x ∧ x ≤ 1000) → 0 ≤ isum l ∧ isum l ≤ 1000 * l.length
  | [], _ => by simp [isum]
  | x :: r, h => by
    have h1 := isum_le r (fun y hy => h y (by simp [hy]))
    have h2 := h x (by simp)
    simp only [isum, List.length_cons]; omega
theorem isum_zero : ∀ (l : List Int), (∀ x ∈ l, 0 ≤ x) → (isum l = 0 ↔ ∀ x ∈ l, x = 0)
  | [], _ => by simp [isum]
  | x :: r, h => by
    have h1 := isum_zero r (fun y hy => h y (by simp [hy]))
    have h2 := h x (by simp)
    have h3 : 0 ≤ isum r := by
      have : ∀ (l : List Int), (∀ x ∈ l, 0 ≤ x) → 0 ≤ isum l := by
        intro l
        induction l with
        | nil => intro _; simp [isum]
        | cons y l ih => intro hl; have := ih (fun z hz => hl z (by simp [hz])); have := hl y (by simp); simp only [isum]; omega
      exact this r (fun y hy => h y (by simp [hy]))
    simp only [isum, List.forall_mem_cons, ← h1]
    omega
theorem mx_ge : ∀ (l : List Int) (x : Int), x ∈ l → x ≤ mx l := by
  intro l
  have key : ∀ (r : List Int) (m : Int), m ≤ r.foldl max m ∧ ∀ y ∈ r, y ≤ r.foldl max m := by
    intro r
    induction r with
    | nil => intro m; simp
    | cons z r ih =>
      intro m
      obtain ⟨h1, h2⟩ := ih (max m z)
      simp only [List.foldl_cons, List.mem_cons]
      refine ⟨by omega, fun y hy => ?_⟩
      rcases hy with rfl | hy
      · omega
      · exact h2 y hy
  cases l with
  | nil => intro x hx; cases hx
  | cons z r =>
    intro x hx
    obtain ⟨h1, h2⟩ := key r z
    simp only [List.mem_cons] at hx
    rcases hx with rfl | hx
    · exact h1
    · exact h2 x hx
theorem mx_zero {l : List Int} (h : l ≠ []) (h0 : ∀ x ∈ l, 0 ≤ x) : mx l = 0 ↔ isum l = 0 := by
  rw [isum_zero l h0]
  constructor
  · intro e x hx
    have := mx_ge l x hx
    have := h0 x hx
    omega
  · intro e
    exact e _ (mx_mem h)
theorem bit_div (n k : Nat) : ((n : Int) / 2 ^ k % 2 = 1) ↔ n / 2 ^ k % 2 = 1 := by
  have : ((n : Int) / 2 ^ k) = ((n / 2 ^ k : Nat) : Int) := by simp
  rw [this]; omega
set_option maxHeartbeats 2000000 attribute [local irreducible] HW HO HQ HD HC QOp Has Upd Puts Gets seqQ blkQ loopQ fnQ actQ nextP unQ MapF
theorem weightsError_calls (a : Option Addr) (cap : Nat) (xs : List Int) (L : Heap) (hR : Rd ic 1 L a xs) : HC Tryz.prog 15 [.slice a xs.length cap] L (fun v L' => v = iv (cdN' (checkW xs)) ∧ L' = L) := by
  refine Za (fun _ _ => Tryz.call15 _ _) Tryz.func15 rfl Tryz.ntmps15 (Nat.le_of_ble_eq_true rfl) ?_; simp only [args0, Nat.reduceAdd]
  repeat' (first | refine uN ?_ | (refine uP ?_ ?_ <;> (intro h; ((try simp only [zs, ne_eq, and_true, true_and, eq_self, reduceCtorEq] at h); try exact zx))) | fail)
  · exact sp1 (LS.refl _) ⟨by unfold checkW; rw [if_pos (by omega)], rfl⟩
  · exact sp1 (LS.refl _) ⟨by unfold checkW; rw [if_pos (by omega)], rfl⟩
  refine Zf (σ := Nat × Int) (fun q => [(0, .slice a xs.length cap), (3, iv q.2), (4, iv q.1)]) (fun _ => L) (fun q => q.1 ≤ xs.length ∧ isum (xs.take q.1) = q.2 ∧ ∀ x ∈ xs.take q.1, 0 ≤ x ∧ x ≤ 1000) (fun q => xs.length - q.1) (0, 0) uS (List.Sublist.refl _) ⟨by simp, by simp [isum], by simp⟩ ?_
  rintro ⟨i, s⟩ ⟨hi, hs, hx⟩
  simp only at hi hs hx ⊢
  have hlen : ¬ (xs.length < 1 ∨ 7 < xs.length) := by omega
  have hb := isum_le _ hx
  rw [hs, List.length_take] at hb
  by_cases hlt : i < xs.length
  · obtain ⟨b, ia, l, E, fr, rfl, hb', hg'⟩ := hR.at1 (j := (i : Int)) (by omega) (by omega)
    have hbad : badW xs[i] = true → xs.any badW = true := fun h => List.any_eq_true.2 ⟨_, List.getElem_mem hlt, h⟩
    have hsn : isum (xs.take (i + 1)) = s + xs[i] := by rw [List.take_succ_eq_append_getElem hlt, isum_snoc, hs]
    have he : xs[(i : Int).toNat]'(by omega) = xs[i] := rfl
    rw [he] at hg'
    generalize hxi : xs[i] = x at *
    repeat' (first | refine uN ?_ | (refine uP ?_ ?_ <;> (intro h; ((try simp only [zs, ne_eq, and_true, true_and, eq_self, reduceCtorEq] at h); try exact zx))) | fail)
    · exact sp1 (LS.refl _) ⟨by unfold checkW; rw [if_neg hlen, if_pos (hbad (by simp [badW]; omega))], rfl⟩
    · exact sp1 (LS.refl _) ⟨by unfold checkW; rw [if_neg hlen, if_pos (hbad (by simp [badW]; omega))], rfl⟩
    · refine Zg (i + 1, s + x) uS (List.Sublist.refl _) ⟨by simp only; omega, hsn, ?_⟩ (by simp only; omega)
      simp only
      rw [List.take_succ_eq_append_getElem hlt, hxi]
      intro y hy
      simp only [List.mem_append, List.mem_singleton] at hy
      rcases hy with hy | rfl
      · exact hx y hy
      · omega
  · have e : xs.take i = xs := List.take_of_length_le (by omega)
    rw [e] at hs hx
    have hne : xs ≠ [] := fun e => hlen (by simp [e])
    have hz := mx_zero hne (fun x h => (hx x h).1)
    rw [hs] at hz
    have hnb : ¬ xs.any badW = true := by
      simp only [Bool.not_eq_true, List.any_eq_false, badW, decide_eq_true_eq]
      intro x h
      have := hx x h
      omega
    repeat' (first | refine uN ?_ | (refine uP ?_ ?_ <;> (intro h; ((try simp only [zs, ne_eq, and_true, true_and, eq_self, reduceCtorEq] at h); try exact zx))) | fail)
    · exact sp1 (LS.refl _) ⟨by unfold checkW; rw [if_neg hlen, if_neg hnb, if_pos (hz.2 h)], rfl⟩
    · exact sp1 (LS.refl _) ⟨by unfold checkW; rw [if_neg hlen, if_neg hnb, if_neg (fun e => h (hz.1 e))], rfl⟩
theorem rHas_calls (n k : Nat) (hk : k ≤ 30) (hn : (n : Int) ≤ 9223372036854775807) (L : Heap) : HC Tryz.prog 19 [iv n, iv k] L (fun v L' => v = .bool (decide (n / 2 ^ k % 2 = 1)) ∧ L' = L) := by
  have hp := pow_le30 hk
  have hq : 0 ≤ (n : Int) / 2 ^ k ∧ (n : Int) / 2 ^ k ≤ 9223372036854775807 := by
    have := bit_ok n k hn
    simp only [hiE] at this
    omega
  refine Za (fun _ _ => Tryz.call19 _ _) Tryz.func19 rfl Tryz.ntmps19 (Nat.le_of_ble_eq_true rfl) ?_; simp only [args0, Nat.reduceAdd]
  repeat' (first | refine uN ?_ | refine uC (two_calls k hk _) ?_ | fail)
  refine sp1 (LS.refl _) ⟨congrArg Value.bool (decide_eq_decide.2 (bit_div n k)), rfl⟩
theorem rSum_calls (a : Option Addr) (cap : Nat) (xs : List Int) (n : Nat) (L : Heap) (hR : Rd ic 1 L a xs) (h7 : xs.length ≤ 7) (h3 : ∀ x ∈ xs, 0 ≤ x ∧ x ≤ 1000) (hn : (n : Int) ≤ 9223372036854775807) : HC Tryz.prog 97 [.slice a xs.length cap, iv n] L (fun v L' => v = iv (wsum xs n) ∧ L' = L) := by
  refine Za (fun _ _ => Tryz.call97 _ _) Tryz.func97 rfl Tryz.ntmps97 (Nat.le_of_ble_eq_true rfl) ?_; simp only [args0, Nat.reduceAdd]
  repeat' (first | refine uN ?_ | (refine uP ?_ ?_ <;> (intro h; ((try simp only [zs, ne_eq, and_true, true_and, eq_self, reduceCtorEq] at h); try exact zx))) | fail)
  refine Zf (σ := Nat × Int) (fun q => [(0, .slice a xs.length cap), (1, iv n), (5, iv q.2), (6, iv q.1)]) (fun _ => L) (fun q => q.1 ≤ xs.length ∧ wsum (xs.take q.1) n = q.2) (fun q => xs.length - q.1) (0, 0) uS (List.Sublist.refl _) ⟨by simp, by simp [wsum]⟩ ?_
  rintro ⟨i, s⟩ ⟨hi, hs⟩
  simp only at hi hs ⊢
  have hb := wsum_le (xs.take i) n (fun x hx => h3 x (List.mem_of_mem_take hx))
  rw [hs, List.length_take] at hb
  by_cases hlt : i < xs.length
  · obtain ⟨b, ia, l, E, fr, rfl, hb', hg'⟩ := hR.at1 (j := (i : Int)) (by omega) (by omega)
    have hx := h3 xs[i] (List.getElem_mem hlt)
    have hsn := wsum_snoc xs[i] (xs.take i) n
    rw [← List.take_succ_eq_append_getElem hlt, List.length_take, Nat.min_eq_left (by omega), hs] at hsn
    have he : xs[(i : Int).toNat]'(by omega) = xs[i] := rfl
    rw [he] at hg'
    generalize hxi : xs[i] = x at *
    repeat' (first | refine uN ?_ | refine g_q (qC (rHas_calls n i (by omega) hn _)) ?_ | (refine uP ?_ ?_ <;> (intro h; ((try simp only [zs, ne_eq, and_true, true_and, eq_self, reduceCtorEq] at h); try exact zx))) | fail)
    · refine Zg (i + 1, s + x) uS (List.Sublist.refl _) ⟨by simp only; omega, ?_⟩ (by simp only; omega)
      simp only
      rw [hsn, if_pos h]
    · refine Zg (i + 1, s) uS (List.Sublist.refl _) ⟨by simp only; omega, ?_⟩ (by simp only; omega)
      simp only
      rw [hsn, if_neg h]; omega
  · have e : xs.take i = xs := List.take_of_length_le (by omega)
    rw [e] at hs
    repeat' (first | refine uN ?_ | (refine uP ?_ ?_ <;> (intro h; ((try simp only [zs, ne_eq, and_true, true_and, eq_self, reduceCtorEq] at h); try exact zx))) | fail)
    exact sp1 (LS.refl _) ⟨by rw [hs], rfl⟩
theorem rEnough_calls (a : Option Addr) (cap : Nat) (xs : List Int) (n : Nat) (L : Heap) (hR : Rd ic 1 L a xs) (h7 : xs.length ≤ 7) (h3 : ∀ x ∈ xs, 0 ≤ x ∧ x ≤ 1000) (hn : (n : Int) ≤ 9223372036854775807) : HC Tryz.prog 33 [.slice a xs.length cap, iv n] L (fun v L' => v = .bool (quor xs n) ∧ L' = L) := by
  have k1 := rSum_calls a cap xs n L hR h7 h3 hn
  have hp := pow_le30 (n := xs.length) (by omega)
  have e : ((2 : Int) ^ xs.length - 1) = ((2 ^ xs.length - 1 : Nat) : Int) := by
    have := Nat.two_pow_pos xs.length
    rw [Int.ofNat_sub (by omega)]; simp
  have k2 := rSum_calls a cap xs (2 ^ xs.length - 1) L hR h7 h3 (by omega)
  rw [← e] at k2
  have b1 := wsum_le xs n h3
  have b2 := wsum_le xs (2 ^ xs.length - 1) h3
  refine Za (fun _ _ => Tryz.call33 _ _) Tryz.func33 rfl Tryz.ntmps33 (Nat.le_of_ble_eq_true rfl) ?_; simp only [args0, Nat.reduceAdd]
  repeat' (first | refine uN ?_ | refine uC (k1) ?_ | refine uC (k2) ?_ | refine g_q (qC (two_calls xs.length (by omega) _)) ?_ | fail)
  refine sp1 (LS.refl _) ⟨congrArg Value.bool ?_, rfl⟩
  unfold quor
  exact decide_eq_decide.2 (by omega)
end Go.HL
end

/-! RfA -/
section
namespace Go.HL
open Go Go.Proofs
set_option linter.unusedVariables false
set_option linter.unusedSimpArgs false
set_option maxHeartbeats 2000000 attribute [local irreducible] HW HO HQ HD HC QOp Has Upd Puts Gets seqQ blkQ loopQ fnQ actQ nextP unQ MapF
end Go.HL
end

/-! RfF -/
section
namespace Go.HL
open Go Go.Proofs
set_option linter.unusedVariables false
set_option linter.unusedSimpArgs false
set_option maxHeartbeats 2000000 attribute [local irreducible] HW HO HQ HD HC QOp Has Upd Puts Gets seqQ blkQ loopQ fnQ actQ nextP unQ MapF
end Go.HL
end

/-! LdE -/
section
namespace Go.HL
open Go Go.Proofs
set_option linter.unusedVariables false
set_option linter.unusedSimpArgs false
set_option maxHeartbeats 2000000 attribute [local irreducible] HW HO HQ HD HC QOp Has Upd Puts Gets seqQ blkQ loopQ fnQ actQ nextP unQ MapF
structure LdIs (ws : List Int) (id deal att : Int) (m : Ld) : Prop where
  hid : m.id = id
  hdl : m.deal = deal
  hat : m.att = att
  hw : m.w = ws
  htl : m.told.length = 7
  hhd : m.heard < 2 ^ ws.length
theorem LdIs.ok {w : List Int} {id deal att : Int} {m m' : Ld} {wv : Value} {wc : List Blk} (h : LdIs w id deal att m) (h' : LdIs w id deal att m') (ho : LdOk wv wc m) : LdOk wv wc m' := ho.of (by rw [h.hw, h'.hw]) (by rw [h.htl, h'.htl])
theorem LdIs.done {w : List Int} {id deal att : Int} {m : Ld} (h : LdIs w id deal att m) : LdIs w id deal att (doneM m) := ⟨h.hid, h.hdl, h.hat, h.hw, h.htl, h.hhd⟩
theorem LdIs.prep {w : List Int} {id deal att : Int} {m : Ld} (h : LdIs w id deal att m) (p : Int) : LdIs w id deal att (prepM m p) := ⟨h.hid, h.hdl, h.hat, h.hw, h.htl, Nat.two_pow_pos _⟩
theorem LdIs.m1 {w : List Int} {id deal att : Int} {m : Ld} (h : LdIs w id deal att m) (f : Fr) : LdIs w id deal att (m1M m f) := by
  unfold m1M; split
  · exact h
  · exact ⟨h.hid, h.hdl, h.hat, h.hw, h.htl, h.hhd⟩
theorem LdIs.m2 {w : List Int} {id deal att : Int} {m : Ld} (h : LdIs w id deal att m) (f : Fr) (hf : fitsM m f) : LdIs w id deal att (m2M m f) := by
  have h1 := h.m1 f
  refine ⟨h1.hid, h1.hdl, h1.hat, h1.hw, ?_, ?_⟩
  · simp [m2M, h.htl]
  · have := hf.2.2.2.2.2.1
    have := hf.2.2.2.2.1
    rw [h.hw] at *
    exact heard_lt h.hhd (by omega)
theorem LdIs.count {w : List Int} {id deal att : Int} {m : Ld} (h : LdIs w id deal att m) : LdIs w id deal att (countM m).1 := by
  unfold countM
  split
  · exact h.prep _
  split
  · exact h
  split
  · exact h.done
  split
  · exact h.done
  · exact h.prep _
theorem LdIs.hear {w : List Int} {id deal att : Int} {m : Ld} (h : LdIs w id deal att m) (f : Fr) : LdIs w id deal att (hearM m f).1 := by
  unfold hearM
  split
  · exact h
  rename_i hw
  have hf : fitsM m f := by
    by_cases hf : fitsM m f
    · exact hf
    · exact absurd (.inr hf) hw
  split
  · unfold noM
    have h1 := h.m1 f
    split
    · exact h1.done
    · exact ⟨h1.hid, h1.hdl, h1.hat, h1.hw, h1.htl, h1.hhd⟩
  · exact (h.m2 f hf).count
theorem allM_len (m : Ld) (k p : Int) : (allM m k p).length ≤ m.w.length := flat_len_le (allF m k p) (allF_le m k p) m.w.length
theorem hear_len (m : Ld) (f : Fr) : (hearM m f).2.length ≤ m.w.length := by
  have e1 : (m1M m f).w = m.w := by unfold m1M; split <;> rfl
  have e2 : (m2M m f).w = m.w := e1
  unfold hearM
  split
  · simp
  split
  · unfold noM
    split
    · have := allM_len (doneM (m1M m f)) 7 3
      rw [show (doneM (m1M m f)).w = m.w from e1] at this
      exact this
    · simp
  · unfold countM
    have hp : ∀ p, (preM (m2M m f) p).2.length ≤ m.w.length := fun p => by
      have := allM_len (prepM (m2M m f) p) 5 p
      rw [show (prepM (m2M m f) p).w = m.w from e1] at this
      exact this
    have hd : ∀ p, (decdM (m2M m f) p).2.length ≤ m.w.length := fun p => by
      have := allM_len (doneM (m2M m f)) 7 p
      rw [show (doneM (m2M m f)).w = m.w from e1] at this
      exact this
    split
    · exact hp _
    split
    · simp
    split
    · exact hd _
    split
    · exact hd _
    · exact hp _
end Go.HL
end

/-! WoI -/
section
namespace Go.HL
open Go Go.Proofs
set_option linter.unusedVariables false
set_option linter.unusedSimpArgs false
/-- a frame that a world sends -/
def okF (n : Nat) (f : Fr) : Prop := ¬ badF f ∧ f.to < n ∧ f.fr < n
theorem SI.eq {m : Pl} {j : Jn} (h : SI m j) : j = ⟨openM m.b, m.off⟩ := by
  obtain ⟨l, d⟩ := j
  have h1 : d = m.off := h.ji.off
  have h2 : l = openM m.b := h.ji.l
  rw [h1, h2]
theorem allM_mem {m : Ld} {k p : Int} {f : Fr} (h : f ∈ allM m k p) : ∃ i, i < m.w.length ∧ f = ⟨m.id, i, m.deal, k, m.att, false, ⟨p, 0, 0⟩⟩ ∧ (k ≠ 3 ∨ (i : Int) ≠ m.id) := by
  unfold allM at h
  obtain ⟨i, hi, hf⟩ := List.mem_flatMap.1 h
  unfold allF at hf
  split at hf
  · rename_i hc
    simp at hf
    exact ⟨i, List.mem_range.1 hi, hf, hc⟩
  · cases hf
theorem allM_ok {w : List Int} {s d : Nat} {m : Ld} (hi : LdI w s d m) (hs : s < w.length) (hw : w.length ≤ 7) (hd : d < 6) {k p : Int} (hk : 1 ≤ k ∧ k ≤ 7) (hp : 0 ≤ p ∧ p ≤ 5) : ∀ f ∈ allM m k p, okF w.length f := by
  intro f hf
  obtain ⟨i, h1, rfl, -⟩ := allM_mem hf
  rw [hi.ww] at h1
  have e1 := hi.id
  have e2 := hi.deal
  have e3 := hi.att0
  have e4 := hi.att1
  unfold okF badF
  simp only
  omega
theorem LdI.is {w : List Int} {s d : Nat} {x : Ld} (h : LdI w s d x) : LdIs w s d x.att x := ⟨h.id, h.deal, rfl, h.ww, h.told, h.heard⟩
theorem LdI.of {w : List Int} {s d : Nat} {x y : Ld} (h : LdI w s d x) (hy : LdIs w s d x.att y) (ht : ∀ t ∈ y.told, 0 ≤ t.ph ∧ t.ph ≤ 5) (hp : 0 ≤ y.phase ∧ y.phase ≤ 5) (hs : 0 ≤ y.seen ∧ y.seen ≤ 1048576) : LdI w s d y :=
  ⟨hy.hw, hy.hid, hy.hdl, by rw [hy.hat]; exact h.att0, by rw [hy.hat]; exact h.att1, hy.htl, ht, hy.hhd, hp.1, hp.2, hs.1, hs.2⟩
theorem LdI.done {w : List Int} {s d : Nat} {x : Ld} (h : LdI w s d x) : LdI w s d (doneM x) := h.of h.is.done h.tok ⟨h.ph0, h.ph1⟩ ⟨h.seen0, h.seen1⟩
theorem LdI.prep {w : List Int} {s d : Nat} {x : Ld} (h : LdI w s d x) {p : Int} (hp : 0 ≤ p ∧ p ≤ 5) : LdI w s d (prepM x p) := h.of (h.is.prep p) h.tok hp ⟨h.seen0, h.seen1⟩
theorem LdI.m1 {w : List Int} {s d : Nat} {x : Ld} (h : LdI w s d x) {f : Fr} (hf : ¬ badF f) : LdI w s d (m1M x f) := by
  refine h.of (h.is.m1 f) ?_ ?_ ?_
  · unfold m1M; split <;> exact h.tok
  · unfold m1M; split <;> exact ⟨h.ph0, h.ph1⟩
  · have h1 := h.seen0
    have h2 := h.seen1
    unfold badF at hf
    unfold m1M
    split
    · exact ⟨h1, h2⟩
    · simp only
      omega
theorem LdI.m2 {w : List Int} {s d : Nat} {x : Ld} (h : LdI w s d x) {f : Fr} (hf : ¬ badF f) (hfit : fitsM x f) : LdI w s d (m2M x f) := by
  have h1 := h.m1 hf
  refine h.of (h.is.m2 f hfit) ?_ ⟨h1.ph0, h1.ph1⟩ ⟨h1.seen0, h1.seen1⟩
  intro t ht
  unfold m2M at ht
  rcases List.mem_or_eq_of_mem_set ht with h2 | h2
  · exact h.tok t h2
  · subst h2
    unfold badF at hf
    omega
theorem afterS_ok (p : Int) : 0 ≤ afterS p ∧ afterS p ≤ 5 := by unfold afterS; split <;> (try split) <;> omega
theorem chooseS_ok (xs : List St) : 0 ≤ (chooseS xs).1 ∧ (chooseS xs).1 ≤ 5 := by
  unfold chooseS
  split
  · simp
  split
  · simp
  split <;> simp
theorem LdI.count {w : List Int} {s d : Nat} {x : Ld} (h : LdI w s d x) (hs : s < w.length) (hw : w.length ≤ 7) (hd : d < 6) : LdI w s d (countM x).1 ∧ ∀ f ∈ (countM x).2, okF w.length f := by
  have hpre : ∀ p, 0 ≤ p ∧ p ≤ 5 → LdI w s d (preM x p).1 ∧ ∀ f ∈ (preM x p).2, okF w.length f := fun p hp => ⟨h.prep hp, allM_ok (h.prep hp) hs hw hd (by omega) hp⟩
  have hdec : ∀ p, 0 ≤ p ∧ p ≤ 5 → LdI w s d (decdM x p).1 ∧ ∀ f ∈ (decdM x p).2, okF w.length f := fun p hp => ⟨h.done, allM_ok h.done hs hw hd (by omega) hp⟩
  unfold countM
  split
  · exact hpre 4 (by omega)
  split
  · exact ⟨h, fun f hf => by cases hf⟩
  split
  · exact hdec _ (afterS_ok _)
  split
  · exact hdec _ (chooseS_ok _)
  · exact hpre _ (chooseS_ok _)
theorem LdI.hear {w : List Int} {s d : Nat} {x : Ld} (h : LdI w s d x) (hs : s < w.length) (hw : w.length ≤ 7) (hd : d < 6) {f : Fr} (hf : ¬ badF f) : LdI w s d (hearM x f).1 ∧ ∀ g ∈ (hearM x f).2, okF w.length g := by
  unfold hearM
  split
  · exact ⟨h, fun g hg => by cases hg⟩
  rename_i hwt
  have hfit : fitsM x f := by
    by_cases hfit : fitsM x f
    · exact hfit
    · exact absurd (.inr hfit) hwt
  split
  · unfold noM
    have h1 := h.m1 hf
    split
    · exact ⟨h1.done, allM_ok h1.done hs hw hd (by omega) (by omega)⟩
    · exact ⟨⟨h1.ww, h1.id, h1.deal, h1.att0, h1.att1, h1.told, h1.tok, h1.heard, h1.ph0, h1.ph1, h1.seen0, h1.seen1⟩, fun g hg => by cases hg⟩
  · exact (h.m2 hf hfit).count hs hw hd
theorem newLd_I {w : List Int} {s d : Nat} {a k : Int} (h0 : 0 ≤ a) (h1 : a ≤ 1048576) : LdI w s d (newLd s d w a k) :=
  ⟨rfl, rfl, rfl, h0, h1, rfl, fun t ht => by
    rw [List.mem_replicate.1 ht |>.2]
    simp [zeroS], Nat.two_pow_pos _, by simp [newLd], by simp [newLd], by simp [newLd], by simp [newLd]⟩
theorem startM_ok {w : List Int} {s d : Nat} {m : Ld} (hi : LdI w s d m) (hs : s < w.length) (hw : w.length ≤ 7) (hd : d < 6) : ∀ f ∈ startM m, okF w.length f := by
  unfold startM
  split
  · exact allM_ok hi hs hw hd (by omega) (by omega)
  · exact allM_ok hi hs hw hd (by omega) (by omega)
/-- a node changed in a world -/
theorem WI.set {M : Wm} (h : WI M) {s : Int} {m : Nd} (h0 : 0 ≤ s) (hm : NdI M.w s.toNat m) : WI (setN M s m) := by
  refine ⟨h.w0, h.wl, h.w1, by simp [setN, h.wn], h.fr, h.evl, fun q x hx => ?_⟩
  simp only [setN, List.getElem?_set] at hx
  by_cases hq : s.toNat = q
  · rw [if_pos hq] at hx
    split at hx
    · cases hx
      rw [← hq]
      exact hm
    · cases hx
  · rw [if_neg hq] at hx
    exact h.nd q x hx
theorem WI.setL {M : Wm} (h : WI M) {l : List Fr} (hl : ∀ f ∈ l, okF M.w.length f) : WI { M with l := l } := ⟨h.w0, h.wl, h.w1, h.wn, hl, h.evl, h.nd⟩
theorem WI.setE {M : Wm} (h : WI M) {l : List Evt} (hl : l.length ≤ 500) : WI { M with ev := l } := ⟨h.w0, h.wl, h.w1, h.wn, h.fr, hl, h.nd⟩
theorem WI.setB {M : Wm} (h : WI M) (f : Int × Int → Bool) : WI { M with br := f } := ⟨h.w0, h.wl, h.w1, h.wn, h.fr, h.evl, h.nd⟩
theorem WI.erase {M : Wm} (h : WI M) (k : Nat) : WI { M with l := M.l.eraseIdx k } := h.setL fun f hf => h.fr f (List.mem_of_mem_eraseIdx hf)
theorem noteN_len (s : Int) (m : Nd) (ev : List Evt) : (noteN s m ev).1.length = m.done.length := by
  unfold noteN
  split
  · rfl
  · exact noteR_len 6
theorem noteN_ev (s : Int) (m : Nd) (ev : List Evt) (h : ev.length ≤ 500) : (noteN s m ev).2.length ≤ 500 := by
  unfold noteN
  split
  · exact h
  · exact noteR_ev h 6
theorem NdI.fall {w : List Int} {s : Nat} {m : Nd} (h : NdI w s m) {pl : Pl} (hb : pl.b.length = 512) (hsi : SI pl ⟨openM pl.b, pl.off⟩) (hoff : pl.off = true) : NdI w s ⟨pl, none, noLeads, m.done⟩ :=
  ⟨by simp [noLeads], h.done, hb, hsi, fun j ref hs => (by cases hs), fun _ => hoff, fun d x hx => (by
    simp only [noLeads, List.getElem?_replicate] at hx
    split at hx <;> cases hx)⟩
theorem NdI.lead {w : List Int} {s : Nat} {m : Nd} (h : NdI w s m) {d : Nat} {x : Ld} (hx : LdI w s d x) : NdI w s { m with leads := m.leads.set d (some x) } := by
  refine ⟨by simp [h.leads], h.done, h.b512, h.si, h.up, h.dn, fun q y hy => ?_⟩
  simp only [List.getElem?_set] at hy
  by_cases hq : d = q
  · rw [if_pos hq] at hy
    split at hy
    · cases hy
      rw [← hq]
      exact hx
    · cases hy
  · rw [if_neg hq] at hy
    exact h.ldi q y hy
theorem ok_answer {n : Nat} {s : Nat} {f : Fr} {ref : Int → Bool} {st : St} (hs : s < n) (hn : n ≤ 7) (hf : ¬ badF f) (hfr : f.fr < n) (hst : stOk st) (hk : (turnM ref f st).2.1 ≠ 0) : okF n ⟨s, f.fr, f.dl, (turnM ref f st).2.1, f.att, (turnM ref f st).2.2, (turnM ref f st).1⟩ := by
  obtain ⟨⟨g1, g2, g3, g4, g5⟩, -⟩ := turn_ok (ref := ref) hst hf
  have hk7 : (turnM ref f st).2.1 = 0 ∨ (turnM ref f st).2.1 = 2 ∨ (turnM ref f st).2.1 = 4 ∨ (turnM ref f st).2.1 = 6 := by
    unfold turnM
    split
    · simp
    split
    · simp
    split
    · split
      · simp
      · split <;> simp
    split <;> simp
  unfold okF badF at *
  simp only
  omega
/-- what a site hears -/
theorem NdI.hear {w : List Int} {s : Nat} {m : Nd} (h : NdI w s m) (hs : s < w.length) (hw : w.length ≤ 7) (ev : List Evt) (hev : ev.length ≤ 500) {f : Fr} (hfr : f.fr < w.length) :
    NdI w s (hearNd s m ev f).1 ∧ (hearNd s m ev f).2.1.length ≤ 500 ∧ ∀ g ∈ (hearNd s m ev f).2.2.1, okF w.length g := by
  unfold hearNd
  cases hsi : m.site with
  | none => exact ⟨h, hev, fun g hg => by cases hg⟩
  | some q =>
    obtain ⟨j, ref⟩ := q
    simp only
    have hS := h.jn hsi
    obtain ⟨a1, a2, a3, a4⟩ := site_any (id := (s : Int)) (ref := ref) hS f
    generalize hr : siteM s ref m.pl j f = r at *
    obtain ⟨pl', j', fs, er⟩ := r
    simp only at a1 a2 a3 a4 ⊢
    have hj' := a1.eq
    have hb : pl'.b.length = 512 := by rw [a2]; exact h.b512
    split
    · rename_i hoff
      exact ⟨h.fall hb (hj' ▸ a1) hoff, hev, fun g hg => by cases hg⟩
    · rename_i hoff
      have hoff' : pl'.off = false := by simpa using hoff
      refine ⟨⟨h.leads, by rw [noteN_len]; exact h.done, hb, hj' ▸ a1, fun j2 r2 e => ?_, fun e => (by cases e), h.ldi⟩, noteN_ev _ _ _ hev, ?_⟩
      · cases e
        rw [hj']
        exact ⟨by rw [hoff'], hoff'⟩
      · intro g hg
        rcases a4 with a4 | ⟨b1, b2, b3, b4, b5, b6, b7⟩
        · rw [a4] at hg; cases hg
        · rw [b7] at hg
          simp only [List.mem_singleton] at hg
          subst hg
          unfold badF at b1
          exact ok_answer hs hw (by unfold badF; exact b1) hfr (hS.st f.dl.toNat (by omega)) b4
theorem WI.hear {M : Wm} (h : WI M) {s : Int} (h0 : 0 ≤ s) (h1 : s < M.n.length) {f : Fr} (hfr : f.fr < M.w.length) : WI (hearW M s f).1 ∧ ∀ g ∈ (hearW M s f).2.1, okF M.w.length g := by
  have hn := h.wn
  have hx := h.nd s.toNat (ndAt M s) (getD_some (by omega))
  have e : ((s.toNat : Nat) : Int) = s := by omega
  have key := hx.hear (by omega) h.wl M.ev h.evl hfr
  rw [e] at key
  obtain ⟨k1, k2, k3⟩ := key
  exact ⟨(h.set h0 k1).setE k2, k3⟩
theorem hearsM_ok {w : List Int} {s d : Nat} (hs : s < w.length) (hw : w.length ≤ 7) (hd : d < 6) : ∀ (l : List Fr) (x : Ld) (acc : List Fr), LdI w s d x → (∀ f ∈ l, okF w.length f) → (∀ f ∈ acc, okF w.length f) →
    LdI w s d (l.foldl (fun q f => ((hearM q.1 f).1, q.2 ++ (hearM q.1 f).2)) (x, acc)).1 ∧ ∀ f ∈ (l.foldl (fun q f => ((hearM q.1 f).1, q.2 ++ (hearM q.1 f).2)) (x, acc)).2, okF w.length f
  | [], x, acc, hx, _, ha => ⟨hx, ha⟩
  | f :: l, x, acc, hx, hl, ha => by
    rw [List.foldl_cons]
    obtain ⟨k1, k2⟩ := hx.hear hs hw hd (hl f (by simp)).1
    refine hearsM_ok hs hw hd l _ _ k1 (fun g hg => hl g (by simp [hg])) fun g hg => ?_
    rcases List.mem_append.1 hg with hg | hg
    · exact ha g hg
    · exact k2 g hg
end Go.HL
end

/-! WoS -/
section
namespace Go.HL
open Go Go.Proofs
set_option linter.unusedVariables false
set_option linter.unusedSimpArgs false
theorem zip_open {α β : Type} (f : α → β → List Blk) : ∀ {l : List α} {k : List β} {d : Nat} {a : α} {b : β}, l[d]? = some a → k[d]? = some b → ∃ A B, (List.zipWith f l k).flatten = A ++ (f a b ++ B) ∧ ∀ a' b', (List.zipWith f (l.set d a') (k.set d b')).flatten = A ++ (f a' b' ++ B)
  | [], _, _, _, _, h, _ => by simp at h
  | _ :: _, [], _, _, _, _, h => by simp at h
  | x :: l, y :: k, 0, a, b, h1, h2 => by
    simp at h1 h2
    subst h1; subst h2
    exact ⟨[], (List.zipWith f l k).flatten, by simp, fun a' b' => by simp⟩
  | x :: l, y :: k, d + 1, a, b, h1, h2 => by
    obtain ⟨A, B, e1, e2⟩ := zip_open f (l := l) (k := k) (d := d) (a := a) (b := b) (by simpa using h1) (by simpa using h2)
    exact ⟨f x y ++ A, B, by simp [e1], fun a' b' => by simp [e2]⟩
theorem lds_open {g : NdG} {m : Nd} {d : Nat} {o : Option Ld} {q : Nat × Value × List Blk} (h1 : m.leads[d]? = some o) (h2 : g.ld[d]? = some q) :
    ∃ A B, ldBs g m = A ++ (ldB o q ++ B) ∧ ∀ o' q' (m' : Nd) (g' : NdG), m'.leads = m.leads.set d o' → g'.ld = g.ld.set d q' → ldBs g' m' = A ++ (ldB o' q' ++ B) := by
  obtain ⟨A, B, e1, e2⟩ := zip_open ldB h1 h2
  refine ⟨A, B, e1, fun o' q' m' g' h3 h4 => ?_⟩
  unfold ldBs
  rw [h3, h4]
  exact e2 o' q'
theorem set_self {α : Type} {l : List α} {d : Nat} {x : α} (h : l[d]? = some x) : l.set d x = l := by
  refine List.ext_getElem? fun i => ?_
  rw [List.getElem?_set]
  split
  · rename_i e
    subst e
    rw [h, if_pos (List.getElem?_eq_some_iff.1 h).1]
  · rfl
theorem ldVs_set {g g' : NdG} {m m' : Nd} {d : Nat} {o' : Option Ld} {q' : Nat × Value × List Blk} (h3 : m'.leads = m.leads.set d o') (h4 : g'.ld = g.ld.set d q') : ldVs g' m' = (ldVs g m).set d (ldV o' q') := by
  unfold ldVs
  rw [h3, h4]
  refine List.ext_getElem? fun i => ?_
  simp only [List.getElem?_zipWith, List.getElem?_set, List.length_zipWith]
  by_cases hd : d = i
  · subst hd
    simp only [if_true]
    by_cases ha : d < m.leads.length
    · by_cases hb : d < g.ld.length
      · have : d < min m.leads.length g.ld.length := by omega
        simp [ha, hb, this]
      · have : ¬ d < min m.leads.length g.ld.length := by omega
        simp [ha, hb]; omega
    · have : ¬ d < min m.leads.length g.ld.length := by omega
      simp [ha]; omega
  · simp only [if_neg hd]
theorem NdOk.lead {g : NdG} {m : Nd} (h : NdOk g m) {d : Nat} {x : Ld} {q : Nat × Value × List Blk} (hx : LdOk q.2.1 q.2.2 x) : NdOk { g with ld := g.ld.set d q } { m with leads := m.leads.set d (some x) } := by
  refine ⟨by simp [h.ld], fun e y hy p hp => ?_, h.map⟩
  simp only [List.getElem?_set] at hy hp
  by_cases hde : d = e
  · rw [if_pos hde] at hy hp
    split at hy
    · split at hp
      · cases hy; cases hp; exact hx
      · cases hp
    · cases hy
  · rw [if_neg hde] at hy hp
    exact h.lok e y hy p hp
theorem NdOk.hear {g : NdG} {m : Nd} (h : NdOk g m) {d : Nat} {x : Ld} {q : Nat × Value × List Blk} (h2 : g.ld[d]? = some q) (hx : LdOk q.2.1 q.2.2 x) : NdOk g { m with leads := m.leads.set d (some x) } := by
  have := h.lead (d := d) hx
  rw [set_self h2] at this
  exact this
theorem siteM_len (id : Int) (ref : Int → Bool) (m : Pl) (j : Jn) (f : Fr) : (siteM id ref m j f).2.2.1.length ≤ 1 := by
  unfold siteM
  split
  · simp
  split
  · simp
  split
  · simp
  · simp only
    split <;> simp
theorem hearW_len (M : Wm) (s : Int) (f : Fr) : (hearW M s f).2.1.length ≤ 1 := by
  unfold hearW hearNd
  split
  · simp
  · rename_i j ref _
    split
    · simp
    · exact siteM_len s ref _ j f
theorem errs_ls {tab : List (Nat × Nat)} {T : Nat} {E : Nat → Addr} {cs : List Nat} {L L' : Heap} (h : Errs tab T E cs L) (hl : LS L.flatten L'.flatten) : Errs tab T E cs L' := h.mono fun _ _ hb => hl.mem hb
theorem ls_mid {c A B : List Blk} {D : Heap} : LS (c :: A :: B :: D).flatten ((A ++ (c ++ B)) :: D).flatten := by
  simp only [List.flatten_cons, List.append_assoc]
  refine LS.of_perm ?_
  rw [← List.append_assoc, ← List.append_assoc A c]
  exact List.perm_append_comm.append_right _
theorem ls_mid' {c A B : List Blk} {D : Heap} : LS ((A ++ (c ++ B)) :: D).flatten (c :: A :: B :: D).flatten := by
  simp only [List.flatten_cons, List.append_assoc]
  refine LS.of_perm ?_
  rw [← List.append_assoc, ← List.append_assoc c A]
  exact List.perm_append_comm.append_right _
theorem ls7 {x0 x1 x2 x3 x4 x5 x6 c A B : List Blk} {D : Heap} : LS (x0 :: x1 :: x2 :: x3 :: x4 :: x5 :: x6 :: (A ++ (c ++ B)) :: D).flatten (x0 :: x1 :: x2 :: x3 :: x4 :: x5 :: x6 :: c :: A :: B :: D).flatten := LS.k (LS.k (LS.k (LS.k (LS.k (LS.k (LS.k ls_mid'))))))
theorem Rd.ls {α : Type} {enc : α → List Value} {sz : Nat} {L L' : Heap} {a : Option Addr} {xs : List α} (h : Rd enc sz L a xs) (hl : LS L.flatten L'.flatten) : Rd enc sz L' a xs := h.mono fun _ _ hb => hl.mem hb
theorem WdIn.sp {L L' : Heap} {G : WdG} {M : Wm} (h : WdIn L G M) (hl : LS L.flatten L'.flatten) : WdIn L' G M := by
  obtain ⟨h1, ⟨a2, c2, e2, r2⟩, ⟨a3, c3, e3, r3⟩, ⟨a4, c4, e4, r4⟩, h5⟩ := h
  exact ⟨hl.mem h1, ⟨a2, c2, e2, r2.ls hl⟩, ⟨a3, c3, e3, r3.ls hl⟩, ⟨a4, c4, e4, r4.ls hl⟩, h5⟩
set_option maxHeartbeats 2000000 attribute [local irreducible] HW HO HQ HD HC QOp Has Upd Puts Gets seqQ blkQ loopQ fnQ actQ nextP unQ MapF
attribute [local irreducible] ndL jcells plC siteM ldL openM
theorem qmPv {ρ : Env} {L : Heap} {ty : TypeId} {pos : String} {af : Array Edge} {d : Option Tmp} {g : Option (Nat × Bool)} {r : Nat} {x y : Operand} {es : List MapEntry} {ck : Nat} {f : Int × Int → Bool} {a b : Int} {v : Bool} (h00 : okv ρ = true := by exact rfl) (hx : ev ρ x = some (.map (some r)) := by exact rfl) (hy : ev ρ y = some (.agg ⟨[iv a, iv b]⟩) := by exact rfl)
    (hb : Has L r (.map ⟨es⟩ ck) := by (repeat (first | assumption | exact Zh | exact has_mem (by assumption) | apply has_in | apply Zd))) (hF : MapF pk es f := by assumption) (hv : f (a, b) = v := by assumption) :
    QOp Tryz.prog ⟨d, .lookup 107 x y false, ty, pos, af, g⟩ ρ L (.bool v) := hv ▸ qmP h00 hx hy (hb := hb) (hF := hF)
set_option maxHeartbeats 1000000 in
theorem wdeliver_calls (T : Nat) (E : Nat → Addr) (G : WdG) (M : Wm) (k : Int) (L : Heap) (hG : Er T E [2, 3, 4, 5, 6] L) (hW : WdOk G M) (hM : WI M) (hl : M.l.length ≤ 99999999) :
    HC Tryz.prog 23 [pt G.wp 0, iv k] (wdH G M ++ L) (fun v L' => v = eV T E (deliverW M k).2 ∧ WdP G (deliverW M k).1 L L') := by
  unfold deliverW
  have hself := wdP_self hW L
  have hI := wd_in hW L
  have ka := wat_calls T E G M k _ (er_wdH hG.sub G M) hI
  cases he : wat M k with
  | some e =>
    simp only [he] at ka ⊢
    generalize wdH G M ++ L = H at *
    refine Za (fun _ _ => Tryz.call23 _ _) Tryz.func23 rfl Tryz.ntmps23 (Nat.le_of_ble_eq_true rfl) ?_; simp only [args0, Nat.reduceAdd]
    repeat' (first | refine uN ?_ | refine g_k S ?_ | refine g_w S ?_ | refine uC (ka) ?_ | refine uD0 (fun _ => ka) ?_ | refine uD1 (fun _ => ka) ?_ | refine uD2 (fun _ => ka) ?_ | refine uD3 (fun _ => ka) ?_ | refine g_q qmPv ?_ | refine k_q qmPv ?_ | refine d_q 100 (by exact rfl) (fun _ => qmPv) ?_ | (refine uB ?_; intro b) | (refine uP ?_ ?_ <;> (intro h; ((try simp only [zs, ne_eq, and_true, true_and, eq_self, reduceCtorEq] at h); try exact zx))) | refine da 101 ?_ | fail)
    exact er1 rfl ⟨rfl, hself⟩
  | none =>
    simp only [he] at ka ⊢
    clear hself
    have hk : 0 ≤ k ∧ k < M.l.length := by
      unfold wat at he
      split at he
      · cases he
      · omega
    obtain ⟨hk0, hk1⟩ := hk
    have hgk : M.l[k.toNat]'(by omega) = M.l.getD k.toNat zeroF := by
      rw [List.getD, List.getElem?_eq_getElem (by omega)]; rfl
    obtain ⟨hbad, hto, hfr⟩ := hM.fr (M.l.getD k.toNat zeroF) (by rw [← hgk]; exact List.getElem_mem _)
    have hM1 := hM.erase k.toNat
    have hW1 : ∀ lv lc, FrVec lv (M.l.eraseIdx k.toNat) lc → WdOk { G with lv := lv, lc := lc } { M with l := M.l.eraseIdx k.toNat } := fun lv lc hv => hW.setL hv
    have kd := fun L => delete_calls G.lv M.l G.lc k (k + 1) L hW.l (by omega) (by omega) (by omega) rfl
    obtain ⟨a5, cap5, he5, -, hR5⟩ := hW.l.rd fc_len
    have hR6 := (hR5 []).mono (L' := G.lc :: []) fun b o hb => by
      simp only [Has, List.flatten_cons, List.flatten_nil, List.append_nil] at hb ⊢
      simp [hb]
    obtain ⟨b5, i5, l5, F5, fr5, e6, hb5, hg5⟩ := hR6.at (j := k) (by omega) (by omega)
    have hb5' : ∀ H, Has (G.lc :: H) b5 (.cells ⟨l5⟩ F5 fr5) := fun H => by
      simp only [Has, List.flatten_cons, List.flatten_nil, List.append_nil] at hb5
      exact has_mem hb5
    rw [hgk] at hg5
    rw [e6] at he5
    clear hR5 hR6 e6 hb5
    have hn0 : 0 ≤ (M.l.getD k.toNat zeroF).to := by unfold badF at hbad; omega
    have hn1 : (M.l.getD k.toNat zeroF).to < M.n.length := by rw [hM.wn]; exact hto
    have hd0 : 0 ≤ (M.l.getD k.toNat zeroF).dl ∧ (M.l.getD k.toNat zeroF).dl < 6 := by unfold badF at hbad; omega
    have hnp := npIn_of hW hn0 hn1 (H := G.nc :: []) (fun b o hb => has_mem hb)
    have hN := wd_hasN hW.ndl hn0 hn1 L
    have hF := hW.br
    obtain ⟨⟨nb, ni, nl, nF, nfr, ncap, e7, hnb, hng⟩, -, -⟩ := hnp
    have hnb' : ∀ H, Has (G.nc :: H) nb (.cells ⟨nl⟩ nF nfr) := fun H => by
      simp only [Has, List.flatten_cons, List.flatten_nil, List.append_nil] at hnb
      exact has_mem hnb
    clear hnb
    have e8 : ∀ l, (ndAt { M with l := l } (M.l.getD k.toNat zeroF).to) = ndAt M (M.l.getD k.toNat zeroF).to := fun l => rfl
    rw [e8]
    have hni := wi_at hM hn0 hn1
    have hok := wdOk_at hW hn0 hn1
    generalize hf : M.l.getD k.toNat zeroF = f at *
    have hcl : ∀ lv lc, FrVec lv (M.l.eraseIdx k.toNat) lc → WdP G { M with l := M.l.eraseIdx k.toNat } L (wdH { G with lv := lv, lc := lc } { M with l := M.l.eraseIdx k.toNat } ++ L) := fun lv lc hv => wdP_top (hW1 lv lc hv) rfl rfl
    have hsc : (ndAt M f.to).site = none ∨ ∃ q, (ndAt M f.to).site = some q := by
      cases (ndAt M f.to).site with
      | none => exact .inl rfl
      | some q => exact .inr ⟨q, rfl⟩
    rcases hsc with hs | ⟨q, hs⟩
    · rw [if_pos (.inl (by rw [hs]; rfl))]
      obtain ⟨ffr, fto, fdl, fkd, fatt, fys, fs⟩ := f
      simp only at hbad hto hfr hg5 hng hn0 hn1 hN hs ⊢
      unfold ndO at hN
      rw [hs] at hN
      have g0 : (ndL (.pointer none) (npAt G fto).bp (ldVs (npAt G fto) (ndAt M fto)) (ndAt M fto).done)[0 + 0]? = some (.pointer none) := ndL_pre rfl
      simp only [wdH, wdT, wdO, List.cons_append, List.nil_append] at hcl ka ⊢
      rw [e7, he5] at ka ⊢
      rw [e7] at hcl
      rw [he5] at kd
      have hb5a := hb5' (G.ec :: ndsB G.nd M.n 0 :: L)
      have hnba := hnb' ([(G.mb, .map ⟨G.es⟩ G.ck)] :: G.ec :: ndsB G.nd M.n 0 :: L)
      refine Za (fun _ _ => Tryz.call23 _ _) Tryz.func23 rfl Tryz.ntmps23 (Nat.le_of_ble_eq_true rfl) ?_; simp only [args0, Nat.reduceAdd]
      repeat' (first | refine uN ?_ | refine g_k S ?_ | refine g_w S ?_ | refine uC (ka) ?_ | refine uD0 (fun _ => ka) ?_ | refine uD1 (fun _ => ka) ?_ | refine uD2 (fun _ => ka) ?_ | refine uD3 (fun _ => ka) ?_ | refine g_q qmPv ?_ | refine k_q qmPv ?_ | refine d_q 100 (by exact rfl) (fun _ => qmPv) ?_ | (refine uB ?_; intro b) | (refine uP ?_ ?_ <;> (intro h; ((try simp only [zs, ne_eq, and_true, true_and, eq_self, reduceCtorEq] at h); try exact zx))) | refine da 101 ?_ | fail)
      refine fo 5 ?_
      refine gc (kd _) ?_
      rintro v L' ⟨c', hv', rfl⟩
      obtain ⟨a6, cap6, rfl, -, -⟩ := hv'.rd fc_len
      repeat' (first | refine uN ?_ | refine g_k S ?_ | refine g_w S ?_ | refine uC (ka) ?_ | refine uD0 (fun _ => ka) ?_ | refine uD1 (fun _ => ka) ?_ | refine uD2 (fun _ => ka) ?_ | refine uD3 (fun _ => ka) ?_ | refine g_q qmPv ?_ | refine k_q qmPv ?_ | refine d_q 100 (by exact rfl) (fun _ => qmPv) ?_ | (refine uB ?_; intro b) | (refine uP ?_ ?_ <;> (intro h; ((try simp only [zs, ne_eq, and_true, true_and, eq_self, reduceCtorEq] at h); try exact zx))) | refine da 101 ?_ | fail)
      all_goals exact sp1 uL ⟨rfl, hcl _ c' hv'⟩
    · obtain ⟨j, ref⟩ := q
      have hbr0 : ∀ b, M.br (linkP f) = b → M.br (min f.fr f.to, max f.fr f.to) = b := fun b h => h
      obtain ⟨dn, hdn⟩ := Int.eq_ofNat_of_zero_le hd0.1
      have hd6 : dn < 6 := by omega
      have g0 : (ndL (pt (npAt G f.to).sp 0) (npAt G f.to).bp (ldVs (npAt G f.to) (ndAt M f.to)) (ndAt M f.to).done)[0 + 0]? = some (pt (npAt G f.to).sp 0) := ndL_pre rfl
      have hm1 : (ndAt M f.to).leads[dn]? = some ((ndAt M f.to).leads.getD dn none) := getD_some (by rw [hni.leads]; exact hd6)
      obtain ⟨q, hq⟩ : ∃ q, (npAt G f.to).ld[dn]? = some q := ⟨_, List.getElem?_eq_getElem (by rw [hok.ld]; exact hd6)⟩
      have hv := ldVs_at hm1 hq
      have gL := ndL_lead (sv := pt (npAt G f.to).sp 0) (bp := (npAt G f.to).bp) (dn := (ndAt M f.to).done) hv
      have hNv : ndO (npAt G f.to) (ndAt M f.to) = .cells ⟨ndL (pt (npAt G f.to).sp 0) (npAt G f.to).bp (ldVs (npAt G f.to) (ndAt M f.to)) (ndAt M f.to).done⟩ 122 := by unfold ndO; rw [hs]; rfl
      by_cases hbr : M.br (linkP f) = true
      · rw [if_pos (.inr hbr)]
        have hbr' := hbr0 _ hbr
        rw [hNv] at hN
        obtain ⟨ffr, fto, fdl, fkd, fatt, fys, fs⟩ := f
        simp only at hbad hto hfr hg5 hng hn0 hn1 hN hs hbr' g0 ⊢
        simp only [wdH, wdT, wdO, List.cons_append, List.nil_append] at hcl ka ⊢
        rw [e7, he5] at ka ⊢
        rw [e7] at hcl
        rw [he5] at kd
        have hb5a := hb5' (G.ec :: ndsB G.nd M.n 0 :: L)
        have hnba := hnb' ([(G.mb, .map ⟨G.es⟩ G.ck)] :: G.ec :: ndsB G.nd M.n 0 :: L)
        refine Za (fun _ _ => Tryz.call23 _ _) Tryz.func23 rfl Tryz.ntmps23 (Nat.le_of_ble_eq_true rfl) ?_; simp only [args0, Nat.reduceAdd]
        repeat' (first | refine uN ?_ | refine g_k S ?_ | refine g_w S ?_ | refine uC (ka) ?_ | refine uD0 (fun _ => ka) ?_ | refine uD1 (fun _ => ka) ?_ | refine uD2 (fun _ => ka) ?_ | refine uD3 (fun _ => ka) ?_ | refine g_q qmPv ?_ | refine k_q qmPv ?_ | refine d_q 100 (by exact rfl) (fun _ => qmPv) ?_ | (refine uB ?_; intro b) | (refine uP ?_ ?_ <;> (intro h; ((try simp only [zs, ne_eq, and_true, true_and, eq_self, reduceCtorEq] at h); try exact zx))) | refine da 101 ?_ | fail)
        refine fo 5 ?_
        refine gc (kd _) ?_
        rintro v L' ⟨c', hv', rfl⟩
        obtain ⟨a6, cap6, rfl, -, -⟩ := hv'.rd fc_len
        repeat' (first | refine uN ?_ | refine g_k S ?_ | refine g_w S ?_ | refine uC (ka) ?_ | refine uD0 (fun _ => ka) ?_ | refine uD1 (fun _ => ka) ?_ | refine uD2 (fun _ => ka) ?_ | refine uD3 (fun _ => ka) ?_ | refine g_q qmPv ?_ | refine k_q qmPv ?_ | refine d_q 100 (by exact rfl) (fun _ => qmPv) ?_ | (refine uB ?_; intro b) | (refine uP ?_ ?_ <;> (intro h; ((try simp only [zs, ne_eq, and_true, true_and, eq_self, reduceCtorEq] at h); try exact zx))) | refine da 101 ?_ | fail)
        all_goals exact sp1 uL ⟨rfl, hcl _ c' hv'⟩
      · have hbrf : M.br (linkP f) = false := by simpa using hbr
        rw [if_neg (by simp [hbrf, hs])]
        have hbr' := hbr0 _ hbrf
        by_cases hkd : f.kd = 2 ∨ f.kd = 4 ∨ f.kd = 6
        · rw [if_pos hkd]
          rw [show f.dl.toNat = dn by omega]
          cases hx : (ndAt M f.to).leads.getD dn none with
          | none =>
            simp only
            rw [hx] at gL
            simp only [ldV] at gL
            rw [hNv] at hN
            obtain ⟨ffr, fto, fdl, fkd, fatt, fys, fs⟩ := f
            simp only at hbad hto hfr hg5 hng hn0 hn1 hN hs hbr' g0 gL hkd hdn ⊢
            subst hdn
            simp only [wdH, wdT, wdO, List.cons_append, List.nil_append] at hcl ka ⊢
            rw [e7, he5] at ka ⊢
            rw [e7] at hcl
            rw [he5] at kd
            have hb5a := hb5' (G.ec :: ndsB G.nd M.n 0 :: L)
            have hnba := hnb' ([(G.mb, .map ⟨G.es⟩ G.ck)] :: G.ec :: ndsB G.nd M.n 0 :: L)
            refine Za (fun _ _ => Tryz.call23 _ _) Tryz.func23 rfl Tryz.ntmps23 (Nat.le_of_ble_eq_true rfl) ?_; simp only [args0, Nat.reduceAdd]
            repeat' (first | refine uN ?_ | refine g_k S ?_ | refine g_w S ?_ | refine uC (ka) ?_ | refine uD0 (fun _ => ka) ?_ | refine uD1 (fun _ => ka) ?_ | refine uD2 (fun _ => ka) ?_ | refine uD3 (fun _ => ka) ?_ | refine g_q qmPv ?_ | refine k_q qmPv ?_ | refine d_q 100 (by exact rfl) (fun _ => qmPv) ?_ | (refine uB ?_; intro b) | (refine uP ?_ ?_ <;> (intro h; ((try simp only [zs, ne_eq, and_true, true_and, eq_self, reduceCtorEq] at h); try exact zx))) | refine da 101 ?_ | fail)
            refine fo 5 ?_
            refine gc (kd _) ?_
            rintro v L' ⟨c', hv', rfl⟩
            obtain ⟨a6, cap6, rfl, -, -⟩ := hv'.rd fc_len
            repeat' (first | refine uN ?_ | refine g_k S ?_ | refine g_w S ?_ | refine uC (ka) ?_ | refine uD0 (fun _ => ka) ?_ | refine uD1 (fun _ => ka) ?_ | refine uD2 (fun _ => ka) ?_ | refine uD3 (fun _ => ka) ?_ | refine g_q qmPv ?_ | refine k_q qmPv ?_ | refine d_q 100 (by exact rfl) (fun _ => qmPv) ?_ | (refine uB ?_; intro b) | (refine uP ?_ ?_ <;> (intro h; ((try simp only [zs, ne_eq, and_true, true_and, eq_self, reduceCtorEq] at h); try exact zx))) | refine da 101 ?_ | fail)
            all_goals exact sp1 uL ⟨rfl, hcl _ c' hv'⟩
          | some x =>
            simp only
            rw [hx] at hm1 gL hv
            simp only [ldV] at gL hv
            have hLI := hni.ldi dn x hm1
            have hLO := hok.lok dn x hm1 q hq
            have hhd : x.heard < 2 ^ x.w.length := by rw [hLI.ww]; exact hLI.heard
            have hLs : LdIs M.w x.id x.deal x.att x := ⟨rfl, rfl, rfl, hLI.ww, hLI.told, hLI.heard⟩
            have hLh := hLs.hear f
            have hLO' := hLs.ok hLh hLO
            have hhl := hear_len x f
            have hwl := hM.wl
            rw [hLI.ww] at hhl
            refine HC.node (M' := { setN { M with l := M.l.eraseIdx k.toNat } f.to { ndAt M f.to with leads := (ndAt M f.to).leads.set dn (some (hearM x f).1) } with l := M.l.eraseIdx k.toNat ++ (hearM x f).2 }) hW hn0 hn1 ?_
            obtain ⟨A, B, eA, eB⟩ := lds_open hm1 hq
            have eB' := eB (some (hearM x f).1) q { ndAt M f.to with leads := (ndAt M f.to).leads.set dn (some (hearM x f).1) } (npAt G f.to) rfl (set_self hq).symm
            have eV' : ldVs (npAt G f.to) { ndAt M f.to with leads := (ndAt M f.to).leads.set dn (some (hearM x f).1) } = ldVs (npAt G f.to) (ndAt M f.to) := by
              rw [ldVs_set (g := npAt G f.to) (m := ndAt M f.to) (o' := some (hearM x f).1) (q' := q) rfl (set_self hq).symm]
              exact set_self hv
            have hokD := hok.hear hq hLO'
            have hls : ∀ X, LS (wdOp G f.to (npAt G f.to) (ndAt M f.to) X L).flatten ([(G.wp, wdO G)] :: G.ec :: [((npAt G f.to).np, .cells ⟨ndL (pt (npAt G f.to).sp 0) (npAt G f.to).bp (ldVs (npAt G f.to) (ndAt M f.to)) (ndAt M f.to).done⟩ 122)] :: siC (npAt G f.to).sp (npAt G f.to).bj (npAt G f.to).mb f.to :: mpC (npAt G f.to).mb (npAt G f.to).es (npAt G f.to).ck :: plC (npAt G f.to).bp (npAt G f.to).ba (ndAt M f.to).pl :: jC (npAt G f.to).bj (npAt G f.to).bp j :: ldC q.1 q.2.1 q.2.2 x :: A :: B :: G.lc :: G.wc :: G.nc :: [(G.mb, .map ⟨G.es⟩ G.ck)] :: X :: L).flatten := fun X => by
              simp only [wdOp, ndB, hNv, hs, siS, siN, siJ]
              rw [eA]
              iterate 7 refine LS.k ?_
              exact ls_mid'
            have kat := wat_calls T E G M k _ (errs_ls (er_wdOp hG.sub G f.to (npAt G f.to) (ndAt M f.to) (ndsX G.nd M.n 0 f.to.toNat)) (hls _)) ((wdOp_in hW f.to _ _ _ L).sp (hls _))
            rw [he] at kat
            clear hls
            have kh := fun L hG => hear_calls T E q.1 q.2.1 q.2.2 x f L hG hLO hhd
            generalize ndsX G.nd M.n 0 f.to.toNat = X at *
            simp only [wdO] at kat
            simp only [wdOp, ndB, hNv, hs, stV, siS, siN, siJ, wdO]
            rw [eA]
            rw [e7, he5] at kat ⊢
            rw [he5] at kd
            generalize hmm : ndAt M f.to = m at *
            generalize npAt G f.to = g at *
            have hokD2 : NdOk g ⟨m.pl, some (j, ref), m.leads.set dn (some (hearM x f).1), m.done⟩ := by
              have := hokD
              rw [hs] at this
              exact this
            have eB2 := eB (some (hearM x f).1) q ⟨m.pl, some (j, ref), m.leads.set dn (some (hearM x f).1), m.done⟩ g rfl (set_self hq).symm
            have eV2 : ldVs g ⟨m.pl, some (j, ref), m.leads.set dn (some (hearM x f).1), m.done⟩ = ldVs g m := eV'
            obtain ⟨ffr, fto, fdl, fkd, fatt, fys, fs⟩ := f
            simp only at hbad hto hfr hg5 hng hn0 hn1 hs hbr' g0 gL hkd hdn kh hhl hLO' hLh eB2 eV2 hokD2 kat ⊢
            clear eB' eV' hokD
            subst hdn
            have hb5a := hb5' (G.wc :: G.nc :: [(G.mb, .map ⟨G.es⟩ G.ck)] :: X :: L)
            have hnba := hnb' ([(G.mb, .map ⟨G.es⟩ G.ck)] :: X :: L)
            refine HC.sp (L' := [(G.wp, .cells ⟨[G.wv, sl nb ni M.n.length ncap, .map (some G.mb), sl b5 i5 M.l.length cap5, G.ev]⟩ 110)] :: G.ec :: [(g.np, .cells ⟨ndL (pt g.sp 0) g.bp (ldVs g m) m.done⟩ 122)] :: siC g.sp g.bj g.mb fto :: mpC g.mb g.es g.ck :: plC g.bp g.ba m.pl :: jC g.bj g.bp j :: ldC q.1 q.2.1 q.2.2 x :: A :: B :: G.lc :: G.wc :: G.nc :: [(G.mb, .map ⟨G.es⟩ G.ck)] :: X :: L) ?_ ?_
            · refine Za (fun _ _ => Tryz.call23 _ _) Tryz.func23 rfl Tryz.ntmps23 (Nat.le_of_ble_eq_true rfl) ?_; simp only [args0, Nat.reduceAdd]
              repeat' (first | refine uN ?_ | refine g_k S ?_ | refine g_w S ?_ | refine uC (kat) ?_ | refine uD0 (fun _ => kat) ?_ | refine uD1 (fun _ => kat) ?_ | refine uD2 (fun _ => kat) ?_ | refine uD3 (fun _ => kat) ?_ | refine g_q qmPv ?_ | refine k_q qmPv ?_ | refine d_q 100 (by exact rfl) (fun _ => qmPv) ?_ | (refine uB ?_; intro b) | (refine uP ?_ ?_ <;> (intro h; ((try simp only [zs, ne_eq, and_true, true_and, eq_self, reduceCtorEq] at h); try exact zx))) | refine da 101 ?_ | fail)
              refine fo 11 ?_
              refine gc (kd _) ?_
              rintro v L' ⟨c', hv', rfl⟩
              obtain ⟨a6, cap6, rfl, -, -⟩ := hv'.rd fc_len
              repeat' (first | refine uN ?_ | refine g_k S ?_ | refine g_w S ?_ | refine uC (kat) ?_ | refine uD0 (fun _ => kat) ?_ | refine uD1 (fun _ => kat) ?_ | refine uD2 (fun _ => kat) ?_ | refine uD3 (fun _ => kat) ?_ | refine g_q qmPv ?_ | refine k_q qmPv ?_ | refine d_q 100 (by exact rfl) (fun _ => qmPv) ?_ | (refine uB ?_; intro b) | (refine uP ?_ ?_ <;> (intro h; ((try simp only [zs, ne_eq, and_true, true_and, eq_self, reduceCtorEq] at h); try exact zx))) | refine da 101 ?_ | fail)
              all_goals refine fo 9 ?_
              all_goals refine gc (kh _ (by repeat (first | exact hG | exact hG.sub | apply Errs.cons))) ?_
              all_goals rintro v L' ⟨c2, hv2, rfl⟩
              all_goals obtain ⟨a7, cap7, rfl, -, hR7⟩ := hv2.rd fc_len
              all_goals repeat' (first | refine uN ?_ | refine g_k S ?_ | refine g_w S ?_ | refine uC (kat) ?_ | refine uD0 (fun _ => kat) ?_ | refine uD1 (fun _ => kat) ?_ | refine uD2 (fun _ => kat) ?_ | refine uD3 (fun _ => kat) ?_ | refine g_q qmPv ?_ | refine k_q qmPv ?_ | refine d_q 100 (by exact rfl) (fun _ => qmPv) ?_ | (refine uB ?_; intro b) | (refine uP ?_ ?_ <;> (intro h; ((try simp only [zs, ne_eq, and_true, true_and, eq_self, reduceCtorEq] at h); try exact zx))) | refine da 101 ?_ | fail)
              all_goals refine fo 2 ?_
              all_goals refine wpA S hv' (Rd.cons (hR7 _) _) fc_len fc_one ?_ (hby := by simp only [List.length_eraseIdx]; split <;> omega) (hmax := by simp only [List.length_eraseIdx]; split <;> omega)
              all_goals intro v'' c'' hv''
              all_goals obtain ⟨a8, cap8, rfl, -, -⟩ := hv''.rd fc_len
              all_goals repeat' (first | refine uN ?_ | refine g_k S ?_ | refine g_w S ?_ | refine uC (kat) ?_ | refine uD0 (fun _ => kat) ?_ | refine uD1 (fun _ => kat) ?_ | refine uD2 (fun _ => kat) ?_ | refine uD3 (fun _ => kat) ?_ | refine g_q qmPv ?_ | refine k_q qmPv ?_ | refine d_q 100 (by exact rfl) (fun _ => qmPv) ?_ | (refine uB ?_; intro b) | (refine uP ?_ ?_ <;> (intro h; ((try simp only [zs, ne_eq, and_true, true_and, eq_self, reduceCtorEq] at h); try exact zx))) | refine da 101 ?_ | fail)
              all_goals refine sp1 (L' := wdOp { G with lv := .slice a8 (M.l.eraseIdx k.toNat ++ (hearM x ⟨ffr, fto, dn, fkd, fatt, fys, fs⟩).2).length cap8, lc := c'' } fto g ⟨m.pl, some (j, ref), m.leads.set dn (some (hearM x ⟨ffr, fto, dn, fkd, fatt, fys, fs⟩).1), m.done⟩ X L) ?_ ⟨rfl, { G with lv := .slice a8 (M.l.eraseIdx k.toNat ++ (hearM x ⟨ffr, fto, dn, fkd, fatt, fys, fs⟩).2).length cap8, lc := c'' }, { M with l := M.l.eraseIdx k.toNat ++ (hearM x ⟨ffr, fto, dn, fkd, fatt, fys, fs⟩).2 }, g, ⟨m.pl, some (j, ref), m.leads.set dn (some (hearM x ⟨ffr, fto, dn, fkd, fatt, fys, fs⟩).1), m.done⟩, hW.setL hv'', rfl, rfl, rfl, hokD2, rfl, rfl, rfl⟩
              all_goals simp only [wdOp, ndB, ndO, stV, siS, siN, siJ, wdO, eV2]
              all_goals rw [eB2, e7]
              all_goals simp only [ldB, ldC]
              all_goals exact LS.trans ls7 uL
            · iterate 7 refine LS.k ?_
              exact ls_mid
        · rw [if_neg hkd]
          have kh := fun lv lc hv L hG => whearW_calls T E { G with lv := lv, lc := lc } { M with l := M.l.eraseIdx k.toNat } f.to f L hG (hW1 lv lc hv) hM1 hn0 hn1 (by rw [e8, hs]; simp)
          have hhl := hearW_len { M with l := M.l.eraseIdx k.toNat } f.to f
          have hml : (hearW { M with l := M.l.eraseIdx k.toNat } f.to f).1.l = M.l.eraseIdx k.toNat := rfl
          rw [hNv] at hN
          obtain ⟨ffr, fto, fdl, fkd, fatt, fys, fs⟩ := f
          simp only at hbad hto hfr hg5 hng hn0 hn1 hN hs hbr' g0 hkd kh hhl hml ⊢
          clear hdn
          generalize hearW { M with l := M.l.eraseIdx k.toNat } fto ⟨ffr, fto, fdl, fkd, fatt, fys, fs⟩ = R at *
          simp only [wdH, wdT, wdO, List.cons_append, List.nil_append] at ka ⊢
          rw [e7, he5] at ka ⊢
          rw [he5] at kd
          have hb5a := hb5' (G.ec :: ndsB G.nd M.n 0 :: L)
          have hnba := hnb' ([(G.mb, .map ⟨G.es⟩ G.ck)] :: G.ec :: ndsB G.nd M.n 0 :: L)
          refine Za (fun _ _ => Tryz.call23 _ _) Tryz.func23 rfl Tryz.ntmps23 (Nat.le_of_ble_eq_true rfl) ?_; simp only [args0, Nat.reduceAdd]
          repeat' (first | refine uN ?_ | refine g_k S ?_ | refine g_w S ?_ | refine uC (ka) ?_ | refine uD0 (fun _ => ka) ?_ | refine uD1 (fun _ => ka) ?_ | refine uD2 (fun _ => ka) ?_ | refine uD3 (fun _ => ka) ?_ | refine g_q qmPv ?_ | refine k_q qmPv ?_ | refine d_q 100 (by exact rfl) (fun _ => qmPv) ?_ | (refine uB ?_; intro b) | (refine uP ?_ ?_ <;> (intro h; ((try simp only [zs, ne_eq, and_true, true_and, eq_self, reduceCtorEq] at h); try exact zx))) | refine da 101 ?_ | fail)
          refine fo 5 ?_
          refine gc (kd _) ?_
          rintro v L' ⟨c', hv', rfl⟩
          obtain ⟨a6, cap6, rfl, -, -⟩ := hv'.rd fc_len
          repeat' (first | refine uN ?_ | refine g_k S ?_ | refine g_w S ?_ | refine uC (ka) ?_ | refine uD0 (fun _ => ka) ?_ | refine uD1 (fun _ => ka) ?_ | refine uD2 (fun _ => ka) ?_ | refine uD3 (fun _ => ka) ?_ | refine g_q qmPv ?_ | refine k_q qmPv ?_ | refine d_q 100 (by exact rfl) (fun _ => qmPv) ?_ | (refine uB ?_; intro b) | (refine uP ?_ ?_ <;> (intro h; ((try simp only [zs, ne_eq, and_true, true_and, eq_self, reduceCtorEq] at h); try exact zx))) | refine da 101 ?_ | fail)
          refine ho_sp (L' := wdH { G with lv := .slice a6 (M.l.eraseIdx k.toNat).length cap6, lc := c' } { M with l := M.l.eraseIdx k.toNat } ++ L) ?_ ?_
          · refine gc (kh _ _ hv' _ (by repeat (first | exact hG | exact hG.sub | apply Errs.cons))) ?_
            rintro v L' ⟨c2, ⟨fv, hfv, rfl⟩, G2, e1, e2, hW2, rfl⟩
            obtain ⟨a7, cap7, rfl, -, hR7⟩ := hfv.rd fc_len
            obtain ⟨a8, cap8, he8, -, -⟩ := hW2.l.rd fc_len
            have hv2 := hW2.l
            rw [hml] at hv2 he8
            have hcl2 : ∀ lv lc, FrVec lv (M.l.eraseIdx k.toNat ++ R.2.1) lc → WdP G { R.1 with l := M.l.eraseIdx k.toNat ++ R.2.1 } L (wdH { G2 with lv := lv, lc := lc } { R.1 with l := M.l.eraseIdx k.toNat ++ R.2.1 } ++ L) := fun lv lc hv => ⟨{ G2 with lv := lv, lc := lc }, e1, e2, hW2.setL hv, rfl⟩
            simp only [wdH, wdT, wdO, List.cons_append, List.nil_append, e1] at hcl2 ⊢
            rw [he8] at hv2 ⊢
            repeat' (first | refine uN ?_ | refine g_k S ?_ | refine g_w S ?_ | refine uC (ka) ?_ | refine uD0 (fun _ => ka) ?_ | refine uD1 (fun _ => ka) ?_ | refine uD2 (fun _ => ka) ?_ | refine uD3 (fun _ => ka) ?_ | refine g_q qmPv ?_ | refine k_q qmPv ?_ | refine d_q 100 (by exact rfl) (fun _ => qmPv) ?_ | (refine uB ?_; intro b) | (refine uP ?_ ?_ <;> (intro h; ((try simp only [zs, ne_eq, and_true, true_and, eq_self, reduceCtorEq] at h); try exact zx))) | refine da 101 ?_ | fail)
            refine fo 4 ?_
            refine wpA S hv2 (Rd.cons ((hR7 []).mono fun b o hb => ?_) _) fc_len fc_one ?_ (hby := by simp only [List.length_eraseIdx]; split <;> omega) (hmax := by simp only [List.length_eraseIdx]; split <;> omega)
            · exact Zd (Zd (Zd (Zd (Zd (Zd (has_mem (by simpa [Has] using hb)))))))
            intro v'' c'' hv''
            obtain ⟨a9, cap9, rfl, -, -⟩ := hv''.rd fc_len
            repeat' (first | refine uN ?_ | refine g_k S ?_ | refine g_w S ?_ | refine uC (ka) ?_ | refine uD0 (fun _ => ka) ?_ | refine uD1 (fun _ => ka) ?_ | refine uD2 (fun _ => ka) ?_ | refine uD3 (fun _ => ka) ?_ | refine g_q qmPv ?_ | refine k_q qmPv ?_ | refine d_q 100 (by exact rfl) (fun _ => qmPv) ?_ | (refine uB ?_; intro b) | (refine uP ?_ ?_ <;> (intro h; ((try simp only [zs, ne_eq, and_true, true_and, eq_self, reduceCtorEq] at h); try exact zx))) | refine da 101 ?_ | fail)
            exact sp1 uL ⟨rfl, hcl2 _ c'' hv''⟩
          · simp only [wdH, wdT, wdO, List.cons_append, List.nil_append, e7]
            exact uL
end Go.HL
end

/-! WoT -/
section
namespace Go.HL
open Go Go.Proofs
set_option linter.unusedVariables false
set_option linter.unusedSimpArgs false
theorem wdP_shut {G G' : WdG} {M M1 : Wm} {s : Int} {g' : NdG} {m' : Nd} (L : Heap) (hl : G.nd.length = M.n.length) (h0 : 0 ≤ s) (h1 : s < M.n.length) (hW : WdOk G' M1) (e1 : G'.nd = G.nd) (e2 : M1.n = M.n) (e3 : G'.wp = G.wp) (hN : NdOk g' m') (e4 : g'.np = (npAt G s).np) :
    ∃ L', WdP G (setN M1 s m') L L' ∧ LS L'.flatten (wdOp G' s g' m' (ndsX G.nd M.n 0 s.toNat) L).flatten := by
  have hnp : g'.np = (npAt G' s).np := by rw [e4]; unfold npAt; rw [e1]
  refine ⟨wdH { G' with nd := G'.nd.set s.toNat g' } (setN M1 s m') ++ L, ⟨{ G' with nd := G'.nd.set s.toNat g' }, e3, ?_, hW.put h0 (by rw [e2]; exact h1) hN hnp, rfl⟩, ?_⟩
  · simp only
    rw [← e1]
    exact nps_set h0 (by rw [e1]; omega) hnp
  · simp only [wdH, setN, e1, e2]
    exact wd_close (G := G') h0 (by omega) (by omega) L
theorem LS.cutAt {a A x B : List Blk} {L L1 : Heap} (k0 : Nat) (h : LS a (A :: B :: L1).flatten) (hp : pickL k0 L = some (A ++ (x ++ B), L1) := by exact rfl) : LS a L.flatten := by
  refine LS.trans h (LS.trans ?_ (LS.of_perm (pickL_perm hp).symm.flatten))
  simp only [List.flatten_cons, List.append_assoc]
  exact LS.boths A (LS.skips x (LS.refl _))
theorem startM_len (m : Ld) : (startM m).length ≤ m.w.length := by
  unfold startM
  split <;> exact flat_len_le _ (allF_le m _ _) _
theorem leadE_none {M : Wm} (h : WI M) {s d a : Int} (h0 : 0 ≤ s) (h1 : s < M.n.length) (hd : 0 ≤ d ∧ d < 6) (ha : a ≤ 1048576) : leadE s d M.w a = none := by
  unfold leadE
  rw [h.w0]
  have := h.wn
  simp only
  rw [if_neg (by omega)]
theorem busy_any {M : Wm} {d : Int} {i : Nat} (hi : i < M.n.length) (hb : isBusy d (ndAt M (i : Int)) = true) : M.n.any (isBusy d) = true := by
  rw [List.any_eq_true]
  refine ⟨_, ?_, hb⟩
  unfold ndAt
  simp only [Int.toNat_natCast]
  rw [List.getD, List.getElem?_eq_getElem hi]
  exact List.getElem_mem _
theorem busy_none {M : Wm} {d : Int} (h : ∀ i, i < M.n.length → isBusy d (ndAt M (i : Int)) = false) : M.n.any (isBusy d) = false := by
  rw [List.any_eq_false]
  intro x hx
  obtain ⟨i, hi, rfl⟩ := List.mem_iff_getElem.1 hx
  have := h i hi
  unfold ndAt at this
  simp only [Int.toNat_natCast] at this
  rw [List.getD, List.getElem?_eq_getElem hi] at this
  simp only [Option.getD_some] at this
  rw [this]
  simp
set_option maxHeartbeats 2000000 attribute [local irreducible] HW HO HQ HD HC QOp Has Upd Puts Gets seqQ blkQ loopQ fnQ actQ nextP unQ MapF
attribute [local irreducible] ndL jcells plC siteM ldL openM
theorem wbegin_calls (T : Nat) (E : Nat → Addr) (G : WdG) (M : Wm) (s d : Int) (L : Heap) (hG : Er T E [2, 3, 4, 6, 8] L) (hW : WdOk G M) (hM : WI M) (hl : M.l.length ≤ 99999999) :
    HC Tryz.prog 21 [pt G.wp 0, iv s, iv d] (wdH G M ++ L) (fun v L' => v = eV T E (beginW M s d).2 ∧ WdP G (beginW M s d).1 L L') := by
  unfold beginW
  have hself := wdP_self hW L
  have hI := wd_in hW L
  have hwn := hM.wn
  have hwl := hM.wl
  obtain ⟨an, capn, hnv, hnr⟩ := hI.ns
  by_cases h : d < 0 ∨ 6 ≤ d ∨ s < 0 ∨ M.n.length ≤ s
  · simp only [if_pos h]
    have hG' := er_wdH hG G M
    have hw := hI.wp
    unfold wdO at hw
    rw [hnv] at hw
    generalize wdH G M ++ L = H at *
    refine Za (fun _ _ => Tryz.call21 _ _) Tryz.func21 rfl Tryz.ntmps21 (Nat.le_of_ble_eq_true rfl) ?_; simp only [args0, Nat.reduceAdd]
    repeat' (first | refine uN ?_ | refine g_k S ?_ | refine g_w S ?_ | (refine uB ?_; intro b) | refine dg S 100 (fun _ _ => ?_) | (refine uP ?_ ?_ <;> (intro h; ((try simp only [zs, ne_eq, and_true, true_and, eq_self, reduceCtorEq] at h); try exact zx))) | refine da 101 ?_ | fail)
    all_goals exact er1 rfl ⟨rfl, hself⟩
  simp only [if_neg h]
  rcases up_err (M := M) (s := s) with ⟨e, he⟩ | ⟨he, hn, h0, h1, j, ref, hs⟩
  · have ku := kup_H s hG.sub hW
    have hG' := er_wdH hG G M
    have hw := hI.wp
    unfold wdO at hw
    rw [hnv] at hw
    generalize wdH G M ++ L = H at *
    simp only [he] at ku ⊢
    refine Za (fun _ _ => Tryz.call21 _ _) Tryz.func21 rfl Tryz.ntmps21 (Nat.le_of_ble_eq_true rfl) ?_; simp only [args0, Nat.reduceAdd]
    repeat' (first | refine uN ?_ | refine g_k S ?_ | refine g_w S ?_ | refine uC (ku) ?_ | refine uD0 (fun _ => ku) ?_ | refine uD1 (fun _ => ku) ?_ | refine uD2 (fun _ => ku) ?_ | refine uD3 (fun _ => ku) ?_ | (refine uB ?_; intro b) | refine dg S 100 (fun _ _ => ?_) | (refine uP ?_ ?_ <;> (intro h; ((try simp only [zs, ne_eq, and_true, true_and, eq_self, reduceCtorEq] at h); try exact zx))) | refine da 101 ?_ | fail)
    exact er1 rfl ⟨rfl, hself⟩
  · simp only [he]
    have ku := kup_H s hG.sub hW
    have hG' := er_wdH hG G M
    have hw := hI.wp
    unfold wdO at hw
    rw [hnv] at hw
    generalize hH : wdH G M ++ L = H at *
    simp only [he, upV_up hn] at ku
    refine Za (fun _ _ => Tryz.call21 _ _) Tryz.func21 rfl Tryz.ntmps21 (Nat.le_of_ble_eq_true rfl) ?_; simp only [args0, Nat.reduceAdd]
    repeat' (first | refine uN ?_ | refine g_k S ?_ | refine g_w S ?_ | refine uC (ku) ?_ | refine uD0 (fun _ => ku) ?_ | refine uD1 (fun _ => ku) ?_ | refine uD2 (fun _ => ku) ?_ | refine uD3 (fun _ => ku) ?_ | (refine uB ?_; intro b) | refine dg S 100 (fun _ _ => ?_) | (refine uP ?_ ?_ <;> (intro h; ((try simp only [zs, ne_eq, and_true, true_and, eq_self, reduceCtorEq] at h); try exact zx))) | refine da 101 ?_ | fail)
    have hB : ∀ {i : Int} (h0 : 0 ≤ i) (h1 : i < M.n.length) {b : Nat} {o : Obj}, (b, o) ∈ ndA (npAt G i) i (ndAt M i) → Has H b o := fun {i} h0 h1 {b o} hb => by
      have := wd_has hW.ndl h0 h1 hb L
      subst hH
      unfold Has wdH at *
      rw [List.append_assoc, List.flatten_append]
      exact List.mem_append_right _ this
    obtain ⟨dn, rfl⟩ := Int.eq_ofNat_of_zero_le (show 0 ≤ d by omega)
    have hd6 : dn < 6 := by omega
    refine Zf (σ := Nat) (fun i => [(0, pt G.wp 0), (1, iv s), (2, iv dn), (7, pt (npAt G s).np 0), (45, .slice an M.n.length capn), (46, iv M.n.length), (47, iv i)]) (fun _ => H) (fun i => i ≤ M.n.length ∧ ∀ k, k < i → isBusy dn (ndAt M (k : Int)) = false) (fun i => M.n.length - i) 0 uS (List.Sublist.refl _) ⟨by simp, fun k hk => by omega⟩ ?_
    rintro i ⟨hi, hfree⟩
    by_cases hlt : i < M.n.length
    · have hBi := fun {b o} => hB (i := (i : Int)) (by omega) (by omega) (b := b) (o := o)
      have hni := wi_at hM (s := (i : Int)) (by omega) (by omega)
      have hok := wdOk_at hW (s := (i : Int)) (by omega) (by omega)
      obtain ⟨⟨b, bi, l, F, fr, cap2, e7, hb, hg2⟩, -, -⟩ := npIn_of hW (s := (i : Int)) (by omega) (by omega) (H := H) (fun b o hb => by
        subst hH
        simp only [Has, wdH, wdT, List.flatten_cons, List.cons_append, List.nil_append]
        simp [hb])
      rw [hnv] at e7
      obtain ⟨rfl, -, rfl⟩ := Value.slice.inj e7
      have hNi : Has H (npAt G i).np (ndO (npAt G i) (ndAt M i)) := hBi (by simp [ndA, ndB])
      have kst := wstate_calls T E G M i dn H hG'.sub hI hW.ndl (fun _ => hNi) (fun _ => ⟨by rw [hni.b512]; omega, by rw [hni.b512]; omega, fun p hp => hBi (by
        unfold ndA plC
        simp only [List.mem_cons, List.not_mem_nil, or_false] at hp
        rcases hp with rfl | rfl
        · simp [plB]
        · simp [plD])⟩)
      have e1 : wstateE M i dn = none := by
        unfold wstateE
        rw [nodeE_ok (by omega) (by omega)]
        simp only
        rw [if_neg (by omega)]
      have e2 : wstate M i dn = plSt (ndAt M i).pl dn := by unfold wstate; rw [e1]
      rw [e1, e2] at kst
      have hm1 : (ndAt M i).leads[dn]? = some ((ndAt M i).leads.getD dn none) := getD_some (by rw [hni.leads]; exact hd6)
      obtain ⟨q, hq⟩ : ∃ q, (npAt G i).ld[dn]? = some q := ⟨_, List.getElem?_eq_getElem (by rw [hok.ld]; exact hd6)⟩
      have hv := ldVs_at hm1 hq
      have gL := ndL_lead (sv := stV (npAt G i) (ndAt M i).site) (bp := (npAt G i).bp) (dn := (ndAt M i).done) hv
      have hbz : isBusy dn (ndAt M i) = (decide (plSt (ndAt M i).pl dn ≠ zeroS) || ((ndAt M i).leads.getD dn none).isSome) := rfl
      have hbu := busy_any (M := M) (d := dn) hlt
      unfold ndO at hNi
      generalize hmi : ndAt M i = m at *
      generalize npAt G i = g at *
      generalize plSt m.pl dn = st at *
      obtain ⟨ph, pr, att⟩ := st
      cases hx : m.leads.getD dn none with
      | some x =>
        rw [hx] at gL hbz
        simp only [ldV] at gL
        have hb1 : isBusy dn m = true := by rw [hbz]; simp
        rw [if_pos (hbu hb1)]
        repeat' (first | refine uN ?_ | refine g_k S ?_ | refine g_w S ?_ | refine uC (kst) ?_ | refine uD0 (fun _ => kst) ?_ | refine uD1 (fun _ => kst) ?_ | refine uD2 (fun _ => kst) ?_ | refine uD3 (fun _ => kst) ?_ | (refine uB ?_; intro b) | refine dg S 100 (fun _ _ => ?_) | (refine uP ?_ ?_ <;> (intro h; ((try simp only [zs, ne_eq, and_true, true_and, eq_self, reduceCtorEq] at h); try exact zx))) | refine da 101 ?_ | fail)
        all_goals exact sp1 (LS.c (LS.refl _)) ⟨rfl, hself⟩
      | none =>
        rw [hx] at gL hbz
        simp only [ldV] at gL
        by_cases hz : ph = 0 ∧ pr = 0 ∧ att = 0
        · obtain ⟨rfl, rfl, rfl⟩ := hz
          have hb0 : isBusy dn m = false := by rw [hbz]; rfl
          repeat' (first | refine uN ?_ | refine g_k S ?_ | refine g_w S ?_ | refine uC (kst) ?_ | refine uD0 (fun _ => kst) ?_ | refine uD1 (fun _ => kst) ?_ | refine uD2 (fun _ => kst) ?_ | refine uD3 (fun _ => kst) ?_ | (refine uB ?_; intro b) | refine dg S 100 (fun _ _ => ?_) | (refine uP ?_ ?_ <;> (intro h; ((try simp only [zs, ne_eq, and_true, true_and, eq_self, reduceCtorEq] at h); try exact zx))) | refine da 101 ?_ | fail)
          all_goals refine Zc (i + 1) uS (LS.c (LS.refl _)) ⟨by omega, fun k hk => ?_⟩ (by omega)
          all_goals by_cases e : k = i
          all_goals first | (subst e; rw [hmi]; exact hb0; done) | exact hfree k (by omega)
        · have hb1 : isBusy dn m = true := by
            rw [hbz, decide_eq_true]
            · rfl
            · intro e
              cases e
              exact hz ⟨rfl, rfl, rfl⟩
          rw [if_pos (hbu hb1)]
          repeat' (first | refine uN ?_ | refine g_k S ?_ | refine g_w S ?_ | refine uC (kst) ?_ | refine uD0 (fun _ => kst) ?_ | refine uD1 (fun _ => kst) ?_ | refine uD2 (fun _ => kst) ?_ | refine uD3 (fun _ => kst) ?_ | (refine uB ?_; intro b) | refine dg S 100 (fun _ _ => ?_) | (refine uP ?_ ?_ <;> (intro h; ((try simp only [zs, ne_eq, and_true, true_and, eq_self, reduceCtorEq] at h); try exact zx))) | refine da 101 ?_ | fail)
          all_goals first | exact sp1 (LS.c (LS.refl _)) ⟨rfl, hself⟩ | (exfalso; simp_all; done)
    · obtain rfl : i = M.n.length := by omega
      have hany : M.n.any (isBusy (dn : Int)) = false := busy_none hfree
      simp only [hany, Bool.false_eq_true, if_false]
      subst hH
      obtain ⟨aw, capw, hwv, -, hwr⟩ := hW.w.rd ic_len
      obtain ⟨al, capl, hlv5, -, hlr⟩ := hW.l.rd fc_len
      have hvl := hW.l
      have hok := wdOk_at hW h0 h1
      have hni := wi_at hM h0 h1
      have hm1 : (ndAt M s).leads[dn]? = some ((ndAt M s).leads.getD dn none) := getD_some (by rw [hni.leads]; exact hd6)
      obtain ⟨q, hq⟩ : ∃ q, (npAt G s).ld[dn]? = some q := ⟨_, List.getElem?_eq_getElem (by rw [hok.ld]; exact hd6)⟩
      have hv := ldVs_at hm1 hq
      obtain ⟨A, B, eA, eB⟩ := lds_open hm1 hq
      have hlE := leadE_none hM (s := s) (d := dn) (a := 0) h0 h1 ⟨by omega, by omega⟩ (by omega)
      have kb := fun L hG hR => begin_calls T E s dn aw capw M.w L hG hR (by omega)
      rw [hlE] at kb
      rw [hlv5] at hvl
      have hsl := startM_len (newLd s dn M.w 0 2)
      have hslw : (newLd s dn M.w 0 2).w = M.w := rfl
      rw [hslw] at hsl
      have hsh := fun G' M1 g' m' a b c d e f => wdP_shut (G := G) (G' := G') (M := M) (M1 := M1) (s := s) (g' := g') (m' := m') L hW.ndl h0 h1 a b c d e f
      have hWL := fun {lv lc l} hv => hW.setL (lv := lv) (lc := lc) (l := l) hv
      have hlv : (ldVs (npAt G s) (ndAt M s)).length = 6 := by simp [ldVs, hni.leads, hok.ld]
      refine hw_sp (L' := wdOp G s (npAt G s) (ndAt M s) (ndsX G.nd M.n 0 s.toNat) L) ?_ (wd_open hW.ndl h0 h1 L)
      generalize ndsX G.nd M.n 0 s.toNat = X at *
      generalize hmm : ndAt M s = m at *
      generalize hgg : npAt G s = g at *
      obtain ⟨pl, site, leads, done⟩ := m
      simp only at hs hm1 hlv
      subst hs
      simp only [wdOp, ndB, ndO, stV, siS, siN, siJ, wdO]
      rw [hwv, hnv, hlv5]
      repeat' (first | refine uN ?_ | refine g_k S ?_ | refine g_w S ?_ | refine uC (ku) ?_ | refine uD0 (fun _ => ku) ?_ | refine uD1 (fun _ => ku) ?_ | refine uD2 (fun _ => ku) ?_ | refine uD3 (fun _ => ku) ?_ | (refine uB ?_; intro b) | refine dg S 100 (fun _ _ => ?_) | (refine uP ?_ ?_ <;> (intro h; ((try simp only [zs, ne_eq, and_true, true_and, eq_self, reduceCtorEq] at h); try exact zx))) | refine da 101 ?_ | fail)
      refine d_q 4 (by exact rfl) (fun _ => qe S) ?_
      refine d_q 4 (by exact rfl) (fun _ => qe S) ?_
      refine da 101 ?_
      refine gc (kb _ (by repeat (first | exact hG | exact hG.sub | apply Errs.cons)) ?_) ?_
      · repeat (first | exact hwr _ | apply Rd.cons)
      rintro v L' ⟨lp, wv', wc', rfl, hLd, rfl⟩
      have gP := ndL_put1 (sv := pt g.sp 0) (bp := g.bp) (lv := ldVs g ⟨pl, some (j, ref), leads, done⟩) (dn := done) (d := dn) (pt lp 0) (by omega)
      have gL2 := ndL_lead (sv := pt g.sp 0) (bp := g.bp) (lv := (ldVs g ⟨pl, some (j, ref), leads, done⟩).set dn (pt lp 0)) (dn := done) (d := dn) (v := pt lp 0) (by simp [hlv, hd6])
      have kst := fun L => start_calls lp wv' wc' (newLd s dn M.w 0 2) L hLd
      repeat' (first | refine uN ?_ | refine g_k S ?_ | refine g_w S ?_ | refine uC (ku) ?_ | refine uD0 (fun _ => ku) ?_ | refine uD1 (fun _ => ku) ?_ | refine uD2 (fun _ => ku) ?_ | refine uD3 (fun _ => ku) ?_ | (refine uB ?_; intro b) | refine dg S 100 (fun _ _ => ?_) | (refine uP ?_ ?_ <;> (intro h; ((try simp only [zs, ne_eq, and_true, true_and, eq_self, reduceCtorEq] at h); try exact zx))) | refine da 101 ?_ | fail)
      refine gc (kst _) ?_
      rintro v L' ⟨c2, hv2, rfl⟩
      obtain ⟨a7, cap7, rfl, -, hR7⟩ := hv2.rd fc_len
      repeat' (first | refine uN ?_ | refine g_k S ?_ | refine g_w S ?_ | refine uC (ku) ?_ | refine uD0 (fun _ => ku) ?_ | refine uD1 (fun _ => ku) ?_ | refine uD2 (fun _ => ku) ?_ | refine uD3 (fun _ => ku) ?_ | (refine uB ?_; intro b) | refine dg S 100 (fun _ _ => ?_) | (refine uP ?_ ?_ <;> (intro h; ((try simp only [zs, ne_eq, and_true, true_and, eq_self, reduceCtorEq] at h); try exact zx))) | refine da 101 ?_ | fail)
      refine fo 10 ?_
      refine wpA S hvl (Rd.cons (hR7 _) _) fc_len fc_one ?_ (hby := by omega) (hmax := by omega)
      intro v'' c'' hv''
      obtain ⟨a8, cap8, rfl, -, -⟩ := hv''.rd fc_len
      repeat' (first | refine uN ?_ | refine g_k S ?_ | refine g_w S ?_ | refine uC (ku) ?_ | refine uD0 (fun _ => ku) ?_ | refine uD1 (fun _ => ku) ?_ | refine uD2 (fun _ => ku) ?_ | refine uD3 (fun _ => ku) ?_ | (refine uB ?_; intro b) | refine dg S 100 (fun _ _ => ?_) | (refine uP ?_ ?_ <;> (intro h; ((try simp only [zs, ne_eq, and_true, true_and, eq_self, reduceCtorEq] at h); try exact zx))) | refine da 101 ?_ | fail)
      obtain ⟨L2, hw2, hls2⟩ := hsh { G with lv := .slice a8 (M.l ++ startM (newLd s dn M.w 0 2)).length cap8, lc := c'' } { M with l := M.l ++ startM (newLd s dn M.w 0 2) } { g with ld := g.ld.set dn (lp, wv', wc') } ⟨pl, some (j, ref), leads.set dn (some (newLd s dn M.w 0 2)), done⟩
        (hW.setL hv'') rfl rfl rfl (hok.lead (q := (lp, wv', wc')) hLd) rfl
      refine sp1 (LS.trans hls2 ?_) ⟨rfl, hw2⟩
      have eB2 := eB (some (newLd s dn M.w 0 2)) (lp, wv', wc') ⟨pl, some (j, ref), leads.set dn (some (newLd s dn M.w 0 2)), done⟩ { g with ld := g.ld.set dn (lp, wv', wc') } rfl rfl
      have eV2 := ldVs_set (g := g) (g' := { g with ld := g.ld.set dn (lp, wv', wc') }) (m := ⟨pl, some (j, ref), leads, done⟩) (m' := ⟨pl, some (j, ref), leads.set dn (some (newLd s dn M.w 0 2)), done⟩) (o' := some (newLd s dn M.w 0 2)) (q' := (lp, wv', wc')) rfl rfl
      simp only [wdOp, ndB, ndO, stV, siS, siN, siJ, wdO, eV2]
      rw [eB2, eA, hwv, hnv]
      simp only [ldB, ldC, ldV]
      refine LS.trans ls7 (LS.cutAt 10 ?_)
      exact uL
end Go.HL
end

/-! WoU -/
section
namespace Go.HL
open Go Go.Proofs
set_option linter.unusedVariables false
set_option linter.unusedSimpArgs false
theorem att_step {k s a j : Int} (hk : 0 < k) (hs0 : 0 ≤ s) (hs1 : s < k) (hj0 : 0 ≤ j) (hj : j ≤ (s - a) % k) : ((a + j) % k = s ↔ j = (s - a) % k) := by
  have hr0 := Int.emod_nonneg (s - a) (by omega : k ≠ 0)
  have hr1 := Int.emod_lt_of_pos (s - a) hk
  have e1 := Int.emod_add_mul_ediv (s - a) k
  have e2 := Int.emod_add_mul_ediv (a + j) k
  have h0 := Int.emod_nonneg (a + j) (by omega : k ≠ 0)
  have h1 := Int.emod_lt_of_pos (a + j) hk
  generalize (s - a) % k = r at *
  generalize (a + j) % k = t at *
  generalize (s - a) / k = u at *
  generalize (a + j) / k = v at *
  -- s - a = r + k u, a + j = t + k v
  have e3 : s - t = (r - j) + k * (u + v) := by rw [Int.mul_add]; omega
  constructor
  · intro h
    subst h
    have : (r - j) = - (k * (u + v)) := by omega
    have hz : u + v = 0 := by
      rcases Int.lt_trichotomy (u + v) 0 with h | h | h
      · have : k * (u + v) ≤ k * (-1) := Int.mul_le_mul_of_nonneg_left (by omega) (by omega)
        omega
      · exact h
      · have : k * 1 ≤ k * (u + v) := Int.mul_le_mul_of_nonneg_left (by omega) (by omega)
        omega
    rw [hz] at this
    omega
  · intro h
    subst h
    have hz : u + v = 0 := by
      rcases Int.lt_trichotomy (u + v) 0 with h | h | h
      · have : k * (u + v) ≤ k * (-1) := Int.mul_le_mul_of_nonneg_left (by omega) (by omega)
        omega
      · exact h
      · have : k * 1 ≤ k * (u + v) := Int.mul_le_mul_of_nonneg_left (by omega) (by omega)
        omega
    rw [hz] at e3
    omega
theorem hearsM_succ (x : Ld) (l : List Fr) (i : Nat) (h : i < l.length) : hearsM x (l.take (i + 1)) = ((hearM (hearsM x (l.take i)).1 l[i]).1, (hearsM x (l.take i)).2 ++ (hearM (hearsM x (l.take i)).1 l[i]).2) := by
  unfold hearsM
  rw [List.take_add_one, List.getElem?_eq_getElem h, Option.toList_some, List.foldl_append]
  rfl
set_option maxHeartbeats 2000000 attribute [local irreducible] HW HO HQ HD HC QOp Has Upd Puts Gets seqQ blkQ loopQ fnQ actQ nextP unQ MapF
attribute [local irreducible] ndL jcells plC siteM ldL openM
theorem wtry_calls (T : Nat) (E : Nat → Addr) (G : WdG) (M : Wm) (s d p : Int) (L : Heap) (hG : Er T E [2, 3, 4, 5, 6] L) (hW : WdOk G M) (hM : WI M) (hl : M.l.length ≤ 99999900) (h0 : 0 ≤ s) (h1 : s < M.n.length) (hs : (ndAt M s).site ≠ none) (hd : 0 ≤ d ∧ d < 6) (hp : 0 ≤ p ∧ p ≤ 1048576) :
    HC Tryz.prog 144 [pt G.wp 0, iv s, iv d, iv p] (wdH G M ++ L) (fun v L' => v = .bool (tryW M s d p).2 ∧ WdP G (tryW M s d p).1 L L') := by
  have hself := wdP_self hW L
  have hI := wd_in hW L
  have hwn := hM.wn
  have hwl := hM.wl
  have hw1 := hM.w1
  have hG' := er_wdH hG G M
  have hw := hI.wp
  obtain ⟨⟨nb, ni, nl, nF, nfr, ncap, hnv, hnb, hng⟩, -, -⟩ := npIn_of hW h0 h1 (H := wdH G M ++ L) (fun b o hb => by
    simp only [Has, wdH, wdT, List.flatten_cons, List.cons_append, List.nil_append]
    simp [hb])
  obtain ⟨aw, capw, hwv, -, hwr⟩ := hW.w.rd ic_len
  unfold wdO at hw
  rw [hnv, hwv] at hw
  have hok := wdOk_at hW h0 h1
  have hni := wi_at hM h0 h1
  obtain ⟨dn, rfl⟩ := Int.eq_ofNat_of_zero_le hd.1
  have hd6 : dn < 6 := by omega
  have hm1 : (ndAt M s).leads[dn]? = some ((ndAt M s).leads.getD dn none) := getD_some (by rw [hni.leads]; exact hd6)
  obtain ⟨q, hq⟩ : ∃ q, (npAt G s).ld[dn]? = some q := ⟨_, List.getElem?_eq_getElem (by rw [hok.ld]; exact hd6)⟩
  have hv := ldVs_at hm1 hq
  have gL := ndL_lead (sv := stV (npAt G s) (ndAt M s).site) (bp := (npAt G s).bp) (dn := (ndAt M s).done) hv
  have hN := wd_hasW hW.ndl h0 h1 L
  have hB : ∀ {b : Nat} {o : Obj}, (b, o) ∈ ndA (npAt G s) s (ndAt M s) → Has (wdH G M ++ L) b o := fun {b o} hb => by
    have := wd_has hW.ndl h0 h1 hb L
    unfold Has wdH at *
    rw [List.append_assoc, List.flatten_append]
    exact List.mem_append_right _ this
  have kse : ∀ x, (ndAt M s).leads[dn]? = some (some x) → HC Tryz.prog 191 [pt q.1 0] (wdH G M ++ L) (fun v L' => v = iv x.seen ∧ L' = (wdH G M ++ L)) := fun x hx => lseenH q.1 q.2.1 x _ (hni.ldi dn x hx).told (hB (by
    unfold ndA
    exact List.mem_append_right _ (ldBs_mem hx hq (by simp [ldC]))))
  have hab : 0 ≤ tryAbove (ndAt M s) dn p ∧ tryAbove (ndAt M s) dn p ≤ 1048576 := by
    unfold tryAbove
    split
    · exact hp
    · rename_i x hx
      have := hni.ldi dn x (by rw [hm1]; simp only [Int.toNat_natCast] at hx; rw [hx])
      have h1 := this.seen0
      have h2 := this.seen1
      omega
  have hr0 := Int.emod_nonneg (s - (tryAbove (ndAt M s) dn p + 1)) (by omega : (M.w.length : Int) ≠ 0)
  have hr1 := Int.emod_lt_of_pos (s - (tryAbove (ndAt M s) dn p + 1)) (by omega : (0 : Int) < M.w.length)
  unfold ndO at hN
  generalize hH : wdH G M ++ L = H at *
  unfold tryW tryAtt
  have habv : tryAbove (ndAt M s) dn p = match (ndAt M s).leads.getD dn none with
    | none => p
    | some x => max p x.seen := rfl
  generalize hab2 : tryAbove (ndAt M s) dn p = ab at *
  refine Za (fun _ _ => Tryz.call144 _ _) Tryz.func144 rfl Tryz.ntmps144 (Nat.le_of_ble_eq_true rfl) ?_; simp only [args0, Nat.reduceAdd]
  apply once_w (ι := Int) (fun a => a = ab) (fun a => [(0, pt G.wp 0), (1, iv s), (2, iv dn), (9, pt (npAt G s).np 0), (12, iv M.w.length), (13, iv (a + 1))]) (fun _ => H)
  · intro key
    cases hx : (ndAt M s).leads.getD dn none with
    | none =>
      rw [hx] at gL habv
      simp only [ldV] at gL habv
      repeat' (first | refine uN ?_ | refine g_k S ?_ | refine g_w S ?_ | refine uC (kse _ hx) ?_ | refine uD0 (fun _ => kse _ hx) ?_ | refine uD1 (fun _ => kse _ hx) ?_ | refine uD2 (fun _ => kse _ hx) ?_ | refine uD3 (fun _ => kse _ hx) ?_ | (refine uB ?_; intro b) | (refine uP ?_ ?_ <;> (intro h; ((try simp only [zs, ne_eq, and_true, true_and, eq_self, reduceCtorEq] at h); try exact zx))) | refine da 101 ?_ | fail)
      exact hw_sp (hw_sub (key _ habv.symm) uS) (LS.refl _)
    | some x =>
      rw [hx] at gL habv hm1
      simp only [ldV] at gL habv
      have kse2 := kse x hm1
      repeat' (first | refine uN ?_ | refine g_k S ?_ | refine g_w S ?_ | refine uC (kse2) ?_ | refine uD0 (fun _ => kse2) ?_ | refine uD1 (fun _ => kse2) ?_ | refine uD2 (fun _ => kse2) ?_ | refine uD3 (fun _ => kse2) ?_ | (refine uB ?_; intro b) | (refine uP ?_ ?_ <;> (intro h; ((try simp only [zs, ne_eq, and_true, true_and, eq_self, reduceCtorEq] at h); try exact zx))) | refine da 101 ?_ | fail)
      exact hw_sp (hw_sub (key _ habv.symm) uS) (LS.refl _)
  rintro ab' rfl
  refine Zf (σ := Int) (fun x => [(0, pt G.wp 0), (1, iv s), (2, iv dn), (9, pt (npAt G s).np 0), (12, iv M.w.length), (13, iv x)]) (fun _ => H) (fun x => ∃ j : Nat, x = ab' + 1 + j ∧ (j : Int) ≤ (s - (ab' + 1)) % M.w.length) (fun x => (ab' + 1 + (s - (ab' + 1)) % M.w.length - x).toNat) (ab' + 1) uS (List.Sublist.refl _) ⟨0, by simp, hr0⟩ ?_
  rintro x ⟨j, rfl, hj⟩
  have hst := att_step (k := M.w.length) (s := s) (a := ab' + 1) (j := j) (by omega) h0 (by omega) (by omega) hj
  by_cases hlt : (j : Int) = (s - (ab' + 1)) % M.w.length
  · rw [← hlt]
    have hst2 := hst.2 hlt
    have kH := fun x => whearW_calls T E G M s (tryF s dn x) L hG.sub hW hM h0 h1 hs
    have hRI := fun x => hM.hear (f := tryF s dn x) h0 h1 (by show s < _; omega)
    have hRl := fun x => hearW_len M s (tryF s dn x)
    have hRw : ∀ x, (hearW M s (tryF s dn x)).1.w = M.w := fun x => rfl
    have hRL : ∀ x, (hearW M s (tryF s dn x)).1.l = M.l := fun x => rfl
    have hRn : ∀ x, (hearW M s (tryF s dn x)).1.n.length = M.n.length := fun x => by
      exact (hRI x).1.wn.trans ((congrArg List.length (hRw x)).trans hwn.symm)
    subst hH
    clear hst kse hB hnb
    have ha1 : 1 ≤ ab' + 1 + j := by omega
    have ha2 : ab' + 1 + j ≤ 1048590 := by omega
    have ha3 : 0 ≤ ab' + 1 + (j : Int) := by omega
    clear hj
    generalize ab' + 1 + (j : Int) = a at *
    specialize kH a
    specialize hRI a
    specialize hRl a
    specialize hRw a
    specialize hRL a
    specialize hRn a
    generalize hearW M s (tryF s dn a) = R at *
    obtain ⟨M2, told, ok⟩ := R
    simp only at kH hRI hRl hRw hRL hRn ⊢
    obtain ⟨hM2, hfo⟩ := hRI
    repeat' (first | refine uN ?_ | refine g_k S ?_ | refine g_w S ?_ | refine uC (hab) ?_ | refine uD0 (fun _ => hab) ?_ | refine uD1 (fun _ => hab) ?_ | refine uD2 (fun _ => hab) ?_ | refine uD3 (fun _ => hab) ?_ | (refine uB ?_; intro b) | (refine uP ?_ ?_ <;> (intro h; ((try simp only [zs, ne_eq, and_true, true_and, eq_self, reduceCtorEq] at h); try exact zx))) | refine da 101 ?_ | fail)
    · rw [if_pos h]
      exact sp1 (LS.refl _) ⟨rfl, hself⟩
    all_goals rw [if_neg h]
    all_goals refine gc kH ?_
    all_goals rintro v L' ⟨c, ⟨fv, hfv, rfl⟩, G2, e1, e2, hW2, rfl⟩
    all_goals obtain ⟨af, capf, rfl, -, hRf⟩ := hfv.rd fc_len
    all_goals cases ok with
    | false =>
      simp only [if_true]
      repeat' (first | refine uN ?_ | refine g_k S ?_ | refine g_w S ?_ | refine uC (hab) ?_ | refine uD0 (fun _ => hab) ?_ | refine uD1 (fun _ => hab) ?_ | refine uD2 (fun _ => hab) ?_ | refine uD3 (fun _ => hab) ?_ | (refine uB ?_; intro b) | (refine uP ?_ ?_ <;> (intro h; ((try simp only [zs, ne_eq, and_true, true_and, eq_self, reduceCtorEq] at h); try exact zx))) | refine da 101 ?_ | fail)
      refine sp1 (L' := wdH G2 M2 ++ L) ?_ ⟨rfl, G2, e1, e2, hW2, rfl⟩
      simp only [List.flatten_append, List.flatten_cons]
      exact LS.boths _ (LS.skips _ (LS.refl _))
    | true =>
      simp only [Bool.true_eq_false, if_false]
      have h1' : s < M2.n.length := by rw [hRn]; exact h1
      have hl2 := hW2.ndl
      have hnp2 := np_same e2 h0 (by rw [hW.ndl]; exact h1)
      have hok2 := wdOk_at hW2 h0 h1'
      have hni2 := wi_at hM2 h0 h1'
      have hw22 := hW2.w
      rw [hRw] at hw22
      obtain ⟨aw2, capw2, hwv2, -, hwr2⟩ := hw22.rd ic_len
      obtain ⟨al2, capl2, hlv2, -, -⟩ := hW2.l.rd fc_len
      have hvl := hW2.l
      rw [hlv2] at hvl
      have hm2 : (ndAt M2 s).leads[dn]? = some ((ndAt M2 s).leads.getD dn none) := getD_some (by rw [hni2.leads]; exact hd6)
      obtain ⟨q2, hq2⟩ : ∃ q2, (npAt G2 s).ld[dn]? = some q2 := ⟨_, List.getElem?_eq_getElem (by rw [hok2.ld]; exact hd6)⟩
      have hv2 := ldVs_at hm2 hq2
      obtain ⟨A, B, eA, eB⟩ := lds_open hm2 hq2
      have htE : tryE s dn M.w a = none := by
        unfold tryE
        rw [leadE_none hM h0 h1 hd (by omega)]
        simp only
        rw [if_neg (by omega)]
      have kt := fun L hG hR => try_calls T E s dn aw2 capw2 M.w a L hG hR (by omega)
      rw [htE] at kt
      have hNI : LdI M.w s.toNat dn (newLd s dn M.w a 4) := by
        have := newLd_I (w := M.w) (s := s.toNat) (d := dn) (a := a) (k := 4) (by omega) (by omega)
        rw [show ((s.toNat : Nat) : Int) = s by omega] at this
        exact this
      have hsl := startM_len (newLd s dn M.w a 4)
      have hslw : (newLd s dn M.w a 4).w = M.w := rfl
      rw [hslw] at hsl
      have hsh := fun G' M1 g' m' a b c d e f => wdP_shut (G := G2) (G' := G') (M := M2) (M1 := M1) (s := s) (g' := g') (m' := m') L hl2 h0 h1' a b c d e f
      have hlvs : (ldVs (npAt G2 s) (ndAt M2 s)).length = 6 := by simp [ldVs, hni2.leads, hok2.ld]
      refine ho_sp (L' := wdOp G2 s (npAt G2 s) (ndAt M2 s) (ndsX G2.nd M2.n 0 s.toNat) (c :: L)) ?_ (wd_open hl2 h0 h1' _)
      simp only [← hnp2]
      have hGP : ∀ L L', WdP G2 { setN M2 s { ndAt M2 s with leads := (ndAt M2 s).leads.set dn (some (hearsM (newLd s dn M.w a 4) told).1) } with l := M2.l ++ startM (newLd s dn M.w a 4) ++ (hearsM (newLd s dn M.w a 4) told).2 } L L' →
          WdP G { setN M2 s { ndAt M2 s with leads := (ndAt M2 s).leads.set dn (some (hearsM (newLd s dn M.w a 4) told).1) } with l := M2.l ++ startM (newLd s dn M.w a 4) ++ (hearsM (newLd s dn M.w a 4) told).2 } L L' := fun L L' h => by
        obtain ⟨G3, f1, f2, f3, f4⟩ := h
        exact ⟨G3, f1.trans e1, f2.trans e2, f3, f4⟩
      generalize ndsX G2.nd M2.n 0 s.toNat = X at *
      generalize hmm : ndAt M2 s = m at *
      generalize hgg : npAt G2 s = g at *
      simp only [wdOp, ndB, ndO, wdO, e1]
      rw [hwv2, hlv2]
      repeat' (first | refine uN ?_ | refine g_k S ?_ | refine g_w S ?_ | refine uC (hab) ?_ | refine uD0 (fun _ => hab) ?_ | refine uD1 (fun _ => hab) ?_ | refine uD2 (fun _ => hab) ?_ | refine uD3 (fun _ => hab) ?_ | (refine uB ?_; intro b) | (refine uP ?_ ?_ <;> (intro h; ((try simp only [zs, ne_eq, and_true, true_and, eq_self, reduceCtorEq] at h); try exact zx))) | refine da 101 ?_ | fail)
      refine gc (kt _ (by repeat (first | exact hG | exact hG.sub | apply Errs.cons)) ?_) ?_
      · repeat (first | exact hwr2 _ | apply Rd.cons)
      rintro v L' ⟨lp, wv', wc', rfl, hLd, rfl⟩
      have gP := ndL_put1 (sv := stV g m.site) (bp := g.bp) (lv := ldVs g m) (dn := m.done) (d := dn) (pt lp 0) (by omega)
      have kst := fun L => start_calls lp wv' wc' (newLd s dn M.w a 4) L hLd
      repeat' (first | refine uN ?_ | refine g_k S ?_ | refine g_w S ?_ | refine uC (hab) ?_ | refine uD0 (fun _ => hab) ?_ | refine uD1 (fun _ => hab) ?_ | refine uD2 (fun _ => hab) ?_ | refine uD3 (fun _ => hab) ?_ | (refine uB ?_; intro b) | (refine uP ?_ ?_ <;> (intro h; ((try simp only [zs, ne_eq, and_true, true_and, eq_self, reduceCtorEq] at h); try exact zx))) | refine da 101 ?_ | fail)
      refine gc (kst _) ?_
      rintro v L' ⟨c2, hv2, rfl⟩
      obtain ⟨a7, cap7, rfl, -, hR7⟩ := hv2.rd fc_len
      repeat' (first | refine uN ?_ | refine g_k S ?_ | refine g_w S ?_ | refine uC (hab) ?_ | refine uD0 (fun _ => hab) ?_ | refine uD1 (fun _ => hab) ?_ | refine uD2 (fun _ => hab) ?_ | refine uD3 (fun _ => hab) ?_ | (refine uB ?_; intro b) | (refine uP ?_ ?_ <;> (intro h; ((try simp only [zs, ne_eq, and_true, true_and, eq_self, reduceCtorEq] at h); try exact zx))) | refine da 101 ?_ | fail)
      refine fo 10 ?_
      refine wpA S hvl (Rd.cons (hR7 _) _) fc_len fc_one ?_ (hby := by rw [hRL]; omega) (hmax := by rw [hRL]; omega)
      intro v'' c'' hv''
      obtain ⟨a8, cap8, rfl, -, -⟩ := hv''.rd fc_len
      repeat' (first | refine uN ?_ | refine g_k S ?_ | refine g_w S ?_ | refine uC (hab) ?_ | refine uD0 (fun _ => hab) ?_ | refine uD1 (fun _ => hab) ?_ | refine uD2 (fun _ => hab) ?_ | refine uD3 (fun _ => hab) ?_ | (refine uB ?_; intro b) | (refine uP ?_ ?_ <;> (intro h; ((try simp only [zs, ne_eq, and_true, true_and, eq_self, reduceCtorEq] at h); try exact zx))) | refine da 101 ?_ | fail)
      have hho := fun i => hearsM_ok (w := M.w) (s := s.toNat) (d := dn) (by omega) hwl hd6 (told.take i) (newLd s dn M.w a 4) [] hNI (fun f hf => hfo f (List.mem_of_mem_take hf)) (fun f hf => by cases hf)
      change ∀ i, LdI M.w s.toNat dn (hearsM (newLd s dn M.w a 4) (told.take i)).1 ∧ ∀ f ∈ (hearsM (newLd s dn M.w a 4) (told.take i)).2, okF M.w.length f at hho
      refine Zf (σ := Nat × Value × List Blk) (fun r => [(0, pt G.wp 0), (16, pt lp 0), (96, .slice af told.length capf), (97, iv told.length), (98, iv r.1)])
        (fun r => r.2.2 :: ldC lp wv' wc' (hearsM (newLd s dn M.w a 4) (told.take r.1)).1 :: [(G.wp, .cells ⟨[.slice aw2 M.w.length capw2, G2.nv, .map (some G2.mb), r.2.1, G2.ev]⟩ 110)] :: G2.ec :: [(g.np, .cells ⟨ndL (stV g m.site) g.bp ((ldVs g m).set dn (pt lp 0)) m.done⟩ 122)] :: siS g s m.site :: siN g m.site :: plC g.bp g.ba m.pl :: siJ g m.site :: ldBs g m :: G2.wc :: G2.nc :: [(G2.mb, .map ⟨G2.es⟩ G2.ck)] :: X :: c :: L)
        (fun r => r.1 ≤ told.length ∧ (hearsM (newLd s dn M.w a 4) (told.take r.1)).2.length ≤ 7 * r.1 ∧ FrVec r.2.1 (M2.l ++ startM (newLd s dn M.w a 4) ++ (hearsM (newLd s dn M.w a 4) (told.take r.1)).2) r.2.2) (fun r => told.length - r.1) (0, .slice a8 (M2.l ++ startM (newLd s dn M.w a 4)).length cap8, c'') uS (by refine List.Sublist.cons_cons _ (List.Sublist.cons _ (List.Sublist.refl _))) ⟨by simp, by simp [hearsM], by simpa [hearsM] using hv''⟩ ?_
      rintro ⟨i, lv3, lc3⟩ ⟨hi, hlen, hv3⟩
      simp only at hi hlen hv3 ⊢
      obtain ⟨hI3, hF3⟩ := hho i
      have hlast : i = told.length → hearsM (newLd s dn M.w a 4) (told.take i) = hearsM (newLd s dn M.w a 4) told := fun e => by rw [e, List.take_length]
      have hsucc := fun h => hearsM_succ (newLd s dn M.w a 4) told i h
      have hLO3 : LdOk wv' wc' (hearsM (newLd s dn M.w a 4) (told.take i)).1 := hLd.of hI3.ww (by rw [hI3.told]; rfl)
      have hhd3 : (hearsM (newLd s dn M.w a 4) (told.take i)).1.heard < 2 ^ (hearsM (newLd s dn M.w a 4) (told.take i)).1.w.length := by rw [hI3.ww]; exact hI3.heard
      obtain ⟨al3, capl3, hlv3, -, -⟩ := hv3.rd fc_len
      subst hlv3
      by_cases hit : i < told.length
      · specialize hsucc hit
        have hq := hho (i + 1)
        have hl3 := hear_len (hearsM (newLd s dn M.w a 4) (told.take i)).1 told[i]
        rw [hI3.ww] at hl3
        rw [hsucc] at hq
        have kh := fun L hG => hear_calls T E lp wv' wc' (hearsM (newLd s dn M.w a 4) (told.take i)).1 told[i] L hG hLO3 hhd3
        obtain ⟨b5, i5, l5, F5, fr5, e6, hb5, hg5⟩ := (hRf L).at (j := (i : Int)) (by omega) (by omega)
        subst e6
        have hgi : told[(i : Int).toNat]'(by omega) = told[i] := rfl
        rw [hgi] at hg5
        clear hlast hI3 hF3 hho
        generalize hearsM (newLd s dn M.w a 4) (told.take i) = Q at *
        obtain ⟨x3, fs3⟩ := Q
        simp only at hlen hv3 hLO3 hhd3 hl3 kh hsucc ⊢
        generalize told[i] = f at *
        obtain ⟨ffr, fto, fdl, fkd, fatt, fys, fs⟩ := f
        repeat' (first | refine uN ?_ | refine g_k S ?_ | refine g_w S ?_ | refine uC (hab) ?_ | refine uD0 (fun _ => hab) ?_ | refine uD1 (fun _ => hab) ?_ | refine uD2 (fun _ => hab) ?_ | refine uD3 (fun _ => hab) ?_ | (refine uB ?_; intro b) | (refine uP ?_ ?_ <;> (intro h; ((try simp only [zs, ne_eq, and_true, true_and, eq_self, reduceCtorEq] at h); try exact zx))) | refine da 101 ?_ | fail)
        refine fo 2 ?_
        refine gc (kh _ (by repeat (first | exact hG | exact hG.sub | apply Errs.cons))) ?_
        rintro v L' ⟨c4, hv4, rfl⟩
        obtain ⟨a9, cap9, rfl, -, hR9⟩ := hv4.rd fc_len
        repeat' (first | refine uN ?_ | refine g_k S ?_ | refine g_w S ?_ | refine uC (hab) ?_ | refine uD0 (fun _ => hab) ?_ | refine uD1 (fun _ => hab) ?_ | refine uD2 (fun _ => hab) ?_ | refine uD3 (fun _ => hab) ?_ | (refine uB ?_; intro b) | (refine uP ?_ ?_ <;> (intro h; ((try simp only [zs, ne_eq, and_true, true_and, eq_self, reduceCtorEq] at h); try exact zx))) | refine da 101 ?_ | fail)
        refine fo 3 ?_
        refine wpA S hv3 (Rd.cons (hR9 _) _) fc_len fc_one ?_ (hby := by simp only [List.length_append, hRL]; omega) (hmax := by simp only [List.length_append, hRL]; omega)
        intro v5 c5 hv5
        obtain ⟨a10, cap10, rfl, -, -⟩ := hv5.rd fc_len
        repeat' (first | refine uN ?_ | refine g_k S ?_ | refine g_w S ?_ | refine uC (hab) ?_ | refine uD0 (fun _ => hab) ?_ | refine uD1 (fun _ => hab) ?_ | refine uD2 (fun _ => hab) ?_ | refine uD3 (fun _ => hab) ?_ | (refine uB ?_; intro b) | (refine uP ?_ ?_ <;> (intro h; ((try simp only [zs, ne_eq, and_true, true_and, eq_self, reduceCtorEq] at h); try exact zx))) | refine da 101 ?_ | fail)
        refine Zc (i + 1, .slice a10 (M2.l ++ startM (newLd s dn M.w a 4) ++ fs3 ++ (hearM x3 ⟨ffr, fto, fdl, fkd, fatt, fys, fs⟩).2).length cap10, c5) uS ?_ ⟨by simp only; omega, ?_, ?_⟩ (by simp only; omega)
        · simp only [hsucc, ldC]
          exact uL
        · simp only [hsucc, List.length_append]
          omega
        · simp only [hsucc]
          rw [← List.append_assoc]
          exact hv5
      · obtain rfl : i = told.length := by omega
        rw [hlast rfl] at hv3 hI3 ⊢
        have hLO4 := hlast rfl ▸ hLO3
        repeat' (first | refine uN ?_ | refine g_k S ?_ | refine g_w S ?_ | refine uC (hab) ?_ | refine uD0 (fun _ => hab) ?_ | refine uD1 (fun _ => hab) ?_ | refine uD2 (fun _ => hab) ?_ | refine uD3 (fun _ => hab) ?_ | (refine uB ?_; intro b) | (refine uP ?_ ?_ <;> (intro h; ((try simp only [zs, ne_eq, and_true, true_and, eq_self, reduceCtorEq] at h); try exact zx))) | refine da 101 ?_ | fail)
        obtain ⟨L2, hw2, hls2⟩ := hsh { G2 with lv := .slice al3 (M2.l ++ startM (newLd s dn M.w a 4) ++ (hearsM (newLd s dn M.w a 4) told).2).length capl3, lc := lc3 } { M2 with l := M2.l ++ startM (newLd s dn M.w a 4) ++ (hearsM (newLd s dn M.w a 4) told).2 } { g with ld := g.ld.set dn (lp, wv', wc') } { m with leads := m.leads.set dn (some (hearsM (newLd s dn M.w a 4) told).1) }
          (hW2.setL hv3) rfl rfl rfl (hok2.lead (q := (lp, wv', wc')) hLO4) rfl
        refine sp1 (LS.trans hls2 ?_) ⟨rfl, hGP _ _ hw2⟩
        have eB2 := eB (some (hearsM (newLd s dn M.w a 4) told).1) (lp, wv', wc') { m with leads := m.leads.set dn (some (hearsM (newLd s dn M.w a 4) told).1) } { g with ld := g.ld.set dn (lp, wv', wc') } rfl rfl
        have eV2 := ldVs_set (g := g) (g' := { g with ld := g.ld.set dn (lp, wv', wc') }) (m := m) (m' := { m with leads := m.leads.set dn (some (hearsM (newLd s dn M.w a 4) told).1) }) (o' := some (hearsM (newLd s dn M.w a 4) told).1) (q' := (lp, wv', wc')) rfl rfl
        simp only [wdOp, ndB, ndO, wdO, eV2]
        rw [eB2, eA, hwv2, e1]
        simp only [ldB, ldC, ldV]
        refine LS.trans ls7 (LS.cutAt 9 ?_)
        exact uL
  · have hst2 : ¬ (ab' + 1 + j) % M.w.length = s := fun h => hlt (hst.1 h)
    repeat' (first | refine uN ?_ | refine g_k S ?_ | refine g_w S ?_ | refine uC (hab) ?_ | refine uD0 (fun _ => hab) ?_ | refine uD1 (fun _ => hab) ?_ | refine uD2 (fun _ => hab) ?_ | refine uD3 (fun _ => hab) ?_ | (refine uB ?_; intro b) | (refine uP ?_ ?_ <;> (intro h; ((try simp only [zs, ne_eq, and_true, true_and, eq_self, reduceCtorEq] at h); try exact zx))) | refine da 101 ?_ | fail)
    refine Zc (ab' + 1 + (j : Int) + 1) uS (LS.refl _) ⟨j + 1, by push_cast; omega, by push_cast; omega⟩ (by omega)
end Go.HL
end

/-! StE -/
section
namespace Go.HL
open Go Go.Proofs
set_option linter.unusedVariables false
set_option linter.unusedSimpArgs false
theorem si_new {n : Nat} (h : 216 ≤ n) (h2 : n ≤ 1000000) : SI ⟨zeros n, false, -1⟩ ⟨openM (zeros n), false⟩ := by
  refine ⟨⟨by simpa [zeros] using h, by simpa [zeros] using h2, by simp, by simp, rfl, rfl⟩, fun d hd => ?_⟩
  have : stAt ⟨openM (zeros n), false⟩ d = zeroS := by
    unfold stAt
    rw [open_zeros h]
    show ((List.replicate 6 zeroE).getD d zeroE).s = zeroS
    rw [List.getD, List.getElem?_replicate]
    split <;> rfl
  rw [this]
  exact ⟨by decide, by decide, by decide, by decide, by decide⟩
set_option maxHeartbeats 2000000 attribute [local irreducible] HW HO HQ HD HC QOp Has Upd Puts Gets seqQ blkQ loopQ fnQ actQ nextP unQ MapF
attribute [local irreducible] jcells plC zeros openM putM turnM siteM
end Go.HL
end

/-! WoJ -/
section
namespace Go.HL
open Go Go.Proofs
set_option linter.unusedVariables false
set_option linter.unusedSimpArgs false
theorem WI.at {M : Wm} (h : WI M) {s : Int} (h0 : 0 ≤ s) (h1 : s < M.n.length) : NdI M.w s.toNat (ndAt M s) := h.nd s.toNat _ (getD_some (by omega))
theorem ndAt_set {M : Wm} {s : Int} {m : Nd} (h0 : 0 ≤ s) (h1 : s < M.n.length) : ndAt (setN M s m) s = m := by
  unfold ndAt setN
  simp only
  rw [List.getD, List.getElem?_set_self (by omega)]
  rfl
theorem ndAt_set_ne {M : Wm} {s q : Int} {m : Nd} (h : q.toNat ≠ s.toNat) : ndAt (setN M s m) q = ndAt M q := by
  unfold ndAt setN
  simp only [List.getD]
  rw [List.getElem?_set_ne (Ne.symm h)]
/-- how a step leaves a world's frame -/
structure Same (M M' : Wm) : Prop where
  w : M'.w = M.w
  n : M'.n.length = M.n.length
theorem Same.refl (M : Wm) : Same M M := ⟨rfl, rfl⟩
theorem Same.trans {A B C : Wm} (h : Same A B) (h' : Same B C) : Same A C := ⟨h'.w.trans h.w, h'.n.trans h.n⟩
theorem same_set (M : Wm) (s : Int) (m : Nd) : Same M (setN M s m) := ⟨rfl, by simp [setN]⟩
theorem same_hear (M : Wm) (s : Int) (f : Fr) : Same M (hearW M s f).1 := ⟨rfl, by simp [hearW, setN]⟩
theorem hearW_l (M : Wm) (s : Int) (f : Fr) : (hearW M s f).1.l = M.l := rfl
theorem hearW_site {M : Wm} {s : Int} {f : Fr} (h0 : 0 ≤ s) (h1 : s < M.n.length) (h : (hearW M s f).2.2 = true) : (ndAt (hearW M s f).1 s).site ≠ none := by
  have e : ndAt (hearW M s f).1 s = (hearNd s (ndAt M s) M.ev f).1 := by
    unfold hearW
    exact ndAt_set h0 h1
  rw [e]
  unfold hearW at h
  simp only at h
  unfold hearNd at h ⊢
  split at h
  · cases h
  · split at h
    · cases h
    · rename_i hoff
      simp only [if_neg hoff]
      simp
theorem hearW_one (M : Wm) (s : Int) (f : Fr) : (hearW M s f).2.1.length ≤ 1 := by
  unfold hearW hearNd
  split
  · simp
  · rename_i j ref _
    split
    · simp
    · simp only
      unfold siteM
      split
      · simp
      split
      · simp
      split
      · simp
      · simp only
        split <;> simp
theorem hearsM_len {w : List Int} {s d : Nat} (hs : s < w.length) (hw : w.length ≤ 7) (hd : d < 6) : ∀ (l : List Fr) (x : Ld) (acc : List Fr), LdI w s d x → (∀ f ∈ l, okF w.length f) → (l.foldl (fun q f => ((hearM q.1 f).1, q.2 ++ (hearM q.1 f).2)) (x, acc)).2.length ≤ acc.length + 7 * l.length
  | [], x, acc, hx, _ => by simp
  | f :: l, x, acc, hx, hl => by
    rw [List.foldl_cons]
    have k1 := (hx.hear hs hw hd (hl f (by simp)).1).1
    have k2 := hear_len x f
    rw [hx.ww] at k2
    have := hearsM_len hs hw hd l _ (acc ++ (hearM x f).2) k1 (fun g hg => hl g (by simp [hg]))
    simp only [List.length_append, List.length_cons] at this ⊢
    omega
theorem startM_le (m : Ld) : (startM m).length ≤ m.w.length := by
  unfold startM
  split <;> exact flat_len_le _ (allF_le m _ _) _
structure TryOk (M M' : Wm) (s : Int) (b : Bool) : Prop where
  wi : WI M'
  same : Same M M'
  len : M'.l.length ≤ M.l.length + 14
  up : b = true → (ndAt M' s).site ≠ none
theorem tryAbove_ok {w : List Int} {s : Nat} {m : Nd} (hm : NdI w s m) {d p : Int} (hd : 0 ≤ d ∧ d < 6) (hp : 0 ≤ p ∧ p ≤ 1048576) : 0 ≤ tryAbove m d p ∧ tryAbove m d p ≤ 1048576 := by
  unfold tryAbove
  split
  · exact hp
  · rename_i x hx
    have := hm.ldi d.toNat x (by
      have h6 := hm.leads
      rw [getD_some (x := none) (l := m.leads) (i := d.toNat) (by omega), hx])
    have h1 := this.seen0
    have h2 := this.seen1
    omega
theorem try_ok {M : Wm} (h : WI M) {s d p : Int} (h0 : 0 ≤ s) (h1 : s < M.n.length) (hs : (ndAt M s).site ≠ none) (hd : 0 ≤ d ∧ d < 6) (hp : 0 ≤ p ∧ p ≤ 1048576) : TryOk M (tryW M s d p).1 s (tryW M s d p).2 := by
  have hn := h.wn
  have hw := h.wl
  have hw1 := h.w1
  have hab := tryAbove_ok (h.at h0 h1) hd hp
  unfold tryW
  simp only
  generalize ha : tryAtt M.w.length s (tryAbove (ndAt M s) d p + 1) = a
  have ha1 : 1 ≤ a := by
    unfold tryAtt at ha
    have := Int.emod_nonneg (s - (tryAbove (ndAt M s) d p + 1)) (by omega : (M.w.length : Int) ≠ 0)
    omega
  split
  · exact ⟨h, .refl _, by simp, fun _ => hs⟩
  rename_i hle
  obtain ⟨hI, hF⟩ := h.hear (f := tryF s d a) h0 h1 (by show s < _; omega)
  have hS := same_hear M s (tryF s d a)
  have hone := hearW_one M s (tryF s d a)
  have hl := hearW_l M s (tryF s d a)
  have hst := hearW_site (f := tryF s d a) h0 h1
  generalize hearW M s (tryF s d a) = R at *
  split
  · rename_i hr
    exact ⟨hI, hS, by rw [hl]; omega, fun e => by cases e⟩
  rename_i hr
  have hr' : R.2.2 = true := by simpa using hr
  have h1' : s < R.1.n.length := by rw [hS.n]; exact h1
  have hx := hI.at h0 h1'
  have hNI : LdI M.w s.toNat d.toNat (newLd s d M.w a 4) := by
    have := newLd_I (w := M.w) (s := s.toNat) (d := d.toNat) (a := a) (k := 4) (by omega) (by omega)
    rw [show ((s.toNat : Nat) : Int) = s by omega, show ((d.toNat : Nat) : Int) = d by omega] at this
    exact this
  have hho := hearsM_ok (w := M.w) (s := s.toNat) (d := d.toNat) (by omega) hw (by omega) R.2.1 (newLd s d M.w a 4) [] hNI hF (fun f hf => by cases hf)
  have hhl := hearsM_len (w := M.w) (s := s.toNat) (d := d.toNat) (by omega) hw (by omega) R.2.1 (newLd s d M.w a 4) [] hNI hF
  change LdI M.w s.toNat d.toNat (hearsM (newLd s d M.w a 4) R.2.1).1 ∧ ∀ f ∈ (hearsM (newLd s d M.w a 4) R.2.1).2, okF M.w.length f at hho
  change (hearsM (newLd s d M.w a 4) R.2.1).2.length ≤ _ at hhl
  have hso := startM_ok hNI (by omega) hw (by omega)
  have hsl := startM_le (newLd s d M.w a 4)
  rw [show (newLd s d M.w a 4).w = M.w from rfl] at hsl
  have hset := hI.set (m := { ndAt R.1 s with leads := (ndAt R.1 s).leads.set d.toNat (some (hearsM (newLd s d M.w a 4) R.2.1).1) }) h0 (hx.lead (by rw [hS.w]; exact hho.1))
  refine ⟨hset.setL fun f hf => ?_, hS.trans ⟨rfl, by simp [setN]⟩, ?_, fun _ => ?_⟩
  · show okF R.1.w.length f
    rw [hS.w]
    rw [hl] at hf
    rcases List.mem_append.1 hf with hf | hf
    · rcases List.mem_append.1 hf with hf | hf
      · exact h.fr f hf
      · exact hso f hf
    · exact hho.2 f hf
  · simp only [List.length_append, hl]
    simp only [List.length_nil] at hhl
    omega
  · have e : (ndAt (setN R.1 s { ndAt R.1 s with leads := (ndAt R.1 s).leads.set d.toNat (some (hearsM (newLd s d M.w a 4) R.2.1).1) }) s).site ≠ none := by
      rw [ndAt_set h0 h1']
      exact hst hr'
    exact e
theorem decideF_ok {M : Wm} (h : WI M) {s : Int} {d : Nat} (h0 : 0 ≤ s) (h1 : s < M.n.length) (hd : d < 6) {st : St} (hst : stOk st) : ∀ f ∈ decideF M s d st, okF M.w.length f := by
  intro f hf
  have hn := h.wn
  have hw := h.wl
  unfold decideF at hf
  obtain ⟨i, hi, rfl⟩ := List.mem_map.1 hf
  have := List.mem_range.1 hi
  obtain ⟨g1, g2, g3, g4, g5⟩ := hst
  unfold okF badF
  simp only
  omega
theorem decideF_len (M : Wm) (s d : Int) (st : St) : (decideF M s d st).length = M.w.length := by simp [decideF]
structure TickOk (M : Wm) (q : Wm × Bool) (s : Int) (k : Nat) : Prop where
  wi : WI q.1
  same : Same M q.1
  len : q.1.l.length ≤ M.l.length + 14 * k
  up : q.2 = true → (ndAt q.1 s).site ≠ none
theorem tickD_ok {M : Wm} {q : Wm × Bool} {s : Int} {k d : Nat} (h : TickOk M q s k) (h0 : 0 ≤ s) (h1 : s < M.n.length) (hd : d < 6) : TickOk M (tickD s q d) s (k + 1) := by
  obtain ⟨M1, b⟩ := q
  have hl := h.len
  have hwl := h.wi.wl
  have hn := h.same.n
  simp only at hl hn hwl
  unfold tickD
  split
  · exact ⟨h.wi, h.same, by simp only; omega, h.up⟩
  split
  · exact ⟨h.wi, h.same, by simp only; omega, fun e => by cases e⟩
  rename_i hb _ j ref hs
  have hs' : (ndAt M1 s).site = some (j, ref) := hs
  have hni := h.wi.at (s := s) h0 (by simp only; omega)
  have hS := (hni.jn hs').st d hd
  split
  · exact ⟨h.wi, h.same, by simp only; omega, h.up⟩
  split
  · refine ⟨h.wi.setL fun f hf => ?_, ⟨h.same.w, h.same.n⟩, ?_, fun _ => h.up (by simpa using hb)⟩
    · rcases List.mem_append.1 hf with hf | hf
      · exact h.wi.fr f hf
      · exact decideF_ok h.wi h0 (by simp only; omega) hd hS f hf
    · simp only [List.length_append, decideF_len]
      omega
  · obtain ⟨g1, g2, g3, g4, g5⟩ := hS
    have ht := try_ok h.wi (s := s) (d := d) (p := (stAt j d).pr) h0 (by simp only; omega) (h.up (by simpa using hb)) (by omega) (by omega)
    have h4 : (tryW M1 s d (stAt j d).pr).1.l.length ≤ M1.l.length + 14 := ht.len
    have h5 : (tryW M1 s d (stAt j d).pr).1.l.length ≤ M.l.length + 14 * (k + 1) := by omega
    exact ⟨ht.wi, h.same.trans ht.same, h5, ht.up⟩
theorem ticks_ok {M : Wm} (h : WI M) {s : Int} (h0 : 0 ≤ s) (h1 : s < M.n.length) (hs : (ndAt M s).site ≠ none) : ∀ k, k ≤ 6 → TickOk M ((List.range k).foldl (tickD s) (M, true)) s k
  | 0, _ => ⟨h, .refl _, by simp, fun _ => hs⟩
  | k + 1, hk => by
    rw [List.range_succ, List.foldl_append]
    exact tickD_ok (ticks_ok h h0 h1 hs k (by omega)) h0 h1 (by omega)
/-- what a step keeps -/
structure StepOk (M M' : Wm) (k : Nat) : Prop where
  wi : WI M'
  same : Same M M'
  len : M'.l.length ≤ M.l.length + k
theorem StepOk.refl {M : Wm} (h : WI M) (k : Nat) : StepOk M M k := ⟨h, .refl _, by omega⟩
theorem StepOk.mono {M M' : Wm} {k k' : Nat} (h : StepOk M M' k) (hk : k ≤ k') : StepOk M M' k' := ⟨h.wi, h.same, by have := h.len; omega⟩
theorem up_site {M : Wm} {s : Int} (h : upE M s = none) : 0 ≤ s ∧ s < M.n.length ∧ (ndAt M s).site ≠ none := by
  unfold upE at h
  split at h
  · cases h
  · rename_i hn
    obtain ⟨h0, h1⟩ := nodeE_none hn
    split at h
    · cases h
    · rename_i hs
      exact ⟨h0, h1, fun e => hs (by rw [e]; rfl)⟩
theorem tick_ok {M : Wm} (h : WI M) (s : Int) : StepOk M (tickW M s).1 84 := by
  unfold tickW
  split
  · exact .refl h _
  · rename_i hu
    obtain ⟨h0, h1, hs⟩ := up_site hu
    have := ticks_ok h h0 h1 hs 6 (by omega)
    exact ⟨this.wi, this.same, this.len⟩
theorem begin_ok {M : Wm} (h : WI M) (s d : Int) : StepOk M (beginW M s d).1 7 := by
  have hn := h.wn
  have hw := h.wl
  unfold beginW
  split
  · exact .refl h _
  rename_i hb
  split
  · exact .refl h _
  split
  · exact .refl h _
  have hNI : LdI M.w s.toNat d.toNat (newLd s d M.w 0 2) := by
    have := newLd_I (w := M.w) (s := s.toNat) (d := d.toNat) (a := 0) (k := 2) (by omega) (by omega)
    rw [show ((s.toNat : Nat) : Int) = s by omega, show ((d.toNat : Nat) : Int) = d by omega] at this
    exact this
  have hso := startM_ok hNI (by omega) hw (by omega)
  have hsl := startM_le (newLd s d M.w 0 2)
  rw [show (newLd s d M.w 0 2).w = M.w from rfl] at hsl
  have hset := h.set (m := { ndAt M s with leads := (ndAt M s).leads.set d.toNat (some (newLd s d M.w 0 2)) }) (s := s) (by omega) ((h.at (by omega) (by omega)).lead hNI)
  refine ⟨hset.setL fun f hf => ?_, ⟨rfl, by simp [setN]⟩, by simp; omega⟩
  rcases List.mem_append.1 hf with hf | hf
  · exact h.fr f hf
  · exact hso f hf
theorem refuse_ok {M : Wm} (h : WI M) (s d : Int) : StepOk M (refuseW M s d).1 0 := by
  unfold refuseW
  split
  · exact .refl h _
  split
  · exact .refl h _
  rename_i hu
  obtain ⟨h0, h1, hs⟩ := up_site hu
  have hx := h.at h0 h1
  refine ⟨h.set h0 ?_, same_set _ _ _, by simp [setN]⟩
  unfold refuseN
  split
  · exact hx
  · rename_i j ref hj
    exact ⟨hx.leads, hx.done, hx.b512, hx.si, fun j2 r2 e => by cases e; exact hx.up j ref hj, fun e => (by cases e), hx.ldi⟩
theorem frame_at {M : Wm} (h : WI M) {k : Int} (hk : wat M k = none) : okF M.w.length (M.l.getD k.toNat zeroF) ∧ 0 ≤ k ∧ k < M.l.length := by
  unfold wat at hk
  split at hk
  · cases hk
  · have hlt : k.toNat < M.l.length := by omega
    have e : M.l.getD k.toNat zeroF = M.l[k.toNat] := by rw [List.getD, List.getElem?_eq_getElem hlt]; rfl
    rw [e]
    exact ⟨h.fr _ (List.getElem_mem _), by omega, by omega⟩
theorem deliver_ok {M : Wm} (h : WI M) (k : Int) : StepOk M (deliverW M k).1 6 := by
  have hn := h.wn
  have hw := h.wl
  unfold deliverW
  split
  · exact .refl h _
  rename_i hk
  obtain ⟨⟨hbad, hto, hfr⟩, hk0, hk1⟩ := frame_at h hk
  generalize M.l.getD k.toNat zeroF = f at *
  have hE := h.erase k.toNat
  have hel : (M.l.eraseIdx k.toNat).length = M.l.length - 1 := by rw [List.length_eraseIdx, if_pos (by omega)]
  have hS1 : Same M { M with l := M.l.eraseIdx k.toNat } := ⟨rfl, rfl⟩
  have hb2 := hbad
  unfold badF at hb2
  simp only
  split
  · exact ⟨hE, hS1, by simp only [hel]; omega⟩
  split
  · split
    · exact ⟨hE, hS1, by simp only [hel]; omega⟩
    · rename_i x hx
      have hni := hE.at (s := f.to) (by omega) (by simp only; omega)
      have h6 := hni.leads
      have hLI := hni.ldi f.dl.toNat x (by rw [getD_some (x := none) (by omega), hx])
      obtain ⟨k1, k2⟩ := hLI.hear (by simp only; omega) hw (by omega) hbad
      have k3 := hear_len x f
      rw [hLI.ww] at k3
      have hset := hE.set (m := { ndAt { M with l := M.l.eraseIdx k.toNat } f.to with leads := (ndAt { M with l := M.l.eraseIdx k.toNat } f.to).leads.set f.dl.toNat (some (hearM x f).1) }) (s := f.to) (by omega) (hni.lead k1)
      refine ⟨hset.setL fun g hg => ?_, ⟨rfl, by simp [setN]⟩, ?_⟩
      · rcases List.mem_append.1 hg with hg | hg
        · exact hE.fr g hg
        · exact k2 g hg
      · simp only [List.length_append, hel]
        simp only at k3
        omega
  · obtain ⟨k1, k2⟩ := hE.hear (s := f.to) (f := f) (by omega) (by simp only; omega) hfr
    have k3 := hearW_one { M with l := M.l.eraseIdx k.toNat } f.to f
    have k4 := same_hear { M with l := M.l.eraseIdx k.toNat } f.to f
    refine ⟨k1.setL fun g hg => ?_, ⟨k4.w, k4.n⟩, ?_⟩
    · show okF (hearW { M with l := M.l.eraseIdx k.toNat } f.to f).1.w.length g
      rw [k4.w]
      rcases List.mem_append.1 hg with hg | hg
      · exact hE.fr g hg
      · exact k2 g hg
    · simp only [List.length_append, hel]
      omega
theorem drop_ok {M : Wm} (h : WI M) (k : Int) : StepOk M (dropW M k).1 0 := by
  unfold dropW
  split
  · exact .refl h _
  · exact ⟨h.erase _, ⟨rfl, rfl⟩, by simp only [List.length_eraseIdx]; split <;> omega⟩
theorem twice_ok {M : Wm} (h : WI M) (k : Int) : StepOk M (twiceW M k).1 1 := by
  unfold twiceW
  split
  · exact .refl h _
  rename_i hk
  obtain ⟨hf, hk0, hk1⟩ := frame_at h hk
  refine ⟨h.setL fun g hg => ?_, ⟨rfl, rfl⟩, ?_⟩
  · rcases List.mem_append.1 hg with hg | hg
    · exact h.fr g (List.mem_of_mem_take hg)
    · rcases List.mem_cons.1 hg with hg | hg
      · rw [hg]; exact hf
      · exact h.fr g (List.mem_of_mem_drop hg)
  · simp only [List.length_append, List.length_take, List.length_cons, List.length_drop]
    omega
theorem link_ok {M : Wm} (h : WI M) (a b : Int) (c : Bool) : StepOk M (linkW M a b c).1 0 := by
  unfold linkW
  split
  · exact .refl h _
  · exact ⟨h.setB _, ⟨rfl, rfl⟩, by simp⟩
theorem cut_ok {M : Wm} (h : WI M) (s n : Int) (hn : n ≤ 9223372036854775807) : StepOk M (cutW M s n).1 0 := by
  unfold cutW
  split
  · exact .refl h _
  split
  · exact .refl h _
  rename_i hn0 _ hu
  obtain ⟨h0, h1, hs⟩ := up_site hu
  have hx := h.at h0 h1
  refine ⟨h.set h0 ⟨hx.leads, hx.done, hx.b512, hx.si.cut (by omega) hn, hx.up, hx.dn, hx.ldi⟩, same_set _ _ _, by simp [setN]⟩
theorem SI.down {m : Pl} {b : Bool} (h : SI m ⟨openM m.b, b⟩) : SI { m with off := true } ⟨openM m.b, true⟩ := ⟨⟨h.ji.lo, h.ji.hi, h.ji.c0, h.ji.c1, rfl, rfl⟩, h.st⟩
theorem down_ok {M : Wm} (h : WI M) (s : Int) : StepOk M (downW M s).1 0 := by
  unfold downW
  split
  · exact .refl h _
  rename_i hu
  obtain ⟨h0, h1, hs⟩ := up_site hu
  have hx := h.at h0 h1
  exact ⟨h.set h0 (hx.fall hx.b512 hx.si.down rfl), same_set _ _ _, by simp [setN]⟩
theorem NdI.boot {w : List Int} {s : Nat} {m : Nd} (h : NdI w s m) (dn : List Bool) (hd : dn.length = 6) : NdI w s { bootN m with done := dn } :=
  ⟨h.leads, hd, h.b512, h.si.boot, fun j ref e => by cases e; exact ⟨rfl, rfl⟩, fun e => (by cases e), h.ldi⟩
theorem up_ok {M : Wm} (h : WI M) (s : Int) : StepOk M (upW M s).1 0 := by
  unfold upW
  split
  · exact .refl h _
  split
  · exact .refl h _
  rename_i hu _
  obtain ⟨h0, h1⟩ := nodeE_none hu
  have hx := h.at h0 h1
  exact ⟨(h.set h0 (hx.boot _ (by rw [noteN_len]; exact hx.done))).setE (noteN_ev _ _ _ h.evl), ⟨rfl, by simp [setN]⟩, by simp [setN]⟩
theorem newNd_I (w : List Int) (s : Nat) : NdI w s newNd := by
  have hS := si_new (n := 512) (by omega) (by omega)
  refine ⟨rfl, rfl, (by show (zeros 512).length = 512; unfold zeros; exact List.length_replicate), hS, fun j ref e => by cases e; exact ⟨rfl, rfl⟩, fun e => (by cases e), fun d x hx => ?_⟩
  simp only [newNd, noLeads, List.getElem?_replicate] at hx
  split at hx <;> cases hx
theorem new_ok {w : List Int} (h : checkW w = none) : WI (newW w) := by
  obtain ⟨c1, c2, -⟩ := check_none h
  refine ⟨h, c2, c1, by simp [newW], fun f hf => (by cases hf), by simp [newW], fun s m hm => ?_⟩
  simp only [newW, List.getElem?_replicate] at hm
  split at hm
  · cases hm
    exact newNd_I _ _
  · cases hm
end Go.HL
end

/-! WoV -/
section
namespace Go.HL
open Go Go.Proofs
set_option linter.unusedVariables false
set_option linter.unusedSimpArgs false
def tickF (s : Int) (M : Wm) (k : Nat) : Wm × Bool := (List.range k).foldl (tickD s) (M, true)
theorem tickF_succ (s : Int) (M : Wm) (k : Nat) : tickF s M (k + 1) = tickD s (tickF s M k) k := by
  unfold tickF
  rw [List.range_succ, List.foldl_append]
  rfl
theorem tickF_stop {s : Int} {M : Wm} {k : Nat} (h : (tickF s M k).2 = false) : ∀ j, tickF s M (k + j) = tickF s M k
  | 0 => rfl
  | j + 1 => by
    rw [← Nat.add_assoc, tickF_succ, tickF_stop h j]
    unfold tickD
    rw [if_pos h]
theorem decideF_succ (M : Wm) (s d : Int) (st : St) (i : Nat) : ((List.range (i + 1)).map fun (i : Nat) => (⟨s, (i : Int), d, 7, st.pr, false, ⟨st.ph, 0, 0⟩⟩ : Fr)) = ((List.range i).map fun (i : Nat) => (⟨s, (i : Int), d, 7, st.pr, false, ⟨st.ph, 0, 0⟩⟩ : Fr)) ++ [⟨s, (i : Int), d, 7, st.pr, false, ⟨st.ph, 0, 0⟩⟩] := by
  rw [List.range_succ, List.map_append]
  rfl
theorem ls_out {A L : Heap} {c : List Blk} : LS (A ++ L).flatten (c :: (A ++ L)).flatten := by
  rw [List.flatten_cons]
  exact LS.skips c (LS.refl _)
theorem ls_in {A L : Heap} {c : List Blk} : LS (A ++ (c :: L)).flatten (c :: (A ++ L)).flatten := by
  simp only [List.flatten_cons, List.flatten_append]
  refine LS.of_perm ?_
  rw [← List.append_assoc, ← List.append_assoc]
  exact List.perm_append_comm.append_right _
set_option maxHeartbeats 2000000 attribute [local irreducible] HW HO HQ HD HC QOp Has Upd Puts Gets seqQ blkQ loopQ fnQ actQ nextP unQ MapF
attribute [local irreducible] ndL jcells plC siteM ldL openM tryW
theorem wtick_calls (T : Nat) (E : Nat → Addr) (G : WdG) (M : Wm) (s : Int) (L : Heap) (hG : Er T E [2, 3, 4, 5, 6] L) (hW : WdOk G M) (hM : WI M) (hl : M.l.length ≤ 99999000) :
    HC Tryz.prog 83 [pt G.wp 0, iv s] (wdH G M ++ L) (fun v L' => v = eV T E (tickW M s).2 ∧ WdP G (tickW M s).1 L L') := by
  unfold tickW
  have hself := wdP_self hW L
  rcases up_err (M := M) (s := s) with ⟨e, he⟩ | ⟨he, hn, h0, h1, j, ref, hs⟩
  · have ku := kup_H s hG.sub hW
    have hG' := er_wdH hG G M
    generalize wdH G M ++ L = H at *
    simp only [he] at ku ⊢
    refine Za (fun _ _ => Tryz.call83 _ _) Tryz.func83 rfl Tryz.ntmps83 (Nat.le_of_ble_eq_true rfl) ?_; simp only [args0, Nat.reduceAdd]
    repeat' (first | refine uN ?_ | refine g_k S ?_ | refine g_w S ?_ | refine uC (ku) ?_ | refine uD0 (fun _ => ku) ?_ | refine uD1 (fun _ => ku) ?_ | refine uD2 (fun _ => ku) ?_ | refine uD3 (fun _ => ku) ?_ | (refine uB ?_; intro b) | (refine uP ?_ ?_ <;> (intro h; ((try simp only [zs, ne_eq, and_true, true_and, eq_self, reduceCtorEq] at h); try exact zx))) | refine da 101 ?_ | fail)
    exact er1 rfl ⟨rfl, hself⟩
  · have ku := kup_H s hG.sub hW
    simp only [he, upV_up hn] at ku ⊢
    have hticks := fun k hk => ticks_ok hM h0 h1 (by rw [hs]; simp) k hk
    change ∀ k, k ≤ 6 → TickOk M (tickF s M k) s k at hticks
    change HC _ _ _ _ (fun v L' => v = eV T E none ∧ WdP G (tickF s M 6).1 L L')
    refine Za (fun _ _ => Tryz.call83 _ _) Tryz.func83 rfl Tryz.ntmps83 (Nat.le_of_ble_eq_true rfl) ?_; simp only [args0, Nat.reduceAdd]
    repeat' (first | refine uN ?_ | refine g_k S ?_ | refine g_w S ?_ | refine uC (ku) ?_ | refine uD0 (fun _ => ku) ?_ | refine uD1 (fun _ => ku) ?_ | refine uD2 (fun _ => ku) ?_ | refine uD3 (fun _ => ku) ?_ | (refine uB ?_; intro b) | (refine uP ?_ ?_ <;> (intro h; ((try simp only [zs, ne_eq, and_true, true_and, eq_self, reduceCtorEq] at h); try exact zx))) | refine da 101 ?_ | fail)
    refine Zf (σ := Nat × WdG) (fun r => [(0, pt G.wp 0), (1, iv s), (5, pt (npAt G s).np 0), (20, iv r.1)]) (fun r => wdH r.2 (tickF s M r.1).1 ++ L)
      (fun r => r.1 ≤ 6 ∧ (tickF s M r.1).2 = true ∧ WdOk r.2 (tickF s M r.1).1 ∧ r.2.wp = G.wp ∧ r.2.nd.map (·.np) = G.nd.map (·.np)) (fun r => 6 - r.1) (0, G) uS (List.Sublist.refl _) ⟨by simp, rfl, hW, rfl, rfl⟩ ?_
    rintro ⟨d, G1⟩ ⟨hd, hon, hW1, e1, e2⟩
    simp only at hd hon hW1 e1 e2 ⊢
    obtain ⟨hM1, hsame, hlen, hsite⟩ := hticks d hd
    have hsite1 := hsite hon
    have hnx := tickF_succ s M d
    by_cases hd6 : d < 6
    · have hnx2 := hticks (d + 1) (by omega)
      have hstop := fun h => tickF_stop (s := s) (M := M) (k := d + 1) h (5 - d)
      rw [show d + 1 + (5 - d) = 6 by omega] at hstop
      generalize tickF s M d = q at *
      obtain ⟨M1, b⟩ := q
      simp only at hon hW1 hM1 hsame hlen hsite1 ⊢
      subst hon
      have h1' : s < M1.n.length := by rw [hsame.n]; exact h1
      have hnp2 := np_same e2 h0 (by rw [hW.ndl]; exact h1)
      have hok := wdOk_at hW1 h0 h1'
      have hni := wi_at hM1 h0 h1'
      obtain ⟨⟨j1, ref1⟩, hs1⟩ := Option.ne_none_iff_exists'.1 hsite1
      have hj := hni.jn hs1
      have hst := hj.st d hd6
      have hB : ∀ {b : Nat} {o : Obj}, (b, o) ∈ ndA (npAt G1 s) s (ndAt M1 s) → Has (wdH G1 M1 ++ L) b o := fun {b o} hb => by
        have := wd_has hW1.ndl h0 h1' hb L
        unfold Has wdH at *
        rw [List.append_assoc, List.flatten_append]
        exact List.mem_append_right _ this
      have hN : Has (wdH G1 M1 ++ L) (npAt G1 s).np (ndO (npAt G1 s) (ndAt M1 s)) := wd_hasW hW1.ndl h0 h1' L
      have hA1 : Has (wdH G1 M1 ++ L) (npAt G1 s).sp (.cells ⟨[pt (npAt G1 s).bj 0, iv s, .map (some (npAt G1 s).mb)]⟩ 187) := hB (by simp [ndA, hs1, siB, siC])
      have hA2 : Has (wdH G1 M1 ++ L) (npAt G1 s).bj (.cells ⟨jcells (npAt G1 s).bp j1⟩ 261) := hB (by simp [ndA, hs1, siB, jC])
      have kst := sstateH_calls (npAt G1 s).sp (npAt G1 s).bj (npAt G1 s).mb (npAt G1 s).bp s j1 d _ hA1 hA2 hj.ji.jn.len hd6
      have htd : tickF s M (d + 1) = if stAt j1 d = zeroS then (M1, true) else if (stAt j1 d).ph = 2 ∨ (stAt j1 d).ph = 3 then ({ M1 with l := M1.l ++ decideF M1 s d (stAt j1 d) }, true) else tryW M1 s d (stAt j1 d).pr := by
        rw [hnx]
        unfold tickD
        simp only [hs1, Bool.true_eq_false, if_false]
      have g0 : (ndL (pt (npAt G1 s).sp 0) (npAt G1 s).bp (ldVs (npAt G1 s) (ndAt M1 s)) (ndAt M1 s).done)[0 + 0]? = some (pt (npAt G1 s).sp 0) := ndL_pre rfl
      unfold ndO at hN
      rw [hs1] at hN
      simp only [stV, hnp2] at hN
      change HC _ _ _ _ (fun v L' => v = .tuple ⟨[.agg ⟨sc (stAt j1 d)⟩, .nilIface]⟩ ∧ _) at kst
      have hdl := decideF_len M1 s d (stAt j1 d)
      have hdF : decideF M1 s d (stAt j1 d) = (List.range M1.w.length).map fun (i : Nat) => (⟨s, (i : Int), d, 7, (stAt j1 d).pr, false, ⟨(stAt j1 d).ph, 0, 0⟩⟩ : Fr) := rfl
      have hsuccF := fun i => decideF_succ M1 s d (stAt j1 d) i
      generalize stAt j1 d = st at *
      obtain ⟨ph, pr, att⟩ := st
      obtain ⟨q1, q2, q3, q4, q5⟩ := hst
      simp only at q1 q2 q3 q4 q5 hdF hsuccF
      have hwn := hM1.wn
      have hwl := hM1.wl
      by_cases hz : ph = 0 ∧ pr = 0 ∧ att = 0
      · obtain ⟨rfl, rfl, rfl⟩ := hz
        rw [if_pos (show (⟨0, 0, 0⟩ : St) = zeroS from rfl)] at htd
        clear hA1 hA2 hB
        generalize hH : wdH G1 M1 ++ L = H at *
        repeat' (first | refine uN ?_ | refine g_k S ?_ | refine g_w S ?_ | refine uC (kst) ?_ | refine uD0 (fun _ => kst) ?_ | refine uD1 (fun _ => kst) ?_ | refine uD2 (fun _ => kst) ?_ | refine uD3 (fun _ => kst) ?_ | (refine uB ?_; intro b) | (refine uP ?_ ?_ <;> (intro h; ((try simp only [zs, ne_eq, and_true, true_and, eq_self, reduceCtorEq] at h); try exact zx))) | refine da 101 ?_ | fail)
        all_goals subst hH
        all_goals refine Zc (d + 1, G1) uS ?_ ⟨by simp only; omega, by simp only [htd], by simp only [htd]; exact hW1, e1, e2⟩ (by simp only; omega)
        all_goals simp only [htd]
        all_goals exact ls_out
      have hz2 : ¬ ((⟨ph, pr, att⟩ : St) = zeroS) := fun e => by cases e; exact hz ⟨rfl, rfl, rfl⟩
      rw [if_neg hz2] at htd
      by_cases hf : ph = 2 ∨ ph = 3
      · rw [if_pos hf] at htd
        obtain ⟨aw2, capw2, hwv2, -, -⟩ := hW1.w.rd ic_len
        obtain ⟨al2, capl2, hlv2, -, -⟩ := hW1.l.rd fc_len
        have hvl := hW1.l
        rw [hlv2] at hvl
        have hwp := (wd_in hW1 L).wp
        unfold wdO at hwp
        rw [hwv2, hlv2] at hwp
        rw [e1] at hwp
        clear hA1 hA2 hB
        generalize hH : wdH G1 M1 ++ L = H at *
        repeat' (first | refine uN ?_ | refine g_k S ?_ | refine g_w S ?_ | refine uC (kst) ?_ | refine uD0 (fun _ => kst) ?_ | refine uD1 (fun _ => kst) ?_ | refine uD2 (fun _ => kst) ?_ | refine uD3 (fun _ => kst) ?_ | (refine uB ?_; intro b) | (refine uP ?_ ?_ <;> (intro h; ((try simp only [zs, ne_eq, and_true, true_and, eq_self, reduceCtorEq] at h); try exact zx))) | refine da 101 ?_ | fail)
        all_goals subst hH
        all_goals refine hw_sp (L' := [(b, .cells ⟨sc ⟨ph, pr, att⟩⟩ 43)] :: G1.lc :: [(G.wp, .cells ⟨[.slice aw2 M1.w.length capw2, G1.nv, .map (some G1.mb), .slice al2 M1.l.length capl2, G1.ev]⟩ 110)] :: G1.wc :: G1.nc :: [(G1.mb, .map ⟨G1.es⟩ G1.ck)] :: G1.ec :: ndsB G1.nd M1.n 0 :: L) ?_ (by simp only [wdH, wdT, wdO, List.cons_append, List.nil_append, hwv2, hlv2, e1]; exact uL)
        all_goals refine Zf (σ := Nat × Value × List Blk) (fun r => [(0, pt G.wp 0), (1, iv s), (5, pt (npAt G s).np 0), (7, iv d), (8, pt b 0), (20, iv d), (49, iv M1.w.length), (50, iv r.1)]) (fun r => [(b, .cells ⟨sc ⟨ph, pr, att⟩⟩ 43)] :: r.2.2 :: [(G.wp, .cells ⟨[.slice aw2 M1.w.length capw2, G1.nv, .map (some G1.mb), r.2.1, G1.ev]⟩ 110)] :: G1.wc :: G1.nc :: [(G1.mb, .map ⟨G1.es⟩ G1.ck)] :: G1.ec :: ndsB G1.nd M1.n 0 :: L) (fun r => r.1 ≤ M1.w.length ∧ FrVec r.2.1 (M1.l ++ (List.range r.1).map fun (i : Nat) => (⟨s, (i : Int), d, 7, pr, false, ⟨ph, 0, 0⟩⟩ : Fr)) r.2.2) (fun r => M1.w.length - r.1) (0, .slice al2 M1.l.length capl2, G1.lc) uS (List.Sublist.refl _) ⟨by simp, by simpa using hvl⟩ ?_
        all_goals rintro ⟨i, lv3, lc3⟩ ⟨hi, hv3⟩
        all_goals simp only at hi hv3 ⊢
        all_goals obtain ⟨al3, capl3, hlv3, -, -⟩ := hv3.rd fc_len
        all_goals subst hlv3
        all_goals
          by_cases hit : i < M1.w.length
          · repeat' (first | refine uN ?_ | refine g_k S ?_ | refine g_w S ?_ | (refine uB ?_; intro b) | (refine uP ?_ ?_ <;> (intro h; ((try simp only [zs, ne_eq, and_true, true_and, eq_self, reduceCtorEq] at h); try exact zx))) | refine da 101 ?_ | fail)
            refine fo 2 ?_
            refine wp1 S (⟨s, (i : Int), d, 7, pr, false, ⟨ph, 0, 0⟩⟩ : Fr) hv3 fc_len fc_one ?_ (hby := by simp only [List.length_append, List.length_map, List.length_range]; omega) (hmax := by simp only [List.length_append, List.length_map, List.length_range]; omega)
            intro v' c' hv'
            obtain ⟨a6, cap6, he6, -, -⟩ := hv'.rd fc_len
            subst he6
            rw [List.append_assoc, ← hsuccF i] at hv'
            repeat' (first | refine uN ?_ | refine g_k S ?_ | refine g_w S ?_ | (refine uB ?_; intro b) | (refine uP ?_ ?_ <;> (intro h; ((try simp only [zs, ne_eq, and_true, true_and, eq_self, reduceCtorEq] at h); try exact zx))) | refine da 101 ?_ | fail)
            refine Zc (i + 1, _, c') uS ?_ ⟨by simp only; omega, hv'⟩ (by simp only; omega)
            rw [List.append_assoc, ← hsuccF i]
            exact uL
          · obtain rfl : i = M1.w.length := by omega
            rw [← hdF] at hv3
            repeat' (first | refine uN ?_ | refine g_k S ?_ | refine g_w S ?_ | (refine uB ?_; intro b) | (refine uP ?_ ?_ <;> (intro h; ((try simp only [zs, ne_eq, and_true, true_and, eq_self, reduceCtorEq] at h); try exact zx))) | refine da 101 ?_ | fail)
            refine Zc (d + 1, { G1 with lv := .slice al3 (M1.l ++ decideF M1 s d ⟨ph, pr, att⟩).length capl3, lc := lc3 }) uS ?_ ⟨by simp only; omega, by simp only [htd], by simp only [htd]; exact hW1.setL hv3, e1, e2⟩ (by simp only; omega)
            simp only [htd, wdH, wdT, wdO, List.cons_append, List.nil_append, hwv2, e1, hdF]
            exact uL
      · rw [if_neg hf] at htd
        have hk := fun L hG => wtry_calls T E G1 M1 s d pr L hG hW1 hM1 (by omega) h0 h1' hsite1 (by omega) (by omega)
        rw [← htd] at hk
        simp only [e1] at hk
        have ho : (tickF s M (d + 1)).2 = true ∨ (tickF s M (d + 1)).2 = false := by cases (tickF s M (d + 1)).2 <;> simp
        clear hA1 hA2 hB
        generalize hH : wdH G1 M1 ++ L = H at *
        rcases ho with ho | ho
        · rw [ho] at hk
          repeat' (first | refine uN ?_ | refine g_k S ?_ | refine g_w S ?_ | refine uC (kst) ?_ | refine uD0 (fun _ => kst) ?_ | refine uD1 (fun _ => kst) ?_ | refine uD2 (fun _ => kst) ?_ | refine uD3 (fun _ => kst) ?_ | (refine uB ?_; intro b) | (refine uP ?_ ?_ <;> (intro h; ((try simp only [zs, ne_eq, and_true, true_and, eq_self, reduceCtorEq] at h); try exact zx))) | refine da 101 ?_ | fail)
          all_goals subst hH
          all_goals refine ho_sp (L' := wdH G1 M1 ++ ([(b, .cells ⟨sc ⟨ph, pr, att⟩⟩ 43)] :: L)) ?_ ls_in
          all_goals refine gc (hk _ (hG.cons _)) ?_
          all_goals rintro v L' ⟨rfl, G3, f1, f2, f3, rfl⟩
          all_goals repeat' (first | refine uN ?_ | refine g_k S ?_ | refine g_w S ?_ | refine uC (kst) ?_ | refine uD0 (fun _ => kst) ?_ | refine uD1 (fun _ => kst) ?_ | refine uD2 (fun _ => kst) ?_ | refine uD3 (fun _ => kst) ?_ | (refine uB ?_; intro b) | (refine uP ?_ ?_ <;> (intro h; ((try simp only [zs, ne_eq, and_true, true_and, eq_self, reduceCtorEq] at h); try exact zx))) | refine da 101 ?_ | fail)
          all_goals refine Zc (d + 1, G3) uS ?_ ⟨by simp only; omega, ho, f3, f1.trans e1, f2.trans e2⟩ (by simp only; omega)
          all_goals simp only [List.flatten_append, List.flatten_cons]
          all_goals exact LS.boths _ (LS.skips _ (LS.refl _))
        · rw [ho] at hk
          rw [hstop ho]
          repeat' (first | refine uN ?_ | refine g_k S ?_ | refine g_w S ?_ | refine uC (kst) ?_ | refine uD0 (fun _ => kst) ?_ | refine uD1 (fun _ => kst) ?_ | refine uD2 (fun _ => kst) ?_ | refine uD3 (fun _ => kst) ?_ | (refine uB ?_; intro b) | (refine uP ?_ ?_ <;> (intro h; ((try simp only [zs, ne_eq, and_true, true_and, eq_self, reduceCtorEq] at h); try exact zx))) | refine da 101 ?_ | fail)
          all_goals subst hH
          all_goals refine ho_sp (L' := wdH G1 M1 ++ ([(b, .cells ⟨sc ⟨ph, pr, att⟩⟩ 43)] :: L)) ?_ ls_in
          all_goals refine gc (hk _ (hG.cons _)) ?_
          all_goals rintro v L' ⟨rfl, G3, f1, f2, f3, rfl⟩
          all_goals repeat' (first | refine uN ?_ | refine g_k S ?_ | refine g_w S ?_ | refine uC (kst) ?_ | refine uD0 (fun _ => kst) ?_ | refine uD1 (fun _ => kst) ?_ | refine uD2 (fun _ => kst) ?_ | refine uD3 (fun _ => kst) ?_ | (refine uB ?_; intro b) | (refine uP ?_ ?_ <;> (intro h; ((try simp only [zs, ne_eq, and_true, true_and, eq_self, reduceCtorEq] at h); try exact zx))) | refine da 101 ?_ | fail)
          all_goals refine sp1 (L' := wdH G3 (tickF s M (d + 1)).1 ++ L) ?_ ⟨rfl, G3, f1.trans e1, f2.trans e2, f3, rfl⟩
          all_goals simp only [List.flatten_append, List.flatten_cons]
          all_goals exact LS.boths _ (LS.skips _ (LS.refl _))
    · obtain rfl : d = 6 := by omega
      repeat' (first | refine uN ?_ | refine g_k S ?_ | refine g_w S ?_ | (refine uB ?_; intro b) | (refine uP ?_ ?_ <;> (intro h; ((try simp only [zs, ne_eq, and_true, true_and, eq_self, reduceCtorEq] at h); try exact zx))) | refine da 101 ?_ | fail)
      exact er1 rfl ⟨rfl, G1, e1, e2, hW1, rfl⟩
end Go.HL
end

/-! WoW -/
section
namespace Go.HL
open Go Go.Proofs
set_option linter.unusedVariables false
set_option linter.unusedSimpArgs false
def newG (np bp ba sp bj mb : Nat) : NdG := ⟨np, bp, ba, sp, bj, mb, [], 0, List.replicate 6 (0, .pointer none, [])⟩
theorem nds_snoc : ∀ {gs : List NdG} {ms : List Nd} {i : Nat} {g : NdG} {m : Nd}, gs.length = ms.length → ndsB (gs ++ [g]) (ms ++ [m]) i = ndsB gs ms i ++ ndA g ((i + gs.length : Nat) : Int) m
  | [], [], i, g, m, _ => by simp [ndsB]
  | [], _ :: _, _, _, _, h => by simp at h
  | _ :: _, [], _, _, _, h => by simp at h
  | g0 :: gs, m0 :: ms, i, g, m, h => by
    have ih := nds_snoc (gs := gs) (ms := ms) (i := i + 1) (g := g) (m := m) (by simpa using h)
    simp only [List.cons_append, ndsB, ih, List.append_assoc, List.length_cons]
    rw [show i + 1 + gs.length = i + (gs.length + 1) by omega]
theorem newNd_ok (np bp ba sp bj mb : Nat) : NdOk (newG np bp ba sp bj mb) newNd := by
  refine ⟨rfl, fun d x hx => ?_, fun j ref e => by cases e; exact mapF_nil⟩
  simp only [newNd, noLeads, List.getElem?_replicate] at hx
  split at hx <;> cases hx
theorem newNd_lds (np bp ba sp bj mb : Nat) : ldBs (newG np bp ba sp bj mb) newNd = [] := rfl
theorem newNd_ndL (np bp ba sp bj mb : Nat) : ndL (stV (newG np bp ba sp bj mb) newNd.site) bp (ldVs (newG np bp ba sp bj mb) newNd) newNd.done = [pt sp 0, pt bp 0, .pointer none, .pointer none, .pointer none, .pointer none, .pointer none, .pointer none, .bool false, .bool false, .bool false, .bool false, .bool false, .bool false] := rfl
theorem nds_new {gs : List NdG} {i : Nat} (np bp ba sp bj mb : Nat) (h : gs.length = i) : ndsB (gs ++ [newG np bp ba sp bj mb]) (List.replicate (i + 1) newNd) 0 = ndsB gs (List.replicate i newNd) 0 ++ (ndB (newG np bp ba sp bj mb) newNd ++ (plC bp ba ⟨zeros 512, false, -1⟩ ++ (siC sp bj mb i ++ (mpC mb [] 0 ++ jC bj bp ⟨openM (zeros 512), false⟩)))) := by
  rw [List.replicate_succ', nds_snoc (show gs.length = (List.replicate i newNd).length by rw [List.length_replicate, h]), h]
  unfold ndA
  rw [newNd_lds, List.append_nil, Nat.zero_add]
  have : siB (newG np bp ba sp bj mb) i newNd.site = siC sp bj mb i ++ mpC mb [] 0 ++ jC bj bp ⟨openM (zeros 512), false⟩ := rfl
  rw [this]
  simp only [List.append_assoc]
  rfl
set_option maxHeartbeats 2000000 attribute [local irreducible] HW HO HQ HD HC QOp Has Upd Puts Gets seqQ blkQ loopQ fnQ actQ nextP unQ MapF
attribute [local irreducible] plC openM zeros
theorem wnew_calls (T : Nat) (E : Nat → Addr) (v : Value) (w : List Int) (c : List Blk) (L : Heap) (hG : Er T E [2, 3, 4, 6] L) (hv : Vec 3 1 ic v w c) (hl : w.length ≤ 1000000) :
    HC Tryz.prog 17 [v] (c :: L) (fun u L' => match checkW w with
      | some e => u = .tuple ⟨[.pointer none, eV T E (some e)]⟩ ∧ L' = c :: L
      | none => ∃ G, u = .tuple ⟨[pt G.wp 0, .nilIface]⟩ ∧ WdOk G (newW w) ∧ L' = wdH G (newW w) ++ (c :: L)) := by
  obtain ⟨aw, capw, rfl, -, hR⟩ := hv.rd ic_len
  have kc := check_calls T E aw capw w (c :: L) (hG.sub.cons c) (hR L) hl
  have kcl := fun L => clone_ints _ w c L hv (by omega)
  cases hc : checkW w with
  | some e =>
    rw [hc] at kc
    refine Za (fun _ _ => Tryz.call17 _ _) Tryz.func17 rfl Tryz.ntmps17 (Nat.le_of_ble_eq_true rfl) ?_; simp only [args0, Nat.reduceAdd]
    repeat' (first | refine uN ?_ | refine uC (kc) ?_ | (refine uB ?_; intro b) | (refine uP ?_ ?_ <;> (intro h; ((try simp only [zs, ne_eq, and_true, true_and, eq_self, reduceCtorEq] at h); try exact zx))) | fail)
    exact er2 rfl ⟨rfl, rfl⟩
  | none =>
    rw [hc] at kc
    obtain ⟨c1, c2, -⟩ := check_none hc
    have kp := fun L hG => new_calls T E 512 L hG
    rw [show newP 512 = some ⟨zeros 512, false, -1⟩ from rfl] at kp
    have hz := zeros_len 512
    have ks := fun (i : Nat) (hi : i < 7) bp ba L hG => snew_calls T E (i : Int) bp ba ⟨zeros 512, false, -1⟩ L hG (by simp only; omega)
    have hse : ∀ i : Nat, i < 7 → siteE (i : Int) ⟨zeros 512, false, -1⟩ = none := fun i hi => by
      unfold siteE
      rw [if_neg (by omega)]
      simp only
      rw [if_neg (by omega)]
      simp
    refine Za (fun _ _ => Tryz.call17 _ _) Tryz.func17 rfl Tryz.ntmps17 (Nat.le_of_ble_eq_true rfl) ?_; simp only [args0, Nat.reduceAdd]
    repeat' (first | refine uN ?_ | refine uC (kc) ?_ | (refine uB ?_; intro b) | (refine uP ?_ ?_ <;> (intro h; ((try simp only [zs, ne_eq, and_true, true_and, eq_self, reduceCtorEq] at h); try exact zx))) | fail)
    refine gc (kcl _) ?_
    rintro u L' ⟨cw, hvw, rfl⟩
    obtain ⟨aw2, capw2, rfl, -, -⟩ := hvw.rd ic_len
    repeat' (first | refine uN ?_ | refine uC (kc) ?_ | (refine uB ?_; intro b) | (refine uP ?_ ?_ <;> (intro h; ((try simp only [zs, ne_eq, and_true, true_and, eq_self, reduceCtorEq] at h); try exact zx))) | fail)
    rename_i mb
    obtain ⟨wp, rfl⟩ : ∃ wp, wp = b := ⟨b, rfl⟩
    refine hw_sp (L' := [(wp, .cells ⟨[.slice aw2 w.length capw2, nilS, .map (some mb), nilS, nilS]⟩ 110)] :: [] :: [(mb, .map ⟨[]⟩ 0)] :: cw :: [] :: c :: L) ?_ uL
    refine Zf (σ := Nat × Value × List Blk × List NdG) (fun r => [(5, pt wp 0), (20, .slice aw w.length capw), (21, iv w.length), (22, iv r.1)])
      (fun r => [(wp, .cells ⟨[.slice aw2 w.length capw2, r.2.1, .map (some mb), nilS, nilS]⟩ 110)] :: r.2.2.1 :: [(mb, .map ⟨[]⟩ 0)] :: cw :: ndsB r.2.2.2 (List.replicate r.1 newNd) 0 :: c :: L)
      (fun r => r.1 ≤ w.length ∧ r.2.2.2.length = r.1 ∧ Vec 117 1 pc r.2.1 (r.2.2.2.map (·.np)) r.2.2.1 ∧ ∀ (k : Nat) (g : NdG), r.2.2.2[k]? = some g → NdOk g newNd) (fun r => w.length - r.1) (0, nilS, [], []) uS (List.Sublist.refl _) ⟨by simp, rfl, vec_nil, fun k g h => by simp at h⟩ ?_
    rintro ⟨i, nv, nc, gs⟩ ⟨hi, hgl, hnv, hgk⟩
    simp only at hi hgl hnv hgk ⊢
    obtain ⟨an, capn, he, -, -⟩ := hnv.rd pc_len
    subst he
    have hml : (gs.map (·.np)).length = i := by simp [hgl]
    by_cases hit : i < w.length
    · have ks2 := ks i (by omega)
      rw [hse i (by omega)] at ks2
      repeat' (first | refine uN ?_ | refine uC (kc) ?_ | (refine uB ?_; intro b) | (refine uP ?_ ?_ <;> (intro h; ((try simp only [zs, ne_eq, and_true, true_and, eq_self, reduceCtorEq] at h); try exact zx))) | fail)
      refine gc (kp _ (by repeat (first | exact hG | exact hG.sub | apply Errs.cons))) ?_
      rintro v L' ⟨bp, ba, rfl, rfl⟩
      repeat' (first | refine uN ?_ | refine uC (kc) ?_ | (refine uB ?_; intro b) | (refine uP ?_ ?_ <;> (intro h; ((try simp only [zs, ne_eq, and_true, true_and, eq_self, reduceCtorEq] at h); try exact zx))) | fail)
      refine gc (ks2 bp ba _ (by repeat (first | exact hG | exact hG.sub | apply Errs.cons))) ?_
      rintro v L' ⟨sp, bj, mb2, rfl, rfl⟩
      repeat' (first | refine uN ?_ | refine uC (kc) ?_ | (refine uB ?_; intro b) | (refine uP ?_ ?_ <;> (intro h; ((try simp only [zs, ne_eq, and_true, true_and, eq_self, reduceCtorEq] at h); try exact zx))) | fail)
      rename_i np
      refine fo 7 ?_
      refine wp1 S np hnv pc_len pc_one ?_ (hby := by rw [hml]; omega) (hmax := by rw [hml]; omega)
      intro v' c' hv'
      obtain ⟨an2, capn2, he2, -, -⟩ := hv'.rd pc_len
      subst he2
      have hnew := newNd_ok np bp ba sp bj mb2
      repeat' (first | refine uN ?_ | refine uC (kc) ?_ | (refine uB ?_; intro b) | (refine uP ?_ ?_ <;> (intro h; ((try simp only [zs, ne_eq, and_true, true_and, eq_self, reduceCtorEq] at h); try exact zx))) | fail)
      refine Zc (i + 1, .slice an2 (gs.map (·.np) ++ [np]).length capn2, c', gs ++ [newG np bp ba sp bj mb2]) uS ?_ ⟨by simp only; omega, by simp [hgl], by rw [List.map_append]; exact hv', fun k g hk => ?_⟩ (by simp only; omega)
      · simp only [nds_new np bp ba sp bj mb2 hgl]
        refine LS.trans (b := ([(wp, .cells ⟨[.slice aw2 w.length capw2, .slice an2 (gs.map (·.np) ++ [np]).length capn2, .map (some mb), nilS, nilS]⟩ 110)] :: c' :: [(mb, .map ⟨[]⟩ 0)] :: cw :: ndsB gs (List.replicate i newNd) 0 :: ndB (newG np bp ba sp bj mb2) newNd :: plC bp ba ⟨zeros 512, false, -1⟩ :: siC sp bj mb2 i :: mpC mb2 [] 0 :: jC bj bp ⟨openM (zeros 512), false⟩ :: c :: L).flatten) (LS.of_eq ?_) ?_
        · simp only [List.flatten_cons, List.append_assoc]
        · simp only [ndB, ndO, newNd_ndL]
          exact uL
      · rw [List.getElem?_append] at hk
        split at hk
        · exact hgk k g hk
        · rename_i hk2
          have : k - gs.length = 0 := by
            by_cases e : k - gs.length = 0
            · exact e
            · simp [e] at hk
          rw [this] at hk
          cases hk
          exact hnew
    · obtain rfl : i = w.length := by omega
      repeat' (first | refine uN ?_ | refine uC (kc) ?_ | (refine uB ?_; intro b) | (refine uP ?_ ?_ <;> (intro h; ((try simp only [zs, ne_eq, and_true, true_and, eq_self, reduceCtorEq] at h); try exact zx))) | fail)
      refine sp2 (L' := wdH ⟨wp, .slice aw2 w.length capw2, cw, .slice an (gs.map (·.np)).length capn, nc, mb, [], 0, nilS, [], nilS, [], gs⟩ (newW w) ++ (c :: L)) ?_ ⟨⟨wp, .slice aw2 w.length capw2, cw, .slice an (gs.map (·.np)).length capn, nc, mb, [], 0, nilS, [], nilS, [], gs⟩, rfl, ⟨hvw, hnv, by simp [newW, hgl], mapF_nil, vec_nil, vec_nil, fun s g m h1 h2 => ?_⟩, rfl⟩
      · simp only [wdH, wdT, wdO, List.cons_append, List.nil_append, newW]
        exact uL
      · simp only [newW, List.getElem?_replicate] at h2
        split at h2
        · cases h2
          exact hgk s g h1
        · cases h2
end Go.HL
end

/-! PwA -/
section
namespace Go.HL
open Go Go.Proofs
set_option linter.unusedVariables false
set_option linter.unusedSimpArgs false
/-- one number of a play -/
def oneW (M : Wm) (v : Int) : Wm × Option Nat :=
  if v % 16 < 9 ∧ M.l.length = 0 then (M, some 4) else
  if v % 16 = 7 then dropW M (v / 16 % M.l.length) else
  if v % 16 = 8 then twiceW M (v / 16 % M.l.length) else
  if v % 16 = 9 then beginW M (v / 16 % 7) (v / 16 / 7 % 6) else
  if v % 16 = 10 then tickW M (v / 16 % 7) else
  if v % 16 = 11 then refuseW M (v / 16 % 7) (v / 16 / 7 % 6) else
  if v % 16 = 12 then linkW M (v / 16 % 7) (v / 16 / 7 % 6) (decide (v / 16 % 2 = 0)) else
  if v % 16 = 13 then cutW M (v / 16 % 7) (v / 16 % 40) else
  if v % 16 = 14 then downW M (v / 16 % 7) else
  if v % 16 = 15 then upW M (v / 16 % 7) else
  deliverW M (v / 16 % M.l.length)
theorem one_ok {M : Wm} (h : WI M) (v : Int) : StepOk M (oneW M v).1 84 := by
  unfold oneW
  split
  · exact .refl h _
  split
  · exact (drop_ok h _).mono (by omega)
  split
  · exact (twice_ok h _).mono (by omega)
  split
  · exact (begin_ok h _ _).mono (by omega)
  split
  · exact (tick_ok h _).mono (by omega)
  split
  · exact (refuse_ok h _ _).mono (by omega)
  split
  · exact (link_ok h _ _ _).mono (by omega)
  split
  · exact (cut_ok h _ _ (by omega)).mono (by omega)
  split
  · exact (down_ok h _).mono (by omega)
  split
  · exact (up_ok h _).mono (by omega)
  · exact (deliver_ok h _).mono (by omega)
def okW (e : Option Nat) : Prop := e = none ∨ e = some 2 ∨ e = some 4 ∨ e = some 6 ∨ e = some 8
theorem nodeE_w (M : Wm) (s : Int) : okW (nodeE M s) := by unfold nodeE okW; split <;> simp
theorem upE_w (M : Wm) (s : Int) : okW (upE M s) := by
  unfold upE
  have := nodeE_w M s
  split
  · rename_i e he
    rw [he] at this
    exact this
  · unfold okW; split <;> simp
theorem wat_w (M : Wm) (k : Int) : okW (wat M k) := by unfold wat okW; split <;> simp
theorem begin_w (M : Wm) (s d : Int) : okW (beginW M s d).2 := by
  unfold beginW
  split
  · unfold okW; simp
  have := upE_w M s
  split
  · rename_i e he
    rw [he] at this
    exact this
  split <;> (unfold okW; simp)
theorem refuse_w (M : Wm) (s d : Int) : okW (refuseW M s d).2 := by
  unfold refuseW
  split
  · unfold okW; simp
  have := upE_w M s
  split
  · rename_i e he
    rw [he] at this
    exact this
  · unfold okW; simp
theorem tick_w (M : Wm) (s : Int) : okW (tickW M s).2 := by
  unfold tickW
  have := upE_w M s
  split
  · rename_i e he
    rw [he] at this
    exact this
  · unfold okW; simp
theorem deliver_w (M : Wm) (k : Int) : okW (deliverW M k).2 := by
  unfold deliverW
  have := wat_w M k
  split
  · rename_i e he
    rw [he] at this
    exact this
  · simp only
    split
    · unfold okW; simp
    split
    · split <;> (unfold okW; simp)
    · unfold okW; simp
theorem drop_w (M : Wm) (k : Int) : okW (dropW M k).2 := by
  unfold dropW
  have := wat_w M k
  split
  · rename_i e he
    rw [he] at this
    exact this
  · unfold okW; simp
theorem twice_w (M : Wm) (k : Int) : okW (twiceW M k).2 := by
  unfold twiceW
  have := wat_w M k
  split
  · rename_i e he
    rw [he] at this
    exact this
  · unfold okW; simp
theorem link_w (M : Wm) (a b : Int) (c : Bool) : okW (linkW M a b c).2 := by unfold linkW; split <;> (unfold okW; simp)
theorem cut_w (M : Wm) (s n : Int) : okW (cutW M s n).2 := by
  unfold cutW
  split
  · unfold okW; simp
  have := upE_w M s
  split
  · rename_i e he
    rw [he] at this
    exact this
  · unfold okW; simp
theorem down_w (M : Wm) (s : Int) : okW (downW M s).2 := by
  unfold downW
  have := upE_w M s
  split
  · rename_i e he
    rw [he] at this
    exact this
  · unfold okW; simp
theorem up_w (M : Wm) (s : Int) : okW (upW M s).2 := by
  unfold upW
  have := nodeE_w M s
  split
  · rename_i e he
    rw [he] at this
    exact this
  · split <;> (unfold okW; simp)
theorem one_w (M : Wm) (v : Int) : okW (oneW M v).2 := by
  unfold oneW
  split
  · unfold okW; simp
  split
  · exact drop_w _ _
  split
  · exact twice_w _ _
  split
  · exact begin_w _ _ _
  split
  · exact tick_w _ _
  split
  · exact refuse_w _ _ _
  split
  · exact link_w _ _ _ _
  split
  · exact cut_w _ _ _
  split
  · exact down_w _ _
  split
  · exact up_w _ _
  · exact deliver_w _ _
theorem okW.ok {e : Option Nat} (h : okW e) : okE e := by
  rcases h with h | h | h | h | h <;> (rw [h]; first | exact .inl rfl | (refine .inr ⟨_, rfl, ?_⟩; decide) | trivial | decide)
set_option maxHeartbeats 2000000 attribute [local irreducible] HW HO HQ HD HC QOp Has Upd Puts Gets seqQ blkQ loopQ fnQ actQ nextP unQ MapF
attribute [local irreducible] ndL jcells plC siteM ldL openM tryW tickW beginW deliverW upW
theorem one_calls (T : Nat) (E : Nat → Addr) (G : WdG) (M : Wm) (v : Int) (L : Heap) (hG : Er T E [2, 3, 4, 5, 6, 8] L) (hW : WdOk G M) (hM : WI M) (hl : M.l.length ≤ 99999000) (hv : 0 ≤ v) (hv2 : v ≤ 9223372036854775807) :
    HC Tryz.prog 104 [pt G.wp 0, iv v] (wdH G M ++ L) (fun u L' => u = eV T E (oneW M v).2 ∧ WdP G (oneW M v).1 L L') := by
  have hself := wdP_self hW L
  have hI := wd_in hW L
  have hG' := er_wdH hG G M
  have kf := wfly_calls G M _ hI
  have k7 := fun k => wdrop_calls T E G M k L hG.sub hW (by omega)
  have k8 := fun k => wtwice_calls T E G M k L hG.sub hW (by omega)
  have k9 := fun s d => wbegin_calls T E G M s d L hG.sub hW hM (by omega)
  have k10 := fun s => wtick_calls T E G M s L hG.sub hW hM (by omega)
  have k11 := fun s d => wrefuse_calls T E G M s d L hG.sub hW hM
  have k12 := fun a b w => wlink_calls T E G M a b w L hG.sub hW
  have k13 := fun s n => wcut_calls T E G M s n L hG.sub hW hM
  have k14 := fun s => wdown_calls T E G M s L hG.sub hW hM
  have k15 := fun s => wupS_calls T E G M s L hG.sub hW hM
  have k0 := fun k => wdeliver_calls T E G M k L hG.sub hW hM (by omega)
  generalize wdH G M ++ L = H at *
  unfold oneW
  have hq0 : 0 ≤ v / 16 := by omega
  have hr0 : 0 ≤ v % 16 ∧ v % 16 < 16 := by omega
  refine Za (fun _ _ => Tryz.call104 _ _) Tryz.func104 rfl Tryz.ntmps104 (Nat.le_of_ble_eq_true rfl) ?_; simp only [args0, Nat.reduceAdd]
  repeat' (first | refine uN ?_ | refine uC (kf) ?_ | (refine uP ?_ ?_ <;> (intro h; ((try simp only [zs, ne_eq, and_true, true_and, eq_self, reduceCtorEq] at h); try exact zx))) | fail)
  all_goals first | (rw [if_pos (show v % 16 < 9 ∧ M.l.length = 0 by omega)]; exact er1 rfl ⟨rfl, hself⟩) | (refine gc (k7 _) ?_; rintro u L' ⟨rfl, hP⟩; (repeat' (first | refine uN ?_ | refine uC (kf) ?_ | (refine uP ?_ ?_ <;> (intro h; ((try simp only [zs, ne_eq, and_true, true_and, eq_self, reduceCtorEq] at h); try exact zx))) | fail)); rw [if_neg (show ¬ (v % 16 < 9 ∧ M.l.length = 0) by omega), if_pos (show v % 16 = 7 by omega)]; exact er1 rfl ⟨rfl, hP⟩) | (refine gc (k8 _) ?_; rintro u L' ⟨rfl, hP⟩; (repeat' (first | refine uN ?_ | refine uC (kf) ?_ | (refine uP ?_ ?_ <;> (intro h; ((try simp only [zs, ne_eq, and_true, true_and, eq_self, reduceCtorEq] at h); try exact zx))) | fail)); rw [if_neg (show ¬ (v % 16 < 9 ∧ M.l.length = 0) by omega), if_neg (show ¬ v % 16 = 7 by omega), if_pos (show v % 16 = 8 by omega)]; exact er1 rfl ⟨rfl, hP⟩) | (refine gc (k9 _ _) ?_; rintro u L' ⟨rfl, hP⟩; (repeat' (first | refine uN ?_ | refine uC (kf) ?_ | (refine uP ?_ ?_ <;> (intro h; ((try simp only [zs, ne_eq, and_true, true_and, eq_self, reduceCtorEq] at h); try exact zx))) | fail)); rw [if_neg (show ¬ (v % 16 < 9 ∧ M.l.length = 0) by omega), if_neg (show ¬ v % 16 = 7 by omega), if_neg (show ¬ v % 16 = 8 by omega), if_pos (show v % 16 = 9 by omega)]; exact er1 rfl ⟨rfl, hP⟩) | (refine gc (k10 _) ?_; rintro u L' ⟨rfl, hP⟩; (repeat' (first | refine uN ?_ | refine uC (kf) ?_ | (refine uP ?_ ?_ <;> (intro h; ((try simp only [zs, ne_eq, and_true, true_and, eq_self, reduceCtorEq] at h); try exact zx))) | fail)); rw [if_neg (show ¬ (v % 16 < 9 ∧ M.l.length = 0) by omega), if_neg (show ¬ v % 16 = 7 by omega), if_neg (show ¬ v % 16 = 8 by omega), if_neg (show ¬ v % 16 = 9 by omega), if_pos (show v % 16 = 10 by omega)]; exact er1 rfl ⟨rfl, hP⟩) | (refine gc (k11 _ _) ?_; rintro u L' ⟨rfl, hP⟩; (repeat' (first | refine uN ?_ | refine uC (kf) ?_ | (refine uP ?_ ?_ <;> (intro h; ((try simp only [zs, ne_eq, and_true, true_and, eq_self, reduceCtorEq] at h); try exact zx))) | fail)); rw [if_neg (show ¬ (v % 16 < 9 ∧ M.l.length = 0) by omega), if_neg (show ¬ v % 16 = 7 by omega), if_neg (show ¬ v % 16 = 8 by omega), if_neg (show ¬ v % 16 = 9 by omega), if_neg (show ¬ v % 16 = 10 by omega), if_pos (show v % 16 = 11 by omega)]; exact er1 rfl ⟨rfl, hP⟩) | (refine gc (k12 _ _ _) ?_; rintro u L' ⟨rfl, hP⟩; (repeat' (first | refine uN ?_ | refine uC (kf) ?_ | (refine uP ?_ ?_ <;> (intro h; ((try simp only [zs, ne_eq, and_true, true_and, eq_self, reduceCtorEq] at h); try exact zx))) | fail)); rw [if_neg (show ¬ (v % 16 < 9 ∧ M.l.length = 0) by omega), if_neg (show ¬ v % 16 = 7 by omega), if_neg (show ¬ v % 16 = 8 by omega), if_neg (show ¬ v % 16 = 9 by omega), if_neg (show ¬ v % 16 = 10 by omega), if_neg (show ¬ v % 16 = 11 by omega), if_pos (show v % 16 = 12 by omega)]; exact er1 rfl ⟨rfl, hP⟩) | (refine gc (k13 _ _) ?_; rintro u L' ⟨rfl, hP⟩; (repeat' (first | refine uN ?_ | refine uC (kf) ?_ | (refine uP ?_ ?_ <;> (intro h; ((try simp only [zs, ne_eq, and_true, true_and, eq_self, reduceCtorEq] at h); try exact zx))) | fail)); rw [if_neg (show ¬ (v % 16 < 9 ∧ M.l.length = 0) by omega), if_neg (show ¬ v % 16 = 7 by omega), if_neg (show ¬ v % 16 = 8 by omega), if_neg (show ¬ v % 16 = 9 by omega), if_neg (show ¬ v % 16 = 10 by omega), if_neg (show ¬ v % 16 = 11 by omega), if_neg (show ¬ v % 16 = 12 by omega), if_pos (show v % 16 = 13 by omega)]; exact er1 rfl ⟨rfl, hP⟩) | (refine gc (k14 _) ?_; rintro u L' ⟨rfl, hP⟩; (repeat' (first | refine uN ?_ | refine uC (kf) ?_ | (refine uP ?_ ?_ <;> (intro h; ((try simp only [zs, ne_eq, and_true, true_and, eq_self, reduceCtorEq] at h); try exact zx))) | fail)); rw [if_neg (show ¬ (v % 16 < 9 ∧ M.l.length = 0) by omega), if_neg (show ¬ v % 16 = 7 by omega), if_neg (show ¬ v % 16 = 8 by omega), if_neg (show ¬ v % 16 = 9 by omega), if_neg (show ¬ v % 16 = 10 by omega), if_neg (show ¬ v % 16 = 11 by omega), if_neg (show ¬ v % 16 = 12 by omega), if_neg (show ¬ v % 16 = 13 by omega), if_pos (show v % 16 = 14 by omega)]; exact er1 rfl ⟨rfl, hP⟩) | (refine gc (k15 _) ?_; rintro u L' ⟨rfl, hP⟩; (repeat' (first | refine uN ?_ | refine uC (kf) ?_ | (refine uP ?_ ?_ <;> (intro h; ((try simp only [zs, ne_eq, and_true, true_and, eq_self, reduceCtorEq] at h); try exact zx))) | fail)); rw [if_neg (show ¬ (v % 16 < 9 ∧ M.l.length = 0) by omega), if_neg (show ¬ v % 16 = 7 by omega), if_neg (show ¬ v % 16 = 8 by omega), if_neg (show ¬ v % 16 = 9 by omega), if_neg (show ¬ v % 16 = 10 by omega), if_neg (show ¬ v % 16 = 11 by omega), if_neg (show ¬ v % 16 = 12 by omega), if_neg (show ¬ v % 16 = 13 by omega), if_neg (show ¬ v % 16 = 14 by omega), if_pos (show v % 16 = 15 by omega)]; exact er1 rfl ⟨rfl, hP⟩) | (refine gc (k0 _) ?_; rintro u L' ⟨rfl, hP⟩; (repeat' (first | refine uN ?_ | refine uC (kf) ?_ | (refine uP ?_ ?_ <;> (intro h; ((try simp only [zs, ne_eq, and_true, true_and, eq_self, reduceCtorEq] at h); try exact zx))) | fail)); rw [if_neg (show ¬ (v % 16 < 9 ∧ M.l.length = 0) by omega), if_neg (show ¬ v % 16 = 7 by omega), if_neg (show ¬ v % 16 = 8 by omega), if_neg (show ¬ v % 16 = 9 by omega), if_neg (show ¬ v % 16 = 10 by omega), if_neg (show ¬ v % 16 = 11 by omega), if_neg (show ¬ v % 16 = 12 by omega), if_neg (show ¬ v % 16 = 13 by omega), if_neg (show ¬ v % 16 = 14 by omega), if_neg (show ¬ v % 16 = 15 by omega)]; exact er1 rfl ⟨rfl, hP⟩)
end Go.HL
end

/-! PwB -/
section
namespace Go.HL
open Go Go.Proofs
set_option linter.unusedVariables false
set_option linter.unusedSimpArgs false
def runV (q : Wm × List Int) (v : Int) : Wm × List Int := if 0 ≤ v then ((oneW q.1 v).1, q.2 ++ [cdN (oneW q.1 v).2]) else (q.1, q.2 ++ [-1])
def runW (M : Wm) (l : List Int) : Wm × List Int := (l.take 3000).foldl runV (M, [])
theorem runV_ok {M : Wm} {q : Wm × List Int} {k : Nat} (h : StepOk M q.1 k) (v : Int) : StepOk M (runV q v).1 (k + 84) ∧ (runV q v).2.length = q.2.length + 1 := by
  unfold runV
  split
  · have h2 := one_ok h.wi v
    have h3 := h.len
    have h4 := h2.len
    exact ⟨⟨h2.wi, h.same.trans h2.same, by simp only; omega⟩, by simp⟩
  · exact ⟨h.mono (by omega), by simp⟩
theorem runF_ok : ∀ (l : List Int) {M : Wm} {q : Wm × List Int} {k : Nat}, StepOk M q.1 k → StepOk M (l.foldl runV q).1 (k + 84 * l.length) ∧ (l.foldl runV q).2.length = q.2.length + l.length
  | [], M, q, k, h => ⟨h, by simp⟩
  | v :: l, M, q, k, h => by
    obtain ⟨h1, h2⟩ := runV_ok h v
    obtain ⟨h3, h4⟩ := runF_ok l h1
    rw [List.foldl_cons]
    refine ⟨h3.mono (by simp only [List.length_cons]; omega), by rw [h4, h2, List.length_cons]; omega⟩
theorem run_ok {M : Wm} (h : WI M) (l : List Int) : StepOk M (runW M l).1 (84 * l.length) ∧ (runW M l).2.length ≤ l.length := by
  obtain ⟨h1, h2⟩ := runF_ok (l.take 3000) (M := M) (q := (M, [])) (k := 0) (.refl h 0)
  have : (l.take 3000).length ≤ l.length := by simp; omega
  exact ⟨h1.mono (by omega), by unfold runW; rw [h2]; simp; omega⟩
theorem run_take_succ (M : Wm) (l : List Int) (i : Nat) (h : i < l.length) : (l.take (i + 1)).foldl runV (M, []) = runV ((l.take i).foldl runV (M, [])) l[i] := by
  rw [List.take_add_one, List.getElem?_eq_getElem h, Option.toList_some, List.foldl_append]
  rfl
theorem has_app {A L : Heap} {b : Nat} {o : Obj} (h : Has L b o) : Has (A ++ L) b o := by
  unfold Has at *
  rw [List.flatten_append]
  exact List.mem_append_right _ h
theorem ls_in' {A L : Heap} {c : List Blk} : LS (c :: (A ++ L)).flatten (A ++ (c :: L)).flatten := by
  simp only [List.flatten_cons, List.flatten_append]
  refine LS.of_perm ?_
  rw [← List.append_assoc, ← List.append_assoc]
  exact List.perm_append_comm.append_right _
set_option maxHeartbeats 2000000 attribute [local irreducible] HW HO HQ HD HC QOp Has Upd Puts Gets seqQ blkQ loopQ fnQ actQ nextP unQ MapF
attribute [local irreducible] oneW
theorem run_calls (T : Nat) (E : Nat → Addr) (G : WdG) (M : Wm) (a : Option Addr) (cap : Nat) (l : List Int) (L : Heap) (hE : Ez T E L) (hW : WdOk G M) (hM : WI M) (hl : M.l.length + 84 * l.length ≤ 99999000) (hR : Rd ic 1 L a l) (hcap : l.length ≤ cap) (hd : ∀ v ∈ l, v ≤ 9223372036854775807) :
    HC Tryz.prog 42 [pt G.wp 0, .slice a l.length cap] (wdH G M ++ L) (fun v L' => ∃ c, Vec 3 1 ic v (runW M l).2 c ∧ WdP G (runW M l).1 (c :: L) L') := by
  have hlen : (l.take 3000).length = min 3000 l.length := List.length_take
  refine Za (fun _ _ => Tryz.call42 _ _) Tryz.func42 rfl Tryz.ntmps42 (Nat.le_of_ble_eq_true rfl) ?_; simp only [args0, Nat.reduceAdd]
  repeat' (first | refine uN ?_ | (refine uB ?_; intro b) | (refine uP ?_ ?_ <;> (intro h; ((try simp only [zs, ne_eq, and_true, true_and, eq_self, reduceCtorEq] at h); try exact zx))) | fail)
  generalize hN : (min (l.length : Int) 3000).toNat = N
  have hN1 : N ≤ l.length := by omega
  have hN2 : N = min 3000 l.length := by omega
  have hfin : (l.take N).foldl runV (M, []) = runW M l := by
    unfold runW
    congr 1
    rw [hN2]
    by_cases h : l.length ≤ 3000
    · rw [Nat.min_eq_right h, List.take_of_length_le (Nat.le_refl _), List.take_of_length_le h]
    · rw [Nat.min_eq_left (by omega)]
  have hok := fun i => runF_ok (l.take i) (M := M) (q := (M, [])) (k := 0) (.refl hM 0)
  have hsucc := run_take_succ M l
  refine hw_sp (L' := [] :: (wdH G M ++ L)) ?_ (LS.refl _)
  refine Zf (σ := Nat × Value × List Blk × WdG) (fun r => [(0, pt G.wp 0), (5, r.2.1), (13, .slice a N cap), (14, iv N), (15, iv r.1)])
    (fun r => r.2.2.1 :: (wdH r.2.2.2 ((l.take r.1).foldl runV (M, [])).1 ++ L))
    (fun r => r.1 ≤ N ∧ Vec 3 1 ic r.2.1 ((l.take r.1).foldl runV (M, [])).2 r.2.2.1 ∧ WdOk r.2.2.2 ((l.take r.1).foldl runV (M, [])).1 ∧ r.2.2.2.wp = G.wp ∧ r.2.2.2.nd.map (·.np) = G.nd.map (·.np)) (fun r => N - r.1) (0, nilS, [], G) uS (List.Sublist.refl _) ⟨by simp, vec_nil, hW, rfl, rfl⟩ ?_
  rintro ⟨i, v1, c, G1⟩ ⟨hi, hv, hW1, e1, e2⟩
  simp only at hi hv hW1 e1 e2 ⊢
  obtain ⟨a5, cap5, he5, -, -⟩ := hv.rd ic_len
  subst he5
  obtain ⟨⟨hM1, hsame, hlen⟩, hl2⟩ := hok i
  have hti : (l.take i).length = i := by rw [List.length_take]; omega
  rw [hti] at hlen hl2
  by_cases hit : i < N
  · have hs := hsucc i (by omega)
    obtain ⟨b, bi, q, F, fr, rfl, hb, hg⟩ := hR.at1 (j := (i : Int)) (by omega) (by omega)
    have eg : l[(i : Int).toNat]'(by omega) = l[i] := rfl
    rw [eg] at hg
    have hdi := hd l[i] (List.getElem_mem _)
    clear hok hfin hsucc eg
    obtain ⟨M1, cs, hQ⟩ : ∃ M1 cs, (l.take i).foldl runV (M, []) = (M1, cs) := ⟨_, _, rfl⟩
    simp only [hQ, List.length_nil, Nat.zero_add] at hs hv hW1 hM1 hsame hlen hl2 ⊢
    generalize l[i] = x at *
    have hb' : Has (wdH G1 M1 ++ L) b (.cells ⟨q⟩ F fr) := has_app hb
    by_cases hx : 0 ≤ x
    · have k1 := fun L hG => one_calls T E G1 M1 x L hG hW1 hM1 (by omega) hx hdi
      have kw := one_w M1 x
      have hrv : runV (M1, cs) x = ((oneW M1 x).1, cs ++ [cdN (oneW M1 x).2]) := if_pos hx
      rw [hrv] at hs
      clear hrv
      generalize oneW M1 x = R at *
      obtain ⟨M2, e⟩ := R
      simp only [e1] at k1 kw hs
      generalize hH : wdH G1 M1 ++ L = H at *
      repeat' (first | refine uN ?_ | (refine uB ?_; intro b) | (refine uP ?_ ?_ <;> (intro h; ((try simp only [zs, ne_eq, and_true, true_and, eq_self, reduceCtorEq] at h); try exact zx))) | fail)
      subst hH
      refine ho_sp (L' := wdH G1 M1 ++ (c :: L)) ?_ ls_in
      refine gc (k1 _ ((hE.er [2, 3, 4, 5, 6, 8]).cons _)) ?_
      rintro v L' ⟨rfl, G2, f1, f2, f3, rfl⟩
      have kc := code_all T E e (wdH G2 M2 ++ (c :: L)) (hE.mono fun b o h => has_app (Zd h)) kw.ok
      generalize hH2 : wdH G2 M2 ++ (c :: L) = H2 at *
      repeat' (first | refine uN ?_ | refine uC (kc) ?_ | (refine uB ?_; intro b) | (refine uP ?_ ?_ <;> (intro h; ((try simp only [zs, ne_eq, and_true, true_and, eq_self, reduceCtorEq] at h); try exact zx))) | fail)
      subst hH2
      refine ho_sp (L' := c :: [(b, .cells ⟨[iv (cdN e)]⟩ 3)] :: (wdH G2 M2 ++ L)) ?_ (LS.trans (LS.p1 (LS.refl _)) (LS.k ls_in'))
      refine wp1 S (cdN e) hv ic_len ic_one ?_
      intro v' c' hv'
      repeat' (first | refine uN ?_ | (refine uB ?_; intro b) | (refine uP ?_ ?_ <;> (intro h; ((try simp only [zs, ne_eq, and_true, true_and, eq_self, reduceCtorEq] at h); try exact zx))) | fail)
      refine Zc (i + 1, v', c', G2) uS ?_ ⟨by simp only; omega, by simp only [hs]; exact hv', by simp only [hs]; exact f3, f1.trans e1, f2.trans e2⟩ (by simp only; omega)
      simp only [hs]
      exact uL
    · have hrv : runV (M1, cs) x = (M1, cs ++ [-1]) := if_neg hx
      rw [hrv] at hs
      generalize hH : wdH G1 M1 ++ L = H at *
      repeat' (first | refine uN ?_ | (refine uB ?_; intro b) | (refine uP ?_ ?_ <;> (intro h; ((try simp only [zs, ne_eq, and_true, true_and, eq_self, reduceCtorEq] at h); try exact zx))) | fail)
      subst hH
      refine fo 1 ?_
      refine wp1 S (-1 : Int) hv ic_len ic_one ?_
      intro v' c' hv'
      repeat' (first | refine uN ?_ | (refine uB ?_; intro b) | (refine uP ?_ ?_ <;> (intro h; ((try simp only [zs, ne_eq, and_true, true_and, eq_self, reduceCtorEq] at h); try exact zx))) | fail)
      refine Zc (i + 1, v', c', G1) uS ?_ ⟨by simp only; omega, by simp only [hs]; exact hv', by simp only [hs]; exact hW1, e1, e2⟩ (by simp only; omega)
      simp only [hs]
      exact uL
  · obtain rfl : i = N := by omega
    rw [hfin] at hv hW1 ⊢
    repeat' (first | refine uN ?_ | (refine uB ?_; intro b) | (refine uP ?_ ?_ <;> (intro h; ((try simp only [zs, ne_eq, and_true, true_and, eq_self, reduceCtorEq] at h); try exact zx))) | fail)
    exact sp1 (L' := wdH G1 (runW M l).1 ++ (c :: L)) ls_in ⟨c, hv, G1, e1, e2, hW1, rfl⟩
end Go.HL
end

/-! ErD3 -/
section
namespace Go.HL
open Go Go.Proofs
set_option linter.unusedVariables false
set_option linter.unusedSimpArgs false
set_option maxHeartbeats 2000000 attribute [local irreducible] HW HO HQ HD HC QOp Has Upd Puts Gets seqQ blkQ loopQ fnQ actQ nextP unQ MapF
theorem coded3_calls (T : Nat) (E : Nat → Addr) (e : Option Nat) (k : Int) (L : Heap) (hE : Ez T E L) (he : okE e) : HC Tryz.prog 28 [eV T E e, iv k] L (fun v L' => v = .bool (decide (cdN e = k)) ∧ L' = L) := by
  have hc := code_all T E e L hE he
  refine Za (fun _ _ => Tryz.call28 _ _) Tryz.func28 rfl Tryz.ntmps28 (Nat.le_of_ble_eq_true rfl) ?_; simp only [args0, Nat.reduceAdd]
  repeat' (first | refine uN ?_ | refine uC (hc) ?_ | (refine uP ?_ ?_ <;> (intro h; ((try simp only [zs, ne_eq, and_true, true_and, eq_self, reduceCtorEq] at h); try exact zx))) | fail)
  all_goals (refine sp1 uZ ⟨?_, rfl⟩; simp [*])
end Go.HL
end

/-! PwC -/
section
namespace Go.HL
open Go Go.Proofs
set_option linter.unusedVariables false
set_option linter.unusedSimpArgs false
theorem plSt_new (d : Int) : plSt newNd.pl d = zeroS := by
  unfold plSt newNd
  simp only
  rw [open_zeros (by omega)]
  rw [List.getD, List.getElem?_replicate]
  split <;> rfl
def w111 : List Int := [1, 1, 1]
theorem check111 : checkW w111 = none := by decide +kernel
def b111 : Wm := (beginW (newW w111) 1 0).1
theorem busy_new (w : List Int) (d : Int) : (newW w).n.any (isBusy d) = false := by
  rw [List.any_eq_false]
  intro x hx
  rw [(List.mem_replicate.1 hx).2]
  unfold isBusy
  rw [plSt_new]
  simp only [ne_eq, not_true_eq_false, decide_false, Bool.false_or]
  unfold newNd noLeads
  simp only [List.getD, List.getElem?_replicate]
  split <;> simp
theorem ndAt_new {w : List Int} {s : Int} (h0 : 0 ≤ s) (h1 : s < w.length) : ndAt (newW w) s = newNd := by
  unfold ndAt newW
  simp only [List.getD, List.getElem?_replicate]
  rw [if_pos (by omega)]
  rfl
theorem upE_new {w : List Int} {s : Int} (h0 : 0 ≤ s) (h1 : s < w.length) : upE (newW w) s = none := by
  unfold upE
  rw [nodeE_ok h0 (by simpa [newW] using h1)]
  simp only
  rw [ndAt_new h0 h1]
  rfl
theorem begin_new {w : List Int} {s d : Int} (h0 : 0 ≤ s) (h1 : s < w.length) (hd : 0 ≤ d ∧ d < 6) : beginW (newW w) s d = ({ setN (newW w) s { newNd with leads := noLeads.set d.toNat (some (newLd s d w 0 2)) } with l := startM (newLd s d w 0 2) }, none) := by
  have hl : (newW w).n.length = w.length := by simp [newW]
  unfold beginW
  rw [if_neg (by rw [hl]; omega), upE_new h0 h1, busy_new, ndAt_new h0 h1]
  rfl
theorem b111_e : (beginW (newW w111) 1 0).2 = none := by rw [begin_new (by omega) (by simp [w111]) (by omega)]
theorem b111_l : b111.l.length = 3 := by
  unfold b111
  rw [begin_new (by omega) (by simp [w111]) (by omega)]
  rfl
theorem b111_lead : leadW b111 1 0 = (sAsking, none) := by
  unfold b111
  rw [begin_new (by omega) (by simp [w111]) (by omega)]
  unfold leadW
  rw [if_neg (by simp [setN, newW, w111])]
  show (match (ndAt (setN (newW w111) 1 { newNd with leads := noLeads.set 0 (some (newLd 1 0 w111 0 2)) }) 1).leads.getD 0 none with
    | none => ([110, 111, 110, 101], none)
    | some x => (x.state, none)) = (sAsking, none)
  rw [ndAt_set (by omega) (by simp [newW, w111])]
  rfl
theorem b111_held : (beginW b111 0 0).2 = some 8 := by
  unfold b111
  rw [begin_new (by omega) (by simp [w111]) (by omega)]
  unfold beginW
  have hl : (setN (newW w111) 1 { newNd with leads := noLeads.set 0 (some (newLd 1 0 w111 0 2)) }).n.length = 3 := by simp [setN, newW, w111]
  rw [if_neg (by show ¬ ((0 : Int) < 0 ∨ (6 : Int) ≤ 0 ∨ (0 : Int) < 0 ∨ ((setN (newW w111) 1 { newNd with leads := noLeads.set 0 (some (newLd 1 0 w111 0 2)) }).n.length : Int) ≤ 0); rw [hl]; omega)]
  have hu : upE { setN (newW w111) 1 { newNd with leads := noLeads.set (Int.toNat 0) (some (newLd 1 0 w111 0 2)) } with l := startM (newLd 1 0 w111 0 2) } 0 = none := by
    unfold upE
    rw [nodeE_ok (by omega) (by show (0 : Int) < ((setN (newW w111) 1 { newNd with leads := noLeads.set 0 (some (newLd 1 0 w111 0 2)) }).n.length : Int); rw [hl]; omega)]
    simp only
    have : ndAt { setN (newW w111) 1 { newNd with leads := noLeads.set (Int.toNat 0) (some (newLd 1 0 w111 0 2)) } with l := startM (newLd 1 0 w111 0 2) } 0 = newNd := rfl
    rw [this]
    rfl
  rw [hu]
  simp only
  have hb : (setN (newW w111) 1 { newNd with leads := noLeads.set (Int.toNat 0) (some (newLd 1 0 w111 0 2)) }).n.any (isBusy 0) = true := by
    rw [List.any_eq_true]
    refine ⟨{ newNd with leads := noLeads.set 0 (some (newLd 1 0 w111 0 2)) }, by simp [setN, newW, w111], ?_⟩
    unfold isBusy
    simp only [noLeads]
    simp
  rw [if_pos hb]
set_option maxHeartbeats 2000000 attribute [local irreducible] HW HO HQ HD HC QOp Has Upd Puts Gets seqQ blkQ loopQ fnQ actQ nextP unQ MapF
attribute [local irreducible] beginW newW
theorem born_calls (T : Nat) (E : Nat → Addr) (L : Heap) (hE : Ez T E L) : HC Tryz.prog 14 [] L (fun v L' => v = .bool true ∧ L' = L) := by
  have kn := fun v c L hG hv => wnew_calls T E v w111 c L hG hv (by simp [w111])
  rw [check111] at kn
  have hM := new_ok check111
  have hl0 : (newW w111).l.length ≤ 99999999 := by unfold newW; simp
  have kb := fun G L hG hW => wbegin_calls T E G (newW w111) 1 0 L hG hW hM hl0
  have hM1 := (begin_ok hM 1 0).wi
  have e1 := b111_e
  have e2 := b111_l
  have e3 := b111_lead
  have e4 := b111_held
  rw [e1] at kb
  change WI b111 at hM1
  have kb : ∀ G L, Er T E [2, 3, 4, 6, 8] L → WdOk G (newW w111) → HC Tryz.prog 21 [pt G.wp 0, iv 1, iv 0] (wdH G (newW w111) ++ L) (fun v L' => v = eV T E none ∧ WdP G b111 L L') := kb
  have kl := fun G L hG hW => wlead_calls T E G b111 1 0 L hG hW hM1
  rw [e3] at kl
  have kf := fun G L hW => wflying_calls G b111 L hW (by omega)
  have kb2 := fun G L hG hW => wbegin_calls T E G b111 0 0 L hG hW hM1 (by omega)
  rw [e4] at kb2
  have kc := fun L h => coded3_calls T E (some 8) 8 L h rfl
  refine Za (fun _ _ => Tryz.call14 _ _) Tryz.func14 rfl Tryz.ntmps14 (Nat.le_of_ble_eq_true rfl) ?_; simp only [args0, Nat.reduceAdd]
  repeat' (first | refine uN ?_ | (refine uB ?_; intro b) | (refine uP ?_ ?_ <;> (intro h; ((try simp only [zs, ne_eq, and_true, true_and, eq_self, reduceCtorEq] at h); try exact zx))) | fail)
  refine gc (kn _ _ _ ((hE.er [2, 3, 4, 6])) (.inr ⟨b, 3, [], rfl, rfl, rfl, by simp [w111], rfl⟩)) ?_
  rintro v L' ⟨G, rfl, hW, rfl⟩
  repeat' (first | refine uN ?_ | (refine uB ?_; intro b) | (refine uP ?_ ?_ <;> (intro h; ((try simp only [zs, ne_eq, and_true, true_and, eq_self, reduceCtorEq] at h); try exact zx))) | fail)
  refine gc (kb G _ ((hE.er [2, 3, 4, 6, 8]).cons _) hW) ?_
  rintro v L' ⟨rfl, G1, f1, f2, hW1, rfl⟩
  rw [← f1]
  repeat' (first | refine uN ?_ | (refine uB ?_; intro b) | (refine uP ?_ ?_ <;> (intro h; ((try simp only [zs, ne_eq, and_true, true_and, eq_self, reduceCtorEq] at h); try exact zx))) | fail)
  refine gc (kl G1 _ ((hE.er [2]).cons _) hW1) ?_
  rintro v L' ⟨rfl, rfl⟩
  repeat' (first | refine uN ?_ | (refine uB ?_; intro b) | (refine uP ?_ ?_ <;> (intro h; ((try simp only [zs, ne_eq, and_true, true_and, eq_self, reduceCtorEq] at h); try exact zx))) | fail)
  refine gc (kf G1 _ hW1) ?_
  rintro v L' ⟨c2, hv2, rfl⟩
  obtain ⟨a7, cap7, rfl, -, -⟩ := hv2.rd fc_len
  rw [e2]
  repeat' (first | refine uN ?_ | (refine uB ?_; intro b) | (refine uP ?_ ?_ <;> (intro h; ((try simp only [zs, ne_eq, and_true, true_and, eq_self, reduceCtorEq] at h); try exact zx))) | fail)
  refine ho_sp (L' := wdH G1 b111 ++ (c2 :: [(b, .cells ⟨[iv 1, iv 1, iv 1]⟩ 3)] :: L)) ?_ ls_in
  refine gc (kb2 G1 _ (((hE.er [2, 3, 4, 6, 8]).cons _).cons _) hW1) ?_
  rintro v L' ⟨rfl, G2, g1, g2, hW2, rfl⟩
  have kc2 := kc (wdH G2 (beginW b111 0 0).1 ++ (c2 :: [(b, .cells ⟨[iv 1, iv 1, iv 1]⟩ 3)] :: L)) (hE.mono fun b o h => has_app (Zd (Zd h)))
  generalize hH : wdH G2 (beginW b111 0 0).1 ++ (c2 :: [(b, .cells ⟨[iv 1, iv 1, iv 1]⟩ 3)] :: L) = H at *
  repeat' (first | refine uN ?_ | refine uC (kc2) ?_ | (refine uB ?_; intro b) | (refine uP ?_ ?_ <;> (intro h; ((try simp only [zs, ne_eq, and_true, true_and, eq_self, reduceCtorEq] at h); try exact zx))) | fail)
  subst hH
  refine sp1 (L' := L) ?_ ⟨rfl, rfl⟩
  simp only [List.flatten_append, List.flatten_cons]
  exact LS.skips _ (LS.skips _ (LS.skips _ (LS.refl _)))
abbrev REvt (v : Value) (xs : List Evt) (c : List Blk) : Prop := Vec 162 3 ec v xs c
theorem backEvents_calls (a : Option Addr) (cap : Nat) (xs : List Evt) (L : Heap) (hR : Rd ec 3 L a xs) (hl : xs.length ≤ 100000000) :
    HC Tryz.prog 46 [.slice a xs.length cap] L (fun v L' => ∃ c, REvt v xs c ∧ L' = c :: L) := by
  refine Za (fun _ _ => Tryz.call46 _ _) Tryz.func46 rfl Tryz.ntmps46 (Nat.le_of_ble_eq_true rfl) ?_; simp only [args0, Nat.reduceAdd]
  repeat' (first | refine uN ?_ | refine g_k S ?_ | refine g_w S ?_ | (refine uB ?_; intro b) | (refine uP ?_ ?_ <;> (intro h; ((try simp only [zs, ne_eq, and_true, true_and, eq_self, reduceCtorEq] at h); try exact zx))) | refine da 101 ?_ | fail)
  refine hw_sp (L' := [] :: L) ?_ (LS.refl _)
  refine Zf (σ := Nat × Value × List Blk) (fun r => [(0, .slice a xs.length cap), (3, r.2.1), (4, iv r.1)]) (fun r => r.2.2 :: L) (fun r => r.1 ≤ xs.length ∧ REvt r.2.1 (xs.take r.1) r.2.2) (fun r => xs.length - r.1) (0, nilS, []) uS (List.Sublist.refl _) ⟨by simp, vec_nil⟩ ?_
  rintro ⟨i, v, c⟩ ⟨hi, hv⟩
  simp only at hi hv ⊢
  by_cases hlt : i < xs.length
  · obtain ⟨b, ia, l, E, fr, rfl, hb, hg⟩ := hR.at (j := (i : Int)) (by omega) (by omega)
    have ex : xs[(i : Int).toNat]'(by omega) = xs[i] := rfl
    rw [ex] at hg
    have hst : xs.take (i + 1) = xs.take i ++ [xs[i]] := List.take_succ_eq_append_getElem hlt
    have hti : (xs.take i).length = i := by rw [List.length_take]; omega
    obtain ⟨a5, cap5, he5, -, -⟩ := hv.rd ec_len
    subst he5
    generalize xs[i] = x at *
    obtain ⟨xs1, xd, xp⟩ := x
    simp only [ec] at hg
    repeat' (first | refine uN ?_ | refine g_k S ?_ | refine g_w S ?_ | (refine uB ?_; intro b) | (refine uP ?_ ?_ <;> (intro h; ((try simp only [zs, ne_eq, and_true, true_and, eq_self, reduceCtorEq] at h); try exact zx))) | refine da 101 ?_ | fail)
    refine fo 1 ?_
    refine wp1 S (⟨xs1, xd, xp⟩ : Evt) hv ec_len ec_one ?_ (hby := by rw [hti]; omega) (hmax := by rw [hti]; omega)
    intro v' c' hv'
    obtain ⟨a6, cap6, he6, -, -⟩ := hv'.rd ec_len
    subst he6
    repeat' (first | refine uN ?_ | refine g_k S ?_ | refine g_w S ?_ | (refine uB ?_; intro b) | (refine uP ?_ ?_ <;> (intro h; ((try simp only [zs, ne_eq, and_true, true_and, eq_self, reduceCtorEq] at h); try exact zx))) | refine da 101 ?_ | fail)
    refine Zc (i + 1, _, c') uS ?_ ⟨by simp only; omega, by simp only [hst]; exact hv'⟩ (by simp only; omega)
    exact uL
  · obtain rfl : i = xs.length := by omega
    rw [List.take_length] at hv
    repeat' (first | refine uN ?_ | refine g_k S ?_ | refine g_w S ?_ | (refine uB ?_; intro b) | (refine uP ?_ ?_ <;> (intro h; ((try simp only [zs, ne_eq, and_true, true_and, eq_self, reduceCtorEq] at h); try exact zx))) | refine da 101 ?_ | fail)
    exact sp1 (LS.refl _) ⟨c, hv, rfl⟩
end Go.HL
end

/-! PwD -/
section
namespace Go.HL
open Go Go.Proofs
set_option linter.unusedVariables false
set_option linter.unusedSimpArgs false
/-- a world's memory as9 one part -/
def wdC (G : WdG) (M : Wm) : List Blk := (wdH G M).flatten
theorem wdC_fl (G : WdG) (M : Wm) (L : Heap) : (wdC G M :: L).flatten = (wdH G M ++ L).flatten := by
  unfold wdC
  rw [List.flatten_cons, List.flatten_append]
/-- a world behind a call, as9 one part -/
def WdQ (G : WdG) (M' : Wm) (L L' : Heap) : Prop := ∃ G', G'.wp = G.wp ∧ WdOk G' M' ∧ L' = wdC G' M' :: L
theorem HC.shut {F : Nat} {args : List Value} {G : WdG} {M M' : Wm} {L : Heap} {V : Value → Prop} (h : HC Tryz.prog F args (wdH G M ++ L) (fun v L' => V v ∧ WdP G M' L L')) : HC Tryz.prog F args (wdC G M :: L) (fun v L' => V v ∧ WdQ G M' L L') := by
  refine HC.post (HC.fl h (wdC_fl G M L).symm) ?_
  rintro v L' ⟨hv, G', e1, e2, e3, rfl⟩
  exact ⟨wdC G' M' :: L, LS.of_eq (wdC_fl G' M' L), hv, G', e1, e3, rfl⟩
theorem HC.shutC {F : Nat} {args : List Value} {G : WdG} {M M' : Wm} {L : Heap} {V : Value → List Blk → Prop} (h : HC Tryz.prog F args (wdH G M ++ L) (fun v L' => ∃ c, V v c ∧ WdP G M' (c :: L) L')) : HC Tryz.prog F args (wdC G M :: L) (fun v L' => ∃ c, V v c ∧ WdQ G M' (c :: L) L') := by
  refine HC.post (HC.fl h (wdC_fl G M L).symm) ?_
  rintro v L' ⟨c, hv, G', e1, e2, e3, rfl⟩
  exact ⟨wdC G' M' :: (c :: L), LS.of_eq (wdC_fl G' M' _), c, hv, G', e1, e3, rfl⟩
theorem HC.shutR {F : Nat} {args : List Value} {G : WdG} {M : Wm} {L : Heap} {V : Value → List Blk → Prop} (h : HC Tryz.prog F args (wdH G M ++ L) (fun v L' => ∃ c, V v c ∧ L' = c :: (wdH G M ++ L))) : HC Tryz.prog F args (wdC G M :: L) (fun v L' => ∃ c, V v c ∧ L' = c :: wdC G M :: L) := by
  refine HC.post (HC.fl h (wdC_fl G M L).symm) ?_
  rintro v L' ⟨c, hv, rfl⟩
  refine ⟨c :: wdC G M :: L, ?_, c, hv, rfl⟩
  rw [List.flatten_cons, wdC_fl, List.flatten_cons]
  exact LS.refl _
theorem HC.shutN {F : Nat} {args : List Value} {M : Wm} {L : Heap} {V : Value → WdG → Prop} {K : Heap} (h : HC Tryz.prog F args K (fun v L' => ∃ G, V v G ∧ WdOk G M ∧ L' = wdH G M ++ L)) : HC Tryz.prog F args K (fun v L' => ∃ G, V v G ∧ WdOk G M ∧ L' = wdC G M :: L) := by
  refine HC.post h ?_
  rintro v L' ⟨G, hv, hW, rfl⟩
  exact ⟨wdC G M :: L, LS.of_eq (wdC_fl G M L), G, hv, hW, rfl⟩
theorem HC.shutQ {F : Nat} {args : List Value} {G : WdG} {M : Wm} {L : Heap} {V : Value} (h : HC Tryz.prog F args (wdH G M ++ L) (fun v L' => v = V ∧ L' = wdH G M ++ L)) : HC Tryz.prog F args (wdC G M :: L) (fun v L' => v = V ∧ L' = wdC G M :: L) := by
  refine HC.post (HC.fl h (wdC_fl G M L).symm) ?_
  rintro v L' ⟨hv, rfl⟩
  exact ⟨wdC G M :: L, LS.of_eq (wdC_fl G M L), hv, rfl⟩
theorem check_pos {w : List Int} {e : Nat} (h : checkW w = some e) : 1 ≤ e := by
  unfold checkW at h
  split at h
  · cases h; omega
  split at h
  · cases h; omega
  split at h
  · cases h; omega
  · cases h
set_option maxHeartbeats 2000000 attribute [local irreducible] HW HO HQ HD HC QOp Has Upd Puts Gets seqQ blkQ loopQ fnQ actQ nextP unQ MapF
attribute [local irreducible] runW newW
end Go.HL
end

/-! SfA -/
section
namespace Go.HL
open Go Go.Proofs
set_option linter.unusedVariables false
set_option linter.unusedSimpArgs false
/-- what is seen of one deal: each site's state, its lead, the frames that fly -/
structure Vd where
  st : Nat → St
  ld : Nat → Option Ld
  fr : Fr → Prop
/-- what was ever prepared, by attempts; who accepted it; who refused -/
structure Gh where
  prep : Int → Option Int
  acc : Nat → Int → Prop
  ref : Nat → Prop
def bit (q i : Nat) : Prop := q / 2 ^ i % 2 = 1
instance (q i : Nat) : Decidable (bit q i) := by unfold bit; infer_instance
theorem bit_meet {w : List Int} (hc : checkW w = none) {a b : Nat} (ha : quor w a = true) (hb : quor w b = true) (hl : a < 2 ^ w.length) : ∃ i, i < w.length ∧ bit a i ∧ bit b i := by
  have h := quor_meet hc ha hb
  obtain ⟨i, hi⟩ : ∃ i, (a &&& b).testBit i = true := Nat.exists_testBit_of_ne_zero h
  rw [Nat.testBit_and, Bool.and_eq_true] at hi
  obtain ⟨h1, h2⟩ := hi
  have e : ∀ x : Nat, x.testBit i = true → bit x i := fun x hx => by
    rw [Nat.testBit_eq_decide_div_mod_eq] at hx
    exact of_decide_eq_true hx
  refine ⟨i, ?_, e a h1, e b h2⟩
  by_cases hlt : i < w.length
  · exact hlt
  · have : a.testBit i = false := Nat.testBit_lt_two_pow (Nat.lt_of_lt_of_le hl (Nat.pow_le_pow_right (by decide) (by omega)))
    rw [this] at h1
    cases h1
theorem bit_or {a k i : Nat} : bit (a ||| 2 ^ k) i ↔ bit a i ∨ i = k := by
  unfold bit
  have e : ∀ x : Nat, (x / 2 ^ i % 2 = 1) ↔ x.testBit i = true := fun x => by
    rw [Nat.testBit_eq_decide_div_mod_eq]
    simp
  rw [e, e, Nat.testBit_or, Bool.or_eq_true, Nat.testBit_two_pow]
  simp only [decide_eq_true_eq]
  constructor
  · rintro (h | h)
    · exact .inl h
    · exact .inr h.symm
  · rintro (h | h)
    · exact .inl h
    · exact .inr h.symm
theorem bit_full {n i : Nat} (h : i < n) : bit (2 ^ n - 1) i := by
  unfold bit
  have : (2 ^ n - 1).testBit i = true := by rw [Nat.testBit_two_pow_sub_one]; simpa using h
  rw [Nat.testBit_eq_decide_div_mod_eq] at this
  exact of_decide_eq_true this
theorem bit_zero {i : Nat} : ¬ bit 0 i := by unfold bit; simp
section inv
variable (w : List Int)
/-- a quorum accepted an attempt -/
def quorAcc (g : Gh) (a : Int) : Prop := ∃ q, q < 2 ^ w.length ∧ quor w q = true ∧ ∀ i, i < w.length → bit q i → g.acc i a
/-- what is decided -/
def dec (g : Gh) (p : Int) : Prop := (p = 2 ∧ ∃ a, g.prep a = some 4 ∧ quorAcc w g a) ∨ (p = 3 ∧ ((∃ a, g.prep a = some 5 ∧ quorAcc w g a) ∨ ∃ s, s < w.length ∧ g.ref s))
/-- no quorum will ever accept an attempt -/
def blocked (v : Vd) (g : Gh) (a : Int) : Prop := ∃ q, q < 2 ^ w.length ∧ quor w q = true ∧ ∀ i, i < w.length → bit q i → a < (v.st i).pr ∧ ¬ g.acc i a
def voted (v : Vd) (g : Gh) (s : Nat) : Prop := (v.st s).ph ≠ 0 ∧ ¬ g.ref s
def fin (p : Int) : Prop := p = 2 ∨ p = 3
/-- what a site told a lead -/
structure TellOk (v : Vd) (g : Gh) (s : Nat) (b : Int) (t : St) : Prop where
  pr : b ≤ (v.st s).pr
  fi : fin t.ph → dec w g t.ph
  pe : t.ph = 4 ∨ t.ph = 5 → t.att < b ∧ g.prep t.att = some t.ph ∧ 0 ≤ t.att
  ac : ∀ a, 0 ≤ a → a < b → g.acc s a → fin t.ph ∨ ((t.ph = 4 ∨ t.ph = 5) ∧ a ≤ t.att)
/-- a frame that flies -/
def frOk (v : Vd) (g : Gh) (f : Fr) : Prop :=
  (f.kd = 2 → if f.yes then voted v g f.fr.toNat else dec w g 3) ∧
  (f.kd = 4 → f.yes = true → TellOk w v g f.fr.toNat f.att f.s) ∧
  (f.kd = 5 → g.prep f.att = some f.s.ph) ∧
  (f.kd = 6 → f.yes = true → g.acc f.fr.toNat f.att) ∧
  (f.kd = 7 → fin f.s.ph → dec w g f.s.ph)
structure LeadOk (v : Vd) (g : Gh) (s : Nat) (x : Ld) : Prop where
  two : x.wait = 2 → x.att = 0 ∧ ∀ i, i < w.length → bit x.heard i → voted v g i
  four : x.wait = 4 → 1 ≤ x.att ∧ x.att % w.length = s ∧ g.prep x.att = none ∧ x.att ≤ (v.st s).pr ∧ ∀ i, i < w.length → bit x.heard i → TellOk w v g i x.att (x.told.getD i zeroS)
  six : x.wait = 6 → g.prep x.att = some x.phase ∧ ∀ i, i < w.length → bit x.heard i → g.acc i x.att
  wt : x.wait = 0 ∨ x.wait = 2 ∨ x.wait = 4 ∨ x.wait = 6
structure SiteOk (v : Vd) (g : Gh) (s : Nat) : Prop where
  ok : stOk (v.st s)
  fi : fin (v.st s).ph → dec w g (v.st s).ph
  pe : (v.st s).ph = 4 ∨ (v.st s).ph = 5 → g.prep (v.st s).att = some (v.st s).ph
  ac : ∀ a, g.acc s a → a ≤ (v.st s).pr ∧ (fin (v.st s).ph ∨ ((v.st s).ph = 4 ∨ (v.st s).ph = 5) ∧ a ≤ (v.st s).att)
  rf : g.ref s → (v.st s).ph = 3
structure SInv (v : Vd) (g : Gh) : Prop where
  site : ∀ s, s < w.length → SiteOk w v g s
  lead : ∀ s x, s < w.length → v.ld s = some x → LeadOk w v g s x
  fr : ∀ f, v.fr f → frOk w v g f
  p0 : ∀ p, g.prep 0 = some p → p = 4
  pp : ∀ a p, g.prep a = some p → (p = 4 ∨ p = 5) ∧ 0 ≤ a
  own : ∀ a p, 1 ≤ a → g.prep a = some p → a ≤ (v.st (a % w.length).toNat).pr
  com : ∀ a, g.prep a = some 4 → ∀ s, s < w.length → voted v g s
  safe : ∀ b q, g.prep b = some q → ∀ a, 0 ≤ a → a < b → blocked w v g a ∨ g.prep a = some q
end inv
/-- a ghost that only grows -/
structure GLe (w : List Int) (v v' : Vd) (g g' : Gh) : Prop where
  prep : ∀ a p, g.prep a = some p → g'.prep a = some p
  acc : ∀ s a, g.acc s a → g'.acc s a
  ref : ∀ s, g.ref s → g'.ref s
  st : ∀ s, s < w.length → (v.st s).pr ≤ (v'.st s).pr ∧ ((v.st s).ph ≠ 0 → (v'.st s).ph ≠ 0)
  nref : ∀ s, s < w.length → (v.st s).ph ≠ 0 → ¬ g.ref s → ¬ g'.ref s
  nacc : ∀ s a, s < w.length → a < (v.st s).pr → ¬ g.acc s a → ¬ g'.acc s a
theorem GLe.refl (w : List Int) (v : Vd) (g : Gh) : GLe w v v g g := ⟨fun _ _ h => h, fun _ _ h => h, fun _ h => h, fun _ _ => ⟨Int.le_refl _, fun h => h⟩, fun _ _ _ h => h, fun _ _ _ _ h => h⟩
theorem quorAcc_mono {w : List Int} {v v' : Vd} {g g' : Gh} (h : GLe w v v' g g') {a : Int} (hq : quorAcc w g a) : quorAcc w g' a := by
  obtain ⟨q, h1, h2, h3⟩ := hq
  exact ⟨q, h1, h2, fun i hi hb => h.acc i a (h3 i hi hb)⟩
theorem dec_mono {w : List Int} {v v' : Vd} {g g' : Gh} (h : GLe w v v' g g') {p : Int} (hd : dec w g p) : dec w g' p := by
  rcases hd with ⟨h1, a, h2, h3⟩ | ⟨h1, ⟨a, h2, h3⟩ | ⟨s, h2, h3⟩⟩
  · exact .inl ⟨h1, a, h.prep _ _ h2, quorAcc_mono h h3⟩
  · exact .inr ⟨h1, .inl ⟨a, h.prep _ _ h2, quorAcc_mono h h3⟩⟩
  · exact .inr ⟨h1, .inr ⟨s, h2, h.ref _ h3⟩⟩
theorem blocked_mono {w : List Int} {v v' : Vd} {g g' : Gh} (h : GLe w v v' g g') {a : Int} (hb : blocked w v g a) : blocked w v' g' a := by
  obtain ⟨q, h1, h2, h3⟩ := hb
  refine ⟨q, h1, h2, fun i hi hq => ?_⟩
  obtain ⟨h4, h5⟩ := h3 i hi hq
  exact ⟨by have := (h.st i hi).1; omega, h.nacc i a hi h4 h5⟩
theorem voted_mono {w : List Int} {v v' : Vd} {g g' : Gh} (h : GLe w v v' g g') {s : Nat} (hs : s < w.length) (hv : voted v g s) : voted v' g' s := ⟨(h.st s hs).2 hv.1, h.nref s hs hv.1 hv.2⟩
theorem tell_mono {w : List Int} {v v' : Vd} {g g' : Gh} (h : GLe w v v' g g') {s : Nat} (hs : s < w.length) {b : Int} {t : St} (ht : TellOk w v g s b t) : TellOk w v' g' s b t := by
  have hst := (h.st s hs).1
  refine ⟨by have := ht.pr; omega, fun hf => dec_mono h (ht.fi hf), fun hp => ⟨(ht.pe hp).1, h.prep _ _ (ht.pe hp).2.1, (ht.pe hp).2.2⟩, fun a h0 ha hacc => ?_⟩
  by_cases hg : g.acc s a
  · exact ht.ac a h0 ha hg
  · exact absurd hacc (h.nacc s a hs (by have := ht.pr; omega) hg)
theorem frOk_mono {w : List Int} {v v' : Vd} {g g' : Gh} (h : GLe w v v' g g') {f : Fr} (hfr : 0 ≤ f.fr ∧ f.fr < w.length) (hf : frOk w v g f) : frOk w v' g' f := by
  obtain ⟨h2, h4, h5, h6, h7⟩ := hf
  have hi : f.fr.toNat < w.length := by omega
  refine ⟨fun hk => ?_, fun hk hy => tell_mono h hi (h4 hk hy), fun hk => h.prep _ _ (h5 hk), fun hk hy => h.acc _ _ (h6 hk hy), fun hk hp => dec_mono h (h7 hk hp)⟩
  have := h2 hk
  split at this
  · rename_i hy
    rw [if_pos hy]
    exact voted_mono h hi this
  · rename_i hy
    rw [if_neg hy]
    exact dec_mono h this
theorem leadOk_mono {w : List Int} {v v' : Vd} {g g' : Gh} (h : GLe w v v' g g') {s : Nat} (hs : s < w.length) {x : Ld} (hx : LeadOk w v g s x) (hn : x.wait = 4 → g'.prep x.att = none) : LeadOk w v' g' s x := by
  refine ⟨fun e => ⟨(hx.two e).1, fun i hi hb => voted_mono h hi ((hx.two e).2 i hi hb)⟩, fun e => ?_, fun e => ⟨h.prep _ _ (hx.six e).1, fun i hi hb => h.acc _ _ ((hx.six e).2 i hi hb)⟩, hx.wt⟩
  obtain ⟨h1, h2, h3, h4, h5⟩ := hx.four e
  exact ⟨h1, h2, hn e, by have := (h.st s hs).1; omega, fun i hi hb => tell_mono h hi (h5 i hi hb)⟩
theorem safe_mono {w : List Int} {v v' : Vd} {g g' : Gh} (h : GLe w v v' g g') (hp : g'.prep = g.prep) (hi : ∀ b q, g.prep b = some q → ∀ a, 0 ≤ a → a < b → blocked w v g a ∨ g.prep a = some q) : ∀ b q, g'.prep b = some q → ∀ a, 0 ≤ a → a < b → blocked w v' g' a ∨ g'.prep a = some q := fun b q hb a h0 ha => by
  rw [hp] at hb ⊢
  rcases hi b q hb a h0 ha with h1 | h1
  · exact .inl (blocked_mono h h1)
  · exact .inr h1
/-- no two decisions -/
theorem dec_one {w : List Int} (hc : checkW w = none) {v : Vd} {g : Gh} (h : SInv w v g) : ¬ (dec w g 2 ∧ dec w g 3) := by
  rintro ⟨h2, h3⟩
  rcases h2 with ⟨-, a, ha, qa, la, hqa, hacc⟩ | ⟨e, -⟩
  · rcases h3 with ⟨e, -⟩ | ⟨-, ⟨b, hb, qb, lb, hqb, haccb⟩ | ⟨s, hs, hr⟩⟩
    · cases e
    · have hne : a ≠ b := fun e => by rw [e, hb] at ha; cases ha
      rcases Int.lt_or_gt_of_ne hne with hlt | hlt
      · rcases h.safe b 5 hb a (h.pp a 4 ha).2 hlt with ⟨q, l1, l2, l3⟩ | hp
        · obtain ⟨i, hi, b1, b2⟩ := bit_meet hc hqa l2 la
          exact (l3 i hi b2).2 (hacc i hi b1)
        · rw [ha] at hp; cases hp
      · rcases h.safe a 4 ha b (h.pp b 5 hb).2 hlt with ⟨q, l1, l2, l3⟩ | hp
        · obtain ⟨i, hi, b1, b2⟩ := bit_meet hc hqb l2 lb
          exact (l3 i hi b2).2 (haccb i hi b1)
        · rw [hb] at hp; cases hp
    · exact (h.com a ha s hs).2 hr
  · cases e
theorem dec_same {w : List Int} (hc : checkW w = none) {v : Vd} {g : Gh} (h : SInv w v g) {p q : Int} (hp : dec w g p) (hq : dec w g q) : p = q := by
  have h1 : p = 2 ∨ p = 3 := by rcases hp with ⟨e, -⟩ | ⟨e, -⟩ <;> omega
  have h2 : q = 2 ∨ q = 3 := by rcases hq with ⟨e, -⟩ | ⟨e, -⟩ <;> omega
  rcases h1 with rfl | rfl <;> rcases h2 with rfl | rfl
  · rfl
  · exact absurd ⟨hp, hq⟩ (dec_one hc h)
  · exact absurd ⟨hq, hp⟩ (dec_one hc h)
  · rfl
end Go.HL
end

/-! SfB -/
section
namespace Go.HL
open Go Go.Proofs
set_option linter.unusedVariables false
set_option linter.unusedSimpArgs false
def upd {α : Type} (f : Nat → α) (s : Nat) (x : α) : Nat → α := fun i => if i = s then x else f i
theorem upd_at {α : Type} {f : Nat → α} {s : Nat} {x : α} : upd f s x s = x := if_pos rfl
theorem upd_ne {α : Type} {f : Nat → α} {s i : Nat} {x : α} (h : i ≠ s) : upd f s x i = f i := if_neg h
theorem siteOk_same {w : List Int} {v v' : Vd} {g g' : Gh} (h : GLe w v v' g g') {t : Nat} (hs : v'.st t = v.st t) (ha : ∀ a, g'.acc t a → g.acc t a) (hr : g'.ref t → g.ref t) (hx : SiteOk w v g t) : SiteOk w v' g' t := by
  refine ⟨by rw [hs]; exact hx.ok, fun hf => ?_, fun hp => ?_, fun a hacc => ?_, fun hrf => ?_⟩
  · rw [hs] at hf ⊢; exact dec_mono h (hx.fi hf)
  · rw [hs] at hp ⊢; exact h.prep _ _ (hx.pe hp)
  · rw [hs]; exact hx.ac a (ha a hacc)
  · rw [hs]; exact hx.rf (hr hrf)
/-- what a site's turn does to what is seen -/
def turnV (v : Vd) (s : Nat) (ref : Int → Bool) (f : Fr) : Vd :=
  ⟨upd v.st s (turnM ref f (v.st s)).1, v.ld, fun x => v.fr x ∨ ((turnM ref f (v.st s)).2.1 ≠ 0 ∧ x = ⟨s, f.fr, f.dl, (turnM ref f (v.st s)).2.1, f.att, (turnM ref f (v.st s)).2.2, (turnM ref f (v.st s)).1⟩)⟩
/-- all but the site itself -/
theorem turn_inv {w : List Int} {v : Vd} {g g' : Gh} (h : SInv w v g) {s : Nat} (hs : s < w.length) {ref : Int → Bool} {f : Fr} (hb : ∀ x, v.fr x → 0 ≤ x.fr ∧ x.fr < w.length)
    (hp : g'.prep = g.prep) (hle : GLe w v (turnV v s ref f) g g') (hacc : ∀ t a, t ≠ s → g'.acc t a → g.acc t a) (href : ∀ t, t ≠ s → g'.ref t → g.ref t)
    (hsite : SiteOk w (turnV v s ref f) g' s)
    (hans : (turnM ref f (v.st s)).2.1 ≠ 0 → frOk w (turnV v s ref f) g' ⟨s, f.fr, f.dl, (turnM ref f (v.st s)).2.1, f.att, (turnM ref f (v.st s)).2.2, (turnM ref f (v.st s)).1⟩) : SInv w (turnV v s ref f) g' := by
  refine ⟨fun t ht => ?_, fun t x ht hx => ?_, fun x hx => ?_, fun p h0 => h.p0 p (by rw [← hp]; exact h0), fun a p ha => h.pp a p (by rw [← hp]; exact ha), fun a p h1 ha => ?_, fun a ha t ht => ?_, safe_mono hle hp h.safe⟩
  · by_cases e : t = s
    · rw [e]; exact hsite
    · exact siteOk_same hle (upd_ne e) (fun a => hacc t a e) (href t e) (h.site t ht)
  · exact leadOk_mono hle ht (h.lead t x ht hx) fun e => by rw [hp]; exact ((h.lead t x ht hx).four e).2.2.1
  · rcases hx with hx | ⟨hk, rfl⟩
    · exact frOk_mono hle (hb x hx) (h.fr x hx)
    · exact hans hk
  · rw [hp] at ha
    have := h.own a p h1 ha
    have h2 := (hle.st (a % w.length).toNat (by
      have := Int.emod_nonneg a (by omega : (w.length : Int) ≠ 0)
      have := Int.emod_lt_of_pos a (by omega : (0 : Int) < w.length)
      omega)).1
    omega
  · rw [hp] at ha
    exact voted_mono hle ht (h.com a ha t ht)
theorem mayS_ne {a b : Int} (h : mayS a b = true) (ha : a ≠ 0) : b ≠ 0 := by
  unfold mayS at h
  have := of_decide_eq_true h
  omega
theorem turn_gle {w : List Int} {v : Vd} {g g' : Gh} (h : SInv w v g) {s : Nat} (hs : s < w.length) {ref : Int → Bool} {f : Fr} (hf : ¬ badF f) (hp : g'.prep = g.prep) (ha : ∀ t a, g.acc t a → g'.acc t a) (hr : ∀ t, g.ref t → g'.ref t)
    (hnr : ∀ t, t < w.length → (v.st t).ph ≠ 0 → ¬ g.ref t → ¬ g'.ref t) (hna : ∀ t a, t < w.length → a < (v.st t).pr → ¬ g.acc t a → ¬ g'.acc t a) : GLe w v (turnV v s ref f) g g' := by
  refine ⟨fun a p e => by rw [hp]; exact e, ha, hr, fun t ht => ?_, hnr, hna⟩
  by_cases e : t = s
  · subst e
    have hst := (turn_ok (ref := ref) (h.site t ht).ok hf).2
    have e2 : (turnV v t ref f).st t = (turnM ref f (v.st t)).1 := upd_at
    rw [e2]
    exact ⟨hst.1, fun h0 => mayS_ne hst.2.2 h0⟩
  · have e2 : (turnV v s ref f).st t = v.st t := upd_ne e
    rw [e2]
    exact ⟨Int.le_refl _, fun h0 => h0⟩
theorem frOk_kd {w : List Int} {v : Vd} {g : Gh} {f : Fr} (h2 : f.kd = 2 → if f.yes then voted v g f.fr.toNat else dec w g 3) (h4 : f.kd = 4 → f.yes = true → TellOk w v g f.fr.toNat f.att f.s) (h5 : f.kd ≠ 5) (h6 : f.kd = 6 → f.yes = true → g.acc f.fr.toNat f.att) (h7 : f.kd ≠ 7) : frOk w v g f :=
  ⟨h2, h4, fun e => absurd e h5, h6, fun e => absurd e h7⟩
/-- a site's turn -/
theorem turn_safe {w : List Int} {v : Vd} {g : Gh} (h : SInv w v g) {s : Nat} (hs : s < w.length) {ref : Int → Bool} {f : Fr} (hf : ¬ badF f) (hfk : frOk w v g f) (hb : ∀ x, v.fr x → 0 ≤ x.fr ∧ x.fr < w.length) :
    ∃ g', g'.prep = g.prep ∧ GLe w v (turnV v s ref f) g g' ∧ SInv w (turnV v s ref f) g' := by
  have hsi := h.site s hs
  obtain ⟨okS, fiS, peS, acS, rfS⟩ := hsi
  have okS' := (turn_ok (ref := ref) okS hf).1
  have est : (turnV v s ref f).st s = (turnM ref f (v.st s)).1 := upd_at
  have hst0 : (s : Int).toNat = s := Int.toNat_natCast s
  -- the same ghost
  have same : (∀ g', g' = g → SiteOk w (turnV v s ref f) g' s) → ((turnM ref f (v.st s)).2.1 ≠ 0 → GLe w v (turnV v s ref f) g g → frOk w (turnV v s ref f) g ⟨s, f.fr, f.dl, (turnM ref f (v.st s)).2.1, f.att, (turnM ref f (v.st s)).2.2, (turnM ref f (v.st s)).1⟩) →
      ∃ g', g'.prep = g.prep ∧ GLe w v (turnV v s ref f) g g' ∧ SInv w (turnV v s ref f) g' := fun h1 h2 => by
    have hle := turn_gle (g' := g) (ref := ref) h hs hf rfl (fun _ _ e => e) (fun _ e => e) (fun _ _ _ e => e) (fun _ _ _ _ e => e)
    exact ⟨g, rfl, hle, turn_inv h hs hb rfl hle (fun _ _ _ e => e) (fun _ _ e => e) (h1 g rfl) (fun hk => h2 hk hle)⟩
  -- a state that stays
  have stay : (turnM ref f (v.st s)).1 = v.st s → ∀ g', g' = g → SiteOk w (turnV v s ref f) g' s := fun e g' eg => by
    subst eg
    rw [e] at est
    have hle := turn_gle (g' := g') (ref := ref) h hs hf rfl (fun _ _ e => e) (fun _ e => e) (fun _ _ _ e => e) (fun _ _ _ _ e => e)
    exact siteOk_same hle est (fun _ e => e) (fun e => e) ⟨okS, fiS, peS, acS, rfS⟩
  by_cases k1 : f.kd = 1
  · have e : turnM ref f (v.st s) = (askM ref f (v.st s), 2, decide ((askM ref f (v.st s)).ph ≠ 3)) := by unfold turnM; rw [if_pos k1]
    by_cases hph : (v.st s).ph = 0
    · by_cases hr : ref f.dl = true
      · -- it refuses
        have ea : askM ref f (v.st s) = { v.st s with ph := 3 } := by unfold askM; rw [if_pos hph, if_pos hr]
        rw [ea] at e
        have hle := turn_gle (g' := { g with ref := fun t => g.ref t ∨ t = s }) (ref := ref) h hs hf rfl (fun _ _ e => e) (fun _ e => .inl e) (fun t ht h0 hn hx => by
          rcases hx with hx | hx
          · exact hn hx
          · subst hx; exact h0 hph) (fun _ _ _ _ e => e)
        have hd3 : dec w { g with ref := fun t => g.ref t ∨ t = s } 3 := .inr ⟨rfl, .inr ⟨s, hs, .inr rfl⟩⟩
        refine ⟨{ g with ref := fun t => g.ref t ∨ t = s }, rfl, hle, turn_inv h hs hb rfl hle (fun _ _ _ e => e) (fun t ht e => e.resolve_right ht) ?_ ?_⟩
        · rw [e] at est okS'
          refine ⟨by rw [est]; exact okS', fun _ => by rw [est]; exact hd3, fun hp => ?_, fun a ha => ?_, fun _ => by rw [est]⟩
          · rw [est] at hp; simp at hp
          · rw [est]
            exact ⟨(acS a ha).1, .inl (.inr rfl)⟩
        · rw [e]
          exact fun _ => frOk_kd (fun _ => by simp; exact hd3) (fun h4 => by simp at h4) (by simp) (fun h6 => by simp at h6) (by simp)
      · -- it votes
        have ea : askM ref f (v.st s) = { v.st s with ph := 1 } := by unfold askM; rw [if_pos hph, if_neg hr]
        rw [ea] at e
        have hnr : ¬ g.ref s := fun hx => by have := rfS hx; omega
        refine same (fun g' eg => ?_) (fun _ hle => ?_)
        · subst eg
          rw [e] at est okS'
          refine ⟨by rw [est]; exact okS', fun hx => ?_, fun hp => ?_, fun a ha => ?_, fun hx => absurd hx hnr⟩
          · rw [est] at hx; simp [fin] at hx
          · rw [est] at hp; simp at hp
          · have h2 := (acS a ha).2
            unfold fin at h2
            omega
        · rw [e] at est ⊢
          refine frOk_kd (fun _ => ?_) (fun h4 => by simp at h4) (by simp) (fun h6 => by simp at h6) (by simp)
          simp only [ne_eq, Int.reduceEq, not_false_eq_true, decide_true, if_true, hst0]
          exact ⟨by rw [est]; simp, hnr⟩
    · have ea : askM ref f (v.st s) = v.st s := by unfold askM; rw [if_neg hph]
      rw [ea] at e
      refine same (stay (by rw [e])) (fun _ hle => ?_)
      rw [e] at est ⊢
      refine frOk_kd (fun _ => ?_) (fun h4 => by simp at h4) (by simp) (fun h6 => by simp at h6) (by simp)
      by_cases h3 : (v.st s).ph = 3
      · simp only [h3, ne_eq, not_true_eq_false, decide_false, Bool.false_eq_true, if_false]
        have := fiS (.inr h3)
        rw [h3] at this
        exact this
      · simp only [ne_eq, h3, not_false_eq_true, decide_true, if_true, hst0]
        exact ⟨by rw [est]; exact hph, fun hx => h3 (rfS hx)⟩
  by_cases k3 : f.kd = 3
  · have e : turnM ref f (v.st s) = ({ v.st s with pr := max (v.st s).pr f.att }, 4, decide ((v.st s).pr < f.att)) := by unfold turnM; rw [if_neg k1, if_pos k3]
    refine same (fun g' eg => ?_) (fun _ hle => ?_)
    · subst eg
      rw [e] at est okS'
      refine ⟨by rw [est]; exact okS', fun hx => ?_, fun hp => ?_, fun a ha => ?_, fun hx => ?_⟩
      · rw [est] at hx ⊢; exact fiS hx
      · rw [est] at hp ⊢; exact peS hp
      · rw [est]
        have := acS a ha
        exact ⟨by show a ≤ max _ _; omega, this.2⟩
      · rw [est]; exact rfS hx
    · rw [e] at est ⊢
      refine frOk_kd (fun h2 => by simp at h2) (fun _ hy => ?_) (by simp) (fun h6 => by simp at h6) (by simp)
      simp only [decide_eq_true_eq] at hy
      simp only [hst0]
      obtain ⟨g1, g2, g3, g4, g5⟩ := okS
      refine ⟨by rw [est]; show f.att ≤ max _ _; omega, fun hx => fiS hx, fun hp => ⟨by simp only; omega, peS hp, g3⟩, fun a h0 ha hacc => (acS a hacc).2⟩
  by_cases k5 : f.kd = 5
  · by_cases ha : afterS f.s.ph = 0
    · have e : turnM ref f (v.st s) = (v.st s, 0, false) := by unfold turnM; rw [if_neg k1, if_neg k3, if_pos k5, if_pos ha]
      exact same (stay (by rw [e])) (fun hk => by rw [e] at hk; exact absurd rfl hk)
    have h45 := afterS_pos.1 ha
    by_cases ho : openS (v.st s) = true ∧ (v.st s).pr ≤ f.att
    · have e : turnM ref f (v.st s) = (⟨f.s.ph, f.att, f.att⟩, 6, true) := by unfold turnM; rw [if_neg k1, if_neg k3, if_pos k5, if_neg ha, if_pos ho]
      have ho' : (v.st s).ph ≠ 2 ∧ (v.st s).ph ≠ 3 := by simpa [openS] using ho.1
      have hle := turn_gle (g' := { g with acc := fun t a => g.acc t a ∨ (t = s ∧ a = f.att) }) (ref := ref) h hs hf rfl (fun _ _ e => .inl e) (fun _ e => e) (fun _ _ _ e => e) (fun t a ht hlt hn hx => by
        rcases hx with hx | ⟨hx, hy⟩
        · exact hn hx
        · subst hx; omega)
      refine ⟨{ g with acc := fun t a => g.acc t a ∨ (t = s ∧ a = f.att) }, rfl, hle, turn_inv h hs hb rfl hle (fun t a ht e => e.resolve_right (fun e2 => ht e2.1)) (fun _ _ e => e) ?_ ?_⟩
      · rw [e] at est okS'
        refine ⟨by rw [est]; exact okS', fun hx => ?_, fun hp => ?_, fun a hacc => ?_, fun hx => ?_⟩
        · rw [est] at hx; simp only [fin] at hx; omega
        · rw [est]; exact hfk.2.2.1 k5
        · rw [est]
          rcases hacc with hacc | ⟨-, hacc⟩
          · have := (acS a hacc).1
            exact ⟨by simp only; omega, .inr ⟨h45, by simp only; omega⟩⟩
          · exact ⟨by simp only; omega, .inr ⟨h45, by simp only; omega⟩⟩
        · have := rfS hx; omega
      · rw [e]
        exact fun _ => frOk_kd (fun h2 => by simp at h2) (fun h4 => by simp at h4) (by simp) (fun _ _ => .inr ⟨hst0, rfl⟩) (by simp)
    · have e : turnM ref f (v.st s) = (v.st s, 6, false) := by unfold turnM; rw [if_neg k1, if_neg k3, if_pos k5, if_neg ha, if_neg ho]
      refine same (stay (by rw [e])) (fun _ hle => ?_)
      rw [e]
      exact frOk_kd (fun h2 => by simp at h2) (fun h4 => by simp at h4) (by simp) (fun _ hy => by simp at hy) (by simp)
  by_cases k7 : f.kd = 7
  · by_cases ho : openS (v.st s) = true ∧ (f.s.ph = 2 ∨ f.s.ph = 3)
    · have e : turnM ref f (v.st s) = ({ v.st s with ph := f.s.ph }, 0, false) := by unfold turnM; rw [if_neg k1, if_neg k3, if_neg k5, if_pos k7, if_pos ho]
      have ho' : (v.st s).ph ≠ 2 ∧ (v.st s).ph ≠ 3 := by simpa [openS] using ho.1
      refine same (fun g' eg => ?_) (fun hk => by rw [e] at hk; exact absurd rfl hk)
      subst eg
      rw [e] at est okS'
      refine ⟨by rw [est]; exact okS', fun hx => by rw [est]; exact hfk.2.2.2.2 k7 ho.2, fun hp => ?_, fun a hacc => ?_, fun hx => ?_⟩
      · rw [est] at hp; simp only at hp; omega
      · rw [est]; exact ⟨(acS a hacc).1, .inl ho.2⟩
      · have := rfS hx; omega
    · have e : turnM ref f (v.st s) = (v.st s, 0, false) := by unfold turnM; rw [if_neg k1, if_neg k3, if_neg k5, if_pos k7, if_neg ho]
      exact same (stay (by rw [e])) (fun hk => by rw [e] at hk; exact absurd rfl hk)
  · have e : turnM ref f (v.st s) = (v.st s, 0, false) := by unfold turnM; rw [if_neg k1, if_neg k3, if_neg k5, if_neg k7]
    exact same (stay (by rw [e])) (fun hk => by rw [e] at hk; exact absurd rfl hk)
end Go.HL
end

/-! LdF -/
section
namespace Go.HL
open Go Go.Proofs
set_option linter.unusedVariables false
set_option linter.unusedSimpArgs false
theorem stOf_mem {m : Ld} {s : St} : s ∈ statesM m ↔ ∃ i, i < m.w.length ∧ m.heard / 2 ^ i % 2 = 1 ∧ s = m.told.getD i zeroS := by
  unfold statesM stOf
  simp only [List.mem_flatMap, List.mem_range]
  constructor
  · rintro ⟨i, hi, h⟩
    split at h
    · simp at h; exact ⟨i, hi, by assumption, h⟩
    · cases h
  · rintro ⟨i, hi, hb, rfl⟩
    exact ⟨i, hi, by rw [if_pos hb]; simp⟩
theorem choose_fin {xs : List St} (h : (chooseS xs).2 = true) : ((chooseS xs).1 = 2 ∨ (chooseS xs).1 = 3) ∧ ∃ s ∈ xs, s.ph = 2 ∨ s.ph = 3 := by
  unfold chooseS at *
  have key : ∀ p, toldS xs p = true → ∃ s ∈ xs, s.ph = p := fun p hp => by
    simp only [toldS, List.any_eq_true, decide_eq_true_eq] at hp
    exact hp
  split at h
  · rename_i h2
    rw [if_pos h2]
    obtain ⟨s, hs, e⟩ := key 2 h2
    exact ⟨.inl rfl, s, hs, .inl e⟩
  · rename_i h2
    rw [if_neg h2]
    split at h
    · rename_i h3
      rw [if_pos h3]
      obtain ⟨s, hs, e⟩ := key 3 h3
      exact ⟨.inr rfl, s, hs, .inr e⟩
    · split at h <;> cases h
theorem choose_pre {xs : List St} (h : (chooseS xs).2 = false) : (chooseS xs).1 = 4 ∨ (chooseS xs).1 = 5 := by
  unfold chooseS at *
  repeat' split at h
  all_goals first | cases h | skip
  · rename_i h2 h3 h4
    rw [if_neg h2, if_neg h3, if_pos h4]; exact .inl rfl
  · rename_i h2 h3 h4
    rw [if_neg h2, if_neg h3, if_neg h4]; exact .inr rfl
section d
variable {w : List Int} {att : Int} {m : Ld} {acks : Nat} {no : Bool} {fin ph : Int} {f : Fr}
end d
end Go.HL
end

/-! TabC -/
section
namespace Go.HL
open Go Go.Proofs
set_option linter.unusedVariables false
set_option linter.unusedSimpArgs false
set_option maxHeartbeats 2000000 attribute [local irreducible] HW HO HQ HD HC QOp Has Upd Puts Gets seqQ blkQ loopQ fnQ actQ nextP unQ MapF

def BM (xs : List St) (b : Int × Bool) : Prop :=
  ((∀ s ∈ xs, prep s = false) ∧ b = (0, true)) ∨ ∃ s ∈ xs, prep s = true ∧ b = (s.att, false) ∧ ∀ x ∈ xs, prep x = true → x.att ≤ s.att
theorem bm_step (xs : List St) (s : St) (b : Int × Bool) (h : BM xs b) : BM (xs ++ [s]) (bestS [s] b.1 b.2) := by
  unfold BM at *
  simp only [bestS, List.mem_append, List.mem_singleton]
  by_cases hp : prep s = true
  · rw [if_pos hp]
    right
    rcases h with ⟨hn, rfl⟩ | ⟨m, hm, hpm, rfl, hle⟩
    · rw [if_pos (by simp)]
      refine ⟨s, .inr rfl, hp, rfl, fun x hx hpx => ?_⟩
      rcases hx with hx | rfl
      · rw [hn x hx] at hpx; cases hpx
      · omega
    · by_cases hlt : m.att < s.att
      · rw [if_pos (by simp [hlt])]
        refine ⟨s, .inr rfl, hp, rfl, fun x hx hpx => ?_⟩
        rcases hx with hx | rfl
        · have := hle x hx hpx; omega
        · omega
      · rw [if_neg (by simp [hlt])]
        refine ⟨m, .inl hm, hpm, rfl, fun x hx hpx => ?_⟩
        rcases hx with hx | rfl
        · exact hle x hx hpx
        · omega
  · rw [if_neg hp]
    rcases h with ⟨hn, rfl⟩ | ⟨m, hm, hpm, rfl, hle⟩
    · refine .inl ⟨fun x hx => ?_, rfl⟩
      rcases hx with hx | rfl
      · exact hn x hx
      · simpa using hp
    · refine .inr ⟨m, .inl hm, hpm, rfl, fun x hx hpx => ?_⟩
      rcases hx with hx | rfl
      · exact hle x hx hpx
      · exact absurd hpx hp
theorem bm_all (xs : List St) : BM xs (bestS xs 0 true) := by
  have key : ∀ ys : List St, BM ys.reverse (bestS ys.reverse 0 true) := by
    intro ys
    induction ys with
    | nil => exact .inl ⟨by simp, rfl⟩
    | cons s ys ih =>
      rw [List.reverse_cons, bestS_append]
      exact bm_step _ s _ ih
  simpa using key xs.reverse
end Go.HL
end

/-! SfC -/
section
namespace Go.HL
open Go Go.Proofs
set_option linter.unusedVariables false
set_option linter.unusedSimpArgs false
theorem gle_st {w : List Int} {v v' : Vd} (g : Gh) (h : v'.st = v.st) : GLe w v v' g g := ⟨fun _ _ e => e, fun _ _ e => e, fun _ e => e, fun s _ => by rw [h]; exact ⟨Int.le_refl _, fun e => e⟩, fun _ _ _ e => e, fun _ _ _ _ e => e⟩
/-- the same states, the same ghost -/
theorem inv_of {w : List Int} {v v' : Vd} {g : Gh} (h : SInv w v g) (hst : v'.st = v.st) (hl : ∀ t x, t < w.length → v'.ld t = some x → LeadOk w v g t x) (hb : ∀ f, v'.fr f → 0 ≤ f.fr ∧ f.fr < w.length) (hf : ∀ f, v'.fr f → frOk w v g f) : SInv w v' g := by
  have hle := gle_st (w := w) g hst
  refine ⟨fun t ht => siteOk_same hle (by rw [hst]) (fun _ e => e) (fun e => e) (h.site t ht), fun t x ht hx => leadOk_mono hle ht (hl t x ht hx) (fun e => ((hl t x ht hx).four e).2.2.1), fun f hx => frOk_mono hle (hb f hx) (hf f hx), h.p0, h.pp, fun a p h1 ha => by rw [hst]; exact h.own a p h1 ha, fun a ha t ht => voted_mono hle ht (h.com a ha t ht), safe_mono hle rfl h.safe⟩
/-- an attempt is prepared -/
theorem prep_ext {w : List Int} {v : Vd} {g : Gh} (h : SInv w v g) {b q : Int} (hn : g.prep b = none) (hq : q = 4 ∨ q = 5) (hb0 : 0 ≤ b) (h0 : b = 0 → q = 4) (hown : 1 ≤ b → b ≤ (v.st (b % w.length).toNat).pr) (hcom : q = 4 → ∀ s, s < w.length → voted v g s)
    (hsafe : ∀ a, 0 ≤ a → a < b → blocked w v g a ∨ g.prep a = some q) (hld : ∀ t x, t < w.length → v.ld t = some x → x.wait = 4 → x.att ≠ b) (hfr : ∀ f, v.fr f → 0 ≤ f.fr ∧ f.fr < w.length) :
    GLe w v v g { g with prep := fun a => if a = b then some q else g.prep a } ∧ SInv w v { g with prep := fun a => if a = b then some q else g.prep a } := by
  have hle : GLe w v v g { g with prep := fun a => if a = b then some q else g.prep a } := by
    refine ⟨fun a p e => ?_, fun _ _ e => e, fun _ e => e, fun _ _ => ⟨Int.le_refl _, fun e => e⟩, fun _ _ _ e => e, fun _ _ _ _ e => e⟩
    by_cases hab : a = b
    · rw [hab, hn] at e; cases e
    · simp only [if_neg hab]; exact e
  refine ⟨hle, fun t ht => siteOk_same hle rfl (fun _ e => e) (fun e => e) (h.site t ht), fun t x ht hx => leadOk_mono hle ht (h.lead t x ht hx) (fun e => ?_), fun f hf => frOk_mono hle (hfr f hf) (h.fr f hf), fun p e => ?_, fun a p e => ?_, fun a p h1 e => ?_, fun a e t ht => ?_, fun c r e a ha hac => ?_⟩
  · simp only [if_neg (hld t x ht hx e)]
    exact ((h.lead t x ht hx).four e).2.2.1
  · by_cases hb : (0 : Int) = b
    · simp only [if_pos hb, Option.some.injEq] at e
      have := h0 hb.symm
      omega
    · simp only [if_neg hb] at e
      exact h.p0 p e
  · by_cases hab : a = b
    · simp only [if_pos hab, Option.some.injEq] at e
      exact ⟨by omega, by omega⟩
    · simp only [if_neg hab] at e
      exact h.pp a p e
  · by_cases hab : a = b
    · subst hab; exact hown h1
    · simp only [if_neg hab] at e
      exact h.own a p h1 e
  · by_cases hab : a = b
    · simp only [if_pos hab, Option.some.injEq] at e
      exact hcom e t ht
    · simp only [if_neg hab] at e
      exact h.com a e t ht
  · by_cases hcb : c = b
    · simp only [if_pos hcb, Option.some.injEq] at e
      have hne : a ≠ b := by omega
      simp only [if_neg hne]
      rw [← e]
      exact (hsafe a ha (by omega)).imp (fun h => blocked_mono hle h) id
    · simp only [if_neg hcb] at e
      rcases h.safe c r e a ha hac with h1 | h1
      · exact .inl (blocked_mono hle h1)
      · by_cases hab : a = b
        · rw [hab, hn] at h1; cases h1
        · simp only [if_neg hab]; exact .inr h1
/-- a lead comes, frames come -/
theorem inv_add {w : List Int} {v : Vd} {g : Gh} (h : SInv w v g) {s : Nat} (hs : s < w.length) {y : Ld} (hy : LeadOk w v g s y) {l : List Fr} (hb : ∀ f, v.fr f → 0 ≤ f.fr ∧ f.fr < w.length) (hlb : ∀ f ∈ l, 0 ≤ f.fr ∧ f.fr < w.length) (hl : ∀ f ∈ l, frOk w v g f) :
    SInv w ⟨v.st, upd v.ld s (some y), fun f => v.fr f ∨ f ∈ l⟩ g := by
  refine inv_of h rfl (fun t x ht hx => ?_) (fun f hf => hf.elim (hb f) (hlb f)) (fun f hf => hf.elim (h.fr f) (hl f))
  by_cases e : t = s
  · subst e
    simp only [upd_at, Option.some.injEq] at hx
    rw [← hx]; exact hy
  · simp only [upd_ne e] at hx
    exact h.lead t x ht hx
theorem inv_drop {w : List Int} {v : Vd} {g : Gh} (h : SInv w v g) {s : Nat} (hb : ∀ f, v.fr f → 0 ≤ f.fr ∧ f.fr < w.length) : SInv w ⟨v.st, upd v.ld s none, v.fr⟩ g := by
  refine inv_of h rfl (fun t x ht hx => ?_) hb h.fr
  by_cases e : t = s
  · subst e
    simp only [upd_at] at hx
    cases hx
  · simp only [upd_ne e] at hx
    exact h.lead t x ht hx
theorem allM_frs {m : Ld} {k p : Int} {f : Fr} (h : f ∈ allM m k p) : f.fr = m.id ∧ f.kd = k ∧ f.att = m.att ∧ f.s.ph = p := by
  obtain ⟨i, -, rfl, -⟩ := allM_mem h
  exact ⟨rfl, rfl, rfl, rfl⟩
theorem frOk_dec {w : List Int} {v : Vd} {g : Gh} {f : Fr} (hk : f.kd = 7) (hd : dec w g f.s.ph) : frOk w v g f :=
  ⟨fun e => by omega, fun e => by omega, fun e => by omega, fun e => by omega, fun _ _ => hd⟩
theorem frOk_pre {w : List Int} {v : Vd} {g : Gh} {f : Fr} (hk : f.kd = 5) (hd : g.prep f.att = some f.s.ph) : frOk w v g f :=
  ⟨fun e => by omega, fun e => by omega, fun _ => hd, fun e => by omega, fun e => by omega⟩
theorem frOk_ask {w : List Int} {v : Vd} {g : Gh} {f : Fr} (hk : f.kd = 1 ∨ f.kd = 3) : frOk w v g f :=
  ⟨fun e => by omega, fun e => by omega, fun e => by omega, fun e => by omega, fun e => by omega⟩
theorem lead_zero {w : List Int} {v : Vd} {g : Gh} {s : Nat} {x : Ld} (h : x.wait = 0) : LeadOk w v g s x := ⟨fun e => by omega, fun e => by omega, fun e => by omega, .inl h⟩
def hearV (v : Vd) (s : Nat) (r : Ld × List Fr) : Vd := ⟨v.st, upd v.ld s (some r.1), fun f => v.fr f ∨ f ∈ r.2⟩
theorem getD_set {l : List St} {i k : Nat} {s d : St} (hk : k < l.length) : (l.set k s).getD i d = if i = k then s else l.getD i d := by
  simp only [List.getD, List.getElem?_set]
  by_cases h : k = i
  · subst h
    simp [hk]
  · rw [if_neg h, if_neg (fun e => h e.symm)]
/-- what a lead hears -/
theorem hear_safe {w : List Int} (hc : checkW w = none) {v : Vd} {g : Gh} (h : SInv w v g) {s d : Nat} (hs : s < w.length) {x : Ld} (hx : v.ld s = some x) (hi : LdI w s d x) {f : Fr} (hfk : frOk w v g f) (hb : ∀ y, v.fr y → 0 ≤ y.fr ∧ y.fr < w.length) :
    ∃ g', GLe w v (hearV v s (hearM x f)) g g' ∧ SInv w (hearV v s (hearM x f)) g' := by
  have hw1 : 1 ≤ w.length := by omega
  have hwl := (check_none hc).2.1
  have hxo := h.lead s x hs hx
  have hid := hi.id
  -- the ghost as9 it was
  have plain : ∀ (r : Ld × List Fr), LeadOk w v g s r.1 → (∀ y ∈ r.2, 0 ≤ y.fr ∧ y.fr < w.length) → (∀ y ∈ r.2, frOk w v g y) → ∃ g', GLe w v (hearV v s r) g g' ∧ SInv w (hearV v s r) g' := fun r h1 h2 h3 =>
    ⟨g, gle_st g rfl, inv_add h hs h1 hb h2 h3⟩
  -- an attempt is prepared
  have ext : ∀ (y : Ld) (q : Int), y.id = s → y.att = x.att → g.prep x.att = none → (q = 4 ∨ q = 5) → (x.att = 0 → q = 4) → (1 ≤ x.att → x.att % w.length = s ∧ x.att ≤ (v.st s).pr) → (q = 4 → ∀ t, t < w.length → voted v g t) →
      (∀ a, 0 ≤ a → a < x.att → blocked w v g a ∨ g.prep a = some q) → ∃ g', GLe w v (hearV v s (preM y q)) g g' ∧ SInv w (hearV v s (preM y q)) g' := by
    intro y q hyi hya hn hq h0 hown hcom hsafe
    have hd := inv_drop (s := s) h hb
    obtain ⟨hle, hI⟩ := prep_ext hd (b := x.att) (q := q) hn hq hi.att0 h0 (fun h1 => by
      obtain ⟨e1, e2⟩ := hown h1
      rw [e1]
      exact e2) hcom (fun a ha hab => hsafe a ha hab) (fun t z ht hz h4 he => by
      by_cases e : t = s
      · subst e; simp only [upd_at] at hz; cases hz
      · simp only [upd_ne e] at hz
        have hz4 := (h.lead t z ht hz).four h4
        have h1 := hz4.1
        have h2 := hz4.2.1
        rw [he] at h1 h2
        have := (hown h1).1
        omega) hb
    have hex : (fun a => if a = x.att then some q else g.prep a) x.att = some q := if_pos rfl
    have hadd := inv_add (s := s) (y := (preM y q).1) (l := (preM y q).2) hI hs ⟨fun e => by simp [preM, prepM] at e, fun e => by simp [preM, prepM] at e, fun _ => ⟨by
        show (fun a => if a = x.att then some q else g.prep a) y.att = some q
        rw [hya]; exact hex, fun i _ hbt => absurd hbt bit_zero⟩, .inr (.inr (.inr rfl))⟩ hb (fun z hz => by
        have := (allM_frs hz).1
        have e : (prepM y q).id = y.id := rfl
        rw [this, e, hyi]; omega) (fun z hz => by
        obtain ⟨-, h2, h3, h4⟩ := allM_frs hz
        refine frOk_pre h2 ?_
        rw [h3, h4]
        show (fun a => if a = x.att then some q else g.prep a) y.att = some q
        rw [hya]; exact hex)
    have ev : hearV v s (preM y q) = ⟨v.st, upd (upd v.ld s none) s (some (preM y q).1), fun z => v.fr z ∨ z ∈ (preM y q).2⟩ := by
      unfold hearV
      congr 1
      funext i
      unfold upd
      split <;> rfl
    rw [ev]
    refine ⟨_, ⟨hle.prep, hle.acc, hle.ref, hle.st, hle.nref, hle.nacc⟩, hadd⟩
  unfold hearM
  split
  · exact plain (x, []) hxo (fun y hy => by cases hy) (fun y hy => by cases hy)
  rename_i hwt
  have hfit : fitsM x f := by
    by_cases hfit : fitsM x f
    · exact hfit
    · exact absurd (.inr hfit) hwt
  obtain ⟨f1, f2, f3, f4, f5, f6, f7⟩ := hfit
  rw [hi.ww] at f6
  have hfn : f.fr.toNat < w.length := by omega
  have hm1i : ∀ y : Ld, y.id = x.id → ∀ z ∈ allM (doneM y) 7 3, 0 ≤ z.fr ∧ z.fr < w.length := fun y hy z hz => by
    have := (allM_frs hz).1
    have e : (doneM y).id = y.id := rfl
    omega
  have em1 : (m1M x f).id = x.id ∧ (m1M x f).wait = x.wait ∧ (m1M x f).att = x.att ∧ (m1M x f).heard = x.heard ∧ (m1M x f).told = x.told ∧ (m1M x f).phase = x.phase := by unfold m1M; split <;> exact ⟨rfl, rfl, rfl, rfl, rfl, rfl⟩
  split
  · rename_i hy
    unfold noM
    split
    · rename_i h2
      rw [em1.2.1] at h2
      refine plain (doneM (m1M x f), allM (doneM (m1M x f)) 7 3) (lead_zero rfl) (hm1i _ em1.1) (fun z hz => ?_)
      obtain ⟨-, k2, -, k4⟩ := allM_frs hz
      refine frOk_dec k2 ?_
      rw [k4]
      have := hfk.1 (by omega)
      rw [if_neg (by rw [hy]; simp)] at this
      exact this
    · exact plain ({ m1M x f with state := sRefused, wait := 0 }, []) (lead_zero rfl) (fun y hy => by cases hy) (fun y hy => by cases hy)
  rename_i hy
  have hyt : f.yes = true := by simpa using hy
  -- an answer that counts
  have e2 : (m2M x f).id = x.id ∧ (m2M x f).wait = x.wait ∧ (m2M x f).att = x.att ∧ (m2M x f).w = x.w ∧ (m2M x f).phase = x.phase := by unfold m2M m1M; split <;> exact ⟨rfl, rfl, rfl, rfl, rfl⟩
  have eh : (m2M x f).heard = x.heard ||| 2 ^ f.fr.toNat := rfl
  have et : (m2M x f).told = x.told.set f.fr.toNat f.s := rfl
  have hhl : (m2M x f).heard < 2 ^ w.length := heard_lt hi.heard hfn
  have hlead : LeadOk w v g s (m2M x f) := by
    refine ⟨fun e => ?_, fun e => ?_, fun e => ?_, by rw [e2.2.1]; exact hxo.wt⟩
    · rw [e2.2.1] at e
      refine ⟨by rw [e2.2.2.1]; exact (hxo.two e).1, fun i hin hbt => ?_⟩
      rw [eh] at hbt
      rcases bit_or.1 hbt with hbt | hbt
      · exact (hxo.two e).2 i hin hbt
      · have := hfk.1 (by omega)
        rw [if_pos hyt] at this
        rw [hbt]; exact this
    · rw [e2.2.1] at e
      obtain ⟨k1, k2, k3, k4, k5⟩ := hxo.four e
      rw [e2.2.2.1]
      refine ⟨k1, k2, k3, k4, fun i hin hbt => ?_⟩
      rw [et, getD_set (by rw [hi.told]; omega)]
      rw [eh] at hbt
      have hft := hfk.2.1 (by omega) hyt
      rw [f3] at hft
      by_cases hif : i = f.fr.toNat
      · rw [if_pos hif, hif]; exact hft
      · rw [if_neg hif]
        rcases bit_or.1 hbt with hbt | hbt
        · exact k5 i hin hbt
        · exact absurd hbt hif
    · rw [e2.2.1] at e
      rw [e2.2.2.1, e2.2.2.2.2]
      refine ⟨(hxo.six e).1, fun i hin hbt => ?_⟩
      rw [eh] at hbt
      rcases bit_or.1 hbt with hbt | hbt
      · exact (hxo.six e).2 i hin hbt
      · have := hfk.2.2.2.1 (by omega) hyt
        rw [f3] at this
        rw [hbt]; exact this
  have hdec : ∀ p, dec w g p → ∃ g', GLe w v (hearV v s (decdM (m2M x f) p)) g g' ∧ SInv w (hearV v s (decdM (m2M x f) p)) g' := fun p hp => by
    refine plain (decdM (m2M x f) p) (lead_zero rfl) (fun z hz => ?_) (fun z hz => ?_)
    · have := (allM_frs hz).1
      have e : (doneM (m2M x f)).id = (m2M x f).id := rfl
      omega
    · obtain ⟨-, k2, -, k4⟩ := allM_frs hz
      refine frOk_dec k2 ?_
      rw [k4]; exact hp
  have hen : (enoughW (m2M x f).w (m2M x f).heard).1 = quor w (m2M x f).heard := by
    rw [e2.2.2.2.1, hi.ww, en_ok hc hhl]
  unfold countM
  split
  · -- all have voted
    rename_i hall
    rw [e2.2.1] at hall
    obtain ⟨ha0, hv⟩ := hlead.two (by rw [e2.2.1]; exact hall.1)
    rw [e2.2.2.1] at ha0
    have hvot : ∀ t, t < w.length → voted v g t := fun t ht => hv t ht (by rw [hall.2, e2.2.2.2.1, hi.ww]; exact bit_full ht)
    cases hp : g.prep x.att with
    | none => exact ext (m2M x f) 4 (by rw [e2.1, hid]) e2.2.2.1 hp (.inl rfl) (fun _ => rfl) (fun h1 => by omega) (fun _ => hvot) (fun a h1 h2 => by omega)
    | some p =>
      have h4 := h.p0 p (by rw [← ha0]; exact hp)
      subst h4
      refine plain (preM (m2M x f) 4) ⟨fun e => by simp [preM, prepM] at e, fun e => by simp [preM, prepM] at e, fun _ => ⟨?_, fun i _ hbt => absurd hbt bit_zero⟩, .inr (.inr (.inr rfl))⟩ (fun z hz => ?_) (fun z hz => ?_)
      · show g.prep (m2M x f).att = some 4
        rw [e2.2.2.1]; exact hp
      · have := (allM_frs hz).1
        have e : (prepM (m2M x f) 4).id = (m2M x f).id := rfl
        omega
      · obtain ⟨-, k2, k3, k4⟩ := allM_frs hz
        refine frOk_pre k2 ?_
        rw [k3, k4]
        show g.prep (m2M x f).att = some 4
        rw [e2.2.2.1]; exact hp
  split
  · exact plain (m2M x f, []) hlead (fun y hy => by cases hy) (fun y hy => by cases hy)
  rename_i hno hne
  have hne1 : (m2M x f).wait ≠ 2 := fun e => hne (.inl e)
  have hq : quor w (m2M x f).heard = true := by
    cases hq : quor w (m2M x f).heard with
    | true => rfl
    | false => exact absurd (.inr (by rw [hen]; exact hq)) hne
  split
  · -- enough have accepted
    rename_i h6
    obtain ⟨k1, k2⟩ := hlead.six h6
    have hqa : quorAcc w g (m2M x f).att := ⟨_, hhl, hq, k2⟩
    have hp45 := (h.pp _ _ k1).1
    refine hdec _ ?_
    rcases hp45 with e | e
    · rw [e] at k1 ⊢
      exact .inl ⟨rfl, _, k1, hqa⟩
    · rw [e] at k1 ⊢
      exact .inr ⟨rfl, .inl ⟨_, k1, hqa⟩⟩
  rename_i hn6
  have h4 : (m2M x f).wait = 4 := by
    have := hlead.wt
    have h00 : (m2M x f).wait ≠ 0 := by rw [e2.2.1]; exact fun e => hwt (.inl e)
    omega
  obtain ⟨k1, k2, k3, k4, k5⟩ := hlead.four h4
  have hmem : ∀ t, t ∈ statesM (m2M x f) → ∃ i, i < w.length ∧ bit (m2M x f).heard i ∧ t = (m2M x f).told.getD i zeroS := fun t ht => by
    obtain ⟨i, hi2, hb2, e⟩ := stOf_mem.1 ht
    rw [e2.2.2.2.1, hi.ww] at hi2
    exact ⟨i, hi2, hb2, e⟩
  have hmem' : ∀ i, i < w.length → bit (m2M x f).heard i → (m2M x f).told.getD i zeroS ∈ statesM (m2M x f) := fun i hi2 hb2 => stOf_mem.2 ⟨i, by rw [e2.2.2.2.1, hi.ww]; exact hi2, hb2, rfl⟩
  split
  · -- somebody knows
    rename_i hfin
    refine hdec _ ?_
    have hkey : ∀ p, fin p → toldS (statesM (m2M x f)) p = true → dec w g p := fun p hfp hp => by
      simp only [toldS, List.any_eq_true, decide_eq_true_eq] at hp
      obtain ⟨t, ht, rfl⟩ := hp
      obtain ⟨i, hi2, hb2, rfl⟩ := hmem t ht
      exact (k5 i hi2 hb2).fi hfp
    unfold chooseS at hfin ⊢
    split
    · rename_i h2; exact hkey 2 (.inl rfl) h2
    · rename_i h2
      rw [if_neg h2] at hfin
      split
      · rename_i h3; exact hkey 3 (.inr rfl) h3
      · rename_i h3
        rw [if_neg h3] at hfin
        split at hfin <;> cases hfin
  · -- a phase is chosen
    rename_i hfin
    rw [e2.2.2.1] at k1 k2 k3 k4
    have hnf : ∀ i, i < w.length → bit (m2M x f).heard i → ¬ fin ((m2M x f).told.getD i zeroS).ph := fun i hi2 hb2 hf => by
      have hm := hmem' i hi2 hb2
      apply hfin
      unfold chooseS
      rcases hf with hf | hf
      · rw [if_pos (by simp only [toldS, List.any_eq_true, decide_eq_true_eq]; exact ⟨_, hm, hf⟩)]
      · by_cases h2 : toldS (statesM (m2M x f)) 2 = true
        · rw [if_pos h2]
        · rw [if_neg h2, if_pos (by simp only [toldS, List.any_eq_true, decide_eq_true_eq]; exact ⟨_, hm, hf⟩)]
    have hcs : (chooseS (statesM (m2M x f))).1 = if (statesM (m2M x f)).any (fun s => decide (s.ph = 4 ∧ s.att = (bestS (statesM (m2M x f)) 0 true).1)) then 4 else 5 := by
      unfold chooseS at hfin ⊢
      split
      · rename_i h2; rw [if_pos h2] at hfin; exact absurd rfl hfin
      · rename_i h2
        rw [if_neg h2] at hfin
        split
        · rename_i h3; rw [if_pos h3] at hfin; exact absurd rfl hfin
        · split <;> rfl
    have hprep : ∀ t : St, prep t = true ↔ (t.ph = 4 ∨ t.ph = 5) := fun t => by unfold prep; simp
    rcases bm_all (statesM (m2M x f)) with ⟨hnone, hbest⟩ | ⟨t, ht, hpt, hbest, hmax⟩
    · -- nobody is prepared
      have e5 : (chooseS (statesM (m2M x f))).1 = 5 := by
        rw [hcs, if_neg]
        intro hany
        simp only [List.any_eq_true, decide_eq_true_eq] at hany
        obtain ⟨u, hu, h4u, -⟩ := hany
        have := hnone u hu
        rw [(hprep u).2 (.inl h4u)] at this
        cases this
      rw [e5]
      refine ext (m2M x f) 5 (by rw [e2.1, hid]) e2.2.2.1 k3 (.inr rfl) (fun e => by omega) (fun _ => ⟨k2, k4⟩) (fun e => by omega) (fun a ha hab => .inl ⟨_, hhl, hq, fun i hi2 hb2 => ?_⟩)
      have hT := k5 i hi2 hb2
      rw [e2.2.2.1] at hT
      refine ⟨by have := hT.pr; omega, fun hacc => ?_⟩
      rcases hT.ac a ha hab hacc with hf | ⟨hf, -⟩
      · exact hnf i hi2 hb2 hf
      · have := hnone _ (hmem' i hi2 hb2)
        rw [(hprep _).2 hf] at this
        cases this
    · -- the greatest attempt
      obtain ⟨i0, hi0, hb0, rfl⟩ := hmem t ht
      have hT0 := k5 i0 hi0 hb0
      rw [e2.2.2.1] at hT0
      have h45 := (hprep _).1 hpt
      obtain ⟨p1, p2, p3⟩ := hT0.pe h45
      generalize (m2M x f).told.getD i0 zeroS = t at *
      have eq : (chooseS (statesM (m2M x f))).1 = t.ph := by
        rw [hcs, hbest]
        rcases h45 with e | e
        · rw [if_pos, e]
          simp only [List.any_eq_true, decide_eq_true_eq]
          exact ⟨t, ht, e, rfl⟩
        · rw [if_neg, e]
          intro hany
          simp only [List.any_eq_true, decide_eq_true_eq] at hany
          obtain ⟨u, hu, h4u, hau⟩ := hany
          obtain ⟨i, hi2, hb2, rfl⟩ := hmem u hu
          have hT := k5 i hi2 hb2
          have := (hT.pe (.inl h4u)).2.1
          rw [hau, p2, h4u, e] at this
          cases this
      rw [eq]
      refine ext (m2M x f) t.ph (by rw [e2.1, hid]) e2.2.2.1 k3 h45 (fun e => by omega) (fun _ => ⟨k2, k4⟩) (fun e4 t' ht' => h.com t.att (by rw [p2, e4]) t' ht') (fun a ha hab => ?_)
      rcases Int.lt_trichotomy a t.att with hlt | hlt | hlt
      · exact h.safe t.att t.ph p2 a ha hlt
      · rw [hlt]; exact .inr p2
      · refine .inl ⟨_, hhl, hq, fun i hi2 hb2 => ?_⟩
        have hT := k5 i hi2 hb2
        rw [e2.2.2.1] at hT
        refine ⟨by have := hT.pr; omega, fun hacc => ?_⟩
        rcases hT.ac a ha hab hacc with hf | ⟨hf, hle⟩
        · exact hnf i hi2 hb2 hf
        · have := hmax _ (hmem' i hi2 hb2) ((hprep _).2 hf)
          omega
end Go.HL
end

/-! SfD -/
section
namespace Go.HL
open Go Go.Proofs
set_option linter.unusedVariables false
set_option linter.unusedSimpArgs false
/-- what is seen of a deal in a world -/
def vdW (M : Wm) (d : Nat) : Vd := ⟨fun s => plSt (ndAt M (s : Int)).pl d, fun s => (ndAt M (s : Int)).leads.getD d none, fun f => f ∈ M.l ∧ f.dl = d⟩
structure SD (M : Wm) (d : Nat) (g : Gh) : Prop where
  inv : SInv M.w (vdW M d) g
  ev : ∀ e ∈ M.ev, e.deal = d → dec M.w g e.ph
theorem fr_bound {M : Wm} (h : WI M) {d : Nat} : ∀ f, (vdW M d).fr f → 0 ≤ f.fr ∧ f.fr < M.w.length := fun f hf => by
  obtain ⟨h1, h2, h3⟩ := h.fr f hf.1
  unfold badF at h1
  omega
theorem st_eq {m : Nd} {w : List Int} {s : Nat} (h : NdI w s m) {j : Jn} {ref : Int → Bool} (hs : m.site = some (j, ref)) (d : Nat) : stAt j d = plSt m.pl d := by
  rw [(h.up j ref hs).1]
  rfl
/-- steps that change no state of the deal and give no lead -/
theorem SD_of {M M' : Wm} {d : Nat} {g : Gh} (hI' : WI M') (h : SD M d g) (hw : M'.w = M.w) (hst : ∀ s : Nat, plSt (ndAt M' (s : Int)).pl d = plSt (ndAt M (s : Int)).pl d)
    (hld : ∀ s : Nat, (ndAt M' (s : Int)).leads.getD d none = (ndAt M (s : Int)).leads.getD d none ∨ (ndAt M' (s : Int)).leads.getD d none = none) (hl : ∀ f ∈ M'.l, f.dl = d → f ∈ M.l ∨ frOk M.w (vdW M d) g f)
    (hev : ∀ e ∈ M'.ev, e ∈ M.ev ∨ (e.deal = d → ∃ s, s < M.w.length ∧ e.ph = (plSt (ndAt M (s : Int)).pl d).ph ∧ fin e.ph)) : SD M' d g := by
  have hs : (vdW M' d).st = (vdW M d).st := funext hst
  refine ⟨?_, fun e he hed => ?_⟩
  · rw [hw]
    refine inv_of h.inv hs (fun t x ht hx => ?_) (fun f hf => by have := fr_bound hI' f hf; rw [hw] at this; exact this) (fun f hf => ?_)
    · rcases hld t with e | e
      · exact h.inv.lead t x ht (by rw [← hx]; exact e.symm)
      · have hx' : (ndAt M' (t : Int)).leads.getD d none = some x := hx
        rw [e] at hx'; cases hx'
    · rcases hl f hf.1 hf.2 with h1 | h1
      · exact h.inv.fr f ⟨h1, hf.2⟩
      · exact h1
  · rw [hw]
    rcases hev e he with h1 | h1
    · exact h.ev e h1 hed
    · obtain ⟨s, hs1, hs2, hs3⟩ := h1 hed
      have := (h.inv.site s hs1).fi
      change fin (plSt (ndAt M (s : Int)).pl d).ph → dec M.w g (plSt (ndAt M (s : Int)).pl d).ph at this
      rw [hs2]
      exact this (by rw [← hs2]; exact hs3)
theorem Ze {M : Wm} {s : Int} {m : Nd} (h0 : 0 ≤ s) (h1 : s < M.n.length) (t : Nat) : ndAt (setN M s m) (t : Int) = if (t : Int) = s then m else ndAt M (t : Int) := by
  split
  · rename_i e
    rw [e]
    exact ndAt_set h0 h1
  · rename_i e
    exact ndAt_set_ne (by simp; omega)
theorem noLeads_getD (d : Nat) : noLeads.getD d none = none := by
  unfold noLeads
  rw [List.getD, List.getElem?_replicate]
  split <;> rfl
/-- one site hears: its states -/
theorem site_step {id : Int} {ref : Int → Bool} {m : Pl} {j : Jn} (h : SI m j) (f : Fr) : ((∀ d, d < 6 → stAt (siteM id ref m j f).2.1 d = stAt j d) ∧ (siteM id ref m j f).2.2.1 = []) ∨
    (¬ badF f ∧ f.to = id ∧ stAt (siteM id ref m j f).2.1 f.dl.toNat = (turnM ref f (stAt j f.dl.toNat)).1 ∧ (∀ d, d < 6 → d ≠ f.dl.toNat → stAt (siteM id ref m j f).2.1 d = stAt j d) ∧
      ∀ x ∈ (siteM id ref m j f).2.2.1, (turnM ref f (stAt j f.dl.toNat)).2.1 ≠ 0 ∧ x = ⟨id, f.fr, f.dl, (turnM ref f (stAt j f.dl.toNat)).2.1, f.att, (turnM ref f (stAt j f.dl.toNat)).2.2, (turnM ref f (stAt j f.dl.toNat)).1⟩) := by
  unfold siteM
  by_cases hb : badF f
  · simp only [if_pos hb]
    exact .inl ⟨fun _ _ => by trivial, by trivial⟩
  simp only [if_neg hb]
  by_cases hto : f.to = id
  · simp only [ne_eq, hto, not_true_eq_false, if_false]
    have hb2 := hb
    unfold badF at hb2
    obtain ⟨d, hd⟩ := Int.eq_ofNat_of_zero_le (show 0 ≤ f.dl by omega)
    have hd6 : d < 6 := by omega
    rw [hd]
    simp only [Int.toNat_natCast]
    have est : stAt j d = (j.l.getD d zeroE).s := rfl
    rw [est]
    generalize htr : turnM ref f (j.l.getD d zeroE).s = tr at *
    have hp := put_any h.ji d tr.1
    generalize putM m j d tr.1 = r at *
    obtain ⟨m', j', er⟩ := r
    simp only at hp ⊢
    obtain ⟨hJ, hL, hp⟩ := hp
    rcases hp with ⟨hl, he⟩ | ⟨hnb, he, ho, ho', hp⟩
    · have he2 : ∃ x, er = some x := by
        rcases he with ⟨he, -⟩ | ⟨he, -⟩ | ⟨he, -⟩ <;> exact ⟨_, he⟩
      obtain ⟨x, rfl⟩ := he2
      exact .inl ⟨fun q _ => by unfold stAt; simp only [hl], rfl⟩
    · subst he
      simp only [Int.toNat_natCast] at hp
      have hlen : j.l.length = 6 := h.ji.jn.len
      have hst' : stAt j' d = tr.1 ∧ ∀ q, q ≠ d → stAt j' q = stAt j q := by
        rcases hp with ⟨h1, h2, -⟩ | ⟨h1, h2⟩
        · refine ⟨by unfold stAt; rw [h2, h1], fun q _ => by unfold stAt; rw [h2]⟩
        · refine ⟨by unfold stAt; rw [h2]; simp [List.getD, hlen, hd6], fun q hq => by unfold stAt; rw [h2]; simp [List.getD, List.getElem?_set, Ne.symm hq]⟩
      refine .inr ⟨hb, by trivial, hst'.1, fun q _ hq => hst'.2 q hq, fun x hx => ?_⟩
      simp only at hx
      split at hx
      · cases hx
      · rename_i hk
        simp only [List.mem_singleton] at hx
        exact ⟨hk, hx⟩
  · simp only [ne_eq, hto, not_false_eq_true, if_true]
    exact .inl ⟨fun _ _ => by trivial, by trivial⟩
theorem noteD_mem {s : Int} {ph : Nat → Int} {q : List Bool × List Evt} {k : Nat} {e : Evt} (h : e ∈ (noteD s ph q k).2) : e ∈ q.2 ∨ (e = ⟨s, k, ph k⟩ ∧ fin (ph k)) := by
  unfold noteD at h
  split at h
  · exact .inl h
  · rename_i hc
    simp only at h
    split at h
    · rcases List.mem_append.1 h with h | h
      · exact .inl h
      · simp only [List.mem_singleton] at h
        refine .inr ⟨h, ?_⟩
        unfold fin
        by_cases h2 : ph k = 2
        · exact .inl h2
        · by_cases h3 : ph k = 3
          · exact .inr h3
          · exact absurd (.inr ⟨h2, h3⟩) hc
    · exact .inl h
theorem noteR_mem {s : Int} {ph : Nat → Int} {q : List Bool × List Evt} {e : Evt} : ∀ k, e ∈ (noteR s ph q k).2 → e ∈ q.2 ∨ ∃ d, d < k ∧ e = ⟨s, d, ph d⟩ ∧ fin (ph d)
  | 0, h => .inl h
  | k + 1, h => by
    rw [noteR_succ] at h
    rcases noteD_mem h with h | ⟨h1, h2⟩
    · rcases noteR_mem k h with h | ⟨d, h1, h2, h3⟩
      · exact .inl h
      · exact .inr ⟨d, by omega, h2, h3⟩
    · exact .inr ⟨k, by omega, h1, h2⟩
theorem noteN_mem {s : Int} {m : Nd} {ev : List Evt} {e : Evt} (h : e ∈ (noteN s m ev).2) : e ∈ ev ∨ ∃ j ref d, m.site = some (j, ref) ∧ d < 6 ∧ e = ⟨s, (d : Nat), (stAt j d).ph⟩ ∧ fin (stAt j d).ph := by
  unfold noteN at h
  split at h
  · exact .inl h
  · rename_i j ref hs
    rcases noteR_mem 6 h with h | ⟨d, h1, h2, h3⟩
    · exact .inl h
    · exact .inr ⟨j, ref, d, hs, h1, h2, h3⟩
/-- what a site hears, in a world; its answers fly -/
theorem hear_SD {M : Wm} (hI : WI M) {s : Int} (h0 : 0 ≤ s) (h1 : s < M.n.length) {f : Fr} (hfr : f.fr < M.w.length) {d : Nat} (hd : d < 6) {g : Gh} (h : SD M d g) (hfk : f.dl = d → frOk M.w (vdW M d) g f) :
    ∃ g', g'.prep = g.prep ∧ GLe M.w (vdW M d) (vdW { (hearW M s f).1 with l := M.l ++ (hearW M s f).2.1 } d) g g' ∧ SD { (hearW M s f).1 with l := M.l ++ (hearW M s f).2.1 } d g' := by
  have hn := hI.wn
  obtain ⟨hI2, hans⟩ := hI.hear (f := f) h0 h1 hfr
  have hI3 : WI { (hearW M s f).1 with l := M.l ++ (hearW M s f).2.1 } := hI2.setL fun x hx => by
    rcases List.mem_append.1 hx with hx | hx
    · exact hI.fr x hx
    · exact hans x hx
  have hni := hI.at h0 h1
  have hsn : s.toNat < M.w.length := by omega
  have hss : ((s.toNat : Nat) : Int) = s := by omega
  cases hsi : (ndAt M s).site with
  | none =>
    have e : hearNd s (ndAt M s) M.ev f = (ndAt M s, M.ev, [], false) := by unfold hearNd; rw [hsi]
    have hst : ∀ t : Nat, ndAt { (hearW M s f).1 with l := M.l ++ (hearW M s f).2.1 } (t : Int) = ndAt M (t : Int) := fun t => by
      show ndAt (setN M s (hearNd s (ndAt M s) M.ev f).1) (t : Int) = _
      rw [Ze h0 h1, e]
      split
      · rename_i e2; rw [e2]
      · rfl
    refine ⟨g, rfl, gle_st g (funext fun t => by show plSt (ndAt _ _).pl d = _; rw [hst]; rfl), SD_of hI3 h rfl (fun t => by rw [hst]) (fun t => by rw [hst]; exact .inl rfl) (fun x hx _ => ?_) (fun x hx => ?_)⟩
    · have hx' : x ∈ M.l ++ (hearNd s (ndAt M s) M.ev f).2.2.1 := hx
      rw [e, List.append_nil] at hx'
      exact .inl hx'
    · have hx' : x ∈ (hearNd s (ndAt M s) M.ev f).2.1 := hx
      rw [e] at hx'
      exact .inl hx'
  | some q =>
    obtain ⟨j, ref⟩ := q
    have hS := hni.jn hsi
    have hstep := site_step (id := s) (ref := ref) hS f
    have hany := site_any (id := s) (ref := ref) hS f
    have hjeq := hany.1.eq
    have ej : ∀ q, stAt j q = plSt (ndAt M s).pl q := fun q => st_eq hni hsi q
    -- the node behind it
    have hnode : (hearNd s (ndAt M s) M.ev f).1.pl = (siteM s ref (ndAt M s).pl j f).1 ∧ ((hearNd s (ndAt M s) M.ev f).1.leads = (ndAt M s).leads ∨ (hearNd s (ndAt M s) M.ev f).1.leads = noLeads) ∧
        (∀ x ∈ (hearNd s (ndAt M s) M.ev f).2.2.1, x ∈ (siteM s ref (ndAt M s).pl j f).2.2.1) ∧
        (∀ e ∈ (hearNd s (ndAt M s) M.ev f).2.1, e ∈ M.ev ∨ ∃ d, d < 6 ∧ e = ⟨s, (d : Nat), (stAt (siteM s ref (ndAt M s).pl j f).2.1 d).ph⟩ ∧ fin (stAt (siteM s ref (ndAt M s).pl j f).2.1 d).ph) := by
      unfold hearNd
      rw [hsi]
      simp only
      split
      · exact ⟨rfl, .inr rfl, fun x hx => (by cases hx), fun e he => .inl he⟩
      · refine ⟨rfl, .inl rfl, fun x hx => hx, fun e he => ?_⟩
        rcases noteN_mem he with he | ⟨j2, r2, d2, e1, e2, e3, e4⟩
        · exact .inl he
        · simp only [Option.some.injEq, Prod.mk.injEq] at e1
          obtain ⟨rfl, rfl⟩ := e1
          exact .inr ⟨d2, e2, e3, e4⟩
    obtain ⟨npl, nld, nfr, nev⟩ := hnode
    have hpl : ∀ q : Nat, plSt (hearNd s (ndAt M s) M.ev f).1.pl q = stAt (siteM s ref (ndAt M s).pl j f).2.1 q := fun q => by
      rw [npl]
      have : (siteM s ref (ndAt M s).pl j f).2.1.l = openM (siteM s ref (ndAt M s).pl j f).1.b := hany.1.ji.l
      unfold stAt plSt
      rw [this]
      rfl
    have hnd : ∀ t : Nat, ndAt { (hearW M s f).1 with l := M.l ++ (hearW M s f).2.1 } (t : Int) = if (t : Int) = s then (hearNd s (ndAt M s) M.ev f).1 else ndAt M (t : Int) := fun t => Ze h0 h1 t
    have hldd : ∀ t : Nat, (ndAt { (hearW M s f).1 with l := M.l ++ (hearW M s f).2.1 } (t : Int)).leads.getD d none = (ndAt M (t : Int)).leads.getD d none ∨ (ndAt { (hearW M s f).1 with l := M.l ++ (hearW M s f).2.1 } (t : Int)).leads.getD d none = none := fun t => by
      rw [hnd]
      split
      · rename_i e
        rw [e]
        rcases nld with e2 | e2
        · rw [e2]; exact .inl rfl
        · rw [e2]; exact .inr (noLeads_getD d)
      · exact .inl rfl
    have hsame : (∀ q, q < 6 → q = d → stAt (siteM s ref (ndAt M s).pl j f).2.1 q = stAt j q) → (∀ x ∈ (siteM s ref (ndAt M s).pl j f).2.2.1, x.dl ≠ d) → ∃ g', g'.prep = g.prep ∧ GLe M.w (vdW M d) (vdW { (hearW M s f).1 with l := M.l ++ (hearW M s f).2.1 } d) g g' ∧ SD { (hearW M s f).1 with l := M.l ++ (hearW M s f).2.1 } d g' := fun hq hx => by
      have hst : ∀ t : Nat, plSt (ndAt { (hearW M s f).1 with l := M.l ++ (hearW M s f).2.1 } (t : Int)).pl d = plSt (ndAt M (t : Int)).pl d := fun t => by
        rw [hnd]
        split
        · rename_i e
          rw [e, hpl, hq d hd rfl, ej]
        · rfl
      refine ⟨g, rfl, gle_st g (funext hst), SD_of hI3 h rfl hst hldd (fun x hx2 hxd => ?_) (fun e he => ?_)⟩
      · have hx' : x ∈ M.l ++ (hearNd s (ndAt M s) M.ev f).2.2.1 := hx2
        rcases List.mem_append.1 hx' with h3 | h3
        · exact .inl h3
        · exact absurd hxd (hx x (nfr x h3))
      · rcases nev e he with h3 | ⟨d2, e2, rfl, e4⟩
        · exact .inl h3
        · refine .inr fun hed => ?_
          simp only at hed
          have hdd : d2 = d := by omega
          subst hdd
          refine ⟨s.toNat, hsn, ?_, e4⟩
          simp only
          rw [hq d2 e2 rfl, ej, hss]
    rcases hstep with ⟨hq, hx⟩ | ⟨hb, hto, htu, hoth, hx⟩
    · exact hsame (fun q hq6 _ => hq q hq6) (fun x hx2 => by rw [hx] at hx2; cases hx2)
    · have hb2 := hb
      unfold badF at hb2
      by_cases hdl : f.dl = d
      · -- the deal itself
        have htn : f.dl.toNat = d := by omega
        have hvs : (vdW M d).st s.toNat = stAt j f.dl.toNat := by
          show plSt (ndAt M ((s.toNat : Nat) : Int)).pl d = _
          rw [hss, htn, ej]
        obtain ⟨g', hgp, hle, hinv⟩ := turn_safe h.inv (s := s.toNat) hsn (ref := ref) hb (hfk hdl) (fr_bound hI)
        have est : (vdW { (hearW M s f).1 with l := M.l ++ (hearW M s f).2.1 } d).st = (turnV (vdW M d) s.toNat ref f).st := funext fun t => by
          show plSt (ndAt { (hearW M s f).1 with l := M.l ++ (hearW M s f).2.1 } (t : Int)).pl d = upd (vdW M d).st s.toNat (turnM ref f ((vdW M d).st s.toNat)).1 t
          rw [hnd]
          unfold upd
          by_cases e : t = s.toNat
          · rw [if_pos e, if_pos (by omega), hvs, ← htu, hpl, htn]
          · rw [if_neg e, if_neg (by omega)]
            rfl
        refine ⟨g', hgp, ⟨hle.prep, hle.acc, hle.ref, fun t ht => by rw [est]; exact hle.st t ht, hle.nref, hle.nacc⟩, ?_, fun e he hed => ?_⟩
        · refine inv_of hinv est (fun t x ht hx2 => ?_) (fr_bound hI3) (fun x hx2 => ?_)
          · rcases hldd t with e | e
            · exact hinv.lead t x ht (by rw [← hx2]; exact e.symm)
            · have hx3 : (ndAt { (hearW M s f).1 with l := M.l ++ (hearW M s f).2.1 } (t : Int)).leads.getD d none = some x := hx2
              rw [e] at hx3; cases hx3
          · refine hinv.fr x ?_
            have hx3 : x ∈ M.l ++ (hearNd s (ndAt M s) M.ev f).2.2.1 := hx2.1
            rcases List.mem_append.1 hx3 with h3 | h3
            · exact .inl ⟨h3, hx2.2⟩
            · obtain ⟨k1, k2⟩ := hx x (nfr x h3)
              refine .inr ?_
              rw [hvs]
              refine ⟨k1, ?_⟩
              rw [k2]
              simp only [hss]
        · rcases nev e he with h3 | ⟨d2, e2, rfl, e4⟩
          · exact dec_mono hle (h.ev e h3 hed)
          · simp only at hed ⊢
            have hdd : d2 = d := by omega
            subst hdd
            have := (hinv.site s.toNat hsn).fi
            have e5 : (turnV (vdW M d2) s.toNat ref f).st s.toNat = stAt (siteM s ref (ndAt M s).pl j f).2.1 d2 := by
              show upd _ _ _ _ = _
              rw [upd_at, hvs, ← htu, htn]
            rw [e5] at this
            exact this e4
      · exact hsame (fun q hq6 hqd => hoth q hq6 (by omega)) (fun x hx2 => by
          obtain ⟨-, k2⟩ := hx x hx2
          rw [k2]
          exact hdl)
end Go.HL
end
