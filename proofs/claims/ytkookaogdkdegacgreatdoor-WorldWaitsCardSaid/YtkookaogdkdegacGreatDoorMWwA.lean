/- Texts laid into one, without what the claim does not use. Conditions: none. -/
import Derived.Test.YtkookaogdkdegacGreatDoorMCoE
/-! SfI -/
section
namespace Go.HL
open Go Go.Proofs
set_option linter.unusedVariables false
set_option linter.unusedSimpArgs false
/-- what a statement's input names -/
structure StpS where
  kd : List UInt8
  s : Int
  d : Int
  n : Int
def stpL (x : StpS) : List Value := [bs x.kd, iv x.s, iv x.d, iv x.n]
def actW (M : Wm) (x : StpS) : Wm × Option Nat :=
  if x.kd = [98, 101, 103, 105, 110] then beginW M x.s x.d else
  if x.kd = [114, 101, 102, 117, 115, 101] then refuseW M x.s x.d else
  if x.kd = [116, 105, 99, 107] then tickW M x.s else
  if x.kd = [100, 111, 119, 110] then downW M x.s else
  if x.kd = [117, 112] then upW M x.s else
  if x.kd = [100, 114, 111, 112] then dropW M x.n else
  if x.kd = [116, 119, 105, 99, 101] then twiceW M x.n else
  if x.kd = [108, 105, 110, 107] then linkW M x.s x.d true else
  if x.kd = [98, 114, 101, 97, 107] then linkW M x.s x.d false else
  if x.kd = [99, 117, 116] then cutW M x.s x.n else deliverW M x.n
theorem act_ok {M : Wm} (h : WI M) (x : StpS) (hn : x.n ≤ 9223372036854775807) : StepOk M (actW M x).1 84 := by
  unfold actW
  split
  · exact (begin_ok h _ _).mono (by omega)
  split
  · exact (refuse_ok h _ _).mono (by omega)
  split
  · exact (tick_ok h _).mono (by omega)
  split
  · exact (down_ok h _).mono (by omega)
  split
  · exact (up_ok h _).mono (by omega)
  split
  · exact (drop_ok h _).mono (by omega)
  split
  · exact (twice_ok h _).mono (by omega)
  split
  · exact (link_ok h _ _ _).mono (by omega)
  split
  · exact (link_ok h _ _ _).mono (by omega)
  split
  · exact (cut_ok h _ _ hn).mono (by omega)
  · exact (deliver_ok h _).mono (by omega)
theorem ev_act {M : Wm} (hI : WI M) (h : EvW M) (x : StpS) : EvW (actW M x).1 := by
  have hl : ∀ a b c, EvW (linkW M a b c).1 := fun a b c => by
    unfold linkW
    split
    · exact h
    · exact ⟨h.pw, h.rg, h.dn⟩
  unfold actW
  split
  · unfold beginW
    split
    · exact h
    rename_i hb
    split
    · exact h
    split
    · exact h
    exact h.lead (s := x.s) (by omega) (by omega) _ _
  split
  · unfold refuseW
    split
    · exact h
    split
    · exact h
    rename_i hu
    obtain ⟨h0, h1, -⟩ := up_site hu
    exact h.set h0 h1 (by unfold refuseN; split <;> rfl)
  split
  · exact ev_tick hI h _
  split
  · unfold downW
    split
    · exact h
    rename_i hu
    obtain ⟨h0, h1, -⟩ := up_site hu
    exact h.set h0 h1 rfl
  split
  · unfold upW
    split
    · exact h
    split
    · exact h
    rename_i hu _
    obtain ⟨h0, h1⟩ := nodeE_none hu
    exact h.note hI h0 h1 rfl rfl
  split
  · unfold dropW; split
    · exact h
    · exact h.setL _
  split
  · unfold twiceW; split
    · exact h
    · exact h.setL _
  split
  · exact hl _ _ _
  split
  · exact hl _ _ _
  split
  · unfold cutW
    split
    · exact h
    split
    · exact h
    rename_i hu
    obtain ⟨h0, h1, -⟩ := up_site hu
    exact h.set h0 h1 rfl
  · exact ev_deliver hI h _
/-- states only rise -/
def RiseW (M M' : Wm) : Prop := ∀ s d : Nat, s < M.w.length → d < 6 → stLe (plSt (ndAt M (s : Int)).pl d) (plSt (ndAt M' (s : Int)).pl d)
theorem mayS_trans {a b c : Int} (h : mayS a b = true) (h' : mayS b c = true) : mayS a c = true := by
  unfold mayS at *
  have h1 := of_decide_eq_true h
  have h2 := of_decide_eq_true h'
  exact decide_eq_true (by omega)
theorem stLe_trans {a b c : St} (h : stLe a b) (h' : stLe b c) : stLe a c := ⟨Int.le_trans h.1 h'.1, Int.le_trans h.2.1 h'.2.1, mayS_trans h.2.2 h'.2.2⟩
theorem st_ok {M : Wm} (h : WI M) {s d : Nat} (hs : s < M.w.length) (hd : d < 6) : stOk (plSt (ndAt M (s : Int)).pl d) := by
  have := (h.at (s := (s : Int)) (by omega) (by rw [h.wn]; omega)).si.st d hd
  exact this
theorem RiseW.same {M M' : Wm} (h : WI M) (hst : ∀ s d : Nat, plSt (ndAt M' (s : Int)).pl d = plSt (ndAt M (s : Int)).pl d) : RiseW M M' := fun s d hs hd => by
  rw [hst]
  exact stLe_refl (st_ok h hs hd)
theorem RiseW.trans {A B C : Wm} (hw : B.w.length = A.w.length) (h : RiseW A B) (h' : RiseW B C) : RiseW A C := fun s d hs hd => stLe_trans (h s d hs hd) (h' s d (by omega) hd)
theorem RiseW.left {M M1 M' : Wm} (h : RiseW M1 M') (hw : M1.w = M.w) (hst : ∀ s d : Nat, plSt (ndAt M1 (s : Int)).pl d = plSt (ndAt M (s : Int)).pl d) : RiseW M M' := fun s d hs hd => by
  rw [← hst]
  exact h s d (by rw [hw]; exact hs) hd
/-- all sites' states of a deal -/
def stsW (M : Wm) (d : Nat) : List St := (List.range M.w.length).map fun (s : Nat) => plSt (ndAt M (s : Int)).pl d
end Go.HL
end

/-! CdSt -/
section
namespace Go.HL
open Go Go.Proofs Go.ChangeShapes Go.WideShapes Go.ChangeAt Go.RowKit
def StpI (a : StpS) : Prop := a.kd.length ≤ 9223372036854775807 ∧ okI a.s ∧ okI a.d ∧ okI a.n
theorem open_stp {H : Type} {enc : TypeId × Value → H} {W : World} {base : Nat} {spare : Nat → Bool} {held : Bool} (n : Nat) (cs : List Value) (x : DataW H × List MemPlace) (h : DataW.trod enc Tryz.prog W base spare held n 54 cs = some x) : ∃ s : StpS, cs = stpL s ∧ StpI s := by
  have h0 := open_kt 4 54 [9, 3, 3, 3] n cs x (by kernel_rfl) h
  obtain ⟨s, r, rfl, hs, h1⟩ := fitT h0
  obtain ⟨a, r, rfl, ha, h2⟩ := fitI64 h1
  obtain ⟨d, r, rfl, hd, h3⟩ := fitI64 h2
  obtain ⟨m, r, rfl, hm, h4⟩ := fitI64 h3
  obtain rfl := fit0 h4
  exact ⟨⟨s, a, d, m⟩, rfl, hs, ha, hd, hm⟩
end Go.HL
end

/-! PwG -/
section
namespace Go.HL
open Go Go.Proofs
set_option linter.unusedVariables false
set_option linter.unusedSimpArgs false
set_option maxHeartbeats 2000000 attribute [local irreducible] HW HO HQ HD HC QOp Has Upd Puts Gets seqQ blkQ loopQ fnQ actQ nextP unQ MapF
attribute [local irreducible] runW newW
end Go.HL
end

/-! PwH -/
section
namespace Go.HL
open Go Go.Proofs
set_option linter.unusedVariables false
set_option linter.unusedSimpArgs false
/-- all that a State of a world reads -/
theorem wstate_all (T : Nat) (E : Nat → Addr) (G : WdG) (M : Wm) (i d : Nat) (L : Heap) (H : Heap) (hH : ∀ b o, Has (wdH G M ++ L) b o → Has H b o) (hG : Er T E [2, 6] H) (hW : WdOk G M) (hM : WI M) (hi : i < M.w.length) (hd : d < 6) :
    HC Tryz.prog 68 [pt G.wp 0, iv i, iv d] H (fun v L' => v = .tuple ⟨[.agg ⟨sc (plSt (ndAt M (i : Int)).pl d)⟩, .nilIface]⟩ ∧ L' = H) := by
  have hn := hM.wn
  have hI : WdIn H G M := by
    obtain ⟨h1, ⟨a2, c2, e2, r2⟩, ⟨a3, c3, e3, r3⟩, ⟨a4, c4, e4, r4⟩, h5⟩ := wd_in hW L
    exact ⟨hH _ _ h1, ⟨a2, c2, e2, r2.mono hH⟩, ⟨a3, c3, e3, r3.mono hH⟩, ⟨a4, c4, e4, r4.mono hH⟩, h5⟩
  have hB : ∀ {b : Nat} {o : Obj}, (b, o) ∈ ndA (npAt G i) i (ndAt M i) → Has H b o := fun {b o} hb => by
    refine hH _ _ ?_
    have := wd_has hW.ndl (s := (i : Int)) (by omega) (by omega) hb L
    unfold Has wdH at *
    rw [List.append_assoc, List.flatten_append]
    exact List.mem_append_right _ this
  have hni := wi_at hM (s := (i : Int)) (by omega) (by omega)
  have kst := wstate_calls T E G M i d H hG hI hW.ndl (fun _ => hB (by simp [ndA, ndB])) (fun _ => ⟨by rw [hni.b512]; omega, by rw [hni.b512]; omega, fun p hp => hB (by
    unfold ndA plC
    simp only [List.mem_cons, List.not_mem_nil, or_false] at hp
    rcases hp with rfl | rfl
    · simp [plB]
    · simp [plD])⟩)
  have e1 : wstateE M i d = none := by
    unfold wstateE
    rw [nodeE_ok (by omega) (by omega)]
    simp only
    rw [if_neg (by omega)]
  have e2 : wstate M i d = plSt (ndAt M i).pl d := by unfold wstate; rw [e1]
  rw [e1, e2] at kst
  exact kst
theorem sts_succ (M : Wm) (d i : Nat) : ((List.range (i + 1)).map fun (s : Nat) => plSt (ndAt M (s : Int)).pl d) = ((List.range i).map fun (s : Nat) => plSt (ndAt M (s : Int)).pl d) ++ [plSt (ndAt M (i : Int)).pl d] := by
  rw [List.range_succ, List.map_append]
  rfl
section ee
variable {P : Program} {Qv : Value → Heap → Prop} {ρ : Env} {L : Heap} {fn : Func}
theorem ee0s {L' : Heap} (hL : LS L'.flatten L.flatten) (h : Qv (.tuple #[]) L') (hr : fn.results = #[] := by rfl) : fnQ P fn Qv .normal ρ L := fun k w a hs ha => ⟨_, L', by simp [results, hr], hs.sp hL, h⟩
end ee
set_option maxHeartbeats 2000000 attribute [local irreducible] HW HO HQ HD HC QOp Has Upd Puts Gets seqQ blkQ loopQ fnQ actQ nextP unQ MapF
attribute [local irreducible] ndL jcells plC siteM ldL openM tryW tickW beginW deliverW upW
theorem states3_calls (T : Nat) (E : Nat → Addr) (G : WdG) (M : Wm) (d : Nat) (L : Heap) (hG : Er T E [2, 6] L) (hW : WdOk G M) (hM : WI M) (hd : d < 6) :
    HC Tryz.prog 24 [pt G.wp 0, iv M.w.length, iv d] (wdH G M ++ L) (fun v L' => ∃ c, (∃ sv, Vec 43 3 sc sv (stsW M d) c ∧ v = .tuple ⟨[sv, .bool true]⟩) ∧ L' = c :: (wdH G M ++ L)) := by
  have hwl := hM.wl
  have hG' := er_wdH hG G M
  have kst := fun i hi c => wstate_all T E G M i d L (c :: (wdH G M ++ L)) (fun b o h => Zd h) (hG'.cons c) hW hM hi hd
  have hsucc := sts_succ M d
  generalize hH : wdH G M ++ L = H at *
  refine Za (fun _ _ => Tryz.call24 _ _) Tryz.func24 rfl Tryz.ntmps24 (Nat.le_of_ble_eq_true rfl) ?_; simp only [args0, Nat.reduceAdd]
  repeat' (first | refine uN ?_ | (refine uB ?_; intro b) | (refine uP ?_ ?_ <;> (intro h; ((try simp only [zs, ne_eq, and_true, true_and, eq_self, reduceCtorEq] at h); try exact zx))) | fail)
  refine hw_sp (L' := [] :: H) ?_ (LS.refl _)
  refine Zf (σ := Nat × Value × List Blk) (fun r => [(0, pt G.wp 0), (1, iv M.w.length), (2, iv d), (8, r.2.1), (9, iv r.1)]) (fun r => r.2.2 :: H) (fun r => r.1 ≤ M.w.length ∧ Vec 43 3 sc r.2.1 ((List.range r.1).map fun (s : Nat) => plSt (ndAt M (s : Int)).pl d) r.2.2) (fun r => M.w.length - r.1) (0, nilS, []) uS (List.Sublist.refl _) ⟨by simp, vec_nil⟩ ?_
  rintro ⟨i, v, c⟩ ⟨hi, hv⟩
  simp only at hi hv ⊢
  obtain ⟨a5, cap5, he5, -, -⟩ := hv.rd sc_len
  subst he5
  by_cases hlt : i < M.w.length
  · have ks := kst i hlt c
    have hs := hsucc i
    generalize plSt (ndAt M (i : Int)).pl d = st at *
    obtain ⟨ph, pr, att⟩ := st
    repeat' (first | refine uN ?_ | refine uC (ks) ?_ | (refine uB ?_; intro b) | (refine uP ?_ ?_ <;> (intro h; ((try simp only [zs, ne_eq, and_true, true_and, eq_self, reduceCtorEq] at h); try exact zx))) | fail)
    refine fo 2 ?_
    refine wp1 S (⟨ph, pr, att⟩ : St) hv sc_len sc_one ?_ (hby := by simp only [List.length_map, List.length_range]; omega) (hmax := by simp only [List.length_map, List.length_range]; omega)
    intro v' c' hv'
    rw [← hs] at hv'
    repeat' (first | refine uN ?_ | refine uC (ks) ?_ | (refine uB ?_; intro b) | (refine uP ?_ ?_ <;> (intro h; ((try simp only [zs, ne_eq, and_true, true_and, eq_self, reduceCtorEq] at h); try exact zx))) | fail)
    exact Zc (i + 1, v', c') uS uL ⟨by simp only; omega, hv'⟩ (by simp only; omega)
  · obtain rfl : i = M.w.length := by omega
    repeat' (first | refine uN ?_ | refine g_q (qC (kst 0 (by omega) c)) ?_ | (refine uB ?_; intro b) | (refine uP ?_ ?_ <;> (intro h; ((try simp only [zs, ne_eq, and_true, true_and, eq_self, reduceCtorEq] at h); try exact zx))) | fail)
    exact sp2 (LS.refl _) ⟨c, ⟨_, hv, rfl⟩, rfl⟩
theorem act_calls (T : Nat) (E : Nat → Addr) (G : WdG) (M : Wm) (x : StpS) (L : Heap) (hG : Er T E [2, 3, 4, 5, 6, 8] L) (hW : WdOk G M) (hM : WI M) (hl : M.l.length ≤ 99999000) :
    HC Tryz.prog 34 [pt G.wp 0, .agg ⟨stpL x⟩] (wdH G M ++ L) (fun u L' => u = .tuple ⟨[]⟩ ∧ WdP G (actW M x).1 L L') := by
  have hG' := er_wdH hG G M
  have hGc := fun c => hG.cons c
  have k7 := fun k c => wdrop_calls T E G M k (c :: L) (hGc c).sub hW (by omega)
  have k8 := fun k c => wtwice_calls T E G M k (c :: L) (hGc c).sub hW (by omega)
  have k9 := fun s d c => wbegin_calls T E G M s d (c :: L) (hGc c).sub hW hM (by omega)
  have k10 := fun s c => wtick_calls T E G M s (c :: L) (hGc c).sub hW hM (by omega)
  have k11 := fun s d c => wrefuse_calls T E G M s d (c :: L) (hGc c).sub hW hM
  have k12 := fun a b w c => wlink_calls T E G M a b w (c :: L) (hGc c).sub hW
  have k13 := fun s n c => wcut_calls T E G M s n (c :: L) (hGc c).sub hW hM
  have k14 := fun s c => wdown_calls T E G M s (c :: L) (hGc c).sub hW hM
  have k15 := fun s c => wupS_calls T E G M s (c :: L) (hGc c).sub hW hM
  have k0 := fun k c => wdeliver_calls T E G M k (c :: L) (hGc c).sub hW hM (by omega)
  have hin : ∀ c, LS (wdH G M ++ (c :: L)).flatten (c :: (wdH G M ++ L)).flatten := fun c => ls_in
  have hdrop : ∀ c G' M', LS (wdH G' M' ++ L).flatten (wdH G' M' ++ (c :: L)).flatten := fun c G' M' => by
    simp only [List.flatten_append, List.flatten_cons]
    exact LS.boths _ (LS.skips _ (LS.refl _))
  generalize hH : wdH G M ++ L = H at *
  unfold actW
  obtain ⟨kd, s, d, n⟩ := x
  simp only
  refine Za (fun _ _ => Tryz.call34 _ _) Tryz.func34 rfl Tryz.ntmps34 (Nat.le_of_ble_eq_true rfl) ?_; simp only [args0, Nat.reduceAdd]
  repeat' (first | refine uN ?_ | (refine uB ?_; intro b) | (refine uP ?_ ?_ <;> (intro h; ((try simp only [zs, ne_eq, and_true, true_and, eq_self, reduceCtorEq] at h); try exact zx))) | fail)
  all_goals subst hH
  all_goals refine ho_sp (L' := wdH G M ++ ([(b, .cells ⟨stpL ⟨kd, s, d, n⟩⟩ 54)] :: L)) ?_ (hin _)
  all_goals simp only [*, if_true, if_false]
  all_goals first
    | (refine gc (k9 _ _ _) ?_; rintro v L' ⟨rfl, G2, f1, f2, hW2, rfl⟩; (repeat' (first | refine uN ?_ | (refine uB ?_; intro b) | (refine uP ?_ ?_ <;> (intro h; ((try simp only [zs, ne_eq, and_true, true_and, eq_self, reduceCtorEq] at h); try exact zx))) | fail)); exact ee0s (hdrop _ _ _) ⟨rfl, G2, f1, f2, hW2, rfl⟩)
    | (refine gc (k11 _ _ _) ?_; rintro v L' ⟨rfl, G2, f1, f2, hW2, rfl⟩; (repeat' (first | refine uN ?_ | (refine uB ?_; intro b) | (refine uP ?_ ?_ <;> (intro h; ((try simp only [zs, ne_eq, and_true, true_and, eq_self, reduceCtorEq] at h); try exact zx))) | fail)); exact ee0s (hdrop _ _ _) ⟨rfl, G2, f1, f2, hW2, rfl⟩)
    | (refine gc (k10 _ _) ?_; rintro v L' ⟨rfl, G2, f1, f2, hW2, rfl⟩; (repeat' (first | refine uN ?_ | (refine uB ?_; intro b) | (refine uP ?_ ?_ <;> (intro h; ((try simp only [zs, ne_eq, and_true, true_and, eq_self, reduceCtorEq] at h); try exact zx))) | fail)); exact ee0s (hdrop _ _ _) ⟨rfl, G2, f1, f2, hW2, rfl⟩)
    | (refine gc (k14 _ _) ?_; rintro v L' ⟨rfl, G2, f1, f2, hW2, rfl⟩; (repeat' (first | refine uN ?_ | (refine uB ?_; intro b) | (refine uP ?_ ?_ <;> (intro h; ((try simp only [zs, ne_eq, and_true, true_and, eq_self, reduceCtorEq] at h); try exact zx))) | fail)); exact ee0s (hdrop _ _ _) ⟨rfl, G2, f1, f2, hW2, rfl⟩)
    | (refine gc (k15 _ _) ?_; rintro v L' ⟨rfl, G2, f1, f2, hW2, rfl⟩; (repeat' (first | refine uN ?_ | (refine uB ?_; intro b) | (refine uP ?_ ?_ <;> (intro h; ((try simp only [zs, ne_eq, and_true, true_and, eq_self, reduceCtorEq] at h); try exact zx))) | fail)); exact ee0s (hdrop _ _ _) ⟨rfl, G2, f1, f2, hW2, rfl⟩)
    | (refine gc (k7 _ _) ?_; rintro v L' ⟨rfl, G2, f1, f2, hW2, rfl⟩; (repeat' (first | refine uN ?_ | (refine uB ?_; intro b) | (refine uP ?_ ?_ <;> (intro h; ((try simp only [zs, ne_eq, and_true, true_and, eq_self, reduceCtorEq] at h); try exact zx))) | fail)); exact ee0s (hdrop _ _ _) ⟨rfl, G2, f1, f2, hW2, rfl⟩)
    | (refine gc (k8 _ _) ?_; rintro v L' ⟨rfl, G2, f1, f2, hW2, rfl⟩; (repeat' (first | refine uN ?_ | (refine uB ?_; intro b) | (refine uP ?_ ?_ <;> (intro h; ((try simp only [zs, ne_eq, and_true, true_and, eq_self, reduceCtorEq] at h); try exact zx))) | fail)); exact ee0s (hdrop _ _ _) ⟨rfl, G2, f1, f2, hW2, rfl⟩)
    | (refine gc (k12 _ _ _ _) ?_; rintro v L' ⟨rfl, G2, f1, f2, hW2, rfl⟩; (repeat' (first | refine uN ?_ | (refine uB ?_; intro b) | (refine uP ?_ ?_ <;> (intro h; ((try simp only [zs, ne_eq, and_true, true_and, eq_self, reduceCtorEq] at h); try exact zx))) | fail)); exact ee0s (hdrop _ _ _) ⟨rfl, G2, f1, f2, hW2, rfl⟩)
    | (refine gc (k12 _ _ _ _) ?_; rintro v L' ⟨rfl, G2, f1, f2, hW2, rfl⟩; (repeat' (first | refine uN ?_ | (refine uB ?_; intro b) | (refine uP ?_ ?_ <;> (intro h; ((try simp only [zs, ne_eq, and_true, true_and, eq_self, reduceCtorEq] at h); try exact zx))) | fail)); exact ee0s (hdrop _ _ _) ⟨rfl, G2, f1, f2, hW2, rfl⟩)
    | (refine gc (k13 _ _ _) ?_; rintro v L' ⟨rfl, G2, f1, f2, hW2, rfl⟩; (repeat' (first | refine uN ?_ | (refine uB ?_; intro b) | (refine uP ?_ ?_ <;> (intro h; ((try simp only [zs, ne_eq, and_true, true_and, eq_self, reduceCtorEq] at h); try exact zx))) | fail)); exact ee0s (hdrop _ _ _) ⟨rfl, G2, f1, f2, hW2, rfl⟩)
    | (refine gc (k0 _ _) ?_; rintro v L' ⟨rfl, G2, f1, f2, hW2, rfl⟩; (repeat' (first | refine uN ?_ | (refine uB ?_; intro b) | (refine uP ?_ ?_ <;> (intro h; ((try simp only [zs, ne_eq, and_true, true_and, eq_self, reduceCtorEq] at h); try exact zx))) | fail)); exact ee0s (hdrop _ _ _) ⟨rfl, G2, f1, f2, hW2, rfl⟩)
end Go.HL
end

/-! PwI -/
section
namespace Go.HL
open Go Go.Proofs
set_option linter.unusedVariables false
set_option linter.unusedSimpArgs false
def actsW (M : Wm) (l : List StpS) : Wm := l.foldl (fun M x => (actW M x).1) M
theorem actsW_succ (M : Wm) (l : List StpS) (i : Nat) (h : i < l.length) : actsW M (l.take (i + 1)) = (actW (actsW M (l.take i)) l[i]).1 := by
  unfold actsW
  rw [List.take_add_one, List.getElem?_eq_getElem h, Option.toList_some, List.foldl_append]
  rfl
theorem acts_ok {M : Wm} (h : WI M) : ∀ (l : List StpS), (∀ x ∈ l, x.n ≤ 9223372036854775807) → StepOk M (actsW M l) (84 * l.length) := by
  have key : ∀ (l : List StpS) (M1 : Wm) (k : Nat), StepOk M M1 k → (∀ x ∈ l, x.n ≤ 9223372036854775807) → StepOk M (actsW M1 l) (k + 84 * l.length) := by
    intro l
    induction l with
    | nil => exact fun M1 k h _ => h
    | cons x l ih =>
      intro M1 k h hx
      have h2 := act_ok h.wi x (hx x (by simp))
      have h3 := h.len
      have h4 := h2.len
      have := ih (actW M1 x).1 (k + 84) ⟨h2.wi, h.same.trans h2.same, by omega⟩ (fun y hy => hx y (by simp [hy]))
      exact this.mono (by simp only [List.length_cons]; omega)
  intro l hx
  exact (key l M 0 (.refl h 0) hx).mono (by omega)
/-- what was, and may become what is -/
def WasI (w : Nat) (vals : List Int) (M : Wm) : Prop := vals.length = 6 * w ∧ ∀ d s : Nat, d < 6 → s < w → ∃ x, vals[d * w + s]? = some x ∧ mayS x (plSt (ndAt M (s : Int)).pl d).ph = true
theorem idx_lt {d s w : Nat} (hd : d < 6) (hs : s < w) : d * w + s < 6 * w := by
  have : d * w ≤ 5 * w := Nat.mul_le_mul_right w (by omega)
  omega
theorem idx_inj {d s e t w : Nat} (hs : s < w) (ht : t < w) (h : d * w + s = e * w + t) : d = e ∧ s = t := by
  rcases Nat.lt_trichotomy d e with hlt | hlt | hlt
  · have : (d + 1) * w ≤ e * w := Nat.mul_le_mul_right w hlt
    rw [Nat.add_mul, Nat.one_mul] at this
    omega
  · subst hlt; exact ⟨rfl, by omega⟩
  · have : (e + 1) * w ≤ d * w := Nat.mul_le_mul_right w hlt
    rw [Nat.add_mul, Nat.one_mul] at this
    omega
theorem WasI.set {w : Nat} {vals : List Int} {M : Wm} (h : WasI w vals M) (hM : WI M) (hw : M.w.length = w) {d s : Nat} (hd : d < 6) (hs : s < w) : WasI w (vals.set (d * w + s) (plSt (ndAt M (s : Int)).pl d).ph) M := by
  refine ⟨by rw [List.length_set]; exact h.1, fun e t he ht => ?_⟩
  rw [List.getElem?_set]
  by_cases hh : d * w + s = e * w + t
  · obtain ⟨rfl, rfl⟩ := idx_inj hs ht hh
    rw [if_pos rfl, if_pos (by rw [h.1]; exact idx_lt hd hs)]
    exact ⟨_, rfl, (stLe_refl (st_ok hM (by omega) hd)).2.2⟩
  · rw [if_neg hh]
    exact h.2 e t he ht
theorem WasI.new {w : List Int} (hc : checkW w = none) : WasI w.length (List.replicate (6 * w.length) 0) (newW w) := by
  refine ⟨by simp, fun d s hd hs => ⟨0, ?_, ?_⟩⟩
  · rw [List.getElem?_replicate, if_pos (idx_lt hd hs)]
  · have := st_ok (new_ok hc) (s := s) (d := d) hs hd
    obtain ⟨g1, g2, -⟩ := this
    unfold mayS
    exact decide_eq_true (by omega)
theorem sts_get {M : Wm} {d s : Nat} (h : s < M.w.length) : (stsW M d)[s]? = some (plSt (ndAt M (s : Int)).pl d) := by
  unfold stsW
  rw [List.getElem?_map, List.getElem?_range h]
  rfl
theorem sts_len (M : Wm) (d : Nat) : (stsW M d).length = M.w.length := by
  unfold stsW
  rw [List.length_map, List.length_range]
end Go.HL
end

/-! HLFi -/
section
namespace Go.HL
open Go
set_option linter.unusedVariables false
set_option linter.unusedSimpArgs false
section fi
variable {P : Program} (S : Tab P) {ρ : Env} {L : Heap} {d : Option Tmp} {ty : TypeId} {pos : String} {af : Array Edge} {g : Option (Nat × Bool)}
end fi
end Go.HL
end

/-! PwJ -/
section
namespace Go.HL
open Go Go.Proofs
set_option linter.unusedVariables false
set_option linter.unusedSimpArgs false
set_option maxHeartbeats 2000000 attribute [local irreducible] HW HO HQ HD HC QOp Has Upd Puts Gets seqQ blkQ loopQ fnQ actQ nextP unQ MapF
attribute [local irreducible] newW actsW actW stsW wdC
end Go.HL
end

/-! EdA -/
section
namespace Go.HL
open Go Go.Proofs
set_option linter.unusedVariables false
set_option linter.unusedSimpArgs false
/-- a deal's number in a plate's journal -/
def numAt (m : Pl) (d : Nat) : Int := ((openM m.b).getD d zeroE).n
theorem put_num {m : Pl} {j : Jn} (h : JI m j) (deal : Int) (s : St) (q : Nat) : ((putM m j deal s).2.1.l.getD q zeroE).n ≤ (j.l.getD q zeroE).n + 1 := by
  have hp := put_any h deal s
  obtain ⟨-, -, hp⟩ := hp
  rcases hp with ⟨h1, -⟩ | ⟨-, -, -, -, ⟨-, h1, -⟩ | ⟨-, h1⟩⟩
  · rw [h1]; omega
  · rw [h1]; omega
  · rw [h1]
    by_cases e : q = deal.toNat
    · subst e
      by_cases hl : deal.toNat < j.l.length
      · simp [List.getD, List.getElem?_set, hl]
      · simp [List.getD, List.getElem?_set, hl, zeroE]
    · simp [List.getD, List.getElem?_set, Ne.symm e]
      omega
theorem site_num {id : Int} {ref : Int → Bool} {m : Pl} {j : Jn} (h : SI m j) (f : Fr) (q : Nat) : ((siteM id ref m j f).2.1.l.getD q zeroE).n ≤ (j.l.getD q zeroE).n + 1 := by
  unfold siteM
  split
  · simp only; omega
  split
  · simp only; omega
  split
  · exact put_num h.ji _ _ _
  · exact put_num h.ji _ _ _
/-- what is seen of a site in a world -/
def stW (M : Wm) (s d : Nat) : St := plSt (ndAt M (s : Int)).pl d
def ldW (M : Wm) (s d : Nat) : Option Ld := (ndAt M (s : Int)).leads.getD d none
def nmW (M : Wm) (s d : Nat) : Int := numAt (ndAt M (s : Int)).pl d
/-- it is up, and its power stays -/
def LiveN (m : Nd) : Prop := m.site ≠ none ∧ m.pl.cut = -1
def LiveW (M : Wm) (s : Nat) : Prop := LiveN (ndAt M (s : Int))
theorem LiveN.off {w : List Int} {s : Nat} {m : Nd} (h : NdI w s m) (hl : LiveN m) : ∃ j ref, m.site = some (j, ref) ∧ j = ⟨openM m.pl.b, false⟩ ∧ m.pl.off = false ∧ m.pl.cut = -1 ∧ SI m.pl j := by
  obtain ⟨⟨j, ref⟩, hs⟩ := Option.ne_none_iff_exists'.1 hl.1
  obtain ⟨e1, e2⟩ := h.up j ref hs
  exact ⟨j, ref, hs, e1, e2, hl.2, h.jn hs⟩
theorem nd_num {w : List Int} {s : Nat} {m : Nd} (h : NdI w s m) (ev : List Evt) (f : Fr) (q : Nat) : numAt (hearNd s m ev f).1.pl q ≤ numAt m.pl q + 1 := by
  unfold hearNd
  split
  · simp only; omega
  · rename_i j ref hs
    have hS := h.jn hs
    have hn := site_num (id := s) (ref := ref) hS f q
    have hany := (site_any (id := s) (ref := ref) hS f).1
    have hl' : (siteM s ref m.pl j f).2.1.l = openM (siteM s ref m.pl j f).1.b := hany.ji.l
    have hj : j.l = openM m.pl.b := hS.ji.l
    rw [hl', hj] at hn
    unfold numAt
    split <;> exact hn
/-- what a node's states become, whatever it hears -/
theorem nd_st {w : List Int} {s : Nat} {m : Nd} (h : NdI w s m) (ev : List Evt) (f : Fr) : (∀ d : Nat, d < 6 → plSt (hearNd s m ev f).1.pl d = plSt m.pl d ∨ (d = f.dl.toNat ∧ ∃ ref, plSt (hearNd s m ev f).1.pl d = (turnM ref f (plSt m.pl d)).1)) ∧
    (∀ x ∈ (hearNd s m ev f).2.2.1, ∃ ref, x = ⟨s, f.fr, f.dl, (turnM ref f (plSt m.pl f.dl)).2.1, f.att, (turnM ref f (plSt m.pl f.dl)).2.2, (turnM ref f (plSt m.pl f.dl)).1⟩ ∧ (turnM ref f (plSt m.pl f.dl)).2.1 ≠ 0 ∧ ¬ badF f ∧ f.to = s) := by
  unfold hearNd
  split
  · exact ⟨fun d _ => .inl rfl, fun x hx => by cases hx⟩
  · rename_i j ref hs
    have hS := h.jn hs
    have hstep := site_step (id := s) (ref := ref) hS f
    have hany := (site_any (id := s) (ref := ref) hS f).1
    have hl' : (siteM s ref m.pl j f).2.1.l = openM (siteM s ref m.pl j f).1.b := hany.ji.l
    have hpl : ∀ q : Nat, plSt (siteM s ref m.pl j f).1 q = stAt (siteM s ref m.pl j f).2.1 q := fun q => by
      unfold stAt plSt
      rw [hl']
      rfl
    have ej : ∀ q, stAt j q = plSt m.pl q := fun q => st_eq h hs q
    have key : (∀ d : Nat, d < 6 → plSt (siteM s ref m.pl j f).1 d = plSt m.pl d ∨ (d = f.dl.toNat ∧ ∃ r', plSt (siteM s ref m.pl j f).1 d = (turnM r' f (plSt m.pl d)).1)) ∧
        (∀ x ∈ (siteM s ref m.pl j f).2.2.1, ∃ ref, x = ⟨s, f.fr, f.dl, (turnM ref f (plSt m.pl f.dl)).2.1, f.att, (turnM ref f (plSt m.pl f.dl)).2.2, (turnM ref f (plSt m.pl f.dl)).1⟩ ∧ (turnM ref f (plSt m.pl f.dl)).2.1 ≠ 0 ∧ ¬ badF f ∧ f.to = s) := by
      rcases hstep with ⟨hq, hx⟩ | ⟨hb, hto, htu, hoth, hx⟩
      · exact ⟨fun d hd => .inl (by rw [hpl, hq d hd, ej]), fun x hx2 => by rw [hx] at hx2; cases hx2⟩
      · have hb2 := hb
        unfold badF at hb2
        obtain ⟨d0, hd0⟩ := Int.eq_ofNat_of_zero_le (show 0 ≤ f.dl by omega)
        have hdn : f.dl.toNat = d0 := by omega
        have e2 : stAt j f.dl.toNat = plSt m.pl f.dl := by rw [hdn, hd0]; exact ej d0
        refine ⟨fun d hd => ?_, fun x hx2 => ?_⟩
        · by_cases e : d = f.dl.toNat
          · exact .inr ⟨e, ref, by rw [hpl, e, htu, ej]⟩
          · exact .inl (by rw [hpl, hoth d hd e, ej])
        · obtain ⟨k1, k2⟩ := hx x hx2
          rw [e2] at k1 k2
          exact ⟨ref, k2, k1, hb, hto⟩
    clear hstep hany hl' hpl
    generalize siteM s ref m.pl j f = r at key ⊢
    split
    · exact ⟨key.1, fun x hx => by cases hx⟩
    · exact key
end Go.HL
end

/-! EdB -/
section
namespace Go.HL
open Go Go.Proofs
set_option linter.unusedVariables false
set_option linter.unusedSimpArgs false
structure Bnd (M : Wm) (P N : Int) : Prop where
  pr : ∀ s d : Nat, s < M.w.length → d < 6 → (stW M s d).pr ≤ P
  ld : ∀ s d x, s < M.w.length → d < 6 → ldW M s d = some x → x.seen ≤ P ∧ x.att ≤ P
  fr : ∀ f ∈ M.l, f.att ≤ P ∧ f.s.pr ≤ P
  nm : ∀ s d : Nat, s < M.w.length → nmW M s d ≤ N
  p0 : 0 ≤ P
  n0 : 0 ≤ N
theorem Bnd.mono {M : Wm} {P N P' N' : Int} (h : Bnd M P N) (hP : P ≤ P') (hN : N ≤ N') : Bnd M P' N' :=
  ⟨fun s d a b => by have := h.pr s d a b; omega, fun s d x a b c => by have := h.ld s d x a b c; omega, fun f hf => by have := h.fr f hf; omega, fun s d a => by have := h.nm s d a; omega, by have := h.p0; omega, by have := h.n0; omega⟩
theorem Bnd.of {M M' : Wm} {P N : Int} (h : Bnd M P N) (hw : M'.w = M.w) (hst : ∀ s d : Nat, stW M' s d = stW M s d) (hnm : ∀ s d : Nat, nmW M' s d = nmW M s d)
    (hld : ∀ s d x, s < M.w.length → d < 6 → ldW M' s d = some x → ldW M s d = some x ∨ (x.seen ≤ P ∧ x.att ≤ P)) (hl : ∀ f ∈ M'.l, f ∈ M.l ∨ (f.att ≤ P ∧ f.s.pr ≤ P)) : Bnd M' P N :=
  ⟨fun s d a b => by rw [hst]; exact h.pr s d (by rw [← hw]; exact a) b, fun s d x a b c => by
    rw [hw] at a
    rcases hld s d x a b c with k | k
    · exact h.ld s d x a b k
    · exact k, fun f hf => (by
    rcases hl f hf with k | k
    · exact h.fr f k
    · exact k), fun s d a => by rw [hnm]; exact h.nm s d (by rw [← hw]; exact a), h.p0, h.n0⟩
theorem hear_att (x : Ld) (f : Fr) : (hearM x f).1.att = x.att ∧ (hearM x f).1.id = x.id ∧ (hearM x f).1.deal = x.deal ∧ (hearM x f).1.w = x.w ∧ ((hearM x f).1.seen ≤ x.seen ∨ (hearM x f).1.seen ≤ f.s.pr) := by
  have h1 : (m1M x f).att = x.att ∧ (m1M x f).id = x.id ∧ (m1M x f).deal = x.deal ∧ (m1M x f).w = x.w ∧ ((m1M x f).seen ≤ x.seen ∨ (m1M x f).seen ≤ f.s.pr) := by
    unfold m1M
    split
    · exact ⟨rfl, rfl, rfl, rfl, .inl (Int.le_refl _)⟩
    · refine ⟨rfl, rfl, rfl, rfl, ?_⟩
      simp only
      omega
  have h2 : (m2M x f).att = x.att ∧ (m2M x f).id = x.id ∧ (m2M x f).deal = x.deal ∧ (m2M x f).w = x.w ∧ ((m2M x f).seen ≤ x.seen ∨ (m2M x f).seen ≤ f.s.pr) := h1
  unfold hearM
  split
  · exact ⟨rfl, rfl, rfl, rfl, .inl (Int.le_refl _)⟩
  split
  · unfold noM
    split <;> exact h1
  · unfold countM
    split
    · exact h2
    split
    · exact h2
    split
    · exact h2
    split <;> exact h2
theorem hear_frames {x : Ld} {f : Fr} : ∀ y ∈ (hearM x f).2, y.fr = x.id ∧ y.dl = x.deal ∧ y.att = x.att ∧ y.s.pr = 0 ∧ (y.kd = 5 ∨ y.kd = 7) := by
  have hall : ∀ (m : Ld) (k p : Int), m.deal = x.deal → m.id = x.id → m.att = x.att → (k = 5 ∨ k = 7) → ∀ y ∈ allM m k p, y.fr = x.id ∧ y.dl = x.deal ∧ y.att = x.att ∧ y.s.pr = 0 ∧ (y.kd = 5 ∨ y.kd = 7) := fun m k p h h2 h3 hk y hy => by
    obtain ⟨i, -, rfl, -⟩ := allM_mem hy
    exact ⟨h2, h, h3, rfl, hk⟩
  have e1 : (m1M x f).deal = x.deal ∧ (m1M x f).id = x.id ∧ (m1M x f).att = x.att := by unfold m1M; split <;> exact ⟨rfl, rfl, rfl⟩
  have e2 : (m2M x f).deal = x.deal ∧ (m2M x f).id = x.id ∧ (m2M x f).att = x.att := by unfold m2M; exact e1
  unfold hearM
  split
  · intro y hy; cases hy
  split
  · unfold noM
    split
    · exact hall _ _ _ e1.1 e1.2.1 e1.2.2 (.inr rfl)
    · intro y hy; cases hy
  · unfold countM
    split
    · exact hall _ _ _ e2.1 e2.2.1 e2.2.2 (.inl rfl)
    split
    · intro y hy; cases hy
    split
    · exact hall _ _ _ e2.1 e2.2.1 e2.2.2 (.inr rfl)
    split
    · exact hall _ _ _ e2.1 e2.2.1 e2.2.2 (.inr rfl)
    · exact hall _ _ _ e2.1 e2.2.1 e2.2.2 (.inl rfl)
theorem start_frames {m : Ld} : ∀ y ∈ startM m, y.fr = m.id ∧ y.dl = m.deal ∧ y.att = m.att ∧ y.s.pr = 0 ∧ (y.kd = if m.att = 0 then 1 else 3) := fun y hy => by
  unfold startM at hy
  split at hy
  · rename_i h
    obtain ⟨i, -, rfl, -⟩ := allM_mem hy
    exact ⟨rfl, rfl, rfl, rfl, by rw [if_pos h]⟩
  · rename_i h
    obtain ⟨i, -, rfl, -⟩ := allM_mem hy
    exact ⟨rfl, rfl, rfl, rfl, by rw [if_neg h]⟩
theorem turn_pr (ref : Int → Bool) (f : Fr) (st : St) : (turnM ref f st).1.pr ≤ st.pr ∨ (turnM ref f st).1.pr ≤ f.att := by
  unfold turnM
  split
  · left; unfold askM; split
    · split <;> exact Int.le_refl _
    · exact Int.le_refl _
  split
  · simp only; omega
  split
  · split
    · exact .inl (Int.le_refl _)
    · split
      · exact .inr (Int.le_refl _)
      · exact .inl (Int.le_refl _)
  split
  · left; simp only; split <;> exact Int.le_refl _
  · exact .inl (Int.le_refl _)
/-- a node behind what its site hears -/
theorem hear_nd {M : Wm} {s : Int} (h0 : 0 ≤ s) (h1 : s < M.n.length) (f : Fr) (t : Nat) : ndAt (hearW M s f).1 (t : Int) = if (t : Int) = s then (hearNd s (ndAt M s) M.ev f).1 else ndAt M (t : Int) := Ze h0 h1 t
theorem hear_leads (s : Int) (m : Nd) (ev : List Evt) (f : Fr) : (hearNd s m ev f).1.leads = m.leads ∨ (hearNd s m ev f).1.leads = noLeads := by
  unfold hearNd
  split
  · exact .inl rfl
  split
  · exact .inr rfl
  · exact .inl rfl
theorem Bnd.hear {M : Wm} {P N : Int} (h : Bnd M P N) (hI : WI M) {s : Int} (h0 : 0 ≤ s) (h1 : s < M.n.length) {f : Fr} (hf : f.att ≤ P) :
    Bnd (hearW M s f).1 P (N + 1) ∧ ∀ y ∈ (hearW M s f).2.1, y.att ≤ P ∧ y.s.pr ≤ P := by
  have hni := hI.at h0 h1
  have hn := hI.wn
  obtain ⟨sn, rfl⟩ := Int.eq_ofNat_of_zero_le h0
  simp only [Int.toNat_natCast] at hni
  have hsn : sn < M.w.length := by omega
  have hw : (hearW M sn f).1.w = M.w := rfl
  obtain ⟨k1, k2⟩ := nd_st hni M.ev f
  have k3 := nd_num hni M.ev f
  refine ⟨⟨fun t d ht hd => ?_, fun t d x ht hd hx => ?_, fun y hy => h.fr y hy, fun t d ht => ?_, h.p0, by have := h.n0; omega⟩, fun y hy => ?_⟩
  · show (plSt (ndAt (hearW M sn f).1 (t : Int)).pl d).pr ≤ P
    rw [hear_nd h0 h1]
    have hp := h.pr t d ht hd
    unfold stW at hp
    split
    · rename_i e
      rw [e] at hp
      rcases k1 d hd with k | ⟨-, ref, k⟩
      · rw [k]; exact hp
      · rw [k]
        have := turn_pr ref f (plSt (ndAt M sn).pl d)
        omega
    · exact hp
  · have hx' : (ndAt (hearW M sn f).1 (t : Int)).leads.getD d none = some x := hx
    rw [hear_nd h0 h1] at hx'
    split at hx'
    · rename_i e
      rcases hear_leads sn (ndAt M sn) M.ev f with k | k
      · rw [k, ← e] at hx'
        exact h.ld t d x ht hd hx'
      · rw [k, noLeads_getD] at hx'; cases hx'
    · exact h.ld t d x ht hd hx'
  · show numAt (ndAt (hearW M sn f).1 (t : Int)).pl d ≤ N + 1
    rw [hear_nd h0 h1]
    have hp := h.nm t d ht
    unfold nmW at hp
    split
    · rename_i e
      rw [e] at hp
      have := k3 d
      omega
    · omega
  · have hy' : y ∈ (hearNd sn (ndAt M sn) M.ev f).2.2.1 := hy
    obtain ⟨ref, rfl, -, hb, -⟩ := k2 y hy'
    refine ⟨hf, ?_⟩
    simp only
    unfold badF at hb
    obtain ⟨d, hd⟩ := Int.eq_ofNat_of_zero_le (show 0 ≤ f.dl by omega)
    have hp := h.pr sn d hsn (by omega)
    unfold stW at hp
    rw [hd]
    have := turn_pr ref f (plSt (ndAt M sn).pl d)
    omega
theorem ldW_set {M : Wm} {s : Int} (h0 : 0 ≤ s) (h1 : s < M.n.length) (h6 : (ndAt M s).leads.length = 6) {d : Nat} (hd : d < 6) (o : Option Ld) (l : List Fr) (t e : Nat) :
    ldW { setN M s { ndAt M s with leads := (ndAt M s).leads.set d o } with l := l } t e = if (t : Int) = s ∧ e = d then o else ldW M t e := by
  unfold ldW
  show (ndAt (setN M s { ndAt M s with leads := (ndAt M s).leads.set d o }) (t : Int)).leads.getD e none = _
  rw [Ze h0 h1]
  by_cases ht : (t : Int) = s
  · rw [if_pos ht]
    by_cases he : e = d
    · subst he
      rw [if_pos ⟨ht, rfl⟩]
      exact getD_set_eq (by omega)
    · rw [if_neg (fun q => he q.2), ht]
      exact getD_set_ne he
  · rw [if_neg ht, if_neg (fun q => ht q.1)]
theorem stW_lead {M : Wm} {s : Int} (h0 : 0 ≤ s) (h1 : s < M.n.length) (ls : List (Option Ld)) (l : List Fr) (t e : Nat) : stW { setN M s { ndAt M s with leads := ls } with l := l } t e = stW M t e := by
  unfold stW
  show plSt (ndAt (setN M s { ndAt M s with leads := ls }) (t : Int)).pl e = _
  rw [Ze h0 h1]
  split
  · rename_i ht; rw [ht]
  · rfl
theorem nmW_lead {M : Wm} {s : Int} (h0 : 0 ≤ s) (h1 : s < M.n.length) (ls : List (Option Ld)) (l : List Fr) (t e : Nat) : nmW { setN M s { ndAt M s with leads := ls } with l := l } t e = nmW M t e := by
  unfold nmW
  show numAt (ndAt (setN M s { ndAt M s with leads := ls }) (t : Int)).pl e = _
  rw [Ze h0 h1]
  split
  · rename_i ht; rw [ht]
  · rfl
/-- a node changed, but not what its plate holds, and its leads kept or gone -/
theorem Bnd.node {M : Wm} {P N : Int} (h : Bnd M P N) {s : Int} (h0 : 0 ≤ s) (h1 : s < M.n.length) {m : Nd} {ev : List Evt} (hb : m.pl.b = (ndAt M s).pl.b) (hld : m.leads = (ndAt M s).leads ∨ m.leads = noLeads) : Bnd { setN M s m with ev := ev } P N := by
  refine h.of rfl (fun t d => ?_) (fun t d => ?_) (fun t d x ht hd hx => ?_) (fun f hf => .inl hf)
  · show plSt (ndAt (setN M s m) (t : Int)).pl d = plSt (ndAt M (t : Int)).pl d
    rw [Ze h0 h1]
    split
    · rename_i e; rw [e]; unfold plSt; rw [hb]
    · rfl
  · show numAt (ndAt (setN M s m) (t : Int)).pl d = numAt (ndAt M (t : Int)).pl d
    rw [Ze h0 h1]
    split
    · rename_i e; rw [e]; unfold numAt; rw [hb]
    · rfl
  · have hx' : (ndAt (setN M s m) (t : Int)).leads.getD d none = some x := hx
    rw [Ze h0 h1] at hx'
    split at hx'
    · rename_i e
      rcases hld with k | k
      · rw [k] at hx'
        left
        show (ndAt M (t : Int)).leads.getD d none = some x
        rw [e]; exact hx'
      · rw [k, noLeads_getD] at hx'; cases hx'
    · exact .inl hx'
theorem Bnd.setL {M : Wm} {P N : Int} (h : Bnd M P N) {l : List Fr} (hl : ∀ f ∈ l, f ∈ M.l ∨ (f.att ≤ P ∧ f.s.pr ≤ P)) : Bnd { M with l := l } P N :=
  h.of rfl (fun _ _ => rfl) (fun _ _ => rfl) (fun _ _ _ _ _ hx => .inl hx) hl
theorem Bnd.erase {M : Wm} {P N : Int} (h : Bnd M P N) (k : Nat) : Bnd { M with l := M.l.eraseIdx k } P N := h.setL fun f hf => .inl (List.mem_of_mem_eraseIdx hf)
/-- a lead comes, or hears -/
theorem Bnd.lead {M : Wm} {P N : Int} (h : Bnd M P N) (hI : WI M) {s : Int} (h0 : 0 ≤ s) (h1 : s < M.n.length) {d : Nat} (hd : d < 6) {x : Ld} (hx : x.seen ≤ P ∧ x.att ≤ P) {l : List Fr} (hl : ∀ f ∈ l, f ∈ M.l ∨ (f.att ≤ P ∧ f.s.pr ≤ P)) :
    Bnd { setN M s { ndAt M s with leads := (ndAt M s).leads.set d (some x) } with l := l } P N := by
  have h6 := (hI.at h0 h1).leads
  refine h.of rfl (fun t e => stW_lead h0 h1 _ _ t e) (fun t e => nmW_lead h0 h1 _ _ t e) (fun t e y ht he hy => ?_) hl
  rw [ldW_set h0 h1 h6 hd] at hy
  split at hy
  · cases hy; exact .inr hx
  · exact .inl hy
theorem Bnd.hears {P : Int} : ∀ (l : List Fr) (x : Ld) (acc : List Fr), 0 ≤ P → x.seen ≤ P ∧ x.att ≤ P → (∀ f ∈ l, f.att ≤ P ∧ f.s.pr ≤ P) → (∀ f ∈ acc, f.att ≤ P ∧ f.s.pr ≤ P) →
    ((l.foldl (fun q f => ((hearM q.1 f).1, q.2 ++ (hearM q.1 f).2)) (x, acc)).1.seen ≤ P ∧ (l.foldl (fun q f => ((hearM q.1 f).1, q.2 ++ (hearM q.1 f).2)) (x, acc)).1.att ≤ P) ∧ ∀ f ∈ (l.foldl (fun q f => ((hearM q.1 f).1, q.2 ++ (hearM q.1 f).2)) (x, acc)).2, f.att ≤ P ∧ f.s.pr ≤ P
  | [], x, acc, h0, hx, _, ha => ⟨hx, ha⟩
  | f :: l, x, acc, h0, hx, hl, ha => by
    rw [List.foldl_cons]
    obtain ⟨e1, -, -, -, e2⟩ := hear_att x f
    have hf := hl f (by simp)
    refine Bnd.hears l _ _ h0 ⟨(show (hearM x f).1.seen ≤ P by omega), by rw [e1]; exact hx.2⟩ (fun g hg => hl g (by simp [hg])) fun g hg => ?_
    rcases List.mem_append.1 hg with hg | hg
    · exact ha g hg
    · obtain ⟨-, -, k1, k2, -⟩ := hear_frames g hg
      rw [k1, k2]
      exact ⟨hx.2, h0⟩
theorem tryAtt_le {k s a : Int} (hk : 0 < k) : a ≤ tryAtt k s a ∧ tryAtt k s a ≤ a + k - 1 := by
  unfold tryAtt
  have h1 := Int.emod_nonneg (s - a) (by omega : k ≠ 0)
  have h2 := Int.emod_lt_of_pos (s - a) hk
  generalize (s - a) % k = z at *
  omega
theorem tryAbove_le {M : Wm} {P N : Int} (h : Bnd M P N) {s : Int} (h0 : 0 ≤ s) (h1 : s < M.w.length) {d : Nat} (hd : d < 6) {p : Int} (hp : p ≤ P) : tryAbove (ndAt M s) d p ≤ P := by
  unfold tryAbove
  split
  · exact hp
  · rename_i x hx
    have := (h.ld s.toNat d x (by omega) hd (by unfold ldW; rw [show ((s.toNat : Nat) : Int) = s by omega]; exact hx)).1
    omega
theorem Bnd.try {M : Wm} {P N : Int} (h : Bnd M P N) (hI : WI M) {s p : Int} {d : Nat} (h0 : 0 ≤ s) (h1 : s < M.n.length) (hd : d < 6) (hp : p ≤ P) : Bnd (tryW M s d p).1 (P + 7) (N + 1) := by
  have hn := hI.wn
  have hw := hI.wl
  have hw1 := hI.w1
  have hab := tryAbove_le h h0 (by omega) hd hp
  have hp0 := h.p0
  unfold tryW
  simp only
  have hle := tryAtt_le (k := M.w.length) (s := s) (a := tryAbove (ndAt M s) d p + 1) (by omega)
  generalize tryAtt M.w.length s (tryAbove (ndAt M s) d p + 1) = a at *
  split
  · exact h.mono (by omega) (by omega)
  have h7 := h.mono (P' := P + 7) (N' := N) (by omega) (by omega)
  obtain ⟨k1, k2⟩ := h7.hear hI (f := tryF s d a) h0 h1 (by show a ≤ _; omega)
  obtain ⟨hI2, -⟩ := hI.hear (f := tryF s d a) h0 h1 (by show s < _; omega)
  have hS := same_hear M s (tryF s d a)
  generalize hearW M s (tryF s d a) = R at *
  split
  · exact k1
  · obtain ⟨q1, q2⟩ := Bnd.hears (P := P + 7) R.2.1 (newLd s d M.w a 4) [] (by omega) ⟨by show (0 : Int) ≤ _; omega, by show a ≤ _; omega⟩ k2 (fun f hf => by cases hf)
    refine k1.lead hI2 h0 (by rw [hS.n]; exact h1) (d := (d : Int).toNat) (by simpa using hd) q1 fun f hf => ?_
    rcases List.mem_append.1 hf with hf | hf
    · rcases List.mem_append.1 hf with hf | hf
      · exact .inl hf
      · obtain ⟨-, -, e1, e2, -⟩ := start_frames f hf
        rw [e1, e2]
        exact .inr ⟨by show a ≤ _; omega, by omega⟩
    · exact .inr (q2 f hf)
theorem Bnd.tickD {M : Wm} {P N : Int} {q : Wm × Bool} {s : Int} {k d : Nat} (h : Bnd q.1 P N) (hT : TickOk M q s k) (h0 : 0 ≤ s) (h1 : s < M.n.length) (hd : d < 6) : Bnd (tickD s q d).1 (P + 7) (N + 1) := by
  obtain ⟨M1, b⟩ := q
  have hn := hT.same.n
  simp only at hn h
  have hwn := hT.wi.wn
  simp only at hwn
  have hp0 := h.p0
  unfold HL.tickD
  split
  · exact h.mono (by omega) (by omega)
  split
  · exact h.mono (by omega) (by omega)
  rename_i hb _ j ref hs
  have hs' : (ndAt M1 s).site = some (j, ref) := hs
  have hni := hT.wi.at (s := s) h0 (by simp only; omega)
  have e := st_eq hni hs' d
  have hpr := h.pr s.toNat d (by omega) hd
  unfold stW at hpr
  rw [show ((s.toNat : Nat) : Int) = s by omega] at hpr
  split
  · exact h.mono (by omega) (by omega)
  split
  · refine (h.mono (P' := P + 7) (N' := N + 1) (by omega) (by omega)).setL fun f hf => ?_
    rcases List.mem_append.1 hf with hf | hf
    · exact .inl hf
    · unfold decideF at hf
      obtain ⟨i, hi, rfl⟩ := List.mem_map.1 hf
      refine .inr ⟨?_, ?_⟩
      · show (stAt j d).pr ≤ P + 7
        rw [e]
        exact Int.le_trans hpr (by omega)
      · show (0 : Int) ≤ P + 7
        omega
  · exact h.try hT.wi h0 (by show s < M1.n.length; omega) hd (by rw [e]; exact hpr)
theorem Bnd.ticks {M : Wm} {P N : Int} (h : Bnd M P N) (hI : WI M) {s : Int} (h0 : 0 ≤ s) (h1 : s < M.n.length) (hs : (ndAt M s).site ≠ none) : ∀ k : Nat, k ≤ 6 → Bnd ((List.range k).foldl (HL.tickD s) (M, true)).1 (P + 7 * k) (N + k)
  | 0, _ => by simpa using h
  | k + 1, hk => by
    rw [List.range_succ, List.foldl_append]
    have := Bnd.tickD (d := k) (Bnd.ticks h hI h0 h1 hs k (by omega)) (ticks_ok hI h0 h1 hs k (by omega)) h0 h1 (by omega)
    exact this.mono (by push_cast; omega) (by push_cast; omega)
theorem Bnd.tick {M : Wm} {P N : Int} (h : Bnd M P N) (hI : WI M) (s : Int) : Bnd (tickW M s).1 (P + 42) (N + 6) := by
  unfold tickW
  split
  · exact h.mono (by omega) (by omega)
  · rename_i hu
    obtain ⟨h0, h1, hs⟩ := up_site hu
    exact (h.ticks hI h0 h1 hs 6 (by omega)).mono (by omega) (by omega)
theorem Bnd.deliver {M : Wm} {P N : Int} (h : Bnd M P N) (hI : WI M) (k : Int) : Bnd (deliverW M k).1 P (N + 1) := by
  have hn := hI.wn
  unfold deliverW
  split
  · exact h.mono (by omega) (by omega)
  rename_i hk
  obtain ⟨⟨hbad, hto, hfr⟩, hk0, hk1⟩ := frame_at hI hk
  have hmem : M.l.getD k.toNat zeroF ∈ M.l := by
    rw [List.getD, List.getElem?_eq_getElem (show k.toNat < M.l.length by omega)]
    exact List.getElem_mem _
  have hE := hI.erase k.toNat
  have hB := h.erase k.toNat
  generalize M.l.getD k.toNat zeroF = f at *
  unfold badF at hbad
  have hf := h.fr f hmem
  have hp0 := h.p0
  simp only
  split
  · exact hB.mono (by omega) (by omega)
  split
  · split
    · exact hB.mono (by omega) (by omega)
    · rename_i x hx
      have hx' := h.ld f.to.toNat f.dl.toNat x (by omega) (by omega) (by unfold ldW; rw [show ((f.to.toNat : Nat) : Int) = f.to by omega]; exact hx)
      obtain ⟨e1, -, -, -, e2⟩ := hear_att x f
      refine Bnd.mono (N := N) ?_ (Int.le_refl P) (by omega)
      refine hB.lead hE (by omega) (by simp only; omega) (by omega) ⟨by omega, by omega⟩ fun g hg => ?_
      rcases List.mem_append.1 hg with hg | hg
      · exact .inl hg
      · obtain ⟨-, -, k1, k2, -⟩ := hear_frames g hg
        rw [k1, k2]
        exact .inr ⟨hx'.2, hp0⟩
  · obtain ⟨k1, k2⟩ := hB.hear hE (s := f.to) (f := f) (by omega) (by simp only; omega) hf.1
    refine k1.setL fun g hg => ?_
    rcases List.mem_append.1 hg with hg | hg
    · exact .inl hg
    · exact .inr (k2 g hg)
theorem Bnd.act {M : Wm} {P N : Int} (h : Bnd M P N) (hI : WI M) (x : StpS) : Bnd (actW M x).1 (P + 42) (N + 6) := by
  have hp0 := h.p0
  have hm : ∀ {M' : Wm}, Bnd M' P N → Bnd M' (P + 42) (N + 6) := fun h => h.mono (by omega) (by omega)
  have hlk : ∀ a b c, Bnd (linkW M a b c).1 P N := fun a b c => by
    unfold linkW
    split
    · exact h
    · exact h.of rfl (fun _ _ => rfl) (fun _ _ => rfl) (fun _ _ _ _ _ hx => .inl hx) fun f hf => .inl hf
  unfold actW
  split
  · refine hm ?_
    unfold beginW
    split
    · exact h
    rename_i hb
    split
    · exact h
    split
    · exact h
    refine h.lead hI (by omega) (by omega) (by omega) ⟨by show (0 : Int) ≤ P; exact hp0, by show (0 : Int) ≤ P; exact hp0⟩ fun f hf => ?_
    rcases List.mem_append.1 hf with hf | hf
    · exact .inl hf
    · obtain ⟨-, -, e1, e2, -⟩ := start_frames f hf
      rw [e1, e2]
      exact .inr ⟨by show (0 : Int) ≤ P; exact hp0, hp0⟩
  split
  · refine hm ?_
    unfold refuseW
    split
    · exact h
    split
    · exact h
    rename_i hu
    obtain ⟨h0, h1, -⟩ := up_site hu
    exact h.node h0 h1 (ev := M.ev) (by unfold refuseN; split <;> rfl) (.inl (by unfold refuseN; split <;> rfl))
  split
  · exact h.tick hI _
  split
  · refine hm ?_
    unfold downW
    split
    · exact h
    rename_i hu
    obtain ⟨h0, h1, -⟩ := up_site hu
    exact h.node h0 h1 (ev := M.ev) rfl (.inr rfl)
  split
  · refine hm ?_
    unfold upW
    split
    · exact h
    split
    · exact h
    rename_i hu _
    obtain ⟨h0, h1⟩ := nodeE_none hu
    exact h.node h0 h1 rfl (.inl rfl)
  split
  · refine hm ?_
    unfold dropW
    split
    · exact h
    · exact h.erase _
  split
  · refine hm ?_
    unfold twiceW
    split
    · exact h
    rename_i hk
    have hkk : 0 ≤ x.n ∧ x.n < M.l.length := by
      unfold wat at hk
      split at hk
      · cases hk
      · omega
    refine h.setL fun f hf => .inl ?_
    rcases List.mem_append.1 hf with hf | hf
    · exact List.mem_of_mem_take hf
    · rcases List.mem_cons.1 hf with hf | hf
      · rw [hf, List.getD, List.getElem?_eq_getElem (show x.n.toNat < M.l.length by omega)]
        exact List.getElem_mem _
      · exact List.mem_of_mem_drop hf
  split
  · exact hm (hlk _ _ _)
  split
  · exact hm (hlk _ _ _)
  split
  · refine hm ?_
    unfold cutW
    split
    · exact h
    split
    · exact h
    rename_i hu
    obtain ⟨h0, h1, -⟩ := up_site hu
    exact h.node h0 h1 (ev := M.ev) rfl (.inl rfl)
  · exact (h.deliver hI _).mono (by omega) (by omega)
end Go.HL
end

/-! EdC -/
section
namespace Go.HL
open Go Go.Proofs
set_option linter.unusedVariables false
set_option linter.unusedSimpArgs false
/-- what a frame weighs: each delivery makes all of it lighter -/
def wtF (f : Fr) : Nat := if f.kd = 1 ∨ f.kd = 3 then 65 else if f.kd = 2 ∨ f.kd = 4 then 64 else if f.kd = 5 then 9 else if f.kd = 6 then 8 else 1
def wtL (l : List Fr) : Nat := (l.map wtF).sum
theorem wt_app (a b : List Fr) : wtL (a ++ b) = wtL a + wtL b := by simp [wtL]
theorem wt_cons (f : Fr) (b : List Fr) : wtL (f :: b) = wtF f + wtL b := by simp [wtL]
theorem wt_pos (f : Fr) : 1 ≤ wtF f := by unfold wtF; split <;> (try split) <;> (try split) <;> (try split) <;> omega
theorem wt_max (f : Fr) : wtF f ≤ 65 := by unfold wtF; split <;> (try split) <;> (try split) <;> (try split) <;> omega
theorem wt_le {l : List Fr} {k : Nat} (h : ∀ f ∈ l, wtF f ≤ k) : wtL l ≤ k * l.length := by
  induction l with
  | nil => simp [wtL]
  | cons f r ih =>
    have h1 := h f (by simp)
    have h2 := ih fun g hg => h g (by simp [hg])
    rw [wt_cons, List.length_cons, Nat.mul_add, Nat.mul_one]
    omega
theorem wt_len (l : List Fr) : l.length ≤ wtL l := by
  induction l with
  | nil => simp [wtL]
  | cons f r ih =>
    have := wt_pos f
    rw [wt_cons, List.length_cons]
    omega
theorem wt_65 (l : List Fr) : wtL l ≤ 65 * l.length := wt_le fun f _ => wt_max f
theorem hear_six {x : Ld} {f : Fr} (h6 : f.kd = 6) : ∀ y ∈ (hearM x f).2, y.kd = 7 := by
  have hall : ∀ (m : Ld) (p : Int), ∀ y ∈ allM m 7 p, y.kd = 7 := fun m p y hy => by
    obtain ⟨i, -, rfl, -⟩ := allM_mem hy
    rfl
  unfold hearM
  split
  · intro y hy; cases hy
  rename_i hw
  have hfit : fitsM x f := by
    by_cases hfit : fitsM x f
    · exact hfit
    · exact absurd (.inr hfit) hw
  have h1 : x.wait = 6 := by have := hfit.1; omega
  split
  · unfold noM
    split
    · exact hall _ _
    · intro y hy; cases hy
  · have e : (m2M x f).wait = 6 := by
      unfold m2M m1M
      simp only
      split <;> exact h1
    unfold countM
    split
    · rename_i h2; omega
    split
    · intro y hy; cases hy
    exact hall _ _
theorem wt_hear {w : List Int} {s d : Nat} {x : Ld} (hx : LdI w s d x) (hw : w.length ≤ 7) {f : Fr} (hk : f.kd = 2 ∨ f.kd = 4 ∨ f.kd = 6) : wtL (hearM x f).2 < wtF f := by
  have hl := hear_len x f
  rw [hx.ww] at hl
  by_cases h6 : f.kd = 6
  · have h1 := wt_le (l := (hearM x f).2) (k := 1) fun y hy => by
      have := hear_six h6 y hy
      unfold wtF
      rw [if_neg (by omega), if_neg (by omega), if_neg (by omega), if_neg (by omega)]
      omega
    have : wtF f = 8 := by unfold wtF; rw [if_neg (by omega), if_neg (by omega), if_neg (by omega), if_pos h6]
    omega
  · have h1 := wt_le (l := (hearM x f).2) (k := 9) fun y hy => by
      obtain ⟨-, -, -, -, h5⟩ := hear_frames y hy
      unfold wtF
      rw [if_neg (by omega), if_neg (by omega)]
      split
      · omega
      · rw [if_neg (by omega)]; omega
    have : wtF f = 64 := by unfold wtF; rw [if_neg (by omega), if_pos (by omega)]
    omega
theorem turn_kd {ref : Int → Bool} {f : Fr} {st : St} (h : (turnM ref f st).2.1 ≠ 0) : (f.kd = 1 ∧ (turnM ref f st).2.1 = 2) ∨ (f.kd = 3 ∧ (turnM ref f st).2.1 = 4) ∨ (f.kd = 5 ∧ (turnM ref f st).2.1 = 6) := by
  unfold turnM at h ⊢
  split
  · exact .inl ⟨by assumption, rfl⟩
  split
  · exact .inr (.inl ⟨by assumption, rfl⟩)
  split
  · rename_i h1 h3 h5
    rw [if_neg h1, if_neg h3, if_pos h5] at h
    refine .inr (.inr ⟨h5, ?_⟩)
    split
    · rename_i h6
      rw [if_pos h6] at h
      exact absurd rfl h
    · split <;> rfl
  · rename_i h1 h3 h5
    rw [if_neg h1, if_neg h3, if_neg h5] at h
    split at h <;> exact absurd rfl h
theorem wt_ans {M : Wm} (hI : WI M) {s : Int} (h0 : 0 ≤ s) (h1 : s < M.n.length) (f : Fr) : wtL (hearW M s f).2.1 < wtF f := by
  have hni := hI.at h0 h1
  obtain ⟨sn, rfl⟩ := Int.eq_ofNat_of_zero_le h0
  simp only [Int.toNat_natCast] at hni
  have hone := hearW_one M sn f
  have h2 := (nd_st hni M.ev f).2
  change ∀ x ∈ (hearW M sn f).2.1, _ at h2
  generalize (hearW M sn f).2.1 = l at *
  have hp := wt_pos f
  match l, hone with
  | [], _ => simp [wtL]; omega
  | [x], _ =>
    obtain ⟨ref, hx, hk, -⟩ := h2 x (by simp)
    have e : x.kd = (turnM ref f (plSt (ndAt M sn).pl f.dl)).2.1 := by rw [hx]
    rw [wt_cons, show wtL ([] : List Fr) = 0 from rfl]
    rcases turn_kd hk with ⟨k1, k2⟩ | ⟨k1, k2⟩ | ⟨k1, k2⟩
    · have a : wtF x = 64 := by unfold wtF; rw [if_neg (by omega), if_pos (by omega)]
      have b : wtF f = 65 := by unfold wtF; rw [if_pos (by omega)]
      omega
    · have a : wtF x = 64 := by unfold wtF; rw [if_neg (by omega), if_pos (by omega)]
      have b : wtF f = 65 := by unfold wtF; rw [if_pos (by omega)]
      omega
    · have a : wtF x = 8 := by unfold wtF; rw [if_neg (by omega), if_neg (by omega), if_neg (by omega), if_pos (by omega)]
      have b : wtF f = 9 := by unfold wtF; rw [if_neg (by omega), if_neg (by omega), if_pos (by omega)]
      omega
  | _ :: _ :: _, h => simp at h
/-- a delivery of the first frame -/
theorem deliver_wt {M : Wm} (hI : WI M) (h : M.l ≠ []) : wtL (deliverW M 0).1.l < wtL M.l ∧ (deliverW M 0).2 = none := by
  obtain ⟨f, r, e⟩ := List.exists_cons_of_ne_nil h
  have hk : wat M 0 = none := by unfold wat; rw [e, if_neg (by simp)]
  obtain ⟨⟨hbad, hto, hfr⟩, -, -⟩ := frame_at hI hk
  have hf : M.l.getD (0 : Int).toNat zeroF = f := by rw [e]; rfl
  have hr : M.l.eraseIdx (0 : Int).toNat = r := by rw [e]; rfl
  have hE := hI.erase (0 : Int).toNat
  have hn := hI.wn
  rw [hf] at hbad hto hfr
  rw [hr] at hE
  have hw : wtL M.l = wtF f + wtL r := by rw [e, wt_cons]
  have hp := wt_pos f
  unfold badF at hbad
  unfold deliverW
  rw [hk]
  simp only [hf, hr]
  split
  · exact ⟨by simp only; omega, by trivial⟩
  split
  · rename_i hkd
    split
    · exact ⟨by simp only; omega, by trivial⟩
    · rename_i x hx
      have hLI := (hI.at (s := f.to) (by omega) (by omega)).ldi f.dl.toNat x (by
        have h6 := (hI.at (s := f.to) (by omega) (by omega)).leads
        have hx' : (ndAt M f.to).leads.getD f.dl.toNat none = some x := hx
        rw [getD_some (x := none) (by omega), hx'])
      have := wt_hear hLI hI.wl hkd
      refine ⟨?_, by trivial⟩
      simp only [wt_app]
      omega
  · have := wt_ans hE (s := f.to) (by omega) (by simp only; omega) f
    refine ⟨?_, by trivial⟩
    simp only [wt_app]
    omega
def drainF : Nat → Wm → Wm × Nat
  | 0, M => (M, 0)
  | k + 1, M => if M.l = [] then (M, 0) else ((drainF k (deliverW M 0).1).1, (drainF k (deliverW M 0).1).2 + 1)
/-- all that flies is delivered -/
def drainW (M : Wm) : Wm × Nat := drainF (wtL M.l) M
theorem drainF_more : ∀ (k : Nat) {M : Wm}, WI M → ∀ (q : Nat), wtL M.l ≤ k → wtL M.l ≤ q → drainF k M = drainF q M
  | 0, M, hI, q, h1, h2 => by
    have e : M.l = [] := List.eq_nil_of_length_eq_zero (by have := wt_len M.l; omega)
    cases q with
    | zero => rfl
    | succ q => unfold drainF; rw [if_pos e]
  | k + 1, M, hI, q, h1, h2 => by
    by_cases e : M.l = []
    · cases q with
      | zero => unfold drainF; rw [if_pos e]
      | succ q => unfold drainF; rw [if_pos e, if_pos e]
    · have hd := (deliver_wt hI e).1
      cases q with
      | zero => omega
      | succ q =>
        unfold drainF
        rw [if_neg e, if_neg e, drainF_more k (deliver_ok hI 0).wi q (by omega) (by omega)]
theorem drain_nil {M : Wm} (h : M.l = []) : drainW M = (M, 0) := by
  unfold drainW
  rw [h]
  rfl
theorem drain_step {M : Wm} (hI : WI M) (h : M.l ≠ []) : drainW M = ((drainW (deliverW M 0).1).1, (drainW (deliverW M 0).1).2 + 1) := by
  have hd := (deliver_wt hI h).1
  unfold drainW
  obtain ⟨k, hk⟩ : ∃ k, wtL M.l = k + 1 := ⟨wtL M.l - 1, by omega⟩
  rw [hk]
  show (if M.l = [] then (M, 0) else _) = _
  rw [if_neg h, drainF_more k (deliver_ok hI 0).wi (wtL (deliverW M 0).1.l) (by omega) (Nat.le_refl _)]
/-- what holds of each delivery holds of all -/
theorem drain_ind {P : Wm → Prop} (hstep : ∀ M, WI M → M.l ≠ [] → P M → P (deliverW M 0).1) : ∀ (k : Nat) {M : Wm}, wtL M.l ≤ k → WI M → P M → WI (drainW M).1 ∧ P (drainW M).1 ∧ (drainW M).1.l = [] ∧ Same M (drainW M).1 ∧ (drainW M).2 ≤ wtL M.l
  | 0, M, hk, hI, hP => by
    have e : M.l = [] := List.eq_nil_of_length_eq_zero (by have := wt_len M.l; omega)
    rw [drain_nil e]
    exact ⟨hI, hP, e, .refl _, by simp⟩
  | k + 1, M, hk, hI, hP => by
    by_cases e : M.l = []
    · rw [drain_nil e]
      exact ⟨hI, hP, e, .refl _, by simp⟩
    · have hd := (deliver_wt hI e).1
      have hok := deliver_ok hI 0
      obtain ⟨a1, a2, a3, a4, a5⟩ := drain_ind hstep k (M := (deliverW M 0).1) (by omega) hok.wi (hstep M hI e hP)
      rw [drain_step hI e]
      exact ⟨a1, a2, a3, hok.same.trans a4, by simp only; omega⟩
/-- is a site of a set? -/
def inS (set : Int) (s : Nat) : Bool := decide (set / 2 ^ s % 2 = 1)
def tickS (set : Int) (M : Wm) (s : Nat) : Wm := if inS set s then (tickW M (s : Int)).1 else M
def ticksS (set : Int) (k : Nat) (M : Wm) : Wm := (List.range k).foldl (tickS set) M
theorem ticksS_succ (set : Int) (k : Nat) (M : Wm) : ticksS set (k + 1) M = tickS set (ticksS set k M) k := by
  unfold ticksS
  rw [List.range_succ, List.foldl_append]
  rfl
def roundW (set : Int) (M : Wm) : Wm × Nat := drainW (ticksS set M.n.length M)
def roundsW (set : Int) : Nat → Wm → Wm × Nat
  | 0, M => (M, 0)
  | k + 1, M => ((roundW set (roundsW set k M).1).1, (roundsW set k M).2 + (roundW set (roundsW set k M).1).2)
theorem tickS_ok {M : Wm} (h : WI M) (set : Int) (s : Nat) : StepOk M (tickS set M s) 84 := by
  unfold tickS
  split
  · exact tick_ok h _
  · exact .refl h _
theorem ticksS_ok {M : Wm} (h : WI M) (set : Int) : ∀ k, StepOk M (ticksS set k M) (84 * k)
  | 0 => .refl h 0
  | k + 1 => by
    rw [ticksS_succ]
    have h1 := ticksS_ok h set k
    have h2 := tickS_ok h1.wi set k
    exact ⟨h2.wi, h1.same.trans h2.same, by have := h1.len; have := h2.len; omega⟩
/-- what is kept by each step of a round -/
theorem ticks_ind {P : Wm → Prop} {set : Int} {M : Wm} (h : WI M) (hP : P M) (hstep : ∀ (M1 : Wm) (s : Nat), WI M1 → Same M M1 → s < M.n.length → inS set s = true → P M1 → P (tickW M1 (s : Int)).1) : ∀ k, k ≤ M.n.length → P (ticksS set k M)
  | 0, _ => hP
  | k + 1, hk => by
    rw [ticksS_succ]
    have h1 := ticksS_ok h set k
    have h2 := ticks_ind h hP hstep k (by omega)
    unfold tickS
    split
    · rename_i hs
      exact hstep _ k h1.wi h1.same (by omega) hs h2
    · exact h2
structure RndOk (M M' : Wm) : Prop where
  wi : WI M'
  same : Same M M'
  nil : M'.l = []
theorem round_ok {M : Wm} (h : WI M) (set : Int) : RndOk M (roundW set M).1 ∧ (roundW set M).2 ≤ 65 * (M.l.length + 84 * M.n.length) := by
  have h1 := ticksS_ok h set M.n.length
  obtain ⟨a1, -, a3, a4, a5⟩ := drain_ind (P := fun _ => True) (fun _ _ _ _ => trivial) _ (Nat.le_refl _) h1.wi trivial
  have h2 := h1.len
  have h3 := wt_65 (ticksS set M.n.length M).l
  exact ⟨⟨a1, h1.same.trans a4, a3⟩, by unfold roundW; omega⟩
theorem rounds_ok {M : Wm} (h : WI M) (set : Int) : ∀ k, WI (roundsW set k M).1 ∧ Same M (roundsW set k M).1 ∧ (roundsW set k M).1.l.length ≤ M.l.length ∧ (1 ≤ k → (roundsW set k M).1.l = [])
  | 0 => ⟨h, .refl _, Nat.le_refl _, fun h => by omega⟩
  | k + 1 => by
    obtain ⟨a1, a2, a3, -⟩ := rounds_ok h set k
    obtain ⟨b1, b2, b3⟩ := (round_ok a1 set).1
    have e : (roundsW set (k + 1) M).1.l = [] := b3
    exact ⟨b1, a2.trans b2, by rw [e]; simp, fun _ => e⟩
end Go.HL
end

/-! PwK -/
section
namespace Go.HL
open Go Go.Proofs
set_option linter.unusedVariables false
set_option linter.unusedSimpArgs false
def rndE (set n : Int) : Prop := set < 0 ∨ n < 0 ∨ 10 < n
instance (set n : Int) : Decidable (rndE set n) := by unfold rndE; infer_instance
theorem inS_iff (n s : Nat) : (((((n : Int) / 2 ^ s).toNat &&& Int.toNat 1 : Nat) : Int) = 1) ↔ inS (n : Int) s = true := by
  rw [bit_iff]
  unfold inS
  rw [decide_eq_true_iff]
  constructor
  · intro h
    have : ((n / 2 ^ s % 2 : Nat) : Int) = 1 := by rw [h]; rfl
    push_cast at this
    exact this
  · intro h
    have : ((n / 2 ^ s % 2 : Nat) : Int) = ((1 : Nat) : Int) := by push_cast; exact h
    exact Int.ofNat.inj this
theorem WdQ.refl {G : WdG} {M : Wm} {L : Heap} (hW : WdOk G M) : WdQ G M L (wdC G M :: L) := ⟨G, rfl, hW, rfl⟩
set_option maxHeartbeats 2000000 attribute [local irreducible] HW HO HQ HD HC QOp Has Upd Puts Gets seqQ blkQ loopQ fnQ actQ nextP unQ MapF
attribute [local irreducible] wdC tickW deliverW
theorem wsites_shut (G : WdG) (M : Wm) (L : Heap) (hW : WdOk G M) : HC Tryz.prog 102 [pt G.wp 0] (wdC G M :: L) (fun v L' => v = iv M.n.length ∧ L' = wdC G M :: L) := HC.shutQ (wsites_calls G M _ (wd_in hW L))
theorem rounds_calls (T : Nat) (E : Nat → Addr) (G : WdG) (M : Wm) (set n : Int) (L : Heap) (hE : Ez T E L) (hW : WdOk G M) (hM : WI M) (hl : M.l.length ≤ 1000000) (hs : set ≤ 9223372036854775807) (hn : n ≤ 9223372036854775807) :
    HC Tryz.prog 40 [pt G.wp 0, iv set, iv n] (wdC G M :: L) (fun v L' => if rndE set n then v = .tuple ⟨[iv 0, eV T E (some 2)]⟩ ∧ L' = wdC G M :: L else v = .tuple ⟨[iv (roundsW set n.toNat M).2, .nilIface]⟩ ∧ WdQ G (roundsW set n.toNat M).1 L L') := by
  by_cases hr : rndE set n
  · have hG2 := (hE.er [2]).cons (wdC G M)
    simp only [if_pos hr]
    unfold rndE at hr
    refine Za (fun _ _ => Tryz.call40 _ _) Tryz.func40 rfl Tryz.ntmps40 (Nat.le_of_ble_eq_true rfl) ?_; simp only [args0, Nat.reduceAdd]
    repeat' (first | refine uN ?_ | refine g_k S ?_ | refine uC (wsites_shut G M L hW) ?_ | (refine uP ?_ ?_ <;> (intro h; ((try simp only [zs, ne_eq, and_true, true_and, eq_self, reduceCtorEq] at h); try exact zx))) | fail)
    all_goals first | (exfalso; omega) | exact sp2 (LS.refl _) ⟨rfl, rfl⟩
  · simp only [if_neg hr]
    unfold rndE at hr
    obtain ⟨sn, rfl⟩ := Int.eq_ofNat_of_zero_le (show 0 ≤ set by omega)
    obtain ⟨k, rfl⟩ := Int.eq_ofNat_of_zero_le (show 0 ≤ n by omega)
    rw [Int.toNat_natCast]
    have hok := rounds_ok hM (sn : Int)
    have hmany : ∀ i, (roundsW (sn : Int) i M).2 ≤ 100000000 * i := fun i => by
      induction i with
      | zero => exact Nat.le_refl _
      | succ i ih =>
        obtain ⟨a1, a2, a3, -⟩ := hok i
        have h2 := (round_ok a1 (sn : Int)).2
        have h3 := a2.n
        have h4 := hM.wn
        have h5 := hM.wl
        have : (roundsW (sn : Int) (i + 1) M).2 = (roundsW (sn : Int) i M).2 + (roundW (sn : Int) (roundsW (sn : Int) i M).1).2 := rfl
        omega
    refine Za (fun _ _ => Tryz.call40 _ _) Tryz.func40 rfl Tryz.ntmps40 (Nat.le_of_ble_eq_true rfl) ?_; simp only [args0, Nat.reduceAdd]
    repeat' (first | refine uN ?_ | refine g_k S ?_ | refine uC (wsites_shut G M L hW) ?_ | (refine uP ?_ ?_ <;> (intro h; ((try simp only [zs, ne_eq, and_true, true_and, eq_self, reduceCtorEq] at h); try exact zx))) | fail)
    all_goals first | (exfalso; omega) | skip
    refine hw_sp (L' := wdC G (roundsW (sn : Int) 0 M).1 :: L) ?_ (LS.refl _)
    refine Zf (σ := Nat × WdG) (fun r => [(0, pt G.wp 0), (1, iv sn), (8, iv (roundsW (sn : Int) r.1 M).2), (21, iv k), (22, iv r.1)]) (fun r => wdC r.2 (roundsW (sn : Int) r.1 M).1 :: L)
      (fun r => r.1 ≤ k ∧ r.2.wp = G.wp ∧ WdOk r.2 (roundsW (sn : Int) r.1 M).1) (fun r => k - r.1) (0, G) uS (List.Sublist.refl _) ⟨by simp, rfl, hW⟩ ?_
    rintro ⟨i, G1⟩ ⟨hi, e1, hW1⟩
    simp only at hi e1 hW1 ⊢
    by_cases hlt : i < k
    · obtain ⟨hI1, hS1, hl1, -⟩ := hok i
      have hm1 := hmany i
      have hrs : roundsW (sn : Int) (i + 1) M = ((roundW (sn : Int) (roundsW (sn : Int) i M).1).1, (roundsW (sn : Int) i M).2 + (roundW (sn : Int) (roundsW (sn : Int) i M).1).2) := rfl
      have hi10 : (i : Int) < 10 := by omega
      clear hok hmany
      generalize roundsW (sn : Int) i M = R at *
      obtain ⟨M1, many⟩ := R
      simp only at hW1 hI1 hS1 hl1 hm1 hrs ⊢
      have hn1 := hI1.wn
      have hw1 := hI1.wl
      have htk := ticksS_ok hI1 (sn : Int)
      rw [← e1]
      repeat' (first | refine uN ?_ | refine g_k S ?_ | refine uC (wsites_shut G1 M1 L hW1) ?_ | (refine uP ?_ ?_ <;> (intro h; ((try simp only [zs, ne_eq, and_true, true_and, eq_self, reduceCtorEq] at h); try exact zx))) | fail)
      refine Zf (σ := Nat × WdG) (fun r => [(0, pt G1.wp 0), (1, iv sn), (8, iv many), (21, iv k), (22, iv i), (25, iv M1.n.length), (26, iv r.1)]) (fun r => wdC r.2 (ticksS (sn : Int) r.1 M1) :: L)
        (fun r => r.1 ≤ M1.n.length ∧ r.2.wp = G1.wp ∧ WdOk r.2 (ticksS (sn : Int) r.1 M1)) (fun r => M1.n.length - r.1) (0, G1) uS (List.Sublist.refl _) ⟨by simp, rfl, hW1⟩ ?_
      rintro ⟨s, G2⟩ ⟨hs2, e2, hW2⟩
      simp only at hs2 e2 hW2 ⊢
      by_cases hsl : s < M1.n.length
      · have hss := ticksS_succ (sn : Int) s M1
        have hk2 := htk s
        have hl2 := hk2.len
        have kt := fun L hG => HC.shut (V := fun u => u = eV T E (tickW (ticksS (sn : Int) s M1) s).2) (wtick_calls T E G2 (ticksS (sn : Int) s M1) s L hG hW2 hk2.wi (by omega))
        have hbi := inS_iff sn (s : Int).toNat
        have hbo := bit_ok sn (s : Int).toNat (by omega)
        rw [show inS (sn : Int) (s : Int).toNat = inS (sn : Int) s from rfl] at hbi
        unfold tickS at hss
        cases hin : inS (sn : Int) s with
        | true =>
          rw [hin] at hbi hss
          simp only [if_true, iff_true] at hbi hss
          rw [← e2]
          repeat' (first | refine uN ?_ | refine g_k S ?_ | refine uC (wsites_shut G1 M1 L hW1) ?_ | (refine uP ?_ ?_ <;> (intro h; ((try simp only [zs, ne_eq, and_true, true_and, eq_self, reduceCtorEq] at h); try exact zx))) | fail)
          all_goals first | (exfalso; omega) | skip
          refine gc (kt _ (hE.er [2, 3, 4, 5, 6])) ?_
          rintro v L' ⟨rfl, G3, e3, hW3, rfl⟩
          rw [← e3]
          repeat' (first | refine uN ?_ | refine g_k S ?_ | refine uC (wsites_shut G1 M1 L hW1) ?_ | (refine uP ?_ ?_ <;> (intro h; ((try simp only [zs, ne_eq, and_true, true_and, eq_self, reduceCtorEq] at h); try exact zx))) | fail)
          exact Zc (s + 1, G3) (by simp only [e3, e2]; exact uS) (by simp only [hss]; exact LS.refl _) ⟨by simp only; omega, by simp only [e3, e2], by simp only [hss]; exact hW3⟩ (by simp only; omega)
        | false =>
          rw [hin] at hbi hss
          simp only [Bool.false_eq_true, if_false, iff_false] at hbi hss
          repeat' (first | refine uN ?_ | refine g_k S ?_ | refine uC (wsites_shut G1 M1 L hW1) ?_ | (refine uP ?_ ?_ <;> (intro h; ((try simp only [zs, ne_eq, and_true, true_and, eq_self, reduceCtorEq] at h); try exact zx))) | fail)
          all_goals first | (exfalso; omega) | skip
          exact Zc (s + 1, G2) uS (by simp only [hss]; exact LS.refl _) ⟨by simp only; omega, e2, by simp only [hss]; exact hW2⟩ (by simp only; omega)
      · obtain rfl : s = M1.n.length := by omega
        have hkt := htk M1.n.length
        have hlt2 := hkt.len
        have hw65 := wt_65 (ticksS (sn : Int) M1.n.length M1).l
        have hrd := (round_ok hI1 (sn : Int)).2
        unfold roundW at hrs hrd
        have hIt := hkt.wi
        have hseq : ∀ M2, WI M2 → M2.l.length ≤ 99999999 → ∀ G L hG hW, _ := fun M2 hI2 hl2 G L hG hW => HC.shut (V := fun u => u = eV T E (deliverW M2 0).2) (wdeliver_calls T E G M2 0 L hG hW hI2 hl2)
        clear htk hkt
        generalize ticksS (sn : Int) M1.n.length M1 = MT at *
        rw [← e2]
        repeat' (first | refine uN ?_ | refine g_k S ?_ | refine uC (wsites_shut G1 M1 L hW1) ?_ | (refine uP ?_ ?_ <;> (intro h; ((try simp only [zs, ne_eq, and_true, true_and, eq_self, reduceCtorEq] at h); try exact zx))) | fail)
        refine Zf (σ := Wm × WdG × Nat) (fun r => [(0, pt G2.wp 0), (1, iv sn), (8, iv r.2.2), (21, iv k), (22, iv i)]) (fun r => wdC r.2.1 r.1 :: L)
          (fun r => WI r.1 ∧ r.2.1.wp = G2.wp ∧ WdOk r.2.1 r.1 ∧ wtL r.1.l ≤ wtL MT.l ∧ (drainW r.1).1 = (drainW MT).1 ∧ r.2.2 + (drainW r.1).2 = many + (drainW MT).2) (fun r => wtL r.1.l) (MT, G2, many) uS (List.Sublist.refl _) ⟨hIt, rfl, hW2, Nat.le_refl _, rfl, rfl⟩ ?_
        rintro ⟨M2, G3, j⟩ ⟨hI2, e3, hW3, hwt, hd1, hd2⟩
        simp only at hI2 e3 hW3 hwt hd1 hd2 ⊢
        have hl2 := wt_len M2.l
        have kd := hseq M2 hI2 (by omega)
        rw [← e3]
        by_cases hnl : M2.l = []
        · have hde : (deliverW M2 0).2 = some 4 ∧ (deliverW M2 0).1 = M2 := by
            unfold deliverW wat
            rw [if_pos (by rw [hnl]; simp)]
            exact ⟨rfl, rfl⟩
          rw [drain_nil hnl] at hd1 hd2
          simp only at hd1 hd2
          obtain ⟨hde1, hde2⟩ := hde
          simp only [hde1, hde2] at kd
          repeat' (first | refine uN ?_ | refine g_k S ?_ | refine uC (wsites_shut G1 M1 L hW1) ?_ | (refine uP ?_ ?_ <;> (intro h; ((try simp only [zs, ne_eq, and_true, true_and, eq_self, reduceCtorEq] at h); try exact zx))) | fail)
          refine gc (kd G3 _ (hE.er [2, 3, 4, 5, 6]) hW3) ?_
          rintro v L' ⟨rfl, G4, e4, hW4, rfl⟩
          rw [← e4]
          repeat' (first | refine uN ?_ | refine g_k S ?_ | refine uC (wsites_shut G1 M1 L hW1) ?_ | (refine uP ?_ ?_ <;> (intro h; ((try simp only [zs, ne_eq, and_true, true_and, eq_self, reduceCtorEq] at h); try exact zx))) | fail)
          refine Zc (i + 1, G4) (by simp only [hrs, ← hd2, Nat.add_zero, e4, e3, e2]; exact uS) (by simp only [hrs, ← hd1]; exact LS.refl _) ⟨by simp only; omega, by simp only [e4, e3, e2, e1], by simp only [hrs, ← hd1]; exact hW4⟩ (by simp only; omega)
        · obtain ⟨hd3, hd4⟩ := deliver_wt hI2 hnl
          have hds := drain_step hI2 hnl
          rw [hds] at hd1 hd2
          simp only at hd1 hd2
          have hI3 := (deliver_ok hI2 0).wi
          rw [hd4] at kd
          repeat' (first | refine uN ?_ | refine g_k S ?_ | refine uC (wsites_shut G1 M1 L hW1) ?_ | (refine uP ?_ ?_ <;> (intro h; ((try simp only [zs, ne_eq, and_true, true_and, eq_self, reduceCtorEq] at h); try exact zx))) | fail)
          refine gc (kd G3 _ (hE.er [2, 3, 4, 5, 6]) hW3) ?_
          rintro v L' ⟨rfl, G4, e4, hW4, rfl⟩
          rw [← e4]
          repeat' (first | refine uN ?_ | refine g_k S ?_ | refine uC (wsites_shut G1 M1 L hW1) ?_ | (refine uP ?_ ?_ <;> (intro h; ((try simp only [zs, ne_eq, and_true, true_and, eq_self, reduceCtorEq] at h); try exact zx))) | fail)
          exact Zc ((deliverW M2 0).1, G4, j + 1) (by simp only [e4, e3]; exact uS) (LS.refl _) ⟨hI3, by simp only [e4, e3], hW4, by simp only; omega, hd1, by simp only; omega⟩ hd3
    · obtain rfl : i = k := by omega
      repeat' (first | refine uN ?_ | refine g_k S ?_ | refine uC (wsites_shut G M L hW) ?_ | (refine uP ?_ ?_ <;> (intro h; ((try simp only [zs, ne_eq, and_true, true_and, eq_self, reduceCtorEq] at h); try exact zx))) | fail)
      exact sp2 (LS.refl _) ⟨rfl, G1, e1, hW1, rfl⟩
end Go.HL
end

/-! EdD -/
section
namespace Go.HL
open Go Go.Proofs
set_option linter.unusedVariables false
set_option linter.unusedSimpArgs false
/-- a site heard a frame: what is seen then -/
structure HearV (M M' : Wm) (s : Nat) (f : Fr) (ans : List Fr) : Prop where
  st : ∀ t d : Nat, d < 6 → stW M' t d = stW M t d ∨ (t = s ∧ d = f.dl.toNat ∧ ∃ ref, stW M' t d = (turnM ref f (stW M t d)).1)
  ld : ∀ t d : Nat, ldW M' t d = ldW M t d ∨ (t = s ∧ ldW M' t d = none)
  an : ∀ y ∈ ans, ∃ ref, y = ⟨s, f.fr, f.dl, (turnM ref f (stW M s f.dl.toNat)).2.1, f.att, (turnM ref f (stW M s f.dl.toNat)).2.2, (turnM ref f (stW M s f.dl.toNat)).1⟩ ∧ (turnM ref f (stW M s f.dl.toNat)).2.1 ≠ 0
theorem dl_nat {f : Fr} (h : ¬ badF f) : ((f.dl.toNat : Nat) : Int) = f.dl ∧ f.dl.toNat < 6 := by unfold badF at h; omega
theorem hear_view {M : Wm} (hI : WI M) {s : Nat} (h1 : s < M.n.length) (f : Fr) : HearV M (hearW M s f).1 s f (hearW M s f).2.1 := by
  have hni := hI.at (s := (s : Int)) (by omega) (by omega)
  simp only [Int.toNat_natCast] at hni
  obtain ⟨k1, k2⟩ := nd_st hni M.ev f
  refine ⟨fun t d hd => ?_, fun t d => ?_, fun y hy => ?_⟩
  · unfold stW
    rw [hear_nd (by omega) (by omega)]
    split
    · rename_i e
      have e' : t = s := by omega
      subst e'
      rcases k1 d hd with k | ⟨k, ref, k'⟩
      · exact .inl k
      · exact .inr ⟨rfl, k, ref, k'⟩
    · exact .inl rfl
  · unfold ldW
    rw [hear_nd (by omega) (by omega)]
    split
    · rename_i e
      have e' : t = s := by omega
      subst e'
      rcases hear_leads t (ndAt M t) M.ev f with k | k
      · rw [k]; exact .inl rfl
      · rw [k]; exact .inr ⟨rfl, noLeads_getD d⟩
    · exact .inl rfl
  · have hy' : y ∈ (hearNd s (ndAt M s) M.ev f).2.2.1 := hy
    obtain ⟨ref, e, hk, hb, -⟩ := k2 y hy'
    have h2 := (dl_nat hb).1
    unfold stW
    rw [h2]
    exact ⟨ref, e, hk⟩
/-- what a delivery of the first frame makes -/
inductive DelV (M : Wm) (f : Fr) (r : List Fr) (M' : Wm) : Prop where
  | gone (e : M' = { M with l := r }) (why : (ndAt M f.to).site = none ∨ M.br (linkP f) = true ∨ ((f.kd = 2 ∨ f.kd = 4 ∨ f.kd = 6) ∧ ldW M f.to.toNat f.dl.toNat = none))
  | lead (x : Ld) (hx : ldW M f.to.toNat f.dl.toNat = some x) (hi : LdI M.w f.to.toNat f.dl.toNat x) (hk : f.kd = 2 ∨ f.kd = 4 ∨ f.kd = 6) (hb : M.br (linkP f) = false) (up : (ndAt M f.to).site ≠ none) (br : M'.br = M.br) (l : M'.l = r ++ (hearM x f).2)
      (st : ∀ t d, stW M' t d = stW M t d) (ld : ∀ t d, ldW M' t d = if t = f.to.toNat ∧ d = f.dl.toNat then some (hearM x f).1 else ldW M t d) (lv : ∀ t, LiveW M t → LiveW M' t) (rr : ∀ t : Nat, (ndAt M' (t : Int)).site = (ndAt M (t : Int)).site) (ev : M'.ev = M.ev) (dn : ∀ t : Nat, (ndAt M' (t : Int)).done = (ndAt M (t : Int)).done)
  | hear (hk : ¬ (f.kd = 2 ∨ f.kd = 4 ∨ f.kd = 6)) (hb : M.br (linkP f) = false) (up : (ndAt M f.to).site ≠ none) (e : M' = { (hearW { M with l := r } f.to.toNat f).1 with l := r ++ (hearW { M with l := r } f.to.toNat f).2.1 })
theorem deliver_view {M : Wm} (hI : WI M) {f : Fr} {r : List Fr} (e : M.l = f :: r) : okF M.w.length f ∧ DelV M f r (deliverW M 0).1 := by
  have hk : wat M 0 = none := by unfold wat; rw [e, if_neg (by simp)]
  have hfa := (frame_at hI hk).1
  have hf : M.l.getD (0 : Int).toNat zeroF = f := by rw [e]; rfl
  have hr : M.l.eraseIdx (0 : Int).toNat = r := by rw [e]; rfl
  rw [hf] at hfa
  refine ⟨hfa, ?_⟩
  obtain ⟨hbad, hto, hfr⟩ := hfa
  have hn := hI.wn
  have hb2 := hbad
  unfold badF at hb2
  have hE := hI.erase (0 : Int).toNat
  rw [hr] at hE
  unfold deliverW
  rw [hk]
  simp only [hf, hr]
  split
  · rename_i h
    refine .gone rfl ?_
    rcases h with h | h
    · exact .inl (Option.isNone_iff_eq_none.1 h)
    · exact .inr (.inl h)
  · rename_i h
    have h1 : (ndAt M f.to).site ≠ none := fun e => h (.inl (by show (ndAt M f.to).site.isNone = true; rw [e]; rfl))
    have h2 : M.br (linkP f) = false := by
      cases hq : M.br (linkP f) with
      | false => rfl
      | true => exact absurd (.inr hq) h
    have htn : ((f.to.toNat : Nat) : Int) = f.to := by omega
    split
    · rename_i hkd
      split
      · rename_i hx
        refine .gone rfl (.inr (.inr ⟨hkd, ?_⟩))
        unfold ldW
        rw [htn]
        exact hx
      · rename_i x hx
        have hx' : (ndAt M f.to).leads.getD f.dl.toNat none = some x := hx
        have h6 := (hI.at (s := f.to) (by omega) (by omega)).leads
        have hLI := (hI.at (s := f.to) (by omega) (by omega)).ldi f.dl.toNat x (by rw [getD_some (x := none) (by omega), hx'])
        refine .lead x (by unfold ldW; rw [htn]; exact hx') hLI hkd h2 h1 rfl rfl (fun t d => ?_) (fun t d => ?_) (fun t ht => ?_) (fun t => ?_) rfl (fun t => ?_)
        · exact stW_lead (M := { M with l := r }) (by omega) (by simp only; omega) _ _ t d
        · have := ldW_set (M := { M with l := r }) (s := f.to) (by omega) (by simp only; omega) h6 (d := f.dl.toNat) (by omega) (some (hearM x f).1) (r ++ (hearM x f).2) t d
          exact this.trans (ite_congr (propext ⟨fun h => ⟨by omega, h.2⟩, fun h => ⟨by omega, h.2⟩⟩) (fun _ => rfl) (fun _ => rfl))
        · show LiveN (ndAt (setN { M with l := r } f.to { ndAt { M with l := r } f.to with leads := _ }) (t : Int))
          rw [Ze (M := { M with l := r }) (by omega) (by simp only; omega)]
          split
          · rename_i e2
            have ht' : LiveN (ndAt M (t : Int)) := ht
            rw [e2] at ht'
            exact ht'
          · exact ht
        · show (ndAt (setN { M with l := r } f.to { ndAt { M with l := r } f.to with leads := _ }) (t : Int)).site = _
          rw [Ze (M := { M with l := r }) (by omega) (by simp only; omega)]
          split
          · rename_i e2
            rw [e2]
            rfl
          · rfl
        · show (ndAt (setN { M with l := r } f.to { ndAt { M with l := r } f.to with leads := _ }) (t : Int)).done = _
          rw [Ze (M := { M with l := r }) (by omega) (by simp only; omega)]
          split
          · rename_i e2
            rw [e2]
            rfl
          · rfl
    · rename_i hkd
      rw [← htn]
      exact .hear hkd h2 h1 rfl
/-- what a try makes -/
inductive TryV (M : Wm) (s d : Nat) (a : Int) (q : Wm × Bool) : Prop where
  | far (h : 1048576 < a) (e : q = (M, true))
  | fell (h : a ≤ 1048576) (hr : (hearW M s (tryF s d a)).2.2 = false) (e : q = ((hearW M s (tryF s d a)).1, false))
  | began (h : a ≤ 1048576) (hr : (hearW M s (tryF s d a)).2.2 = true) (hb : q.2 = true) (br : q.1.br = M.br) (l : q.1.l = M.l ++ startM (newLd s d M.w a 4) ++ (hearsM (newLd s d M.w a 4) (hearW M s (tryF s d a)).2.1).2)
      (st : ∀ t e, stW q.1 t e = stW (hearW M s (tryF s d a)).1 t e) (ld : ∀ t e, ldW q.1 t e = if t = s ∧ e = d then some (hearsM (newLd s d M.w a 4) (hearW M s (tryF s d a)).2.1).1 else ldW (hearW M s (tryF s d a)).1 t e)
      (lv : ∀ t, LiveW (hearW M s (tryF s d a)).1 t → LiveW q.1 t) (rr : ∀ t : Nat, (ndAt q.1 (t : Int)).site = (ndAt (hearW M s (tryF s d a)).1 (t : Int)).site)
theorem try_view {M : Wm} (hI : WI M) {s d : Nat} (h1 : s < M.n.length) (hd : d < 6) (p : Int) : TryV M s d (tryAtt M.w.length s (tryAbove (ndAt M s) d p + 1)) (tryW M s d p) := by
  unfold tryW
  simp only
  generalize ha : tryAtt M.w.length s (tryAbove (ndAt M s) d p + 1) = a
  split
  · rename_i h
    exact .far h rfl
  rename_i hle
  split
  · rename_i hr
    exact .fell (by omega) hr rfl
  · rename_i hr
    have hS := same_hear M s (tryF s d a)
    have hn := hI.wn
    have hIR := (hI.hear (s := (s : Int)) (f := tryF s d a) (by omega) (by omega) (by show (s : Int) < _; omega)).1
    have h6 := (hIR.at (s := (s : Int)) (by omega) (by rw [hS.n]; omega)).leads
    have h1' : (s : Int) < (hearW M s (tryF s d a)).1.n.length := by rw [hS.n]; omega
    refine .began (by omega) (by simpa using hr) rfl rfl rfl (fun t e => stW_lead (by omega) h1' _ _ t e) (fun t e => ?_) (fun t ht => ?_) (fun t => ?_)
    · have := ldW_set (M := (hearW M s (tryF s d a)).1) (s := (s : Int)) (by omega) h1' h6 (d := d) hd (some (hearsM (newLd s d M.w a 4) (hearW M s (tryF s d a)).2.1).1) ((hearW M s (tryF s d a)).1.l ++ startM (newLd s d M.w a 4) ++ (hearsM (newLd s d M.w a 4) (hearW M s (tryF s d a)).2.1).2) t e
      exact this.trans (ite_congr (propext ⟨fun h => ⟨by omega, h.2⟩, fun h => ⟨by omega, h.2⟩⟩) (fun _ => rfl) (fun _ => rfl))
    · show LiveN (ndAt (setN (hearW M s (tryF s d a)).1 s { ndAt (hearW M s (tryF s d a)).1 s with leads := _ }) (t : Int))
      rw [Ze (by omega) h1']
      split
      · rename_i e2
        have ht' : LiveN (ndAt (hearW M s (tryF s d a)).1 (t : Int)) := ht
        rw [e2] at ht'
        exact ht'
      · exact ht
    · show (ndAt (setN (hearW M s (tryF s d a)).1 s { ndAt (hearW M s (tryF s d a)).1 s with leads := _ }) (t : Int)).site = _
      rw [Ze (by omega) h1']
      split
      · rename_i e2
        rw [e2]
      · rfl
end Go.HL
end

/-! EdE -/
section
namespace Go.HL
open Go Go.Proofs
set_option linter.unusedVariables false
set_option linter.unusedSimpArgs false
theorem bit_test (q i : Nat) : bit q i ↔ q.testBit i = true := by
  unfold bit
  rw [Nat.testBit_eq_decide_div_mod_eq]
  simp
theorem quor_sub {w : List Int} (hc : checkW w = none) {a b : Nat} (hq : quor w a = true) (ha : a < 2 ^ w.length) (h : ∀ i, i < w.length → bit a i → bit b i) : quor w b = true := by
  have e : a ||| b = b := by
    apply Nat.eq_of_testBit_eq
    intro i
    rw [Nat.testBit_or]
    cases h1 : a.testBit i with
    | false => simp
    | true =>
      have hi : i < w.length := by
        by_cases hlt : i < w.length
        · exact hlt
        · rw [Nat.testBit_lt_two_pow (Nat.lt_of_lt_of_le ha (Nat.pow_le_pow_right (by decide) (by omega)))] at h1
          cases h1
      have := (bit_test b i).1 (h i hi ((bit_test a i).2 h1))
      rw [this]
      rfl
  rw [← e]
  exact quor_more hc hq
theorem inS_bit (n s : Nat) : inS (n : Int) s = true ↔ bit n s := by
  unfold inS bit
  rw [decide_eq_true_iff]
  constructor
  · intro h
    have : ((n / 2 ^ s % 2 : Nat) : Int) = ((1 : Nat) : Int) := by push_cast; exact h
    exact Int.ofNat.inj this
  · intro h
    have : ((n / 2 ^ s % 2 : Nat) : Int) = 1 := by rw [h]; rfl
    push_cast at this
    exact this
/-- a lead of a site that waits in vain -/
def VainL (set : Int) (n : Nat) (x : Ld) : Prop := (x.wait = 4 ∨ x.wait = 0) ∧ ∀ i, i < n → bit x.heard i → inS set i = true
theorem vain_hear {w : List Int} {sn s d : Nat} (hc : checkW w = none) (hq : quor w sn = false) {x : Ld} (hi : LdI w s d x) (hv : VainL sn w.length x) {f : Fr} (hf : inS sn f.fr.toNat = true) : VainL sn w.length (hearM x f).1 ∧ (hearM x f).2 = [] := by
  unfold hearM
  split
  · exact ⟨hv, rfl⟩
  rename_i hw
  have hfit : fitsM x f := by
    by_cases hfit : fitsM x f
    · exact hfit
    · exact absurd (.inr hfit) hw
  have h4 : x.wait = 4 := hv.1.resolve_right (fun h => hw (.inl h))
  obtain ⟨-, hfr, hww, hkd⟩ : True ∧ (0 ≤ f.fr ∧ f.fr < x.w.length) ∧ x.w = w ∧ f.kd = 4 := ⟨trivial, ⟨(fitsM_heard hfit).1, (fitsM_heard hfit).2.1⟩, hi.ww, by rw [(fitsM_heard hfit).2.2]; exact h4⟩
  have e1 : (m1M x f).wait = x.wait ∧ (m1M x f).heard = x.heard ∧ (m1M x f).w = x.w := by unfold m1M; split <;> exact ⟨rfl, rfl, rfl⟩
  split
  · unfold noM
    rw [if_neg (by rw [e1.1]; omega)]
    exact ⟨⟨.inr rfl, fun i hi' hb => hv.2 i hi' (by simpa [e1.2.1] using hb)⟩, rfl⟩
  · have e2 : (m2M x f).wait = 4 ∧ (m2M x f).heard = x.heard ||| 2 ^ f.fr.toNat ∧ (m2M x f).w = w := ⟨by rw [← h4]; exact e1.1, rfl, by rw [← hww]; exact e1.2.2⟩
    have hv2 : VainL sn w.length (m2M x f) := ⟨.inl e2.1, fun i hi' hb => by
      rw [e2.2.1] at hb
      rcases bit_or.1 hb with hb | hb
      · exact hv.2 i hi' hb
      · rw [hb]; exact hf⟩
    have hlt : (m2M x f).heard < 2 ^ w.length := by
      rw [e2.2.1]
      rw [hww] at hfr
      exact heard_lt hi.heard (by omega)
    have hno : (enoughW (m2M x f).w (m2M x f).heard).1 = false := by
      rw [e2.2.2, en_ok hc hlt]
      cases hq2 : quor w (m2M x f).heard with
      | false => rfl
      | true =>
        have := quor_sub hc hq2 hlt (b := sn) fun i hi' hb => (inS_bit sn i).1 (hv2.2 i hi' hb)
        rw [hq] at this
        cases this
    unfold countM
    rw [if_neg (by rw [e2.1]; omega), if_pos (.inr hno)]
    exact ⟨hv2, rfl⟩
theorem vain_hears {w : List Int} {sn s d : Nat} (hc : checkW w = none) (hs : s < w.length) (hwl : w.length ≤ 7) (hd : d < 6) (hq : quor w sn = false) : ∀ (l : List Fr) (x : Ld), LdI w s d x → VainL sn w.length x → (∀ f ∈ l, inS sn f.fr.toNat = true ∧ okF w.length f) →
    VainL sn w.length (l.foldl (fun q f => ((hearM q.1 f).1, q.2 ++ (hearM q.1 f).2)) (x, [])).1 ∧ (l.foldl (fun q f => ((hearM q.1 f).1, q.2 ++ (hearM q.1 f).2)) (x, [])).2 = []
  | [], x, hi, hv, _ => ⟨hv, rfl⟩
  | f :: l, x, hi, hv, hl => by
    rw [List.foldl_cons]
    obtain ⟨k1, k2⟩ := vain_hear hc hq hi hv (hl f (by simp)).1
    simp only [k2, List.append_nil]
    exact vain_hears hc hs hwl hd hq l _ (hi.hear hs hwl hd (hl f (by simp)).2.1).1 k1 fun g hg => hl g (by simp [hg])
/-- links are whole between sites of a set alone -/
def CutOff (set : Int) (n : Nat) (br : Int × Int → Bool) : Prop := ∀ a b : Nat, a < n → b < n → a ≠ b → ¬ (inS set a = true ∧ inS set b = true) → br (min (a : Int) b, max (a : Int) b) = true
/-- a deal that none of the set has decided -/
structure WaitI (set : Int) (d : Nat) (M : Wm) : Prop where
  br : CutOff set M.w.length M.br
  nf : ∀ s, s < M.w.length → inS set s = true → ¬ fin (stW M s d).ph
  ld : ∀ s, s < M.w.length → inS set s = true → ∀ x, ldW M s d = some x → VainL set M.w.length x
  fr : ∀ f ∈ M.l, f.dl = d → (f.kd = 3 ∨ f.kd = 4) ∧ inS set f.fr.toNat = true
theorem turn_nf {ref : Int → Bool} {f : Fr} {st : St} (hk : f.kd = 3 ∨ f.kd = 4) (h : ¬ fin st.ph) : ¬ fin (turnM ref f st).1.ph ∧ ((turnM ref f st).2.1 ≠ 0 → (turnM ref f st).2.1 = 4) := by
  unfold turnM
  rw [if_neg (by omega)]
  rcases hk with hk | hk
  · rw [if_pos hk]
    exact ⟨h, fun _ => rfl⟩
  · rw [if_neg (by omega), if_neg (by omega), if_neg (by omega)]
    exact ⟨h, fun e => absurd rfl e⟩
theorem wait_deliver {M : Wm} (hI : WI M) {sn d : Nat} (hd : d < 6) (hq : quor M.w sn = false) (h : WaitI sn d M) {f : Fr} {r : List Fr} (e : M.l = f :: r) : WaitI sn d (deliverW M 0).1 := by
  obtain ⟨⟨hbad, hto, hfr⟩, hv⟩ := deliver_view hI e
  have hS := (deliver_ok hI 0).same
  have hw := hS.w
  have hn := hI.wn
  obtain ⟨hdl, hdl6⟩ := dl_nat hbad
  have hrm : ∀ g ∈ r, g ∈ M.l := fun g hg => by rw [e]; exact List.mem_cons_of_mem _ hg
  have hfm : f ∈ M.l := by rw [e]; simp
  have hb2 := hbad
  unfold badF at hb2
  -- to whom it comes, if it is the deal's
  have hset : f.dl = d → M.br (linkP f) = false → inS sn f.to.toNat = true := fun hfd hbr => by
    have h2 := (h.fr f hfm hfd).2
    by_cases hft : f.to = f.fr
    · rw [hft]; exact h2
    · cases hin : inS (sn : Int) f.to.toNat with
      | true => rfl
      | false =>
        have := h.br f.fr.toNat f.to.toNat (by omega) (by omega) (by omega) (fun hx => by rw [hin] at hx; cases hx.2)
        have e2 : linkP f = (min ((f.fr.toNat : Nat) : Int) (f.to.toNat : Nat), max ((f.fr.toNat : Nat) : Int) (f.to.toNat : Nat)) := by
          unfold linkP
          rw [show ((f.fr.toNat : Nat) : Int) = f.fr by omega, show ((f.to.toNat : Nat) : Int) = f.to by omega]
        rw [← e2, hbr] at this
        cases this
  cases hv with
  | gone e1 why =>
    rw [e1]
    exact ⟨h.br, h.nf, h.ld, fun g hg => h.fr g (hrm g hg)⟩
  | lead x hx hi hk hbr up br l st ld lv =>
    have hvl : f.dl = d → VainL sn M.w.length (hearM x f).1 ∧ (hearM x f).2 = [] := fun hfd => by
      refine vain_hear hI.w0 hq hi (h.ld f.to.toNat (by omega) (hset hfd hbr) x ?_) (h.fr f hfm hfd).2
      rw [← hx]
      congr 1
      omega
    refine ⟨by rw [br, hw]; exact h.br, fun s hs hin => by rw [st]; exact h.nf s (by rw [← hw]; exact hs) hin, fun s hs hin y hy => ?_, fun g hg hgd => ?_⟩
    · rw [ld] at hy
      rw [hw] at hs ⊢
      split at hy
      · rename_i hc
        cases hy
        exact (hvl (by omega)).1
      · exact h.ld s hs hin y hy
    · rw [l] at hg
      rcases List.mem_append.1 hg with hg | hg
      · exact h.fr g (hrm g hg) hgd
      · have hgd2 := (hear_frames g hg).2.1
        rw [hi.deal] at hgd2
        rw [(hvl (by omega)).2] at hg
        cases hg
  | hear hk hbr up e1 =>
    have hE : WI { M with l := r } := by
      have := hI.erase 0
      rw [e] at this
      exact this
    have hV := hear_view hE (s := f.to.toNat) (by simp only; omega) f
    rw [e1]
    refine ⟨h.br, fun s hs hin => ?_, fun s hs hin y hy => ?_, fun g hg hgd => ?_⟩
    · have h0 := h.nf s hs hin
      rcases hV.st s d hd with k | ⟨k1, k2, ref, k3⟩
      · show ¬ fin (stW (hearW { M with l := r } f.to.toNat f).1 s d).ph
        rw [k]; exact h0
      · show ¬ fin (stW (hearW { M with l := r } f.to.toNat f).1 s d).ph
        rw [k3]
        exact (turn_nf ((h.fr f hfm (by omega)).1) h0).1
    · rcases hV.ld s d with k | ⟨k1, k2⟩
      · refine h.ld s hs hin y ?_
        have hy' : ldW (hearW { M with l := r } f.to.toNat f).1 s d = some y := hy
        rw [k] at hy'
        exact hy'
      · have hy' : ldW (hearW { M with l := r } f.to.toNat f).1 s d = some y := hy
        rw [k2] at hy'; cases hy'
    · rcases List.mem_append.1 hg with hg | hg
      · exact h.fr g (hrm g hg) hgd
      · obtain ⟨ref, rfl, hk0⟩ := hV.an g hg
        simp only at hgd ⊢
        have hin := hset hgd hbr
        have h0 := h.nf f.to.toNat (by omega) hin
        have hdn : f.dl.toNat = d := by omega
        rw [hdn] at hk0 ⊢
        refine ⟨.inr ((turn_nf ((h.fr f hfm hgd).1) h0).2 hk0), ?_⟩
        show inS (sn : Int) ((f.to.toNat : Nat) : Int).toNat = true
        rw [Int.toNat_natCast]
        exact hin
theorem try_told {M : Wm} (hI : WI M) {s d : Nat} (h1 : s < M.n.length) (a : Int) : ∀ y ∈ (hearW M s (tryF s d a)).2.1, y.fr = s ∧ y.kd = 4 ∧ y.dl = d ∧ y.att = a := fun y hy => by
  obtain ⟨ref, rfl, hk0⟩ := (hear_view hI h1 (tryF s d a)).an y hy
  refine ⟨rfl, ?_, rfl, rfl⟩
  rcases turn_kd hk0 with ⟨k1, -⟩ | ⟨-, k2⟩ | ⟨k1, -⟩
  · have : (3 : Int) = 1 := k1; omega
  · exact k2
  · have : (3 : Int) = 5 := k1; omega
theorem start_kd {m : Ld} (h : m.att ≠ 0) : ∀ y ∈ startM m, y.kd = 3 ∧ y.fr = m.id ∧ y.dl = m.deal ∧ y.att = m.att := fun y hy => by
  obtain ⟨e1, e2, e3, -, e5⟩ := start_frames y hy
  rw [if_neg h] at e5
  exact ⟨e5, e1, e2, e3⟩
theorem try_pos {M : Wm} (hI : WI M) {s d : Nat} (hs : s < M.n.length) (hd : d < 6) {p : Int} (hp : 0 ≤ p ∧ p ≤ 1048576) : 1 ≤ tryAtt M.w.length s (tryAbove (ndAt M s) d p + 1) := by
  have h1 := tryAtt_le (k := M.w.length) (s := (s : Int)) (a := tryAbove (ndAt M s) d p + 1) (by have := hI.w1; omega)
  have h2 := tryAbove_ok (hI.at (s := (s : Int)) (by omega) (by omega)) (d := (d : Int)) (p := p) (by omega) hp
  omega
/-- a try of any deal -/
theorem try_same {M : Wm} {s d p : Int} : Same M (tryW M s d p).1 := by
  have hS := same_hear M s (tryF s d (tryAtt M.w.length s (tryAbove (ndAt M s) d p + 1)))
  unfold tryW
  simp only
  split
  · exact .refl _
  split
  · exact hS
  · exact hS.trans ⟨rfl, by simp [setN]⟩
theorem wait_try {M : Wm} (hI : WI M) {sn d s e : Nat} (hd : d < 6) (hq : quor M.w sn = false) (h : WaitI sn d M) (hs : s < M.n.length) (hin : inS sn s = true) (he : e < 6) {p : Int} (hp : 0 ≤ p ∧ p ≤ 1048576) : WaitI sn d (tryW M s e p).1 := by
  have hv := try_view hI hs he p
  have ha := try_pos hI hs he hp
  have hn := hI.wn
  generalize tryAtt M.w.length s (tryAbove (ndAt M s) e p + 1) = a at *
  have hV := hear_view hI hs (tryF s e a)
  have htold := try_told hI hs (d := e) a
  have hw : (hearW M s (tryF s e a)).1.w = M.w := rfl
  have h3 : (tryF s e a).kd = 3 := rfl
  have hde : (tryF s e a).dl.toNat = e := by show ((e : Int)).toNat = e; simp
  obtain ⟨hIR, hansok⟩ := hI.hear (s := (s : Int)) (f := tryF s e a) (by omega) (by omega) (by show (s : Int) < _; omega)
  have hR : WaitI sn d (hearW M s (tryF s e a)).1 := by
    refine ⟨h.br, fun t ht hti => ?_, fun t ht hti y hy => ?_, fun g hg => h.fr g hg⟩
    · have h0 := h.nf t ht hti
      rcases hV.st t d hd with k | ⟨k1, k2, ref, k3⟩
      · rw [k]; exact h0
      · rw [k3]; exact (turn_nf (.inl h3) h0).1
    · rcases hV.ld t d with k | ⟨k1, k2⟩
      · rw [k] at hy; exact h.ld t ht hti y hy
      · rw [k2] at hy; cases hy
  cases hv with
  | far _ e1 => rw [e1]; exact h
  | fell _ _ e1 => rw [e1]; exact hR
  | began hle hr hb br l st ld lv =>
    have hNI : LdI M.w s e (newLd s e M.w a 4) := newLd_I (by omega) (by omega)
    have hnv : VainL sn M.w.length (newLd s e M.w a 4) := ⟨.inl rfl, fun i _ hb => absurd hb bit_zero⟩
    have hvh := vain_hears hI.w0 (by omega) hI.wl he hq (hearW M s (tryF s e a)).2.1 (newLd s e M.w a 4) hNI hnv fun f hf => ⟨by rw [(htold f hf).1]; simpa using hin, hansok f hf⟩
    change VainL sn M.w.length (hearsM (newLd s e M.w a 4) (hearW M s (tryF s e a)).2.1).1 ∧ (hearsM (newLd s e M.w a 4) (hearW M s (tryF s e a)).2.1).2 = [] at hvh
    have hwq : (tryW M s e p).1.w = M.w := try_same.w
    refine ⟨by rw [br, hwq]; exact h.br, fun t ht hti => by rw [st]; exact hR.nf t (by rw [hwq] at ht; exact ht) hti, fun t ht hti y hy => ?_, fun g hg hgd => ?_⟩
    · rw [hwq] at ht ⊢
      rw [ld] at hy
      split at hy
      · cases hy; exact hvh.1
      · exact hR.ld t ht hti y hy
    · rw [l, hvh.2, List.append_nil] at hg
      rcases List.mem_append.1 hg with hg | hg
      · exact h.fr g hg hgd
      · obtain ⟨k1, k2, -⟩ := start_kd (m := newLd s e M.w a 4) (by show a ≠ 0; omega) g hg
        refine ⟨.inl k1, ?_⟩
        rw [k2]
        simpa [newLd] using hin
theorem wait_tickD {M : Wm} {q : Wm × Bool} {sn d s k e : Nat} (hT : TickOk M q s k) (hd : d < 6) (hq : quor M.w sn = false) (h : WaitI sn d q.1) (hs : s < M.n.length) (hin : inS sn s = true) (he : e < 6) : WaitI sn d (tickD s q e).1 := by
  obtain ⟨M1, b⟩ := q
  have hn := hT.same.n
  have hw := hT.same.w
  simp only at hn hw h
  have hwn := hT.wi.wn
  simp only at hwn
  unfold tickD
  split
  · exact h
  split
  · exact h
  rename_i hb _ j ref hsj
  have hs' : (ndAt M1 s).site = some (j, ref) := hsj
  have hni := hT.wi.at (s := (s : Int)) (by omega) (by simp only; omega)
  have ej := st_eq hni hs' e
  have hS := (hni.jn hs').st e he
  split
  · exact h
  split
  · rename_i hf
    refine ⟨h.br, h.nf, h.ld, fun g hg hgd => ?_⟩
    have hg' : g ∈ M1.l ++ decideF M1 s e (stAt j e) := hg
    rcases List.mem_append.1 hg' with hg' | hg'
    · exact h.fr g hg' hgd
    · exfalso
      unfold decideF at hg'
      obtain ⟨i, hi, rfl⟩ := List.mem_map.1 hg'
      have hed : e = d := by simp only at hgd; omega
      subst hed
      refine h.nf s (by show s < M1.w.length; omega) hin ?_
      unfold stW
      rw [← ej]
      exact hf
  · obtain ⟨g1, g2, g3, g4, g5⟩ := hS
    exact wait_try hT.wi (by exact hd) (by show quor M1.w sn = false; rw [hw]; exact hq) h (by show s < M1.n.length; omega) hin he (by omega)
theorem wait_ticks {M : Wm} (hI : WI M) {sn d s : Nat} (hd : d < 6) (hq : quor M.w sn = false) (h : WaitI sn d M) (hs : s < M.n.length) (hin : inS sn s = true) (hup : (ndAt M (s : Int)).site ≠ none) : ∀ k, k ≤ 6 → WaitI sn d ((List.range k).foldl (tickD s) (M, true)).1
  | 0, _ => h
  | k + 1, hk => by
    rw [List.range_succ, List.foldl_append]
    exact wait_tickD (ticks_ok hI (by omega) (by omega) hup k (by omega)) hd hq (wait_ticks hI hd hq h hs hin hup k (by omega)) hs hin (by omega)
theorem wait_tick {M : Wm} (hI : WI M) {sn d s : Nat} (hd : d < 6) (hq : quor M.w sn = false) (h : WaitI sn d M) (hs : s < M.n.length) (hin : inS sn s = true) : WaitI sn d (tickW M s).1 := by
  unfold tickW
  split
  · exact h
  · rename_i hu
    exact wait_ticks hI hd hq h hs hin (up_site hu).2.2 6 (by omega)
theorem wait_round {M : Wm} (hI : WI M) {sn d : Nat} (hd : d < 6) (hq : quor M.w sn = false) (h : WaitI sn d M) : WaitI sn d (roundW sn M).1 := by
  have h1 := ticks_ind (P := WaitI sn d) (set := (sn : Int)) hI h (fun M1 s a b c c2 h => wait_tick a hd (by rw [b.w]; exact hq) h (by rw [b.n]; exact c) c2) M.n.length (Nat.le_refl _)
  have h2 := ticksS_ok hI (sn : Int) M.n.length
  exact (drain_ind (P := fun M1 => M1.w = M.w ∧ WaitI sn d M1) (fun M1 a b c => by
    obtain ⟨f, r, e⟩ := List.exists_cons_of_ne_nil b
    exact ⟨by rw [(deliver_ok a 0).same.w, c.1], wait_deliver a hd (by rw [c.1]; exact hq) c.2 e⟩) _ (Nat.le_refl _) h2.wi ⟨h2.same.w, h1⟩).2.1.2
theorem wait_rounds {M : Wm} (hI : WI M) {sn d : Nat} (hd : d < 6) (hq : quor M.w sn = false) (h : WaitI sn d M) : ∀ k, WaitI sn d (roundsW sn k M).1
  | 0 => h
  | k + 1 => by
    obtain ⟨a1, a2, -, -⟩ := rounds_ok hI (sn : Int) k
    exact wait_round a1 hd (by rw [a2.w]; exact hq) (wait_rounds hI hd hq h k)
end Go.HL
end

/-! EdF -/
section
namespace Go.HL
open Go Go.Proofs
set_option linter.unusedVariables false
set_option linter.unusedSimpArgs false
def linkA (set : Int) (M : Wm) (a b : Nat) : Wm := (linkW M a b (inS set a && inS set b)).1
def linksA (set : Int) (a k : Nat) (M : Wm) : Wm := (List.range k).foldl (fun M b => linkA set M a b) M
def bootA (set : Int) (M : Wm) (a : Nat) : Wm := if inS set a then (upW (downW M a).1 a).1 else M
def prepA (set : Int) (n : Nat) (M : Wm) (a : Nat) : Wm := bootA set (linksA set a n M) a
def prepW (set : Int) (n k : Nat) (M : Wm) : Wm := (List.range k).foldl (prepA set n) M
theorem linksA_succ (set : Int) (a k : Nat) (M : Wm) : linksA set a (k + 1) M = linkA set (linksA set a k M) a k := by
  unfold linksA
  rw [List.range_succ, List.foldl_append]
  rfl
theorem prepW_succ (set : Int) (n k : Nat) (M : Wm) : prepW set n (k + 1) M = prepA set n (prepW set n k M) k := by
  unfold prepW
  rw [List.range_succ, List.foldl_append]
  rfl
structure PrepI (M0 M : Wm) : Prop where
  wi : WI M
  same : Same M0 M
  safe : SafeW M0 → SafeW M
  ev : EvW M0 → EvW M
  l : M.l = M0.l
  st : ∀ t d, stW M t d = stW M0 t d
  bn : ∀ P N, Bnd M0 P N → Bnd M P N
theorem PrepI.refl {M : Wm} (h : WI M) : PrepI M M := ⟨h, .refl _, id, id, rfl, fun _ _ => rfl, fun _ _ h => h⟩
theorem PrepI.trans {A B C : Wm} (h : PrepI A B) (h' : PrepI B C) : PrepI A C := ⟨h'.wi, h.same.trans h'.same, fun s => h'.safe (h.safe s), fun s => h'.ev (h.ev s), h'.l.trans h.l, fun t d => (h'.st t d).trans (h.st t d), fun P N b => h'.bn P N (h.bn P N b)⟩
def xLink (a b : Int) (w : Bool) : StpS := if w then ⟨[108, 105, 110, 107], a, b, 0⟩ else ⟨[98, 114, 101, 97, 107], a, b, 0⟩
theorem xLink_e (M : Wm) (a b : Int) (w : Bool) : actW M (xLink a b w) = linkW M a b w := by
  unfold actW xLink
  cases w <;> simp
def xDown (a : Int) : StpS := ⟨[100, 111, 119, 110], a, 0, 0⟩
theorem xDown_e (M : Wm) (a : Int) : actW M (xDown a) = downW M a := by unfold actW xDown; simp
def xUp (a : Int) : StpS := ⟨[117, 112], a, 0, 0⟩
theorem xUp_e (M : Wm) (a : Int) : actW M (xUp a) = upW M a := by unfold actW xUp; simp
def tgtB (set : Int) (x : Int × Int) : Bool := !(inS set x.1.toNat && inS set x.2.toNat) && decide (x.1 ≠ x.2)
theorem link_node (M : Wm) (a b : Int) (w : Bool) : (linkW M a b w).1.n = M.n ∧ (linkW M a b w).1.l = M.l ∧ (linkW M a b w).1.ev = M.ev ∧ (linkW M a b w).1.w = M.w := by
  unfold linkW
  split <;> exact ⟨rfl, rfl, rfl, rfl⟩
theorem link_prep {M : Wm} (hI : WI M) (a b : Int) (w : Bool) : PrepI M (linkW M a b w).1 := by
  obtain ⟨h1, h2, h3, h4⟩ := link_node M a b w
  have hnd : ∀ t : Nat, ndAt (linkW M a b w).1 (t : Int) = ndAt M (t : Int) := fun t => by unfold ndAt; rw [h1]
  refine ⟨(link_ok hI a b w).wi, (link_ok hI a b w).same, fun s => safe_link hI s a b w, fun e => ?_, h2, fun t d => by unfold stW; rw [hnd], fun P N h => ?_⟩
  · have := ev_act hI e (xLink a b w)
    rw [xLink_e] at this
    exact this
  · exact h.of h4 (fun t d => by unfold stW; rw [hnd]) (fun t d => by unfold nmW; rw [hnd]) (fun t d x _ _ hx => .inl (by unfold ldW at hx ⊢; rw [hnd] at hx; exact hx)) fun f hf => .inl (by rw [h2] at hf; exact hf)
theorem linkA_br {set : Int} {M : Wm} (a b : Nat) (ha : a < M.n.length) (hb : b < M.n.length) (x : Int × Int) : (linkA set M a b).br x = if x = (min (a : Int) b, max (a : Int) b) then tgtB set x else M.br x := by
  unfold linkA linkW
  rw [if_neg (by omega)]
  simp only
  split
  · rename_i h
    subst h
    unfold tgtB
    simp only
    have key : ∀ p q : Nat, (!(inS set p && inS set q) && decide ((p : Int) ≠ q)) = (!(inS set q && inS set p) && decide ((q : Int) ≠ p)) := fun p q => by
      rw [Bool.and_comm (inS set p)]
      congr 1
      exact decide_eq_decide.2 ⟨fun h e => h e.symm, fun h e => h e.symm⟩
    rcases Nat.le_total a b with h | h
    · rw [show min (a : Int) b = a by omega, show max (a : Int) b = b by omega, Int.toNat_natCast, Int.toNat_natCast]
    · rw [show min (a : Int) b = b by omega, show max (a : Int) b = a by omega, Int.toNat_natCast, Int.toNat_natCast]
      exact key a b
  · rfl
/-- a site that was made anew -/
def RbW (M : Wm) (a : Nat) : Prop := LiveW M a ∧ (∀ d, ldW M a d = none) ∧ ∃ j, (ndAt M (a : Int)).site = some (j, fun _ => false)
theorem down_node {M : Wm} (hI : WI M) {a : Nat} (ha : a < M.n.length) : (ndAt (downW M a).1 (a : Int)).site = none ∧ (ndAt (downW M a).1 (a : Int)).leads.length = 6 ∧ (∀ d : Nat, (ndAt (downW M a).1 (a : Int)).leads.getD d none = none ∨ (downW M a).1 = M) ∧ (∀ t : Nat, t ≠ a → ndAt (downW M a).1 (t : Int) = ndAt M (t : Int)) ∧ (downW M a).1.l = M.l ∧ (downW M a).1.br = M.br ∧ (ndAt (downW M a).1 (a : Int)).pl.b = (ndAt M (a : Int)).pl.b := by
  have h6 := (hI.at (s := (a : Int)) (by omega) (by omega)).leads
  unfold downW
  split
  · rename_i e hu
    unfold upE at hu
    rw [nodeE_ok (by omega) (by omega)] at hu
    simp only at hu
    split at hu
    · rename_i hs
      exact ⟨Option.isNone_iff_eq_none.1 hs, h6, fun d => .inr rfl, fun t _ => rfl, rfl, rfl, rfl⟩
    · cases hu
  · have e : ndAt (setN M a (downN (ndAt M a))) (a : Int) = downN (ndAt M a) := ndAt_set (by omega) (by omega)
    simp only [e]
    refine ⟨rfl, by simp [downN, noLeads], fun d => .inl (noLeads_getD d), fun t ht => ?_, rfl, rfl, rfl⟩
    rw [Ze (by omega) (by omega), if_neg (by omega)]
theorem boot_view {M : Wm} (hI : WI M) {a : Nat} (ha : a < M.n.length) (hld : (ndAt M (a : Int)).site = none → ∀ d, ldW M a d = none) : (upW (downW M a).1 a).2 = none ∧ PrepI M (upW (downW M a).1 a).1 ∧ (upW (downW M a).1 a).1.br = M.br ∧ RbW (upW (downW M a).1 a).1 a ∧ ∀ t : Nat, t ≠ a → ndAt (upW (downW M a).1 a).1 (t : Int) = ndAt M (t : Int) := by
  obtain ⟨d1, d2, d3, d4, d5, d6, d7⟩ := down_node hI ha
  have hok := down_ok hI (a : Int)
  have hok2 := up_ok hok.wi (a : Int)
  have hn1 : (a : Int) < (downW M a).1.n.length := by rw [hok.same.n]; omega
  have hs1 : SafeW M → SafeW (downW M a).1 := fun s => safe_down hI s _
  have hs2 : SafeW (downW M a).1 → SafeW (upW (downW M a).1 a).1 := fun s => safe_up hok.wi s _
  have he : EvW M → EvW (upW (downW M a).1 a).1 := fun e => by
    have h1 := ev_act hI e (xDown a)
    rw [xDown_e] at h1
    have h2 := ev_act hok.wi h1 (xUp a)
    rw [xUp_e] at h2
    exact h2
  have hld2 : ∀ d : Nat, (ndAt (downW M a).1 (a : Int)).leads.getD d none = none := fun d => by
    rcases d3 d with k | k
    · exact k
    · rw [k]
      exact hld (by rw [k] at d1; exact d1) d
  generalize (downW M a).1 = M1 at *
  have hu : upW M1 a = ({ setN M1 a { bootN (ndAt M1 a) with done := (noteN a (bootN (ndAt M1 a)) M1.ev).1 } with ev := (noteN a (bootN (ndAt M1 a)) M1.ev).2 }, none) := by
    unfold upW
    rw [nodeE_ok (by omega) hn1]
    simp only
    rw [d1]
    rfl
  rw [hu] at hok2 hs2 he ⊢
  have hnd : ∀ t : Nat, ndAt { setN M1 a { bootN (ndAt M1 a) with done := (noteN a (bootN (ndAt M1 a)) M1.ev).1 } with ev := (noteN a (bootN (ndAt M1 a)) M1.ev).2 } (t : Int) = if (t : Int) = a then { bootN (ndAt M1 a) with done := (noteN a (bootN (ndAt M1 a)) M1.ev).1 } else ndAt M1 (t : Int) := fun t => Ze (by omega) hn1 t
  have hoth : ∀ t : Nat, t ≠ a → ndAt { setN M1 a { bootN (ndAt M1 a) with done := (noteN a (bootN (ndAt M1 a)) M1.ev).1 } with ev := (noteN a (bootN (ndAt M1 a)) M1.ev).2 } (t : Int) = ndAt M (t : Int) := fun t ht => by
    rw [hnd, if_neg (by omega), d4 t ht]
  have hb : ∀ t : Nat, (ndAt { setN M1 a { bootN (ndAt M1 a) with done := (noteN a (bootN (ndAt M1 a)) M1.ev).1 } with ev := (noteN a (bootN (ndAt M1 a)) M1.ev).2 } (t : Int)).pl.b = (ndAt M (t : Int)).pl.b := fun t => by
    by_cases ht : t = a
    · subst ht
      rw [hnd, if_pos rfl]
      exact d7
    · rw [hoth t ht]
  have hrb : RbW { setN M1 a { bootN (ndAt M1 a) with done := (noteN a (bootN (ndAt M1 a)) M1.ev).1 } with ev := (noteN a (bootN (ndAt M1 a)) M1.ev).2 } a := by
    refine ⟨?_, fun d => ?_, ?_⟩
    · unfold LiveW LiveN
      rw [hnd, if_pos rfl]
      exact ⟨by simp [bootN], rfl⟩
    · unfold ldW
      rw [hnd, if_pos rfl]
      exact hld2 d
    · rw [hnd, if_pos rfl]
      exact ⟨_, rfl⟩
  refine ⟨rfl, ⟨hok2.wi, hok.same.trans hok2.same, fun s => hs2 (hs1 s), he, d5, fun t d => ?_, fun P N h => ?_⟩, d6, hrb, hoth⟩
  · unfold stW plSt
    rw [hb]
  · refine h.of hok.same.w (fun t d => by unfold stW plSt; rw [hb]) (fun t d => by unfold nmW numAt; rw [hb]) (fun t d x _ _ hx => .inl ?_) fun f hf => .inl (by rw [← d5]; exact hf)
    by_cases ht : t = a
    · subst ht
      rw [hrb.2.1] at hx
      cases hx
    · unfold ldW at hx ⊢
      rw [hoth t ht] at hx
      exact hx
end Go.HL
end

/-! EdG -/
section
namespace Go.HL
open Go Go.Proofs
set_option linter.unusedVariables false
set_option linter.unusedSimpArgs false
def DnN (m : Nd) : Prop := m.site = none → ∀ d, m.leads.getD d none = none
def DnA (M : Wm) : Prop := ∀ s : Nat, DnN (ndAt M (s : Int))
theorem DnA.set {M : Wm} (h : DnA M) {s : Int} (h0 : 0 ≤ s) (h1 : s < M.n.length) {m : Nd} (hm : DnN m) : DnA (setN M s m) := fun t => by
  rw [Ze h0 h1]
  split
  · exact hm
  · exact h t
theorem DnA.at {M : Wm} (h : DnA M) {s : Int} (h0 : 0 ≤ s) : DnN (ndAt M s) := by
  have := h s.toNat
  rw [show ((s.toNat : Nat) : Int) = s by omega] at this
  exact this
theorem hear_dn (s : Int) {m : Nd} (h : DnN m) (ev : List Evt) (f : Fr) : DnN (hearNd s m ev f).1 := by
  unfold hearNd
  split
  · exact h
  split
  · exact fun _ d => noLeads_getD d
  · exact fun e => by cases e
theorem DnA.hear {M : Wm} (h : DnA M) {s : Int} (h0 : 0 ≤ s) (h1 : s < M.n.length) (f : Fr) : DnA (hearW M s f).1 := h.set h0 h1 (hear_dn s (h.at h0) M.ev f)
theorem DnA.up {M : Wm} (h : DnA M) {s : Int} (h0 : 0 ≤ s) (h1 : s < M.n.length) {m : Nd} (hm : m.site ≠ none) : DnA (setN M s m) := h.set h0 h1 fun e => absurd e hm
theorem DnA.try {M : Wm} (h : DnA M) {s d p : Int} (h0 : 0 ≤ s) (h1 : s < M.n.length) : DnA (tryW M s d p).1 := by
  unfold tryW
  simp only
  generalize tryAtt M.w.length s (tryAbove (ndAt M s) d p + 1) = a
  split
  · exact h
  have hR := h.hear h0 h1 (tryF s d a)
  have hS := same_hear M s (tryF s d a)
  have hu := hearW_site (M := M) (f := tryF s d a) h0 h1
  split
  · exact hR
  · rename_i hr
    exact DnA.up (M := (hearW M s (tryF s d a)).1) hR h0 (by rw [hS.n]; exact h1) (hu (by simpa using hr))
theorem DnA.tickD {M : Wm} {q : Wm × Bool} {s : Int} {k d : Nat} (h : DnA q.1) (hT : TickOk M q s k) (h0 : 0 ≤ s) (h1 : s < M.n.length) : DnA (HL.tickD s q d).1 := by
  have hn := hT.same.n
  unfold HL.tickD
  split
  · exact h
  split
  · exact h
  split
  · exact h
  split
  · exact h
  · exact h.try h0 (by rw [hn]; exact h1)
theorem DnA.tick {M : Wm} (h : DnA M) (hI : WI M) (s : Int) : DnA (tickW M s).1 := by
  unfold tickW
  split
  · exact h
  · rename_i hu
    obtain ⟨h0, h1, hs⟩ := up_site hu
    have key : ∀ k, k ≤ 6 → DnA ((List.range k).foldl (HL.tickD s) (M, true)).1 := fun k => by
      induction k with
      | zero => exact fun _ => h
      | succ k ih =>
        intro hk
        rw [List.range_succ, List.foldl_append]
        exact DnA.tickD (ih (by omega)) (ticks_ok hI h0 h1 hs k (by omega)) h0 h1
    exact key 6 (by omega)
theorem DnA.deliver {M : Wm} (h : DnA M) (hI : WI M) (k : Int) : DnA (deliverW M k).1 := by
  have hn := hI.wn
  unfold deliverW
  split
  · exact h
  rename_i hk
  obtain ⟨⟨hbad, hto, hfr⟩, hk0, hk1⟩ := frame_at hI hk
  generalize M.l.getD k.toNat zeroF = f at *
  unfold badF at hbad
  have hE : DnA { M with l := M.l.eraseIdx k.toNat } := h
  simp only
  split
  · exact hE
  rename_i hup
  split
  · split
    · exact hE
    · refine DnA.up (M := { M with l := M.l.eraseIdx k.toNat }) hE (s := f.to) (by omega) (by simp only; omega) (m := { ndAt { M with l := M.l.eraseIdx k.toNat } f.to with leads := _ }) ?_
      intro e
      refine hup (.inl ?_)
      have e' : (ndAt { M with l := M.l.eraseIdx k.toNat } f.to).site = none := e
      rw [e']
      rfl
  · exact DnA.hear hE (by omega) (by simp only; omega) f
theorem DnA.act {M : Wm} (h : DnA M) (hI : WI M) (x : StpS) : DnA (actW M x).1 := by
  have hlk : ∀ a b c, DnA (linkW M a b c).1 := fun a b c => by unfold linkW; split <;> exact h
  unfold actW
  split
  · unfold beginW
    split
    · exact h
    rename_i hb
    split
    · exact h
    split
    · exact h
    rename_i hu _
    obtain ⟨h0, h1, hs⟩ := up_site hu
    exact h.up (m := { ndAt M x.s with leads := _ }) h0 h1 hs
  split
  · unfold refuseW
    split
    · exact h
    split
    · exact h
    rename_i hu
    obtain ⟨h0, h1, hs⟩ := up_site hu
    refine h.up h0 h1 ?_
    unfold refuseN
    split
    · exact hs
    · simp
  split
  · exact h.tick hI _
  split
  · unfold downW
    split
    · exact h
    rename_i hu
    obtain ⟨h0, h1, -⟩ := up_site hu
    exact h.set h0 h1 fun _ d => noLeads_getD d
  split
  · unfold upW
    split
    · exact h
    split
    · exact h
    rename_i hu _
    obtain ⟨h0, h1⟩ := nodeE_none hu
    exact h.up (m := { bootN (ndAt M x.s) with done := _ }) h0 h1 (by simp [bootN])
  split
  · unfold dropW; split <;> exact h
  split
  · unfold twiceW; split <;> exact h
  split
  · exact hlk _ _ _
  split
  · exact hlk _ _ _
  split
  · unfold cutW
    split
    · exact h
    split
    · exact h
    rename_i hu
    obtain ⟨h0, h1, hs⟩ := up_site hu
    exact h.up (m := { ndAt M x.s with pl := _ }) h0 h1 hs
  · exact h.deliver hI _
theorem dn_new (w : List Int) : DnA (newW w) := fun s => by
  unfold ndAt newW
  simp only [List.getD, List.getElem?_replicate]
  split
  · exact fun e => by cases e
  · exact fun _ d => rfl
theorem dn_acts : ∀ (l : List StpS) {M : Wm}, WI M → DnA M → (∀ x ∈ l, x.n ≤ 9223372036854775807) → DnA (actsW M l)
  | [], M, hI, h, _ => h
  | x :: l, M, hI, h, hx => dn_acts l (act_ok hI x (hx x (by simp))).wi (h.act hI x) fun y hy => hx y (by simp [hy])
/-- so far: links of all sites below k, and these sites -/
structure PrpK (set : Int) (M0 M : Wm) (k : Nat) : Prop where
  pi : PrepI M0 M
  nd : ∀ t : Nat, k ≤ t → ndAt M (t : Int) = ndAt M0 (t : Int)
  rb : ∀ a, a < k → inS set a = true → RbW M a
  br : ∀ a b : Nat, a < k → b < M0.n.length → M.br (min (a : Int) b, max (a : Int) b) = tgtB set (min (a : Int) b, max (a : Int) b)
theorem RbW.same {M M' : Wm} {a : Nat} (h : RbW M a) (e : ndAt M' (a : Int) = ndAt M (a : Int)) : RbW M' a := by
  unfold RbW LiveW ldW at *
  rw [e]
  exact h
/-- links of one site -/
theorem links_view {set : Int} {M : Wm} (hI : WI M) {a : Nat} (ha : a < M.n.length) : ∀ k, k ≤ M.n.length → PrepI M (linksA set a k M) ∧ (linksA set a k M).n = M.n ∧ (∀ b : Nat, b < k → (linksA set a k M).br (min (a : Int) b, max (a : Int) b) = tgtB set (min (a : Int) b, max (a : Int) b)) ∧ ∀ x, M.br x = tgtB set x → (linksA set a k M).br x = tgtB set x
  | 0, _ => ⟨.refl hI, rfl, fun b hb => by omega, fun x h => h⟩
  | k + 1, hk => by
    obtain ⟨h1, h2, h3, h4⟩ := links_view (set := set) hI ha k (by omega)
    rw [linksA_succ]
    have hbr := linkA_br (set := set) (M := linksA set a k M) a k (by rw [h2]; omega) (by rw [h2]; omega)
    have hp : PrepI (linksA set a k M) (linkA set (linksA set a k M) a k) := link_prep h1.wi a k _
    have hkeep : ∀ x, (linksA set a k M).br x = tgtB set x → (linkA set (linksA set a k M) a k).br x = tgtB set x := fun x hx => by
      rw [hbr]
      split
      · rfl
      · exact hx
    refine ⟨h1.trans hp, by rw [show (linkA set (linksA set a k M) a k).n = _ from (link_node _ _ _ _).1, h2], fun b hb => ?_, fun x hx => hkeep x (h4 x hx)⟩
    by_cases e : b = k
    · subst e
      rw [hbr, if_pos rfl]
    · exact hkeep _ (h3 b (by omega))
theorem prep_view {set : Int} {M0 : Wm} (hI : WI M0) (hdn : DnA M0) : ∀ k, k ≤ M0.n.length → PrpK set M0 (prepW set M0.n.length k M0) k
  | 0, _ => ⟨.refl hI, fun t _ => rfl, fun a h => by omega, fun a b h => by omega⟩
  | k + 1, hk => by
    have h := prep_view (set := set) hI hdn k (by omega)
    rw [prepW_succ]
    generalize prepW set M0.n.length k M0 = M at *
    have hn := h.pi.same.n
    obtain ⟨l1, l2, l3, l4⟩ := links_view (set := set) h.pi.wi (a := k) (by omega) M.n.length (Nat.le_refl _)
    unfold prepA
    rw [hn] at l1 l2 l3 l4
    generalize linksA set k M0.n.length M = M1 at *
    have hnd1 : ∀ t : Nat, ndAt M1 (t : Int) = ndAt M (t : Int) := fun t => by unfold ndAt; rw [l2]
    have hp1 := h.pi.trans l1
    have hbr1 : ∀ a b : Nat, a < k + 1 → b < M0.n.length → M1.br (min (a : Int) b, max (a : Int) b) = tgtB set (min (a : Int) b, max (a : Int) b) := fun a b ha hb => by
      by_cases e : a = k
      · subst e; exact l3 b hb
      · exact l4 _ (h.br a b (by omega) hb)
    unfold bootA
    cases hin : inS set k with
    | false =>
      simp only [Bool.false_eq_true, if_false]
      exact ⟨hp1, fun t ht => by rw [hnd1, h.nd t (by omega)], fun a ha hi => (by
        by_cases e : a = k
        · subst e; rw [hin] at hi; cases hi
        · exact (h.rb a (by omega) hi).same (hnd1 a)), hbr1⟩
    | true =>
      simp only [if_true]
      have hn1 : M1.n.length = M0.n.length := by rw [l2, hn]
      obtain ⟨-, b2, b3, b4, b5⟩ := boot_view hp1.wi (a := k) (by omega) (fun e d => by
        unfold ldW
        rw [hnd1, h.nd k (by omega)] at e ⊢
        exact hdn k e d)
      refine ⟨hp1.trans b2, fun t ht => by rw [b5 t (by omega), hnd1, h.nd t (by omega)], fun a ha hi => ?_, fun a b ha hb => by rw [b3]; exact hbr1 a b ha hb⟩
      by_cases e : a = k
      · subst e; exact b4
      · exact ((h.rb a (by omega) hi).same (hnd1 a)).same (b5 a e)
theorem tgt_off {set : Int} {n : Nat} {br : Int × Int → Bool} (h : ∀ a b : Nat, a < n → b < n → br (min (a : Int) b, max (a : Int) b) = tgtB set (min (a : Int) b, max (a : Int) b)) : CutOff set n br ∧ ∀ a b : Nat, a < n → b < n → inS set a = true → inS set b = true → br (min (a : Int) b, max (a : Int) b) = false := by
  refine ⟨fun a b ha hb hne hns => ?_, fun a b ha hb h1 h2 => ?_⟩
  · rw [h a b ha hb]
    unfold tgtB
    simp only
    rcases Nat.le_total a b with hab | hab
    · rw [show min (a : Int) b = a by omega, show max (a : Int) b = b by omega, Int.toNat_natCast, Int.toNat_natCast]
      simp only [Bool.and_eq_true, Bool.not_eq_true', Bool.and_eq_false_iff, decide_eq_true_eq]
      refine ⟨?_, by omega⟩
      cases e1 : inS set a <;> cases e2 : inS set b <;> simp_all
    · rw [show min (a : Int) b = b by omega, show max (a : Int) b = a by omega, Int.toNat_natCast, Int.toNat_natCast]
      simp only [Bool.and_eq_true, Bool.not_eq_true', Bool.and_eq_false_iff, decide_eq_true_eq]
      refine ⟨?_, by omega⟩
      cases e1 : inS set a <;> cases e2 : inS set b <;> simp_all
  · rw [h a b ha hb]
    unfold tgtB
    simp only
    rcases Nat.le_total a b with hab | hab
    · rw [show min (a : Int) b = a by omega, show max (a : Int) b = b by omega, Int.toNat_natCast, Int.toNat_natCast, h1, h2]
      rfl
    · rw [show min (a : Int) b = b by omega, show max (a : Int) b = a by omega, Int.toNat_natCast, Int.toNat_natCast, h1, h2]
      rfl
/-- a site in a set has decided a deal -/
def decS (set : Int) (M : Wm) (d i : Nat) : Bool := (List.range i).any fun s => inS set s && finP (stW M s d).ph
theorem finP_fin {p : Int} : finP p = true ↔ fin p := by unfold finP fin; simp
theorem decS_none {set : Int} {M : Wm} {d : Nat} : decS set M d M.w.length = false ↔ ∀ s, s < M.w.length → inS set s = true → ¬ fin (stW M s d).ph := by
  unfold decS
  rw [List.any_eq_false]
  constructor
  · intro h s hs hi hf
    have := h s (List.mem_range.2 hs)
    rw [hi, Bool.true_and] at this
    exact this (finP_fin.2 hf)
  · intro h s hs
    have := h s (List.mem_range.1 hs)
    intro e
    rw [Bool.and_eq_true] at e
    exact this e.1 (finP_fin.1 e.2)
/-- WorldWaits -/
theorem waits_law {M0 : Wm} (hI : WI M0) (hdn : DnA M0) (hl : M0.l = []) {sn d : Nat} (hd : d < 6) (hq : quor M0.w sn = false) (h : decS sn (prepW sn M0.n.length M0.n.length M0) d M0.n.length = false) (k : Nat) : decS sn (roundsW sn k (prepW sn M0.n.length M0.n.length M0)).1 d M0.n.length = false := by
  have hp := prep_view (set := (sn : Int)) hI hdn M0.n.length (Nat.le_refl _)
  have hn := hI.wn
  generalize prepW sn M0.n.length M0.n.length M0 = M at *
  have hw := hp.pi.same.w
  have hnn := hp.pi.same.n
  have hwl : M0.n.length = M.w.length := by rw [hw, hn]
  rw [hwl] at h
  have h0 := decS_none.1 h
  have hW : WaitI sn d M := ⟨(tgt_off (n := M.w.length) fun a b ha hb => hp.br a b (by omega) (by omega)).1, h0, fun s hs hi x hx => (by
    rw [(hp.rb s (by omega) hi).2.1] at hx; cases hx), fun f hf => (by rw [hp.pi.l, hl] at hf; cases hf)⟩
  have hR := wait_rounds hp.pi.wi hd (by rw [hw]; exact hq) hW k
  obtain ⟨-, a2, -, -⟩ := rounds_ok hp.pi.wi (sn : Int) k
  rw [hwl, ← a2.w]
  exact decS_none.2 hR.nf
end Go.HL
end

/-! WnA -/
section
namespace Go.HL
open Go Go.Proofs
set_option linter.unusedVariables false
set_option linter.unusedSimpArgs false
theorem enough_e {ws : List Int} {s : Int} : (enoughW ws s).2 = (sumW ws s).2 := by
  unfold enoughW
  split
  · rename_i h; rw [h]
  · rename_i n h
    have := (sumW_none (ws := ws) (set := s) (by rw [h])).1
    rw [all_none this, h]
set_option maxHeartbeats 2000000 attribute [local irreducible] HW HO HQ HD HC QOp Has Upd Puts Gets seqQ blkQ loopQ fnQ actQ nextP unQ MapF
theorem setError_calls (a : Option Addr) (cap : Nat) (xs : List Int) (s : Int) (L : Heap) (hR : Rd ic 1 L a xs) (hs : s ≤ 9223372036854775807) : HC Tryz.prog 32 [.slice a xs.length cap, iv s] L (fun v L' => v = iv (cdN' (sumW xs s).2) ∧ L' = L) := by
  have k1 := weightsError_calls a cap xs L hR
  refine Za (fun _ _ => Tryz.call32 _ _) Tryz.func32 rfl Tryz.ntmps32 (Nat.le_of_ble_eq_true rfl) ?_; simp only [args0, Nat.reduceAdd]
  unfold sumW
  cases hc : checkW xs with
  | some e =>
    have he : e = 2 ∨ e = 3 ∨ e = 4 := by
      unfold checkW at hc
      split at hc
      · cases hc; simp
      · split at hc
        · cases hc; simp
        · split at hc
          · cases hc; simp
          · cases hc
    rw [hc] at k1
    rcases he with rfl | rfl | rfl
    all_goals
      repeat' (first | refine uN ?_ | refine uC (k1) ?_ | (refine uP ?_ ?_ <;> (intro h; ((try simp only [zs, ne_eq, and_true, true_and, eq_self, reduceCtorEq] at h); try exact zx))) | fail)
      exact sp1 uZ ⟨rfl, rfl⟩
  | none =>
    obtain ⟨c1, c2, c3, c4⟩ := check_none hc
    have kt := two_calls xs.length (by omega) L
    have et : (2 : Int) ^ xs.length = ((2 ^ xs.length : Nat) : Int) := by simp
    rw [et] at kt
    have hb := blen_le (n := s.toNat) (k := xs.length)
    rw [hc] at k1
    generalize 2 ^ xs.length = z at *
    simp only
    by_cases h0 : s < 0 ∨ xs.length < blen s.toNat
    · rw [if_pos h0]
      repeat' (first | refine uN ?_ | refine uC (k1) ?_ | refine uC (kt) ?_ | (refine uP ?_ ?_ <;> (intro h; ((try simp only [zs, ne_eq, and_true, true_and, eq_self, reduceCtorEq] at h); try exact zx))) | fail)
      all_goals first | exact sp1 uZ ⟨rfl, rfl⟩ | (exfalso; omega)
    · rw [if_neg h0]
      repeat' (first | refine uN ?_ | refine uC (k1) ?_ | refine uC (kt) ?_ | (refine uP ?_ ?_ <;> (intro h; ((try simp only [zs, ne_eq, and_true, true_and, eq_self, reduceCtorEq] at h); try exact zx))) | fail)
      all_goals first | exact sp1 uZ ⟨rfl, rfl⟩ | (exfalso; omega)
end Go.HL
end

/-! PwL -/
section
namespace Go.HL
open Go Go.Proofs
set_option linter.unusedVariables false
set_option linter.unusedSimpArgs false
theorem decS_succ (set : Int) (M : Wm) (d i : Nat) : decS set M d (i + 1) = (decS set M d i || (inS set i && finP (stW M i d).ph)) := by
  unfold decS
  rw [List.range_succ, List.any_append]
  simp
/-- which deals are decided in a set, as9 far as9 it is known -/
def DecI (set : Int) (M : Wm) (n d i : Nat) (vals : List Bool) : Prop := vals.length = 6 ∧ ∀ e, e < 6 → vals[e]? = some (if e < d then decS set M e n else if e = d then decS set M d i else false)
theorem DecI.zero (set : Int) (M : Wm) (n : Nat) : DecI set M n 0 0 (List.replicate 6 false) := by
  refine ⟨rfl, fun e he => ?_⟩
  rw [List.getElem?_replicate, if_pos he, if_neg (by omega)]
  congr 1
  split <;> rfl
theorem DecI.next {set : Int} {M : Wm} {n d : Nat} {vals : List Bool} (h : DecI set M n d n vals) : DecI set M n (d + 1) 0 vals := by
  refine ⟨h.1, fun e he => ?_⟩
  rw [h.2 e he]
  congr 1
  by_cases h1 : e < d
  · rw [if_pos h1, if_pos (by omega)]
  · rw [if_neg h1]
    by_cases h2 : e = d
    · subst h2; rw [if_pos rfl, if_pos (by omega)]
    · rw [if_neg h2, if_neg (by omega)]
      split
      · rfl
      · rfl
theorem DecI.step {set : Int} {M : Wm} {n d i : Nat} {vals : List Bool} (h : DecI set M n d i vals) (hs : (inS set i && finP (stW M i d).ph) = false) : DecI set M n d (i + 1) vals := by
  refine ⟨h.1, fun e he => ?_⟩
  rw [h.2 e he, decS_succ, hs, Bool.or_false]
theorem DecI.hit {set : Int} {M : Wm} {n d i : Nat} {vals : List Bool} (h : DecI set M n d i vals) (hd : d < 6) (hs : (inS set i && finP (stW M i d).ph) = true) : DecI set M n d (i + 1) (vals.set d true) := by
  refine ⟨by rw [List.length_set]; exact h.1, fun e he => ?_⟩
  rw [decS_succ, hs, Bool.or_true, List.getElem?_set]
  by_cases h1 : d = e
  · subst h1
    rw [if_pos rfl, if_pos (by rw [h.1]; exact hd), if_neg (by omega), if_pos rfl]
  · rw [if_neg h1, h.2 e he, if_neg (Ne.symm h1)]
    congr 1
    split
    · rfl
    · rw [if_neg (Ne.symm h1)]
theorem drop_drop (M : Wm) (k : Nat) (h : k < M.l.length) : dropW { M with l := M.l.drop k } 0 = ({ M with l := M.l.drop (k + 1) }, none) := by
  have hd : M.l.drop k = M.l[k] :: M.l.drop (k + 1) := List.drop_eq_getElem_cons h
  have e : wat { M with l := M.l.drop k } 0 = none := by
    unfold wat
    simp only [hd]
    rw [if_neg (by simp only [List.length_cons]; omega)]
  unfold dropW
  rw [e]
  simp only [hd]
  rfl
theorem drop_end (M : Wm) (k : Nat) (h : ¬ k < M.l.length) : dropW { M with l := M.l.drop k } 0 = ({ M with l := M.l.drop k }, some 4) := by
  have e : wat { M with l := M.l.drop k } 0 = some 4 := by
    unfold wat
    simp only
    rw [if_pos (by simp; omega)]
  unfold dropW
  rw [e]
theorem set_ok {w : List Int} {s : Int} (h : (sumW w s).2 = none) : checkW w = none ∧ ∃ n : Nat, s = n ∧ n < 2 ^ w.length := en_none (by rw [enough_e]; exact h)
theorem rHas2_calls (n k : Nat) (hk : k ≤ 30) (hn : (n : Int) ≤ 9223372036854775807) (L : Heap) : HC Tryz.prog 19 [iv n, iv k] L (fun v L' => v = .bool (inS n k) ∧ L' = L) := by
  have := rHas_calls n k hk hn L
  rwa [show decide (n / 2 ^ k % 2 = 1) = inS n k from decide_eq_decide.2 ((inS_bit n k).symm.trans (by unfold inS; rw [decide_eq_true_iff]))] at this
theorem link_none {M : Wm} {a b : Nat} (ha : a < M.n.length) (hb : b < M.n.length) (w : Bool) : (linkW M a b w).2 = none := by
  unfold linkW
  rw [if_neg (by omega)]
set_option maxHeartbeats 2000000 attribute [local irreducible] HW HO HQ HD HC QOp Has Upd Puts Gets seqQ blkQ loopQ fnQ actQ nextP unQ MapF
attribute [local irreducible] newW actsW actW stsW wdC roundsW linkW upW downW
theorem worldWaits_calls (T : Nat) (E : Nat → Addr) (a al : Option Addr) (cap capl : Nat) (w : List Int) (l : List StpS) (set : Int) (L : Heap) (hE : Ez T E L) (hR : Rd ic 1 L a w) (hRl : Rd stpL 4 L al l) (hd : ∀ x ∈ l, x.n ≤ 9223372036854775807) (hset : set ≤ 9223372036854775807) :
    HC Tryz.prog 5 [.slice a w.length cap, .slice al l.length capl, iv set] L (fun v L' => v = .bool true ∧ L' = L) := by
  have kb := born_calls T E L hE
  have kse := setError_calls a cap w set L hR hset
  cases hse : (sumW w set).2 with
  | some e =>
    rw [hse] at kse
    have hpos : ¬ cdN' (some e) ≤ 0 := by
      have h1 : 1 ≤ e := by
        unfold sumW at hse
        split at hse
        · rename_i e2 he2
          cases hse
          exact check_pos he2
        · split at hse <;> cases hse
          omega
      obtain ⟨k, hk⟩ : ∃ k, e = k + 1 := ⟨e - 1, by omega⟩
      subst hk
      simp only [cdN']
      omega
    generalize cdN' (some e) = z at *
    refine Za (fun _ _ => Tryz.call5 _ _) Tryz.func5 rfl Tryz.ntmps5 (Nat.le_of_ble_eq_true rfl) ?_; simp only [args0, Nat.reduceAdd]
    repeat' (first | refine uN ?_ | refine uC (kb) ?_ | refine uC (kse) ?_ | (refine uB ?_; intro b) | (refine uP ?_ ?_ <;> (intro h; ((try simp only [zs, ne_eq, and_true, true_and, eq_self, reduceCtorEq] at h); try exact zx))) | fail)
    all_goals exact sp1 (LS.refl _) ⟨rfl, rfl⟩
  | none =>
    rw [hse] at kse
    simp only [cdN'] at kse
    obtain ⟨hc, sn, rfl, hsn⟩ := set_ok hse
    obtain ⟨c1, c2, c3⟩ := check_none hc
    have ken := rEnough_calls a cap w sn L hR c2 c3.1 hset
    by_cases hql : quor w sn = false ∧ l.length ≤ 200
    · obtain ⟨hq, hl1⟩ := hql
      rw [hq] at ken
      have ko := fun L hR => ownInts_calls a cap w L hR (by omega)
      have kn0 := fun v c L hG hv => wnew_calls T E v w c L hG hv (by omega)
      simp only [hc] at kn0
      have hM := new_ok hc
      have hnl : (newW w).l.length = 0 := by unfold newW; rfl
      have hnw : (newW w).w = w := by unfold newW; rfl
      have hn0 : actsW (newW w) (l.take 0) = newW w := by unfold actsW; rfl
      have kn := fun v c L hG hv => HC.shutN (V := fun u G => u = .tuple ⟨[pt G.wp 0, .nilIface]⟩) (kn0 v c L hG hv)
      have hok := fun i => acts_ok hM (l.take i) (fun x hx => hd x (List.mem_of_mem_take hx))
      have hsucc := fun i h => actsW_succ (newW w) l i h
      refine Za (fun _ _ => Tryz.call5 _ _) Tryz.func5 rfl Tryz.ntmps5 (Nat.le_of_ble_eq_true rfl) ?_; simp only [args0, Nat.reduceAdd]
      repeat' (first | refine uN ?_ | refine uC (kb) ?_ | refine uC (kse) ?_ | refine uC (ken) ?_ | (refine uB ?_; intro b) | (refine uP ?_ ?_ <;> (intro h; ((try simp only [zs, ne_eq, and_true, true_and, eq_self, reduceCtorEq] at h); try exact zx))) | fail)
      refine gc (ko _ hR) ?_
      rintro v L' ⟨o1, ho1, rfl⟩
      repeat' (first | refine uN ?_ | refine uC (kb) ?_ | refine uC (kse) ?_ | refine uC (ken) ?_ | (refine uB ?_; intro b) | (refine uP ?_ ?_ <;> (intro h; ((try simp only [zs, ne_eq, and_true, true_and, eq_self, reduceCtorEq] at h); try exact zx))) | fail)
      refine gc (kn _ _ _ (hE.er [2, 3, 4, 6]) ho1) ?_
      rintro v L' ⟨Ga, rfl, hWa, rfl⟩
      repeat' (first | refine uN ?_ | refine uC (kb) ?_ | refine uC (kse) ?_ | refine uC (ken) ?_ | (refine uB ?_; intro b) | (refine uP ?_ ?_ <;> (intro h; ((try simp only [zs, ne_eq, and_true, true_and, eq_self, reduceCtorEq] at h); try exact zx))) | fail)
      refine hw_sp (L' := wdC Ga (actsW (newW w) (l.take 0)) :: o1 :: L) ?_ (by rw [hn0]; exact LS.refl _)
      refine Zf (σ := Nat × WdG) (fun r => [(0, .slice a w.length cap), (1, .slice al l.length capl), (2, iv sn), (8, pt Ga.wp 0), (10, iv r.1)]) (fun r => wdC r.2 (actsW (newW w) (l.take r.1)) :: o1 :: L)
        (fun r => r.1 ≤ l.length ∧ WdOk r.2 (actsW (newW w) (l.take r.1)) ∧ r.2.wp = Ga.wp) (fun r => l.length - r.1) (0, Ga) uS (List.Sublist.refl _) ⟨by simp, by rw [hn0]; exact hWa, rfl⟩ ?_
      rintro ⟨i, G1⟩ ⟨hi, hW1, e1⟩
      simp only at hi hW1 e1 ⊢
      have hoki := hok i
      by_cases hit : i < l.length
      · have hs := hsucc i hit
        obtain ⟨bl, il, ll, El, frl, rfl, hbl, hgl⟩ := hRl.at (j := (i : Int)) (by omega) (by omega)
        have ex : l[(i : Int).toNat]'(by omega) = l[i] := rfl
        rw [ex] at hgl
        have hti : (l.take i).length = i := by rw [List.length_take]; omega
        have hlen1 := hoki.len
        rw [hti] at hlen1
        have ka := fun L hG => HC.shut (V := fun u => u = .tuple ⟨[]⟩) (act_calls T E G1 (actsW (newW w) (l.take i)) l[i] L hG hW1 hoki.wi (by omega))
        generalize l[i] = x at *
        obtain ⟨kd, xs, xd, xn⟩ := x
        rw [← e1]
        repeat' (first | refine uN ?_ | refine uC (kb) ?_ | (refine uB ?_; intro b) | (refine uP ?_ ?_ <;> (intro h; ((try simp only [zs, ne_eq, and_true, true_and, eq_self, reduceCtorEq] at h); try exact zx))) | fail)
        refine gc (ka _ ((hE.er [2, 3, 4, 5, 6, 8]).cons _)) ?_
        rintro v L' ⟨rfl, G2, e2, hW2, rfl⟩
        rw [← e2]
        repeat' (first | refine uN ?_ | refine uC (kb) ?_ | (refine uB ?_; intro b) | (refine uP ?_ ?_ <;> (intro h; ((try simp only [zs, ne_eq, and_true, true_and, eq_self, reduceCtorEq] at h); try exact zx))) | fail)
        exact Zc (i + 1, G2) (by simp only [e2, e1]; exact uS) (by simp only [hs]; exact LS.refl _) ⟨by simp only; omega, by simp only [hs]; exact hW2, by simp only [e2, e1]⟩ (by simp only; omega)
      · obtain rfl : i = l.length := by omega
        rw [List.take_length] at hoki hW1 ⊢
        have hlen1 := hoki.len
        have hdn := dn_acts l hM (dn_new w) hd
        have hIf := hoki.wi
        have hw1 : (actsW (newW w) l).w = w := by rw [hoki.same.w, hnw]
        clear hok hsucc hoki
        generalize actsW (newW w) l = M1 at *
        rw [← e1]
        repeat' (first | refine uN ?_ | refine uC (kb) ?_ | (refine uB ?_; intro b) | (refine uP ?_ ?_ <;> (intro h; ((try simp only [zs, ne_eq, and_true, true_and, eq_self, reduceCtorEq] at h); try exact zx))) | fail)
        refine hw_sp (L' := wdC G1 { M1 with l := M1.l.drop 0 } :: o1 :: L) ?_ (LS.refl _)
        refine Zf (σ := Nat × WdG) (fun r => [(0, .slice a w.length cap), (2, iv sn), (8, pt G1.wp 0), (11, iv r.1)]) (fun r => wdC r.2 { M1 with l := M1.l.drop r.1 } :: o1 :: L)
          (fun r => r.1 ≤ M1.l.length ∧ WdOk r.2 { M1 with l := M1.l.drop r.1 } ∧ r.2.wp = G1.wp) (fun r => M1.l.length - r.1) (0, G1) uS (List.Sublist.refl _) ⟨by simp, hW1, rfl⟩ ?_
        rintro ⟨i, G2⟩ ⟨hi, hW2, e2⟩
        simp only at hi hW2 e2 ⊢
        have hID : WI { M1 with l := M1.l.drop i } := hIf.setL fun f hf => hIf.fr f (List.mem_of_mem_drop hf)
        have kdr := fun L hG => HC.shut (V := fun u => u = eV T E (dropW { M1 with l := M1.l.drop i } 0).2) (wdrop_calls T E G2 { M1 with l := M1.l.drop i } 0 L hG hW2 (by simp only [List.length_drop]; omega))
        rw [← e2]
        by_cases hil : i < M1.l.length
        · have hdd := drop_drop M1 i hil
          simp only [hdd] at kdr
          repeat' (first | refine uN ?_ | refine uC (kb) ?_ | (refine uB ?_; intro b) | (refine uP ?_ ?_ <;> (intro h; ((try simp only [zs, ne_eq, and_true, true_and, eq_self, reduceCtorEq] at h); try exact zx))) | fail)
          refine gc (kdr _ ((hE.er [4]).cons _)) ?_
          rintro v L' ⟨rfl, G3, e3, hW3, rfl⟩
          rw [← e3]
          repeat' (first | refine uN ?_ | refine uC (kb) ?_ | (refine uB ?_; intro b) | (refine uP ?_ ?_ <;> (intro h; ((try simp only [zs, ne_eq, and_true, true_and, eq_self, reduceCtorEq] at h); try exact zx))) | fail)
          all_goals first | (exfalso; omega) | exact Zc (i + 1, G3) (by simp only [e3, e2]; exact uS) (LS.refl _) ⟨by simp only; omega, hW3, by simp only [e3, e2]⟩ (by simp only; omega)
        · have hdd := drop_end M1 i hil
          simp only [hdd] at kdr
          have hnil : M1.l.drop i = [] := List.drop_of_length_le (by omega)
          rw [hnil] at hW2 kdr hID ⊢
          repeat' (first | refine uN ?_ | refine uC (kb) ?_ | (refine uB ?_; intro b) | (refine uP ?_ ?_ <;> (intro h; ((try simp only [zs, ne_eq, and_true, true_and, eq_self, reduceCtorEq] at h); try exact zx))) | fail)
          all_goals first | (exfalso; omega) | skip
          refine gc (kdr _ ((hE.er [4]).cons _)) ?_
          rintro v L' ⟨rfl, G3, e3, hW3, rfl⟩
          rw [← e3]
          repeat' (first | refine uN ?_ | refine uC (kb) ?_ | (refine uB ?_; intro b) | (refine uP ?_ ?_ <;> (intro h; ((try simp only [zs, ne_eq, and_true, true_and, eq_self, reduceCtorEq] at h); try exact zx))) | fail)
          have hdn2 : DnA { M1 with l := [] } := hdn
          have hw2 : ({ M1 with l := [] } : Wm).w = w := hw1
          have hl2 : ({ M1 with l := [] } : Wm).l = [] := rfl
          clear kdr hdn hw1 hlen1
          generalize ({ M1 with l := [] } : Wm) = M2 at *
          have kfl := fun G L hW => HC.shutR (V := fun v c => FrVec v M2.l c) (wflying_calls G M2 L hW (by rw [hl2]; simp))
          refine gc (kfl G3 _ hW3) ?_
          rintro v L' ⟨c10, hv10, rfl⟩
          obtain ⟨a10, cap10, rfl, -, hR10⟩ := hv10.rd fc_len
          have hz2 : M2.l.length = 0 := by rw [hl2]; rfl
          rw [hz2]
          repeat' (first | refine uN ?_ | refine uC (kb) ?_ | (refine uB ?_; intro b) | (refine uP ?_ ?_ <;> (intro h; ((try simp only [zs, ne_eq, and_true, true_and, eq_self, reduceCtorEq] at h); try exact zx))) | fail)
          have hpv := prep_view (set := (sn : Int)) hID hdn2
          have hnn2 : M2.n.length = w.length := by rw [hID.wn, hw2]
          have hpz : prepW sn M2.n.length 0 M2 = M2 := by unfold prepW; rfl
          have hps := fun k => prepW_succ sn M2.n.length k M2
          rw [hnn2] at hpv hpz
          simp only [hnn2] at hps
          refine hw_sp (L' := wdC G3 (prepW sn w.length 0 M2) :: c10 :: o1 :: L) ?_ (by rw [hpz]; exact uL)
          refine Zf (σ := Nat × WdG) (fun r => [(0, .slice a w.length cap), (2, iv sn), (8, pt G3.wp 0), (12, iv r.1)]) (fun r => wdC r.2 (prepW sn w.length r.1 M2) :: c10 :: o1 :: L)
            (fun r => r.1 ≤ w.length ∧ WdOk r.2 (prepW sn w.length r.1 M2) ∧ r.2.wp = G3.wp) (fun r => w.length - r.1) (0, G3) uS (List.Sublist.refl _) ⟨by simp, by rw [hpz]; exact hW3, rfl⟩ ?_
          rintro ⟨k, G4⟩ ⟨hk, hW4, e4⟩
          simp only at hk hW4 e4 ⊢
          have hpk := hpv k hk
          by_cases hkl : k < w.length
          · have hsk := hps k
            have hM4n := hpk.pi.same.n
            have hlv := fun j hj => links_view (set := (sn : Int)) hpk.pi.wi (a := k) (by omega) j hj
            have hndk := hpk.nd k (Nat.le_refl _)
            have hdnk := hdn2 k
            clear hps hpv
            generalize prepW sn w.length k M2 = M4 at *
            have hlz : linksA sn k 0 M4 = M4 := by unfold linksA; rfl
            have hls := fun j => linksA_succ sn k j M4
            rw [← e4]
            repeat' (first | refine uN ?_ | refine uC (kb) ?_ | (refine uB ?_; intro b) | (refine uP ?_ ?_ <;> (intro h; ((try simp only [zs, ne_eq, and_true, true_and, eq_self, reduceCtorEq] at h); try exact zx))) | fail)
            refine hw_sp (L' := wdC G4 (linksA sn k 0 M4) :: c10 :: o1 :: L) ?_ (by rw [hlz]; exact LS.refl _)
            refine Zf (σ := Nat × WdG) (fun r => [(0, .slice a w.length cap), (2, iv sn), (8, pt G4.wp 0), (12, iv k), (13, iv r.1)]) (fun r => wdC r.2 (linksA sn k r.1 M4) :: c10 :: o1 :: L)
              (fun r => r.1 ≤ w.length ∧ WdOk r.2 (linksA sn k r.1 M4) ∧ r.2.wp = G4.wp) (fun r => w.length - r.1) (0, G4) uS (List.Sublist.refl _) ⟨by simp, by rw [hlz]; exact hW4, rfl⟩ ?_
            rintro ⟨j, G5⟩ ⟨hj, hW5, e5⟩
            simp only at hj hW5 e5 ⊢
            obtain ⟨v1, v2, v3, v4⟩ := hlv j (by omega)
            rw [← e5]
            by_cases hjl : j < w.length
            · have hsj := hls j
              unfold linkA at hsj
              have hle := link_none (M := linksA sn k j M4) (a := k) (b := j) (by rw [v2]; omega) (by rw [v2]; omega) (inS sn k && inS sn j)
              have khk := rHas2_calls sn k (by omega) hset
              have khj := rHas2_calls sn j (by omega) hset
              generalize linksA sn k j M4 = M5 at *
              have klk := fun L hG => HC.shut (V := fun u => u = eV T E (linkW M5 k j (inS sn k && inS sn j)).2) (wlink_calls T E G5 M5 k j (inS sn k && inS sn j) L hG hW5)
              rw [hle] at klk
              cases hik : inS (sn : Int) k with
              | true =>
                rw [hik] at khk
                simp only [hik, Bool.true_and] at klk hsj
                repeat' (first | refine uN ?_ | refine uC (khk _) ?_ | refine uC (khj _) ?_ | (refine uB ?_; intro b) | (refine uP ?_ ?_ <;> (intro h; ((try simp only [zs, ne_eq, and_true, true_and, eq_self, reduceCtorEq] at h); try exact zx))) | fail)
                refine gc (klk _ (((hE.er [2]).cons _).cons _)) ?_
                rintro v L' ⟨rfl, G6, e6, hW6, rfl⟩
                rw [← e6]
                repeat' (first | refine uN ?_ | refine uC (khk _) ?_ | refine uC (khj _) ?_ | (refine uB ?_; intro b) | (refine uP ?_ ?_ <;> (intro h; ((try simp only [zs, ne_eq, and_true, true_and, eq_self, reduceCtorEq] at h); try exact zx))) | fail)
                exact Zc (j + 1, G6) (by simp only [e6, e5]; exact uS) (by simp only [hsj]; exact LS.refl _) ⟨by simp only; omega, by simp only [hsj]; exact hW6, by simp only [e6, e5]⟩ (by simp only; omega)
              | false =>
                rw [hik] at khk
                simp only [hik, Bool.false_and] at klk hsj
                repeat' (first | refine uN ?_ | refine uC (khk _) ?_ | refine uC (khj _) ?_ | (refine uB ?_; intro b) | (refine uP ?_ ?_ <;> (intro h; ((try simp only [zs, ne_eq, and_true, true_and, eq_self, reduceCtorEq] at h); try exact zx))) | fail)
                refine gc (klk _ (((hE.er [2]).cons _).cons _)) ?_
                rintro v L' ⟨rfl, G6, e6, hW6, rfl⟩
                rw [← e6]
                repeat' (first | refine uN ?_ | refine uC (khk _) ?_ | refine uC (khj _) ?_ | (refine uB ?_; intro b) | (refine uP ?_ ?_ <;> (intro h; ((try simp only [zs, ne_eq, and_true, true_and, eq_self, reduceCtorEq] at h); try exact zx))) | fail)
                exact Zc (j + 1, G6) (by simp only [e6, e5]; exact uS) (by simp only [hsj]; exact LS.refl _) ⟨by simp only; omega, by simp only [hsj]; exact hW6, by simp only [e6, e5]⟩ (by simp only; omega)
            · obtain rfl : j = w.length := by omega
              have hpA : prepA sn w.length M4 k = bootA sn (linksA sn k w.length M4) k := by unfold prepA; rfl
              rw [hpA] at hsk
              unfold bootA at hsk
              have hbv := boot_view v1.wi (a := k) (by rw [v2]; omega) (fun e dd => by
                have hnd5 : ndAt (linksA sn k w.length M4) (k : Int) = ndAt M2 (k : Int) := by
                  rw [← hndk]; unfold ndAt; rw [v2]
                unfold ldW
                rw [hnd5] at e ⊢
                exact hdnk e dd)
              have khk := rHas2_calls sn k (by omega) hset
              have hwi5 := v1.wi
              clear hlv v1 v3 v4 hls
              generalize linksA sn k w.length M4 = M5 at *
              cases hik : inS (sn : Int) k with
              | true =>
                rw [hik] at khk
                simp only [hik, if_true] at hsk
                have kdn := fun L hG => HC.shut (V := fun u => u = eV T E (downW M5 k).2) (wdown_calls T E G5 M5 k L hG hW5 hwi5)
                have hwi6 := (down_ok hwi5 (k : Int)).wi
                obtain ⟨bv1, -⟩ := hbv
                repeat' (first | refine uN ?_ | refine uC (khk _) ?_ | (refine uB ?_; intro b) | (refine uP ?_ ?_ <;> (intro h; ((try simp only [zs, ne_eq, and_true, true_and, eq_self, reduceCtorEq] at h); try exact zx))) | fail)
                refine gc (kdn _ (((hE.er [2, 6]).cons _).cons _)) ?_
                rintro v L' ⟨rfl, G6, e6, hW6, rfl⟩
                rw [← e6]
                have kup := fun L hG => HC.shut (V := fun u => u = eV T E (upW (downW M5 k).1 k).2) (wupS_calls T E G6 (downW M5 k).1 k L hG hW6 hwi6)
                rw [bv1] at kup
                repeat' (first | refine uN ?_ | refine uC (khk _) ?_ | (refine uB ?_; intro b) | (refine uP ?_ ?_ <;> (intro h; ((try simp only [zs, ne_eq, and_true, true_and, eq_self, reduceCtorEq] at h); try exact zx))) | fail)
                refine gc (kup _ (((hE.er [2, 3, 6, 8]).cons _).cons _)) ?_
                rintro v L' ⟨rfl, G7, e7, hW7, rfl⟩
                rw [← e7]
                repeat' (first | refine uN ?_ | refine uC (khk _) ?_ | (refine uB ?_; intro b) | (refine uP ?_ ?_ <;> (intro h; ((try simp only [zs, ne_eq, and_true, true_and, eq_self, reduceCtorEq] at h); try exact zx))) | fail)
                exact Zc (k + 1, G7) (by simp only [e7, e6, e5, e4]; exact uS) (by simp only [hsk]; exact LS.refl _) ⟨by simp only; omega, by simp only [hsk]; exact hW7, by simp only [e7, e6, e5, e4]⟩ (by simp only; omega)
              | false =>
                rw [hik] at khk
                simp only [hik, Bool.false_eq_true, if_false] at hsk
                repeat' (first | refine uN ?_ | refine uC (khk _) ?_ | (refine uB ?_; intro b) | (refine uP ?_ ?_ <;> (intro h; ((try simp only [zs, ne_eq, and_true, true_and, eq_self, reduceCtorEq] at h); try exact zx))) | fail)
                exact Zc (k + 1, G5) (by simp only [e5, e4]; exact uS) (by simp only [hsk]; exact LS.refl _) ⟨by simp only; omega, by simp only [hsk]; exact hW5, by simp only [e5, e4]⟩ (by simp only; omega)
          · obtain rfl : k = w.length := by omega
            have hlaw := fun dd hdd hx => waits_law hID hdn2 hl2 (sn := sn) (d := dd) hdd (by rw [hw2]; exact hq) hx 3
            rw [hnn2] at hlaw
            have hMp := hpk.pi.wi
            have hMpw : (prepW sn w.length w.length M2).w.length = w.length := by rw [hpk.pi.same.w, hw2]
            have hMpl : (prepW sn w.length w.length M2).l.length = 0 := by rw [hpk.pi.l, hl2]; rfl
            clear hps hpv hpk
            generalize prepW sn w.length w.length M2 = Mp at *
            rw [← e4]
            repeat' (first | refine uN ?_ | refine uC (kb) ?_ | (refine uB ?_; intro b) | (refine uP ?_ ?_ <;> (intro h; ((try simp only [zs, ne_eq, and_true, true_and, eq_self, reduceCtorEq] at h); try exact zx))) | fail)
            rw [show List.replicate (Int.toNat 6) (Value.bool false) = (List.replicate 6 false).map Value.bool from rfl]
            refine Zf (σ := Nat × List Bool) (fun r => [(0, .slice a w.length cap), (2, iv sn), (8, pt G4.wp 0), (14, sl b 0 6 6), (15, iv r.1)]) (fun r => [(b, .cells ⟨r.2.map Value.bool⟩ 4)] :: wdC G4 Mp :: c10 :: o1 :: L)
              (fun r => r.1 ≤ 6 ∧ DecI sn Mp w.length r.1 0 r.2) (fun r => 6 - r.1) (0, List.replicate 6 false) uS (List.Sublist.refl _) ⟨by simp, .zero _ _ _⟩ ?_
            rintro ⟨d, vals⟩ ⟨hd6, hdv⟩
            simp only at hd6 hdv ⊢
            by_cases hdl : d < 6
            · have hsl : (stsW Mp d).length = w.length := by rw [sts_len, hMpw]
              have kst := fun L hG => HC.shutR (V := fun v c => ∃ sv, Vec 43 3 sc sv (stsW Mp d) c ∧ v = .tuple ⟨[sv, .bool true]⟩) (states3_calls T E G4 Mp d L hG hW4 hMp hdl)
              simp only [hMpw] at kst
              repeat' (first | refine uN ?_ | refine uC (kb) ?_ | (refine uB ?_; intro b) | (refine uP ?_ ?_ <;> (intro h; ((try simp only [zs, ne_eq, and_true, true_and, eq_self, reduceCtorEq] at h); try exact zx))) | fail)
              refine fo 1 ?_
              refine gc (kst _ ((((hE.er [2, 6]).cons _).cons _).cons _)) ?_
              rintro v L' ⟨cS, ⟨sv, hsv, rfl⟩, rfl⟩
              obtain ⟨as5, cap5, rfl, -, hR5⟩ := hsv.rd sc_len
              simp only [hsl]
              repeat' (first | refine uN ?_ | refine uC (kb) ?_ | (refine uB ?_; intro b) | (refine uP ?_ ?_ <;> (intro h; ((try simp only [zs, ne_eq, and_true, true_and, eq_self, reduceCtorEq] at h); try exact zx))) | fail)
              refine hw_sp (L' := [(b, .cells ⟨vals.map Value.bool⟩ 4)] :: cS :: wdC G4 Mp :: c10 :: o1 :: L) ?_ uL
              refine Zf (σ := Nat × List Bool) (fun r => [(0, .slice a w.length cap), (2, iv sn), (8, pt G4.wp 0), (14, sl b 0 6 6), (15, iv d), (16, .slice as5 w.length cap5), (18, iv r.1)]) (fun r => [(b, .cells ⟨r.2.map Value.bool⟩ 4)] :: cS :: wdC G4 Mp :: c10 :: o1 :: L)
                (fun r => r.1 ≤ w.length ∧ DecI sn Mp w.length d r.1 r.2) (fun r => w.length - r.1) (0, vals) uS (List.Sublist.refl _) ⟨by simp, hdv⟩ ?_
              rintro ⟨q, va⟩ ⟨hq6, hva⟩
              simp only at hq6 hva ⊢
              by_cases hql : q < w.length
              · have hhas := rHas2_calls sn q (by omega) hset
                have hst1 := hva.step
                have hhit := hva.hit hdl
                obtain ⟨b7, i7, l7, E7, fr7, rfl, hb7, hg7⟩ := (hR5 (wdC G4 Mp :: c10 :: o1 :: L)).at (j := (q : Int)) (by omega) (by omega)
                have hsg := sts_get (M := Mp) (d := d) (s := q) (by omega)
                have ex7 : (stsW Mp d)[(q : Int).toNat]'(by rw [hsl]; omega) = stW Mp q d := by
                  have h9 : q < (stsW Mp d).length := by omega
                  rw [List.getElem?_eq_getElem h9] at hsg
                  exact Option.some.inj hsg
                rw [ex7] at hg7
                have kfi := rfinal_calls (stW Mp q d).ph
                have gP : Puts (va.map Value.bool) (0 + (d : Int).toNat) [.bool true] ((va.set d true).map Value.bool) := by
                  rw [Int.toNat_natCast, Nat.zero_add, List.map_set]
                  exact puts_set (by rw [List.length_map, hva.1]; exact hdl)
                generalize stW Mp q d = st at *
                obtain ⟨ph, pr, att⟩ := st
                simp only at kfi hst1 hhit
                generalize finP ph = fp at *
                generalize inS (sn : Int) q = ib at *
                cases ib with
                | true =>
                  cases fp with
                  | true =>
                    repeat' (first | refine uN ?_ | refine uC (hhas _) ?_ | refine uC (kfi _) ?_ | (refine uB ?_; intro b) | (refine uP ?_ ?_ <;> (intro h; ((try simp only [zs, ne_eq, and_true, true_and, eq_self, reduceCtorEq] at h); try exact zx))) | fail)
                    exact Zc (q + 1, va.set d true) uS uL ⟨by simp only; omega, hhit rfl⟩ (by simp only; omega)
                  | false =>
                    repeat' (first | refine uN ?_ | refine uC (hhas _) ?_ | refine uC (kfi _) ?_ | (refine uB ?_; intro b) | (refine uP ?_ ?_ <;> (intro h; ((try simp only [zs, ne_eq, and_true, true_and, eq_self, reduceCtorEq] at h); try exact zx))) | fail)
                    exact Zc (q + 1, va) uS uL ⟨by simp only; omega, hst1 rfl⟩ (by simp only; omega)
                | false =>
                  repeat' (first | refine uN ?_ | refine uC (hhas _) ?_ | refine uC (kfi _) ?_ | (refine uB ?_; intro b) | (refine uP ?_ ?_ <;> (intro h; ((try simp only [zs, ne_eq, and_true, true_and, eq_self, reduceCtorEq] at h); try exact zx))) | fail)
                  exact Zc (q + 1, va) uS uL ⟨by simp only; omega, hst1 rfl⟩ (by simp only; omega)
              · obtain rfl : q = w.length := by omega
                repeat' (first | refine uN ?_ | refine uC (kb) ?_ | (refine uB ?_; intro b) | (refine uP ?_ ?_ <;> (intro h; ((try simp only [zs, ne_eq, and_true, true_and, eq_self, reduceCtorEq] at h); try exact zx))) | fail)
                exact Zc (d + 1, va) uS uL ⟨by simp only; omega, hva.next⟩ (by simp only; omega)
            · obtain rfl : d = 6 := by omega
              have kro := rounds_calls T E G4 Mp sn 3
              simp only [if_neg (show ¬ rndE (sn : Int) 3 by unfold rndE; omega)] at kro
              rw [show Int.toNat 3 = 3 from rfl] at kro
              obtain ⟨hr1, hr2, -, -⟩ := rounds_ok hMp (sn : Int) 3
              have hMrw : (roundsW (sn : Int) 3 Mp).1.w.length = w.length := by rw [hr2.w, hMpw]
              generalize roundsW (sn : Int) 3 Mp = R at *
              obtain ⟨Mr, many⟩ := R
              simp only at kro hr1 hr2 hMrw hlaw
              repeat' (first | refine uN ?_ | refine uC (kb) ?_ | (refine uB ?_; intro b) | (refine uP ?_ ?_ <;> (intro h; ((try simp only [zs, ne_eq, and_true, true_and, eq_self, reduceCtorEq] at h); try exact zx))) | fail)
              refine fo 1 ?_
              refine gc (kro _ ((((hE.cons _).cons _).cons _)) hW4 hMp (by omega) hset (by omega)) ?_
              rintro v L' ⟨rfl, G5, e5, hW5, rfl⟩
              rw [← e5]
              repeat' (first | refine uN ?_ | refine uC (kb) ?_ | (refine uB ?_; intro b) | (refine uP ?_ ?_ <;> (intro h; ((try simp only [zs, ne_eq, and_true, true_and, eq_self, reduceCtorEq] at h); try exact zx))) | fail)
              refine hw_sp (L' := [(b, .cells ⟨vals.map Value.bool⟩ 4)] :: wdC G5 Mr :: c10 :: o1 :: L) ?_ uL
              refine Zf (σ := Nat) (fun d => [(0, .slice a w.length cap), (2, iv sn), (8, pt G5.wp 0), (14, sl b 0 6 6), (19, iv d)]) (fun d => [(b, .cells ⟨vals.map Value.bool⟩ 4)] :: wdC G5 Mr :: c10 :: o1 :: L)
                (fun d => d ≤ 6) (fun d => 6 - d) 0 uS (List.Sublist.refl _) (by simp) ?_
              rintro d hd6
              by_cases hdl : d < 6
              · have hsl : (stsW Mr d).length = w.length := by rw [sts_len, hMrw]
                have kst := fun L hG => HC.shutR (V := fun v c => ∃ sv, Vec 43 3 sc sv (stsW Mr d) c ∧ v = .tuple ⟨[sv, .bool true]⟩) (states3_calls T E G5 Mr d L hG hW5 hr1 hdl)
                simp only [hMrw] at kst
                have hlawd := hlaw d hdl
                have hdv6 := hdv.2 d hdl
                rw [if_pos hdl] at hdv6
                have gd : (vals.map Value.bool)[0 + (d : Int).toNat]? = some (.bool (decS sn Mp d w.length)) := by
                  rw [Int.toNat_natCast, Nat.zero_add, List.getElem?_map, hdv6]
                  rfl
                repeat' (first | refine uN ?_ | refine uC (kb) ?_ | (refine uB ?_; intro b) | (refine uP ?_ ?_ <;> (intro h; ((try simp only [zs, ne_eq, and_true, true_and, eq_self, reduceCtorEq] at h); try exact zx))) | fail)
                refine fo 1 ?_
                refine gc (kst _ ((((hE.er [2, 6]).cons _).cons _).cons _)) ?_
                rintro v L' ⟨cS, ⟨sv, hsv, rfl⟩, rfl⟩
                obtain ⟨as5, cap5, rfl, -, hR5⟩ := hsv.rd sc_len
                simp only [hsl]
                generalize hdb : decS sn Mp d w.length = db at *
                repeat' (first | refine uN ?_ | refine uC (kb) ?_ | (refine uB ?_; intro b) | (refine uP ?_ ?_ <;> (intro h; ((try simp only [zs, ne_eq, and_true, true_and, eq_self, reduceCtorEq] at h); try exact zx))) | fail)
                refine hw_sp (L' := [(b, .cells ⟨vals.map Value.bool⟩ 4)] :: cS :: wdC G5 Mr :: c10 :: o1 :: L) ?_ uL
                refine Zf (σ := Nat) (fun q => [(0, .slice a w.length cap), (2, iv sn), (8, pt G5.wp 0), (14, sl b 0 6 6), (19, iv d), (20, .slice as5 w.length cap5), (22, iv q)]) (fun q => [(b, .cells ⟨vals.map Value.bool⟩ 4)] :: cS :: wdC G5 Mr :: c10 :: o1 :: L)
                  (fun q => q ≤ w.length) (fun q => w.length - q) 0 uS (List.Sublist.refl _) (by simp) ?_
                rintro q hq6
                by_cases hql : q < w.length
                · have hhas := rHas2_calls sn q (by omega) hset
                  have hnot : db = false → inS (sn : Int) q = true → finP (stW Mr q d).ph = true → False := fun h1 h2 h3 => by
                    subst h1
                    have h4 := hlawd rfl
                    rw [← hMrw] at h4
                    exact decS_none.1 h4 q (by omega) h2 (finP_fin.1 h3)
                  obtain ⟨b7, i7, l7, E7, fr7, rfl, hb7, hg7⟩ := (hR5 (wdC G5 Mr :: c10 :: o1 :: L)).at (j := (q : Int)) (by omega) (by omega)
                  have hsg := sts_get (M := Mr) (d := d) (s := q) (by omega)
                  have ex7 : (stsW Mr d)[(q : Int).toNat]'(by rw [hsl]; omega) = stW Mr q d := by
                    have h9 : q < (stsW Mr d).length := by omega
                    rw [List.getElem?_eq_getElem h9] at hsg
                    exact Option.some.inj hsg
                  rw [ex7] at hg7
                  have kfi := rfinal_calls (stW Mr q d).ph
                  generalize stW Mr q d = st at *
                  obtain ⟨ph, pr, att⟩ := st
                  simp only at kfi hnot
                  generalize finP ph = fp at *
                  generalize inS (sn : Int) q = ib at *
                  clear hlawd hlaw hdv hdv6
                  cases ib with
                  | true =>
                    cases fp with
                    | true =>
                      cases db with
                      | true =>
                        repeat' (first | refine uN ?_ | refine uC (hhas _) ?_ | refine uC (kfi _) ?_ | (refine uB ?_; intro b) | (refine uP ?_ ?_ <;> (intro h; ((try simp only [zs, ne_eq, and_true, true_and, eq_self, reduceCtorEq] at h); try exact zx))) | fail)
                        exact Zc (q + 1) uS uL (by omega) (by omega)
                      | false => exact absurd (hnot rfl rfl rfl) id
                    | false =>
                      repeat' (first | refine uN ?_ | refine uC (hhas _) ?_ | refine uC (kfi _) ?_ | (refine uB ?_; intro b) | (refine uP ?_ ?_ <;> (intro h; ((try simp only [zs, ne_eq, and_true, true_and, eq_self, reduceCtorEq] at h); try exact zx))) | fail)
                      exact Zc (q + 1) uS uL (by omega) (by omega)
                  | false =>
                    repeat' (first | refine uN ?_ | refine uC (hhas _) ?_ | refine uC (kfi _) ?_ | (refine uB ?_; intro b) | (refine uP ?_ ?_ <;> (intro h; ((try simp only [zs, ne_eq, and_true, true_and, eq_self, reduceCtorEq] at h); try exact zx))) | fail)
                    exact Zc (q + 1) uS uL (by omega) (by omega)
                · obtain rfl : q = w.length := by omega
                  repeat' (first | refine uN ?_ | refine uC (kb) ?_ | (refine uB ?_; intro b) | (refine uP ?_ ?_ <;> (intro h; ((try simp only [zs, ne_eq, and_true, true_and, eq_self, reduceCtorEq] at h); try exact zx))) | fail)
                  exact Zc (d + 1) uS uL (by omega) (by omega)
              · obtain rfl : d = 6 := by omega
                repeat' (first | refine uN ?_ | refine uC (kb) ?_ | (refine uB ?_; intro b) | (refine uP ?_ ?_ <;> (intro h; ((try simp only [zs, ne_eq, and_true, true_and, eq_self, reduceCtorEq] at h); try exact zx))) | fail)
                refine sp1 (L' := L) ?_ ⟨rfl, rfl⟩
                repeat (first | exact LS.refl _ | refine LS.c ?_)
    · refine Za (fun _ _ => Tryz.call5 _ _) Tryz.func5 rfl Tryz.ntmps5 (Nat.le_of_ble_eq_true rfl) ?_; simp only [args0, Nat.reduceAdd]
      repeat' (first | refine uN ?_ | refine uC (kb) ?_ | refine uC (kse) ?_ | refine uC (ken) ?_ | (refine uB ?_; intro b) | (refine uP ?_ ?_ <;> (intro h; ((try simp only [zs, ne_eq, and_true, true_and, eq_self, reduceCtorEq] at h); try exact zx))) | fail)
      all_goals first | exact sp1 (LS.refl _) ⟨rfl, rfl⟩ | (exfalso; exact hql ⟨by assumption, by omega⟩)
end Go.HL
end
